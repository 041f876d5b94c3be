import Derived.Test.YthcmopgdjibojaaGreatDoorSmpQ
import Derived.Deep.OwnRows
/- simplex: build. -/
namespace Go.Proofs.YthcmopgdjibojaaGreatDoor.smp
open Go.RowKit
open Go.Proofs.YthcmopgdjibojaaGreatDoor.lib Go.Proofs.YthcmopgdjibojaaGreatDoor.app Go.Proofs.YthcmopgdjibojaaGreatDoor.nt Go.Proofs.YthcmopgdjibojaaGreatDoor.rd Go.Proofs.YthcmopgdjibojaaGreatDoor.wh Go.Proofs.YthcmopgdjibojaaGreatDoor.smx Go.Proofs.YthcmopgdjibojaaGreatDoor.rat Go.Proofs.YthcmopgdjibojaaGreatDoor.typ Go.Proofs.YthcmopgdjibojaaGreatDoor.lnr
set_option linter.unusedVariables false
set_option linter.unusedSimpArgs false

theorem lp_row {t : Lnr} {i : Nat} {r : Lrw} (h : t.rows[i]? = some r) : (lpOf t).kind i = r.kind ∧ (lpOf t).right i = r.right ∧ ∀ k, (lpOf t).coef i k = r.coef[k]?.getD 0 := by
  refine ⟨?_, ?_, fun k => ?_⟩
  · show (t.rows[i]?.map (·.kind)).getD 0 = _; rw [h]; rfl
  · show (t.rows[i]?.map (·.right)).getD 0 = _; rw [h]; rfl
  · show ((t.rows[i]?.map (·.coef)).getD [])[k]?.getD 0 = _; rw [h]; rfl
set_option maxRecDepth 20000 in
set_option maxHeartbeats 4000000 in
theorem build_any (C0 : Option Addr) (c0 : Nat) (C1 : Option Addr) (c1 : Nat) (t : Lnr) (h0 : LnOk t) (hn8 : t.cost.length ≤ 8) (hm6 : t.rows.length ≤ 6) (w : World) (B : Nat) (hB : B ≤ w.heap.size) (hr : RowAt rLrw w B C1 t.rows) (ht : TabT w) :
    Calls Tryz.prog 22 #[LnV t.cost.length t.rows.length C0 c0 C1 c1] w fun e w' => ∃ g, e = .returned (.pointer (some ⟨g.b, 0, none⟩)) ∧ GeoOk (lpOf t) g w.heap.size ∧ TS (lpOf t) g (.slice none 0 0) ⟨(lpOf t).A, fun _ => 0, (lpOf t).u⟩ w' ∧ Below w.heap.size w w' := by
  obtain ⟨p, hp⟩ : ∃ p, lpOf t = p := ⟨_, rfl⟩
  have HP := Lib.hid hp
  have hpn : p.n = t.cost.length := by rw [← hp]; rfl
  have hpm : p.m = t.rows.length := by rw [← hp]; rfl
  have HRW : Hid (∀ i r, t.rows[i]? = some r → p.kind i = r.kind ∧ p.right i = r.right ∧ ∀ k, p.coef i k = r.coef[k]?.getD 0) := Lib.hid (fun i r h => by rw [← hp]; exact lp_row h)
  rw [hp]
  clear hp
  obtain ⟨n, hn⟩ : ∃ n, t.cost.length = n := ⟨_, rfl⟩
  obtain ⟨l, hl⟩ : ∃ l, t.rows = l := ⟨_, rfl⟩
  have HK : Hid (∀ r ∈ l, r.coef.length = n ∧ 1 ≤ r.kind ∧ r.kind ≤ 3) := Lib.hid (by rw [← hn, ← hl]; exact h0)
  rw [hl] at hpm hr hm6 HRW ⊢
  rw [hn] at hpn hn8 ⊢
  clear hl hn h0
  unfold LnV
  obtain ⟨m, hm⟩ : ∃ m, l.length = m := ⟨_, rfl⟩
  have HM := Lib.hid hm
  rw [hm] at hpm hm6 ⊢
  have hbelr : ∀ w', Below w.heap.size w w' → RowAt rLrw w' B C1 l := fun w' h => hr.below (h.mono hB)
  clear hr hm
  have HSL : Hid (∀ k, p.sl (k + 1) = p.sl k + (if p.kind k = 2 then 0 else 1)) := Lib.hid (fun k => rfl)
  have HSU : Hid (∀ k, p.sl k ≤ k) := Lib.hid (fun k => p.sl_le k)
  go_enter Tryz.func22, Tryz.ntmps22
  go_upto_region 1 with fail
  (refine wp_region_held_drew (S := (fun w' => w'.cell? ⟨w.heap.size, 0, none⟩ = some (.slice C0 n c0) ∧ w'.cell? ⟨w.heap.size, 1, none⟩ = some (.slice C1 m c1))) (by kernel_rfl) ?_ (fun hHeld => ?_))
  · simp
  (refine wpAnyH_take (i := 0) (v := ?_) rfl (by kernel_rfl) (by kernel_rfl) (by kernel_rfl) (fun _ _ _ h => h) (Or.inl ⟨by kernel_rfl, ?_⟩) (by assumption) ?_; rotate_left; (focus (intro w hSw; (try dsimp only at hSw); go_simp; all_goals with_reducible rfl)); (try simp only [Act.put, List.getElem_toArray, List.getElem_cons_succ, List.getElem_cons_zero, List.setIfInBounds_toArray, List.set_cons_zero, List.set_cons_succ]))
  (refine wpAnyH_take (i := 1) (v := ?_) rfl (by kernel_rfl) (by kernel_rfl) (by kernel_rfl) (fun _ _ _ h => h) (Or.inl ⟨by kernel_rfl, ?_⟩) (by assumption) ?_; rotate_left; (focus (intro w hSw; (try dsimp only at hSw); go_simp; all_goals with_reducible rfl)); (try simp only [Act.put, List.getElem_toArray, List.getElem_cons_succ, List.getElem_cons_zero, List.setIfInBounds_toArray, List.set_cons_zero, List.set_cons_succ]))
  (refine wpAnyH_take (i := 2) (v := ?_) rfl (by kernel_rfl) (by kernel_rfl) (by kernel_rfl) (fun _ _ _ h => h) (Or.inl ⟨by kernel_rfl, ?_⟩) (by assumption) ?_; rotate_left; (focus (intro w hSw; (try dsimp only at hSw); go_simp; all_goals with_reducible rfl)); (try simp only [Act.put, List.getElem_toArray, List.getElem_cons_succ, List.getElem_cons_zero, List.setIfInBounds_toArray, List.set_cons_zero, List.set_cons_succ]))
  (refine wpAnyH_take (i := 3) (v := ?_) rfl (by kernel_rfl) (by kernel_rfl) (by kernel_rfl) (fun _ _ _ h => h) (Or.inl ⟨by kernel_rfl, ?_⟩) (by assumption) ?_; rotate_left; (focus (intro w hSw; (try dsimp only at hSw); go_simp; all_goals with_reducible rfl)); (try simp only [Act.put, List.getElem_toArray, List.getElem_cons_succ, List.getElem_cons_zero, List.setIfInBounds_toArray, List.set_cons_zero, List.set_cons_succ]))
  (refine wpAnyH_take (i := 4) (v := ?_) rfl (by kernel_rfl) (by kernel_rfl) (by kernel_rfl) (fun _ _ _ h => h) (Or.inl ⟨by kernel_rfl, ?_⟩) (by assumption) ?_; rotate_left; (focus (intro w hSw; (try dsimp only at hSw); go_simp; all_goals with_reducible rfl)); (try simp only [Act.put, List.getElem_toArray, List.getElem_cons_succ, List.getElem_cons_zero, List.setIfInBounds_toArray, List.set_cons_zero, List.set_cons_succ]))
  (refine wpAnyH_take (i := 5) (v := ?_) rfl (by kernel_rfl) (by kernel_rfl) (by kernel_rfl) (fun _ _ _ h => h) (Or.inl ⟨by kernel_rfl, ?_⟩) (by assumption) ?_; rotate_left; (focus (intro w hSw; (try dsimp only at hSw); go_simp; all_goals with_reducible rfl)); (try simp only [Act.put, List.getElem_toArray, List.getElem_cons_succ, List.getElem_cons_zero, List.setIfInBounds_toArray, List.set_cons_zero, List.set_cons_succ]))
  (refine wpAnyH_take (i := 6) (v := ?_) rfl (by kernel_rfl) (by kernel_rfl) (by kernel_rfl) (fun _ _ _ h => h) (Or.inl ⟨by kernel_rfl, ?_⟩) (by assumption) ?_; rotate_left; (focus (intro w hSw; (try dsimp only at hSw); go_simp; all_goals with_reducible rfl)); (try simp only [Act.put, List.getElem_toArray, List.getElem_cons_succ, List.getElem_cons_zero, List.setIfInBounds_toArray, List.set_cons_zero, List.set_cons_succ]))
  (refine wpAnyH_take (i := 7) (v := ?_) rfl (by kernel_rfl) (by kernel_rfl) (by kernel_rfl) (fun _ _ _ h => h) (Or.inl ⟨by kernel_rfl, ?_⟩) (by assumption) ?_; rotate_left; (focus (intro w hSw; (try dsimp only at hSw); go_simp; all_goals with_reducible rfl)); (try simp only [Act.put, List.getElem_toArray, List.getElem_cons_succ, List.getElem_cons_zero, List.setIfInBounds_toArray, List.set_cons_zero, List.set_cons_succ]))
  (refine wpAnyH_done (by kernel_rfl) ?_ _)
  clear hHeld
  obtain ⟨w1, hw1⟩ : ∃ x, (w.alloc (.cells #[.slice C0 n c0, .slice C1 m c1] 25)).drew = x := ⟨_, rfl⟩
  have hb1 : Below w.heap.size w w1 := by rw [← hw1]; exact by repeat (first | assumption | exact Below.refl _ _ | refine Below.drew ?_ | refine Below.alloc ?_ (by first | omega | (simp <;> omega)) _ | refine Below.setCell ?_ (by first | omega | (simp <;> omega)) _)
  have hz1 : w.heap.size < w1.heap.size := by rw [← hw1]; simp
  have hp1 : PBox w1 w.heap.size n m C0 c0 C1 c1 := by rw [← hw1]; simp [PBox]
  rw [hw1]
  clear hw1
  obtain ⟨b0, b1⟩ := id hp1
  go_wp2
  go_loopw [5, 29] (fun sv iv wr => ∃ k : Nat, k ≤ m ∧ iv = .int .i64 k ∧ sv = .int .i64 (p.sl k) ∧ Below w.heap.size w wr ∧ w.heap.size < wr.heap.size ∧ PBox wr w.heap.size n m C0 c0 C1 c1) (fun _ iv _ => m - (intOf iv).toNat)
  case atStart => exact ⟨0, by omega, rfl, rfl, hb1, hz1, hp1⟩
  case round =>
    obtain ⟨k, hk, rfl, rfl, hbel, hsz, ⟨b0, b1⟩⟩ := hrel
    by_cases hlt : k < m
    · obtain ⟨r, ad, D0, d0, hx, rfl, hadb, ⟨k0, k1, k2⟩, hI, hF⟩ := row_at (hbelr _ hbel) (k := k) (by rw [HM.out]; exact hlt)
      have hb' : (ad.add (k * 3)).block < wr.heap.size := by rw [block_of_add]; omega
      have hsl := HSL.out k
      have hsu := HSU.out k
      rw [(HRW.out k r hx).1] at hsl
      by_cases hk2 : r.kind = 2
      · rw [if_pos hk2] at hsl
        have HS := Lib.hid hsl
        clear hx hI hF hsl
        go_wp2
        go_roundw
        case rel => exact ⟨k + 1, by omega, by go_num, by rw [HS.out]; rfl, by repeat (first | assumption | exact Below.refl _ _ | refine Below.drew ?_ | refine Below.alloc ?_ (by first | omega | (simp <;> omega)) _ | refine Below.setCell ?_ (by first | omega | (simp <;> omega)) _), by simp; omega, PBox.below (B := wr.heap.size) ⟨b0, b1⟩ (by repeat (first | assumption | exact Below.refl _ _ | refine Below.drew ?_ | refine Below.alloc ?_ (by first | omega | (simp <;> omega)) _ | refine Below.setCell ?_ (by first | omega | (simp <;> omega)) _)) hsz⟩
        case measure => simp [intOf]; omega
      · rw [if_neg hk2] at hsl
        have HS := Lib.hid hsl
        clear hx hI hF hsl
        go_wp2
        go_roundw
        case rel => exact ⟨k + 1, by omega, by go_num, by rw [HS.out]; rfl, by repeat (first | assumption | exact Below.refl _ _ | refine Below.drew ?_ | refine Below.alloc ?_ (by first | omega | (simp <;> omega)) _ | refine Below.setCell ?_ (by first | omega | (simp <;> omega)) _), by simp; omega, PBox.below (B := wr.heap.size) ⟨b0, b1⟩ (by repeat (first | assumption | exact Below.refl _ _ | refine Below.drew ?_ | refine Below.alloc ?_ (by first | omega | (simp <;> omega)) _ | refine Below.setCell ?_ (by first | omega | (simp <;> omega)) _)) hsz⟩
        case measure => simp [intOf]; omega
    · obtain rfl : k = m := by omega
      clear hlt
      obtain ⟨S, hS⟩ : ∃ S, p.sl k = S := ⟨_, rfl⟩
      have HN : Hid (p.N = n + S ∧ p.L = n + S + k) := Lib.hid (by
        have e : p.N = p.n + p.sl p.m := rfl
        have e2 : p.L = p.N + p.m := rfl
        rw [e2, e, hpn, hpm, hS]
        exact ⟨rfl, rfl⟩)
      have hS6 : S ≤ 6 := by rw [← hS]; exact Nat.le_trans (p.sl_le k) hm6
      have HSS := Lib.hid hS
      rw [hS]
      clear hS
      obtain ⟨wo, hwo⟩ : ∃ wo : World, wo = wr := ⟨_, rfl⟩
      subst hwo
      go_wp2
      have HBT : Hid (Bt p (w.heap.size + 1) wo.heap.size 0 (fun _ => none) (fun _ => 0) (fun _ => 0) (fun j => if j = wo.heap.size then 1 else 0) (wo.alloc (.cells #[.slice none 0 0, .slice none 0 0, .slice none 0 0, .slice none 0 0, .slice none 0 0, .int .i64 ((n : Int) + S), .int .i64 n, .int .i64 0] 83))) := Lib.hid (by
        refine Bt.start (tag := fun j => if j = wo.heap.size then 1 else 0) ⟨_, _, World.alloc_heap_new wo _, fun i hi => ?_⟩ (if_pos rfl) (fun j hj => if_neg (fun e => by rw [World.size_alloc] at hj; omega)) (fun j hj => if_neg (by omega)) _
        rcases i with _ | _ | _ | _ | _ | _ | _ | _ | i
        · rfl
        · rfl
        · rfl
        · rfl
        · rfl
        · show some (Value.int .i64 ((n : Int) + S)) = some (.int .i64 (p.N : Nat)); rw [HN.out.1]; rfl
        · show some (Value.int .i64 (n : Int)) = some (.int .i64 (p.n : Nat)); rw [hpn]
        · rfl
        · omega)
      go_loopw [10, 55] (fun nv iv wr => ∃ (i : Nat) (A : Nat → Option Addr) (c : Nat → Nat) (rb tag : Nat → Nat), i ≤ k ∧ iv = .int .i64 i ∧ nv = .int .i64 (((n + p.sl i : Nat) : Int)) ∧ Hid (Bt p (w.heap.size + 1) wo.heap.size i A c rb tag wr) ∧ Below w.heap.size w wr ∧ wo.heap.size < wr.heap.size ∧ PBox wr w.heap.size n k C0 c0 C1 c1) (fun _ iv _ => k - (intOf iv).toNat)
      case atStart => exact ⟨0, _, _, _, _, by omega, rfl, rfl, HBT, by repeat (first | assumption | exact Below.refl _ _ | refine Below.drew ?_ | refine Below.alloc ?_ (by first | omega | (simp <;> omega)) _ | refine Below.setCell ?_ (by first | omega | (simp <;> omega)) _), by simp, PBox.below (B := wo.heap.size) ⟨b0, b1⟩ (by repeat (first | assumption | exact Below.refl _ _ | refine Below.drew ?_ | refine Below.alloc ?_ (by first | omega | (simp <;> omega)) _ | refine Below.setCell ?_ (by first | omega | (simp <;> omega)) _)) hsz⟩
      case round =>
        obtain ⟨i, A, c, rb, tag, hi, rfl, rfl, hbt, hbel2, hsz2, ⟨b02, b12⟩⟩ := hrel
        obtain ⟨wi, hwi⟩ : ∃ wi : World, wi = wr := ⟨_, rfl⟩
        subst hwi
        by_cases hlti : i < k
        · obtain ⟨r, ad, D0, d0, hx, rfl, hadb, ⟨k0, k1, k2⟩, hI, hF⟩ := row_at (hbelr _ hbel2) (k := i) (by rw [HM.out]; exact hlti)
          have hsl := HSL.out i
          have hsu := HSU.out i
          obtain ⟨nx, hnx⟩ : ∃ nx, n + p.sl i = nx := ⟨_, rfl⟩
          have HNX := Lib.hid hnx
          rw [hnx]
          have HSI := Lib.hid hsl
          have hnxW : nx ≤ n + i := by omega
          clear hsl hsu hnx
          have hb' : (ad.add (i * 3)).block < wi.heap.size := by rw [block_of_add]; have := hbel2.size; omega
          have hi0 : (0 : Int) ≤ i := by omega
          have hik : (i : Int) < k := by omega
          obtain ⟨hcl, hkd1, hkd3⟩ := HK.out r (List.mem_of_getElem? hx)
          obtain ⟨hpk, hpr, hpc⟩ := HRW.out i r hx
          rw [hcl] at k0
          have HFF := Lib.hid hF
          have HI := Lib.hid hI
          have HPC := Lib.hid (And.intro hpk (And.intro hpr hpc))
          clear hx hI hF hpk hpr hpc
          go_upto_region 16 with (at_make; go_loud (refine make_ratc rfl _ _ rfl (n + S + k + 1) rfl rfl (by omega) ?_); intro w5 hA5 hb5)
          have hq5 : ∀ o v, (wi.alloc (.cells #[.slice D0 n d0, .int .i64 r.kind, .int .i64 r.right] 30)).cell? ⟨wi.heap.size, o, none⟩ = some v → w5.cell? ⟨wi.heap.size, o, none⟩ = some v := fun o v h => (hb5.cell (p := ⟨wi.heap.size, o, none⟩) (by simp)).trans h
          have q0 := hq5 0 (.slice D0 n d0) (by simp)
          have q1 := hq5 1 (.int .i64 r.kind) (by simp)
          have q2 := hq5 2 (.int .i64 r.right) (by simp)
          have hb6 : Below wi.heap.size wi w5 := Below.trans (by repeat (first | assumption | exact Below.refl _ _ | refine Below.drew ?_ | refine Below.alloc ?_ (by first | omega | (simp <;> omega)) _ | refine Below.setCell ?_ (by first | omega | (simp <;> omega)) _)) (hb5.mono (by simp))
          have hz5 : wi.heap.size + 1 < w5.heap.size := by have := hA5.lt; simp at this; omega
          have hA6 : Arr w5 (wi.heap.size + 1) (n + S + k + 1) (fun _ => .string ⟨#[]⟩) := by simpa using hA5
          clear hq5 hb5 hA5
          obtain ⟨nn, xs, hbd, hnx⟩ := hbt.out.bd
          have HERR : Hid (ErrAt wi wo.heap.size) := Lib.hid ⟨hbd.st.cell (i := 7) (by decide), hbd.st.frozen 7⟩
          clear hbd hnx nn xs
          have HTT := Lib.hid (ht.below hbel2)
          have HX : Hid (∀ x, Kp (fun q => q ≠ wi.heap.size + 1) w5 x → Below wi.heap.size wi x ∧ ErrAt x wo.heap.size ∧ TabT x ∧ x.cell? ⟨wi.heap.size, 0, none⟩ = some (.slice D0 n d0) ∧ x.cell? ⟨wi.heap.size, 1, none⟩ = some (.int .i64 r.kind) ∧ x.cell? ⟨wi.heap.size, 2, none⟩ = some (.int .i64 r.right) ∧ Ints x B D0 r.coef) := Lib.hid (fun x hx => by
            have h1 : Below wi.heap.size wi x := hb6.trans (hx.lo (by omega) (by omega))
            have hne : wi.heap.size ≠ wi.heap.size + 1 := by omega
            exact ⟨h1, HERR.out.below h1, HTT.out.below h1, hx.cell q0 hne, hx.cell q1 hne, hx.cell q2 hne, HI.out.below (h1.mono (Nat.le_trans hB hbel2.size))⟩)
          have HB5 := Lib.hid (And.intro hb6 hz5)
          have HCL := Lib.hid hcl
          clear hb6 hcl
          go_upto_if 70 with fail
          go_cut [15] (fun v wx => v = .int .i64 (p.sgn i) ∧ w5 = wx)
          case first =>
            by_cases hneg : r.right < 0
            · have HS : Hid (p.sgn i = -1) := Lib.hid (by unfold Lp.sgn; rw [HPC.out.2.1, if_pos hneg])
              go_wp2
              go_meet
              exact ⟨by rw [HS.out], rfl⟩
            · have HS : Hid (p.sgn i = 1) := Lib.hid (by unfold Lp.sgn; rw [HPC.out.2.1, if_neg hneg])
              go_wp2
              go_meet
              exact ⟨by rw [HS.out], rfl⟩
          obtain ⟨rfl, rfl⟩ := hcut
          have HA6 : Hid (Arr w5 (wi.heap.size + 1) (n + S + k + 1) (fun j => if j < 0 then vec (fun _ => 0) j else .string ⟨#[]⟩)) := Lib.hid (hA6.congr fun i hi => by rw [if_neg (by omega)])
          clear hA6
          go_wp2
          go_loopw [73] (fun jv wx => ∃ j : Nat, j ≤ n + S + k + 1 ∧ jv = .int .i64 j ∧ Hid (Kp (fun q => q ≠ wi.heap.size + 1) w5 wx) ∧ Hid (Arr wx (wi.heap.size + 1) (n + S + k + 1) (fun q => if q < j then vec (fun _ => 0) q else .string ⟨#[]⟩))) (fun jv _ => n + S + k + 1 - (intOf jv).toNat)
          case atStart => exact ⟨0, by omega, rfl, Lib.hid (Kp.refl _), HA6⟩
          case round =>
            obtain ⟨j, hj, rfl, hkp, har⟩ := hrel
            by_cases hltj : j < n + S + k + 1
            · have hcx := har.out.cell hltj
              rw [if_neg (Nat.lt_irrefl j)] at hcx
              have hfx := har.out.frozen j
              have hj0 : (0 : Int) ≤ j := by omega
              have hjL : (j : Int) < (n : Int) + S + k + 1 := by omega
              have HF : Hid (Kp (fun q => q ≠ wi.heap.size + 1) w5 (wr.setCell ⟨wi.heap.size + 1, j, none⟩ (.string ⟨#[48]⟩)) ∧ Arr (wr.setCell ⟨wi.heap.size + 1, j, none⟩ (.string ⟨#[48]⟩)) (wi.heap.size + 1) (n + S + k + 1) (fun q => if q < j + 1 then vec (fun _ => 0) q else .string ⟨#[]⟩)) := Lib.hid ⟨hkp.out.set (fun j _ h => h) _, by
                refine (har.out.set j _).congr fun q hq => ?_
                show (if q = j then Value.string ⟨#[48]⟩ else if q < j then vec (fun _ => 0) q else _) = _
                by_cases e : q = j
                · subst e; rw [if_pos rfl, if_pos (by omega)]; unfold vec; rw [rat_zero]
                · rw [if_neg e]
                  by_cases h : q < j
                  · rw [if_pos h, if_pos (by omega)]
                  · rw [if_neg h, if_neg (by omega)]⟩
              clear har
              go_wp2
              go_roundw
              case rel => exact ⟨j + 1, by omega, by go_num, Lib.hid HF.out.1, Lib.hid HF.out.2⟩
              case measure => simp [intOf]; omega
            · obtain rfl : j = n + S + k + 1 := by omega
              clear hltj
              rw [show ((n + S + k + 1 : Nat) : Int) = (n : Int) + S + k + 1 by omega]
              have HA7 : Hid (Arr wr (wi.heap.size + 1) (n + S + k + 1) (fun q => if q < 0 then vec (p.A i) q else vec (fun _ => 0) q)) := Lib.hid (har.out.congr fun q hq => by rw [if_pos hq, if_neg (by omega)])
              clear har
              obtain ⟨wz, hwz⟩ : ∃ wz : World, wz = wr := ⟨_, rfl⟩
              subst hwz
              obtain ⟨_, _, _, y0, _, _, _⟩ := HX.out wz hkp.out
              go_wp2
              go_loopw [83] (fun jv wx => ∃ j : Nat, j ≤ n ∧ jv = .int .i64 j ∧ Hid (Kp (fun q => q ≠ wi.heap.size + 1) w5 wx) ∧ Hid (Arr wx (wi.heap.size + 1) (n + S + k + 1) (fun q => if q < j then vec (p.A i) q else vec (fun _ => 0) q))) (fun jv _ => n - (intOf jv).toNat)
              case atStart => exact ⟨0, by omega, rfl, hkp, HA7⟩
              case round =>
                obtain ⟨j, hj, rfl, hkp2, har⟩ := hrel
                by_cases hltj : j < n
                · obtain ⟨hbx, hex, htx, _, _, _, hIx⟩ := HX.out wr hkp2.out
                  obtain ⟨cd, x, hA0, hcdb, hxx, hcc⟩ := hIx.at_ (show j < r.coef.length by rw [HCL.out]; exact hltj)
                  subst hA0
                  have hcb : (cd.add j).block < wr.heap.size := by rw [block_of_add]; have := hbx.size; have := hbel2.size; omega
                  have h64 := HFF.out.1 x (List.mem_of_getElem? hxx)
                  have HS := Lib.hid (signed_any wo.heap.size wr (p.sgn i) x (p.sgn_cases i) h64.1 h64.2 hex htx)
                  have HV : Hid (Value.string (ratS ((p.sgn i * x : Int) : Rat)) = vec (p.A i) j) := Lib.hid (by
                    unfold vec
                    rw [p.A_var (by rw [hpn]; exact hltj), HPC.out.2.2 j, hxx]; rfl)
                  have hj0 : (0 : Int) ≤ j := by omega
                  have hjn : (j : Int) < n := by omega
                  have hjL : (j : Int) < (n : Int) + S + k + 1 := by omega
                  generalize ratS ((p.sgn i * x : Int) : Rat) = X at HS HV
                  have HF : Hid (∀ y, Below wr.heap.size wr y → (∃ u, y.cell? ⟨wi.heap.size + 1, j, none⟩ = some u) ∧ y.frozen? ⟨wi.heap.size + 1, j, none⟩ = false ∧ Kp (fun q => q ≠ wi.heap.size + 1) w5 (y.setCell ⟨wi.heap.size + 1, j, none⟩ (.string X)) ∧ Arr (y.setCell ⟨wi.heap.size + 1, j, none⟩ (.string X)) (wi.heap.size + 1) (n + S + k + 1) (fun q => if q < j + 1 then vec (p.A i) q else vec (fun _ => 0) q)) := Lib.hid (fun y hy => by
                    have h1 := har.out.below hy
                    exact ⟨⟨_, h1.cell (by omega)⟩, h1.frozen j, (hkp2.out.trans (Kp.below hy)).set (fun q _ h => h) _, arr_next h1 _ HV.out⟩)
                  clear har hIx hex htx h64 hbx hxx
                  go_wp2_with (go_at_call 63; (with_reducible refine HS.out.mono ?_); rintro e w6 ⟨rfl, hb6⟩; obtain ⟨⟨u1, f1⟩, f2, f3, f4⟩ := HF.out w6 hb6; have F3 := Lib.hid f3; have F4 := Lib.hid f4; clear f3 f4)
                  go_roundw
                  case rel => exact ⟨j + 1, by omega, by go_num, F3, F4⟩
                  case measure => simp [intOf]; omega
                · obtain rfl : n = j := by omega
                  clear hltj
                  have HA8 : Hid (Arr wr (wi.heap.size + 1) (n + S + k + 1) (fun q => if q < p.n then vec (p.A i) q else vec (fun _ => 0) q)) := Lib.hid (by rw [hpn]; exact har.out)
                  clear har
                  obtain ⟨wy, hwy⟩ : ∃ wy : World, wy = wr := ⟨_, rfl⟩
                  subst hwy
                  obtain ⟨hby, hey, hty, _, y1, _, _⟩ := HX.out wy hkp2.out
                  have HEY := Lib.hid (And.intro hey hty)
                  clear hby hey hty
                  go_upto_if 98 with fail
                  go_cut [10] (fun v wx => v = .int .i64 (((n + p.sl (i + 1) : Nat) : Int)) ∧ Hid (Kp (fun q => q ≠ wi.heap.size + 1) w5 wx) ∧ Hid (Arr wx (wi.heap.size + 1) (n + S + k + 1) (fun q => if q < p.N then vec (p.A i) q else vec (fun _ => 0) q)))
                  case first =>
                    by_cases hk2 : r.kind = 2
                    · have HR : Hid (n + p.sl (i + 1) = nx ∧ Arr wy (wi.heap.size + 1) (n + S + k + 1) (fun q => if q < p.N then vec (p.A i) q else vec (fun _ => 0) q)) := Lib.hid ⟨by have h := HSI.out; rw [HPC.out.1, if_pos hk2] at h; have h2 := HNX.out; omega, row_F1 (by rw [HPC.out.1, hk2]) HA8.out⟩
                      go_wp2
                      go_meet
                      exact ⟨by rw [HR.out.1], hkp2, Lib.hid HR.out.2⟩
                    · have HR : Hid (n + p.sl (i + 1) = nx + 1) := Lib.hid (by have h := HSI.out; rw [HPC.out.1, if_neg hk2] at h; have h2 := HNX.out; omega)
                      have hnx0 : (0 : Int) ≤ nx := by omega
                      have hnxL : (nx : Int) < (n : Int) + S + k + 1 := by
                        have h := p.sl_lt (i := i) (by rw [hpm]; exact hlti) (by rw [HPC.out.1]; exact hk2)
                        have h2 := HNX.out
                        have h3 := HN.out.1
                        rw [hpn] at h
                        omega
                      have HF : Hid (∀ y, Below wy.heap.size wy y → (∃ u, y.cell? ⟨wi.heap.size + 1, nx, none⟩ = some u) ∧ y.frozen? ⟨wi.heap.size + 1, nx, none⟩ = false ∧ Kp (fun q => q ≠ wi.heap.size + 1) w5 (y.setCell ⟨wi.heap.size + 1, nx, none⟩ (.string (ratS ((p.sgn i * p.tau i : Int) : Rat)))) ∧ Arr (y.setCell ⟨wi.heap.size + 1, nx, none⟩ (.string (ratS ((p.sgn i * p.tau i : Int) : Rat)))) (wi.heap.size + 1) (n + S + k + 1) (fun q => if q < p.N then vec (p.A i) q else vec (fun _ => 0) q)) := Lib.hid (fun y hy => by
                        have h1 := HA8.out.below hy
                        have h2 := row_F1' (i := i) (by rw [hpm]; exact hlti) (by rw [HPC.out.1]; exact hk2) h1
                        rw [hpn, HNX.out] at h2
                        exact ⟨⟨_, h1.cell (by omega)⟩, h1.frozen nx, (hkp2.out.trans (Kp.below hy)).set (fun q _ h => h) _, h2⟩)
                      have hsc := p.sgn_cases i
                      have hwn : IntKind.i64.wrap (-(p.sgn i)) = -(p.sgn i) := IntWalk.i64_in _ (by rcases hsc with h | h <;> omega)
                      by_cases hk3 : r.kind = 3
                      · have HT : Hid (p.sgn i * p.tau i = -(p.sgn i)) := Lib.hid (by unfold Lp.tau; rw [HPC.out.1, if_pos hk3]; omega)
                        rw [HT.out] at HF
                        have HO := Lib.hid (rof_any (-(p.sgn i)) (by rcases hsc with h | h <;> omega) (by rcases hsc with h | h <;> omega) wy HEY.out.2)
                        generalize ratS ((-(p.sgn i) : Int) : Rat) = X at HF HO
                        clear hsc
                        go_wp2_with (go_at_call 45; (with_reducible refine HO.out.mono ?_); rintro e w6 ⟨rfl, hb6⟩; obtain ⟨⟨u1, f1⟩, f2, f3, f4⟩ := HF.out w6 hb6; have F3 := Lib.hid f3; have F4 := Lib.hid f4; clear f3 f4)
                        go_meet
                        exact ⟨by rw [HR.out]; rfl, F3, F4⟩
                      · have HT : Hid (p.sgn i * p.tau i = p.sgn i) := Lib.hid (by unfold Lp.tau; rw [HPC.out.1, if_neg hk3]; omega)
                        rw [HT.out] at HF
                        have HO := Lib.hid (rof_any (p.sgn i) (by rcases hsc with h | h <;> omega) (by rcases hsc with h | h <;> omega) wy HEY.out.2)
                        generalize ratS ((p.sgn i : Int) : Rat) = X at HF HO
                        clear hsc
                        go_wp2_with (go_at_call 45; (with_reducible refine HO.out.mono ?_); rintro e w6 ⟨rfl, hb6⟩; obtain ⟨⟨u1, f1⟩, f2, f3, f4⟩ := HF.out w6 hb6; have F3 := Lib.hid f3; have F4 := Lib.hid f4; clear f3 f4)
                        go_meet
                        exact ⟨by rw [HR.out]; rfl, F3, F4⟩
                  obtain ⟨rfl, hkp3, har3⟩ := hcut
                  obtain ⟨ny, hny⟩ : ∃ ny, n + p.sl (i + 1) = ny := ⟨_, rfl⟩
                  have HNY := Lib.hid hny
                  rw [hny]
                  clear hny
                  have hLe : n + S + k + 1 = p.L + 1 := by rw [HN.out.2]
                  have HLE := Lib.hid hLe
                  have hiN : (0 : Int) ≤ (n : Int) + S + i := by omega
                  have hiL : (n : Int) + S + i < (n : Int) + S + k + 1 := by omega
                  have hkL0 : (0 : Int) ≤ (n : Int) + S + k := by omega
                  have hkL1 : (n : Int) + S + k < (n : Int) + S + k + 1 := by omega
                  have HC1 : Hid ((∃ u, wc.cell? ⟨wi.heap.size + 1, n + S + i, none⟩ = some u) ∧ wc.frozen? ⟨wi.heap.size + 1, n + S + i, none⟩ = false ∧ Kp (fun q => q ≠ wi.heap.size + 1) w5 (wc.setCell ⟨wi.heap.size + 1, n + S + i, none⟩ (.string ⟨#[49]⟩))) := Lib.hid ⟨⟨_, har3.out.cell (by omega)⟩, har3.out.frozen _, hkp3.out.set (fun q _ h => h) _⟩
                  obtain ⟨⟨u1, hc1⟩, hc2, hc3⟩ := HC1.out
                  obtain ⟨_, hed, htd, _, _, y2, _⟩ := HX.out _ hc3
                  have h64 := HFF.out.2.2
                  have HS := Lib.hid (signed_any wo.heap.size _ (p.sgn i) r.right (p.sgn_cases i) h64.1 h64.2 hed htd)
                  have HF : Hid (∀ y, Below (wc.setCell ⟨wi.heap.size + 1, n + S + i, none⟩ (.string ⟨#[49]⟩)).heap.size (wc.setCell ⟨wi.heap.size + 1, n + S + i, none⟩ (.string ⟨#[49]⟩)) y → (∃ u, y.cell? ⟨wi.heap.size + 1, n + S + k, none⟩ = some u) ∧ y.frozen? ⟨wi.heap.size + 1, n + S + k, none⟩ = false ∧ Kp (fun q => q ≠ wi.heap.size + 1) w5 (y.setCell ⟨wi.heap.size + 1, n + S + k, none⟩ (.string (ratS ((p.sgn i * r.right : Int) : Rat)))) ∧ Arr (y.setCell ⟨wi.heap.size + 1, n + S + k, none⟩ (.string (ratS ((p.sgn i * r.right : Int) : Rat)))) (wi.heap.size + 1) (p.L + 1) (vec (p.A i))) := Lib.hid (fun y hy => by
                    have h1 := har3.out
                    rw [HLE.out] at h1
                    have h2 := row_F3 (w' := y) (i := i) (by rw [hpm]; exact hlti) h1 (fun h => by
                      rw [HN.out.1] at h ⊢
                      exact h.below hy)
                    rw [HN.out.2, HPC.out.2.1] at h2
                    have h3 := (h1.set (n + S + i) (.string ⟨#[49]⟩)).below hy
                    rw [HN.out.2]
                    exact ⟨⟨_, h3.cell (by rw [← HLE.out]; omega)⟩, h3.frozen _, (hc3.trans (Kp.below hy)).set (fun q _ h => h) _, by rw [← HN.out.2]; rw [← HN.out.2] at h2; exact h2⟩)
                  generalize ratS ((p.sgn i * r.right : Int) : Rat) = X at HS HF
                  clear hed htd h64 hc3 hLe har3 HC1
                  go_upto_region 38 with (go_at_call 63; (with_reducible refine HS.out.mono ?_); rintro e w6 ⟨rfl, hb6⟩; obtain ⟨⟨u2, f1⟩, f2, f3, f4⟩ := HF.out w6 hb6; have F3 := Lib.hid f3; have F4 := Lib.hid f4; clear f3 f4)
                  obtain ⟨wf, hwf⟩ : ∃ x, w6.setCell ⟨wi.heap.size + 1, n + S + k, none⟩ (.string X) = x := ⟨_, rfl⟩
                  rw [hwf] at F3 F4 ⊢
                  obtain ⟨nn, xs, hbr, hq⟩ := Br.open_ hbt.out (wi.heap.size + 1) (by omega) (by omega) HB5.out.1 HB5.out.2 F3.out F4.out
                  have HBf : Hid (Below (w.heap.size + 1) wi wf ∧ w.heap.size + 1 ≤ wf.heap.size) := Lib.hid ⟨(HX.out wf F3.out).1.mono (by omega), by have := (HX.out wf F3.out).1.size; omega⟩
                  have HBR := Lib.hid hbr
                  have HQ := Lib.hid hq
                  have HSG : Hid (decide (p.sgn i < 0) = decide (p.right i < 0)) := Lib.hid (by
                    unfold Lp.sgn
                    by_cases h : p.right i < 0
                    · rw [if_pos h]; simp [h]
                    · rw [if_neg h]; simp [h])
                  have t0 : wf.cell? ⟨wo.heap.size, 0, none⟩ = some (.slice (A 2) i (c 2)) := hbr.cell 2 (by decide) (by decide) i (hq 2 (by decide) (by decide)).1
                  clear hbr hq hwf hc1 hc2 y1 y2 f1 f2
                  go_upto_region 39 with (at_builtin; go_loud (refine push_br elem2 HBR.out 2 (by decide) (by decide) rfl 0 rfl i (HQ.out 2 (by decide) (by decide)).1 (by omega) HBf.out.2 rfl _ _ rfl rfl (.slice (some ⟨wi.heap.size + 1, 0, none⟩) (n + S + k + 1) (n + S + k + 1)) rfl rfl ?_); intro g2 d2 w2 k2 l2 HB2 HK2)
                  obtain ⟨W2, hW2⟩ : ∃ x, w2.setCell ⟨wo.heap.size, 0, none⟩ (.slice (some ⟨g2, 0, none⟩) (i + 1) d2) = x := ⟨_, rfl⟩
                  rw [hW2] at HB2 HK2 ⊢
                  have hz2 := Nat.le_trans HBf.out.2 HK2.out.size
                  have t2 : W2.cell? ⟨wo.heap.size, 2, none⟩ = some (.slice (A 5) i (c 5)) := HB2.out.cell 5 (by decide) (by decide) i (HQ.out 5 (by decide) (by decide)).1
                  clear hW2 k2 l2 t0
                  go_upto_region 40 with (at_builtin; go_loud (refine push_br elemI HB2.out 5 (by decide) (by decide) rfl 2 rfl i (HQ.out 5 (by decide) (by decide)).1 (by omega) hz2 rfl _ _ rfl rfl (.int .i64 ((n : Int) + S + i)) rfl rfl ?_); intro g5 d5 w5' k5 l5 HB5' HK5)
                  obtain ⟨W5, hW5⟩ : ∃ x, w5'.setCell ⟨wo.heap.size, 2, none⟩ (.slice (some ⟨g5, 0, none⟩) (i + 1) d5) = x := ⟨_, rfl⟩
                  rw [hW5] at HB5' HK5 ⊢
                  have hz5' := Nat.le_trans hz2 HK5.out.size
                  have t3 : W5.cell? ⟨wo.heap.size, 3, none⟩ = some (.slice (A 3) i (c 3)) := HB5'.out.cell 3 (by decide) (by decide) i (HQ.out 3 (by decide) (by decide)).1
                  clear hW5 k5 l5 t2
                  go_upto_region 41 with (at_builtin; go_loud (refine push_br elemI HB5'.out 3 (by decide) (by decide) rfl 3 rfl i (HQ.out 3 (by decide) (by decide)).1 (by omega) hz5' rfl _ _ rfl rfl (.int .i64 ((n : Int) + S + i)) rfl rfl ?_); intro g3 d3 w3' k3 l3 HB3 HK3)
                  obtain ⟨W3, hW3⟩ : ∃ x, w3'.setCell ⟨wo.heap.size, 3, none⟩ (.slice (some ⟨g3, 0, none⟩) (i + 1) d3) = x := ⟨_, rfl⟩
                  rw [hW3] at HB3 HK3 ⊢
                  have hz3 := Nat.le_trans hz5' HK3.out.size
                  have t4 : W3.cell? ⟨wo.heap.size, 4, none⟩ = some (.slice (A 4) i (c 4)) := HB3.out.cell 4 (by decide) (by decide) i (HQ.out 4 (by decide) (by decide)).1
                  clear hW3 k3 l3 t3
                  go_upto_region 42 with (at_builtin; go_loud (refine push_br elem4 HB3.out 4 (by decide) (by decide) rfl 4 rfl i (HQ.out 4 (by decide) (by decide)).1 (by omega) hz3 rfl _ _ rfl rfl (.bool (decide (p.sgn i < 0))) rfl rfl ?_); intro g4 d4 w4' k4 l4 HB4 HK4)
                  obtain ⟨W4, hW4⟩ : ∃ x, w4'.setCell ⟨wo.heap.size, 4, none⟩ (.slice (some ⟨g4, 0, none⟩) (i + 1) d4) = x := ⟨_, rfl⟩
                  rw [hW4] at HB4 HK4 ⊢
                  have hz4 := Nat.le_trans hz3 HK4.out.size
                  have HBL : Hid (Below (w.heap.size + 1) wi W4) := Lib.hid ((((HBf.out.1.trans HK2.out).trans HK5.out).trans HK3.out).trans HK4.out)
                  have HFI : Hid (Bt p (w.heap.size + 1) wo.heap.size (i + 1) (fset (fset (fset (fset A 2 (some ⟨g2, 0, none⟩)) 5 (some ⟨g5, 0, none⟩)) 3 (some ⟨g3, 0, none⟩)) 4 (some ⟨g4, 0, none⟩)) (fset (fset (fset (fset c 2 d2) 5 d5) 3 d3) 4 d4) (fset rb i (wi.heap.size + 1)) (fset (fset (fset (fset (fset tag (wi.heap.size + 1) (7 + i)) g2 2) g5 5) g3 3) g4 4) W4) := Lib.hid (by
                    refine HB4.out.close HQ.out (fun q h2 h5 => ?_) (fun q h2 h5 => ?_)
                    · have hq := HQ.out q h2 h5
                      have hq' : q = 2 ∨ q = 3 ∨ q = 4 ∨ q = 5 := by omega
                      rcases hq' with rfl | rfl | rfl | rfl <;> (rw [hq.1]; rfl)
                    · have hq' : q = 2 ∨ q = 3 ∨ q = 4 ∨ q = 5 := by omega
                      have hu : ((n : Int) + S + i) = ((p.u i : Nat) : Int) := by unfold Lp.u; rw [HN.out.1]; omega
                      rw [← HLE.out, ← HSG.out, ← hu]
                      rcases hq' with rfl | rfl | rfl | rfl <;> rfl)
                  clear hW4 k4 l4 t4 HB4 HB3 HB5' HB2 HBR HK4 HK3 HK5 HK2 HBf
                  go_wp2
                  go_roundw
                  case rel => exact ⟨i + 1, _, _, _, _, by omega, by go_num, by rw [HNY.out], HFI, hbel2.trans (HBL.out.mono (by omega)), by have := HBL.out.size; omega, PBox.below (B := w.heap.size + 1) ⟨b02, b12⟩ HBL.out (by omega)⟩
                  case measure => simp [intOf]; omega
        · obtain rfl : i = k := by omega
          clear hlti
          go_wp2
          go_ret
          refine ⟨geoB wo.heap.size A c rb tag, rfl, ?_, ?_, hbel2⟩
          · have h := hbt.out
            rw [← hpm] at h
            exact ⟨h.done.1.b, fun q hq => h.done.1.low q (by omega), h.done.1.rb, h.done.1.two⟩
          · have h := hbt.out
            rw [← hpm] at h
            exact h.done.2
end Go.Proofs.YthcmopgdjibojaaGreatDoor.smp

/- simplex: values, ray. -/
import Derived.Test.YthcmopgdjibojaaGreatDoorSmpI
namespace Go.Proofs.YthcmopgdjibojaaGreatDoor.smp
open Go.RowKit
open Go.Proofs.YthcmopgdjibojaaGreatDoor.lib Go.Proofs.YthcmopgdjibojaaGreatDoor.app Go.Proofs.YthcmopgdjibojaaGreatDoor.nt Go.Proofs.YthcmopgdjibojaaGreatDoor.rd Go.Proofs.YthcmopgdjibojaaGreatDoor.wh Go.Proofs.YthcmopgdjibojaaGreatDoor.smx Go.Proofs.YthcmopgdjibojaaGreatDoor.rat
set_option linter.unusedVariables false
set_option linter.unusedSimpArgs false

/-- What lies in the slice behind the first rows. -/
def scF (ini : Nat → Rat) (base : Nat → Nat) (f : Nat → Rat) (i k : Nat) : Rat := ini k + sm (fun q => if base q = k then f q else 0) i
theorem scF_zero (ini : Nat → Rat) (base : Nat → Nat) (f : Nat → Rat) (k : Nat) : scF ini base f 0 k = ini k := by unfold scF; rw [sm, Rat.add_zero]
theorem scF_other (ini : Nat → Rat) (base : Nat → Nat) (f : Nat → Rat) {i k : Nat} (h : base i ≠ k) : scF ini base f (i + 1) k = scF ini base f i k := by unfold scF; rw [sm, if_neg h, Rat.add_zero]
theorem scF_here (ini : Nat → Rat) (base : Nat → Nat) (f : Nat → Rat) {i : Nat} (h : ∀ q, q < i → base q ≠ base i) (h0 : ini (base i) = 0) : scF ini base f (i + 1) (base i) = f i := by
  unfold scF
  rw [sm, if_pos rfl, sm_zero (fun q hq => if_neg (h q hq)), h0, Rat.zero_add, Rat.zero_add]
/-- A slice of numbers in blocks from lo on. -/
def RatsAt (lo : Nat) (w : World) (A : Option Addr) (n : Nat) (q : Nat → Rat) : Prop := Rats w w.heap.size A n q ∧ ∀ ad, A = some ad → lo ≤ ad.block
theorem RatsAt.below {lo n : Nat} {w w' : World} {A : Option Addr} {q : Nat → Rat} (h : RatsAt lo w A n q) (hb : Below w.heap.size w w') : RatsAt lo w' A n q := ⟨(h.1.below hb).more hb.size, h.2⟩
theorem RatsAt.low {lo lo' n : Nat} {w : World} {A : Option Addr} {q : Nat → Rat} (h : RatsAt lo w A n q) (hl : lo' ≤ lo) : RatsAt lo' w A n q := ⟨h.1, fun ad ha => Nat.le_trans hl (h.2 ad ha)⟩
theorem RatsAt.set {lo n b i : Nat} {w : World} {A : Option Addr} {q : Nat → Rat} (h : RatsAt lo w A n q) (hb : b < lo) (v : Value) : RatsAt lo (w.setCell ⟨b, i, none⟩ v) A n q := by
  refine ⟨⟨h.1.1, fun hn => ?_⟩, h.2⟩
  obtain ⟨ad, hA, hlt, hc⟩ := h.1.2 hn
  refine ⟨ad, hA, by simpa [World.setCell] using hlt, fun j u hj => ?_⟩
  rw [World.cell?_setCell_far _ _ _ _ (by show b ≠ (ad.add _).block; rw [block_of_add]; have := h.2 ad hA; omega)]
  exact hc j u hj
theorem RatsAt.congr {lo n : Nat} {w : World} {A : Option Addr} {q q' : Nat → Rat} (h : RatsAt lo w A n q) (e : ∀ i, i < n → q i = q' i) : RatsAt lo w A n q' := by
  refine ⟨?_, h.2⟩
  have h1 := h.1
  unfold Rats at h1 ⊢
  rw [show ((List.range n).map fun i => Value.string (ratS (q' i))) = (List.range n).map fun i => .string (ratS (q i)) from List.map_congr_left fun i hi => by rw [e i (List.mem_range.1 hi)]]
  exact h1
def RatsRes (n : Nat) (q : Nat → Rat) (w : World) (e : Ending) (w' : World) : Prop := ∃ A c, e = .returned (.slice A n c) ∧ RatsAt w.heap.size w' A n q ∧ Below w.heap.size w w'
theorem RatsRes.of_out {n : Nat} {q : Nat → Rat} {w w' : World} {e : Ending} (h : RatsOut n q w e w') : RatsRes n q w e w' := by
  obtain ⟨ck, h1, h2, h3, h4⟩ := h
  refine ⟨_, _, h2, ⟨⟨by simp, fun hn => ⟨_, rfl, h3.lt, fun j u hj => ?_⟩⟩, fun ad ha => by injection ha with ha; rw [← ha]; exact h1⟩, h4⟩
  have hjl : j < n := by have := (List.getElem?_eq_some_iff.1 hj).1; simpa using this
  rw [List.getElem?_map, List.getElem?_range hjl] at hj
  injection hj with hj
  rw [← hj, adz]
  exact h3.cell hjl
set_option maxRecDepth 20000 in
set_option maxHeartbeats 4000000 in
theorem values_any (p : Lp) (g : Geo) (pv : Value) (lo : Nat) (s : Tab) (hg : GeoOk p g lo) (hm : p.m ≤ 6) (hL : p.L ≤ 20) (hn : p.n ≤ 20) (hinj : ∀ q i, i < p.m → q < i → s.base q ≠ s.base i)
    (w : World) (hs : TS p g pv s w) :
    Calls Tryz.prog 29 #[.pointer (some ⟨g.b, 0, none⟩)] w (RatsOut p.n (scF (fun _ => 0) s.base (fun q => s.T q p.L) p.m) w) := by
  have x0 : w.cell? ⟨g.b, 0, none⟩ = some (.slice g.AR p.m g.cR) := hs.st.cell (i := 0) (by decide)
  have x2 : w.cell? ⟨g.b, 2, none⟩ = some (.slice g.AB p.m g.cB) := hs.st.cell (i := 2) (by decide)
  have x6 : w.cell? ⟨g.b, 6, none⟩ = some (.int .i64 p.n) := hs.st.cell (i := 6) (by decide)
  have hbl := hs.st.lt
  have HTWO : Hid (0 < p.m → g.AR = some ⟨g.R, 0, none⟩ ∧ g.AB = some ⟨g.bb, 0, none⟩) := Lib.hid (fun h => ⟨(hg.two h).2.2.2.2.1, (hg.two h).2.2.2.2.2.1⟩)
  have HR := Lib.hid hs.rows
  have HRW := Lib.hid hs.row
  have HBS := Lib.hid hs.base
  obtain ⟨T, P, base⟩ := s
  simp only at HRW HBS hinj ⊢
  have HINJ := Lib.hid hinj
  clear hg hs hinj
  obtain ⟨b, R, ub, tb, bb, pb, rb, tag, AR, AB, AU, AT, cR, cB, cU, cT, cP⟩ := g
  simp only at x0 x2 x6 HTWO HR HRW HBS hbl ⊢
  obtain ⟨L, eL⟩ : ∃ L, p.L = L := ⟨_, rfl⟩
  obtain ⟨m, em⟩ : ∃ m, p.m = m := ⟨_, rfl⟩
  obtain ⟨n, en⟩ : ∃ n, p.n = n := ⟨_, rfl⟩
  rw [eL, em] at HR HRW
  rw [em] at hm x0 x2 HTWO HBS HINJ
  rw [eL] at hL
  rw [en] at x6 hn
  rw [em, eL, en]
  clear em eL en
  have hL1 : (L : Int) < L + 1 := by omega
  have hL0 : (0 : Int) ≤ L := by omega
  have hwL : IntKind.i64.wrap (L : Int) = L := IntWalk.i64_in _ (by omega)
  go_enter Tryz.func29, Tryz.ntmps29
  go_wp2_with (at_make; refine make_rats rfl _ _ rfl n rfl rfl (by omega) ?_; intro w3 hA3 hb3)
  have HA3 : Hid (Arr w3 w.heap.size n (fun j => if j < 0 then vec (fun _ => 0) j else .string ⟨#[]⟩)) := Lib.hid (hA3.congr fun i hi => by rw [if_neg (by omega)])
  have hz3 : w.heap.size < w3.heap.size := hA3.lt
  clear hA3
  have HX : Hid (∀ x, Kp (fun k => k ≠ w.heap.size) w3 x → Below w.heap.size w x) := Lib.hid (fun x hx => hb3.trans (hx.lo (Nat.le_refl _) (by omega)))
  clear hb3
  go_loopw [14] (fun iv wr => ∃ k : Nat, k ≤ n ∧ iv = .int .i64 k ∧ Hid (Kp (fun k => k ≠ w.heap.size) w3 wr) ∧ Hid (Arr wr w.heap.size n (fun j => if j < k then vec (fun _ => 0) j else .string ⟨#[]⟩))) (fun iv _ => n - (intOf iv).toNat)
  case atStart => exact ⟨0, by omega, rfl, Lib.hid (Kp.refl _), HA3⟩
  case round =>
    obtain ⟨k, hk, rfl, hkp, har⟩ := hrel
    by_cases hlt : k < n
    · have hcx := har.out.cell hlt
      rw [if_neg (Nat.lt_irrefl k)] at hcx
      have hfx := har.out.frozen k
      have hk0 : (0 : Int) ≤ k := by omega
      have hkL : (k : Int) < n := by omega
      have HF : Hid (Kp (fun k => k ≠ w.heap.size) w3 (wr.setCell ⟨w.heap.size, k, none⟩ (.string ⟨#[48]⟩)) ∧ Arr (wr.setCell ⟨w.heap.size, k, none⟩ (.string ⟨#[48]⟩)) w.heap.size n (fun j => if j < k + 1 then vec (fun _ => 0) j else .string ⟨#[]⟩)) := Lib.hid ⟨hkp.out.set (fun j _ h => h) _, arr_next har.out _ (by unfold vec; rw [rat_zero])⟩
      clear har
      go_wp2
      go_roundw
      case rel => exact ⟨k + 1, by omega, by go_num, Lib.hid HF.out.1, Lib.hid HF.out.2⟩
      case measure => simp [intOf]; omega
    · obtain rfl : k = n := by omega
      clear hlt
      have y2 := ((HX.out wr hkp.out).cell (p := ⟨b, 2, none⟩) hbl).trans x2
      have HA : Hid (Arr wr w.heap.size k (vec (scF (fun _ => 0) base (fun q => T q L) 0))) := Lib.hid (har.out.congr fun j hj => by rw [if_pos hj]; unfold vec; rw [scF_zero])
      clear har
      obtain ⟨wo, hwo⟩ : ∃ wo : World, wo = wr := ⟨_, rfl⟩
      subst hwo
      go_wp2
      go_loopw [26] (fun iv wr => ∃ i : Nat, i ≤ m ∧ iv = .int .i64 i ∧ Hid (Kp (fun k => k ≠ w.heap.size) w3 wr) ∧ Hid (Arr wr w.heap.size k (vec (scF (fun _ => 0) base (fun q => T q L) i)))) (fun iv _ => m - (intOf iv).toNat)
      case atStart => exact ⟨0, by omega, rfl, hkp, HA⟩
      case round =>
        obtain ⟨i, hi, rfl, hkp, har⟩ := hrel
        by_cases hlti : i < m
        · obtain ⟨rfl, rfl⟩ := HTWO.out (by omega)
          have hb := HX.out wr hkp.out
          have y0 := (hb.cell (p := ⟨b, 0, none⟩) hbl).trans x0
          have y6 := (hb.cell (p := ⟨b, 6, none⟩) hbl).trans x6
          have hbb := HBS.out (by omega)
          have cb := (hb.cell (p := ⟨bb, i, none⟩) hbb.lt).trans (hbb.cell hlti)
          have cR' := (hb.cell (p := ⟨R, i, none⟩) (HR.out (by omega)).lt).trans ((HR.out (by omega)).cell hlti)
          have hAi := HRW.out i hlti
          have cL : wr.cell? ⟨rb i, L, none⟩ = some (.string (ratS (T i L))) := (hb.cell (p := ⟨rb i, L, none⟩) hAi.lt).trans (hAi.cell (by omega))
          have hi0 : (0 : Int) ≤ i := by omega
          have him : (i : Int) < m := by omega
          have hb0 : (0 : Int) ≤ base i := by omega
          by_cases hbn : base i < k
          · have hbn' : (base i : Int) < k := by omega
            have hcx := har.out.cell hbn
            have hfx := har.out.frozen (base i)
            have HF : Hid (∀ x, wr.heap = x.heap → Kp (fun k => k ≠ w.heap.size) w3 x → Kp (fun k => k ≠ w.heap.size) w3 (x.setCell ⟨w.heap.size, base i, none⟩ (.string (ratS (T i L)))) ∧ Arr (x.setCell ⟨w.heap.size, base i, none⟩ (.string (ratS (T i L)))) w.heap.size k (vec (scF (fun _ => 0) base (fun q => T q L) (i + 1)))) := Lib.hid (fun x he hx => ⟨hx.set (fun j _ h => h) _, ((har.out.keep (w' := x) (by rw [he])).set (base i) _).congr fun j hj => by
              show (if j = base i then Value.string (ratS (T i L)) else .string (ratS (scF _ base _ i j))) = .string (ratS (scF _ base _ (i + 1) j))
              by_cases e : j = base i
              · rw [if_pos e, e, scF_here _ base _ (fun q hq => HINJ.out q i hlti hq) rfl]
              · rw [if_neg e, scF_other _ base _ (Ne.symm e)]⟩)
            have hne : ∀ q i, q < w.heap.size → ∀ (x : World) (v : Value), (x.setCell ⟨w.heap.size, base i, none⟩ v).cell? ⟨q, i, none⟩ = x.cell? ⟨q, i, none⟩ := fun q i hq x v => World.cell?_setCell_far _ _ _ _ (by show w.heap.size ≠ q; omega)
            have hS1 : ∀ (x : World) (v : Value), (x.setCell ⟨w.heap.size, base i, none⟩ v).cell? ⟨b, 0, none⟩ = x.cell? ⟨b, 0, none⟩ := fun x v => World.cell?_setCell_far _ _ _ _ (by show w.heap.size ≠ b; omega)
            have hS2 : ∀ (x : World) (v : Value), (x.setCell ⟨w.heap.size, base i, none⟩ v).cell? ⟨R, i, none⟩ = x.cell? ⟨R, i, none⟩ := fun x v => World.cell?_setCell_far _ _ _ _ (by show w.heap.size ≠ R; have := (HR.out (by omega)).lt; omega)
            have hS3 : ∀ (x : World) (v : Value), (x.setCell ⟨w.heap.size, base i, none⟩ v).cell? ⟨rb i, L, none⟩ = x.cell? ⟨rb i, L, none⟩ := fun x v => World.cell?_setCell_far _ _ _ _ (by show w.heap.size ≠ rb i; have := hAi.lt; omega)
            have HSS := Lib.hid (And.intro hS1 (And.intro hS2 hS3))
            clear hne hS1 hS2 hS3 hbb hAi har hb
            generalize ratS (T i L) = V at cL HF
            generalize rb i = rbi at cR' cL HSS
            generalize base i = bi at cb hb0 hbn hbn' hcx hfx HF HSS
            go_upto_region 11 with fail
            (refine wp_region_held_drew (S := (fun w' => w'.cell? ⟨b, 0, none⟩ = some (.slice (some ⟨R, 0, none⟩) m cR) ∧ w'.cell? ⟨R, i, none⟩ = some (.slice (some ⟨rbi, 0, none⟩) (L + 1) (L + 1)) ∧ w'.cell? ⟨rbi, L, none⟩ = some (.string V))) (by kernel_rfl) ?_ (fun hHeld => ?_))
            · exact ⟨y0, cR', cL⟩
            have hHF := HF.out wr.drew rfl hkp.out.drew
            have h9 : wr.drew.cell? ⟨w.heap.size, bi, none⟩ = wr.cell? ⟨w.heap.size, bi, none⟩ := rfl
            rw [hcx] at h9
            have h8 : wr.drew.frozen? ⟨w.heap.size, bi, none⟩ = false := hfx
            have HK := Lib.hid hHF.1
            have HAr := Lib.hid hHF.2
            have HS4 : Hid ((wr.drew.setCell ⟨w.heap.size, bi, none⟩ (.string V)).cell? ⟨b, 0, none⟩ = some (.slice (some ⟨R, 0, none⟩) m cR) ∧ (wr.drew.setCell ⟨w.heap.size, bi, none⟩ (.string V)).cell? ⟨R, i, none⟩ = some (.slice (some ⟨rbi, 0, none⟩) (L + 1) (L + 1)) ∧ (wr.drew.setCell ⟨w.heap.size, bi, none⟩ (.string V)).cell? ⟨rbi, L, none⟩ = some (.string V)) := Lib.hid ⟨(HSS.out.1 _ _).trans y0, (HSS.out.2.1 _ _).trans cR', (HSS.out.2.2 _ _).trans cL⟩
            clear hHF hcx hfx
            generalize wr.drew = W at HK HAr h9 h8 HS4 hHeld ⊢
            (refine wpAnyH_take (i := 0) (v := ?_) rfl (by kernel_rfl) (by kernel_rfl) (by kernel_rfl) (fun _ _ _ h => h) (Or.inl ⟨by kernel_rfl, ?_⟩) (by assumption) ?_; rotate_left; (focus (intro w hSw; (try dsimp only at hSw); go_simp; all_goals with_reducible rfl)); (try simp only [Act.put, List.getElem_toArray, List.getElem_cons_succ, List.getElem_cons_zero, List.setIfInBounds_toArray, List.set_cons_zero, List.set_cons_succ]))
            (refine wpAnyH_take (i := 1) (v := ?_) rfl (by kernel_rfl) (by kernel_rfl) (by kernel_rfl) (fun _ _ _ h => h) (Or.inl ⟨by kernel_rfl, ?_⟩) (by assumption) ?_; rotate_left; (focus (intro w hSw; (try dsimp only at hSw); go_simp; all_goals with_reducible rfl)); (try simp only [Act.put, List.getElem_toArray, List.getElem_cons_succ, List.getElem_cons_zero, List.setIfInBounds_toArray, List.set_cons_zero, List.set_cons_succ]))
            (refine wpAnyH_take (i := 2) (v := ?_) rfl (by kernel_rfl) (by kernel_rfl) (by kernel_rfl) (fun _ _ _ h => h) (Or.inl ⟨by kernel_rfl, ?_⟩) (by assumption) ?_; rotate_left; (focus (intro w hSw; (try dsimp only at hSw); go_simp; all_goals with_reducible rfl)); (try simp only [Act.put, List.getElem_toArray, List.getElem_cons_succ, List.getElem_cons_zero, List.setIfInBounds_toArray, List.set_cons_zero, List.set_cons_succ]))
            (refine wpAnyH_take (i := 3) (v := ?_) rfl (by kernel_rfl) (by kernel_rfl) (by kernel_rfl) (fun _ _ _ h => h) (Or.inl ⟨by kernel_rfl, ?_⟩) (by assumption) ?_; rotate_left; (focus (intro w hSw; (try dsimp only at hSw); go_simp; all_goals with_reducible rfl)); (try simp only [Act.put, List.getElem_toArray, List.getElem_cons_succ, List.getElem_cons_zero, List.setIfInBounds_toArray, List.set_cons_zero, List.set_cons_succ]))
            (refine wpAnyH_take (i := 4) (v := ?_) rfl (by kernel_rfl) (by kernel_rfl) (by kernel_rfl) (fun _ _ _ h => h) (Or.inl ⟨by kernel_rfl, ?_⟩) (by assumption) ?_; rotate_left; (focus (intro w hSw; (try dsimp only at hSw); go_simp; all_goals with_reducible rfl)); (try simp only [Act.put, List.getElem_toArray, List.getElem_cons_succ, List.getElem_cons_zero, List.setIfInBounds_toArray, List.set_cons_zero, List.set_cons_succ]))
            (refine wpAnyH_take (i := 5) (v := ?_) rfl (by kernel_rfl) (by kernel_rfl) (by kernel_rfl) (fun _ _ _ h => h) (Or.inl ⟨by kernel_rfl, ?_⟩) (by assumption) ?_; rotate_left; (focus (intro w hSw; (try dsimp only at hSw); go_simp; all_goals with_reducible rfl)); (try simp only [Act.put, List.getElem_toArray, List.getElem_cons_succ, List.getElem_cons_zero, List.setIfInBounds_toArray, List.set_cons_zero, List.set_cons_succ]))
            (refine wpAnyH_take (i := 6) (v := ?_) rfl (by kernel_rfl) (by kernel_rfl) (by kernel_rfl) (fun _ _ _ h => h) (Or.inl ⟨by kernel_rfl, ?_⟩) (by assumption) ?_; rotate_left; (focus (intro w hSw; (try dsimp only at hSw); go_simp; all_goals with_reducible rfl)); (try simp only [Act.put, List.getElem_toArray, List.getElem_cons_succ, List.getElem_cons_zero, List.setIfInBounds_toArray, List.set_cons_zero, List.set_cons_succ]))
            (refine wpAnyH_take (i := 7) (v := ?_) rfl (by kernel_rfl) (by kernel_rfl) (by kernel_rfl) (fun _ _ _ h => h) (Or.inl ⟨by kernel_rfl, ?_⟩) (by assumption) ?_; rotate_left; (focus (intro w hSw; (try dsimp only at hSw); go_simp; all_goals with_reducible rfl)); (try simp only [Act.put, List.getElem_toArray, List.getElem_cons_succ, List.getElem_cons_zero, List.setIfInBounds_toArray, List.set_cons_zero, List.set_cons_succ]))
            (refine wpAnyH_take (i := 8) (v := ?_) rfl (by kernel_rfl) (by kernel_rfl) (by kernel_rfl) (fun _ _ _ h => h) (Or.inl ⟨by kernel_rfl, ?_⟩) (by assumption) ?_; rotate_left; (focus (intro w hSw; (try dsimp only at hSw); go_simp; all_goals with_reducible rfl)); (try simp only [Act.put, List.getElem_toArray, List.getElem_cons_succ, List.getElem_cons_zero, List.setIfInBounds_toArray, List.set_cons_zero, List.set_cons_succ]))
            (refine wpAnyH_take (i := 9) (v := ?_) rfl (by kernel_rfl) (by kernel_rfl) (by kernel_rfl) (fun _ _ _ h => h) (Or.inl ⟨by kernel_rfl, ?_⟩) (by assumption) ?_; rotate_left; (focus (intro w hSw; (try dsimp only at hSw); go_simp; all_goals with_reducible rfl)); (try simp only [Act.put, List.getElem_toArray, List.getElem_cons_succ, List.getElem_cons_zero, List.setIfInBounds_toArray, List.set_cons_zero, List.set_cons_succ]))
            (refine wpAnyH_take (i := 10) (v := ?_) rfl (by kernel_rfl) (by kernel_rfl) (by kernel_rfl) (fun _ _ _ h => h) (Or.inl ⟨by kernel_rfl, ?_⟩) (by assumption) ?_; rotate_left; (focus (intro w hSw; (try dsimp only at hSw); go_simp; all_goals with_reducible rfl)); (try simp only [Act.put, List.getElem_toArray, List.getElem_cons_succ, List.getElem_cons_zero, List.setIfInBounds_toArray, List.set_cons_zero, List.set_cons_succ]))
            (refine wpAnyH_take (i := 11) (v := ?_) rfl (by kernel_rfl) (by kernel_rfl) (by kernel_rfl) (fun _ _ _ h => h) (Or.inl ⟨by kernel_rfl, ?_⟩) (by assumption) ?_; rotate_left; (focus (intro w hSw; (try dsimp only at hSw); go_simp; all_goals with_reducible rfl)); (try simp only [Act.put, List.getElem_toArray, List.getElem_cons_succ, List.getElem_cons_zero, List.setIfInBounds_toArray, List.set_cons_zero, List.set_cons_succ]))
            (refine wpAnyH_take (i := 12) (v := ?_) rfl (by kernel_rfl) (by kernel_rfl) (by kernel_rfl) (fun _ _ _ h => h) (Or.inl ⟨by kernel_rfl, ?_⟩) (by assumption) ?_; rotate_left; (focus (intro w hSw; (try dsimp only at hSw); go_simp; all_goals with_reducible rfl)); (try simp only [Act.put, List.getElem_toArray, List.getElem_cons_succ, List.getElem_cons_zero, List.setIfInBounds_toArray, List.set_cons_zero, List.set_cons_succ]))
            (refine wpAnyH_take (i := 13) (v := ?_) rfl (by kernel_rfl) (by kernel_rfl) (by kernel_rfl) (fun _ _ _ h => h) (Or.inl ⟨by kernel_rfl, ?_⟩) (by assumption) ?_; rotate_left; (focus (intro w hSw; (try dsimp only at hSw); go_simp; all_goals with_reducible rfl)); (try simp only [Act.put, List.getElem_toArray, List.getElem_cons_succ, List.getElem_cons_zero, List.setIfInBounds_toArray, List.set_cons_zero, List.set_cons_succ]))
            (refine wpAnyH_take (i := 14) (v := ?_) rfl (by kernel_rfl) (by kernel_rfl) (by kernel_rfl) (fun _ _ _ h => h) (Or.inl ⟨by kernel_rfl, ?_⟩) (by assumption) ?_; rotate_left; (focus (intro w hSw; (try dsimp only at hSw); go_simp; all_goals with_reducible rfl)); (try simp only [Act.put, List.getElem_toArray, List.getElem_cons_succ, List.getElem_cons_zero, List.setIfInBounds_toArray, List.set_cons_zero, List.set_cons_succ]))
            (refine wpAnyH_take (i := 15) (v := ?_) rfl (by kernel_rfl) (by kernel_rfl) (by kernel_rfl) (fun _ _ _ h => h) (Or.inl ⟨by kernel_rfl, ?_⟩) (by assumption) ?_; rotate_left; (focus (intro w hSw; (try dsimp only at hSw); go_simp; all_goals with_reducible rfl)); (try simp only [Act.put, List.getElem_toArray, List.getElem_cons_succ, List.getElem_cons_zero, List.setIfInBounds_toArray, List.set_cons_zero, List.set_cons_succ]))
            (refine wpAnyH_take (i := 16) (v := ?_) rfl (by kernel_rfl) (by kernel_rfl) (by kernel_rfl) (fun _ _ _ h => h) (Or.inl ⟨by kernel_rfl, ?_⟩) (by assumption) ?_; rotate_left; (focus (intro w hSw; (try dsimp only at hSw); go_simp; all_goals with_reducible rfl)); (try simp only [Act.put, List.getElem_toArray, List.getElem_cons_succ, List.getElem_cons_zero, List.setIfInBounds_toArray, List.set_cons_zero, List.set_cons_succ]))
            (refine wpAnyH_take (i := 17) (v := ?_) rfl (by kernel_rfl) (by kernel_rfl) (by kernel_rfl) (fun _ _ _ h => h) (Or.inl ⟨by kernel_rfl, ?_⟩) (by assumption) ?_; rotate_left; (focus (intro w hSw; (try dsimp only at hSw); go_simp; all_goals with_reducible rfl)); (try simp only [Act.put, List.getElem_toArray, List.getElem_cons_succ, List.getElem_cons_zero, List.setIfInBounds_toArray, List.set_cons_zero, List.set_cons_succ]))
            (refine wpAnyH_take (i := 18) (v := ?_) rfl (by kernel_rfl) (by kernel_rfl) (by kernel_rfl) (fun _ _ _ h => h) (Or.inl ⟨by kernel_rfl, ?_⟩) (by assumption) ?_; rotate_left; (focus (intro w hSw; (try dsimp only at hSw); go_simp; all_goals with_reducible rfl)); (try simp only [Act.put, List.getElem_toArray, List.getElem_cons_succ, List.getElem_cons_zero, List.setIfInBounds_toArray, List.set_cons_zero, List.set_cons_succ]))
            (refine wpAnyH_take (i := 19) (v := ?_) rfl (by kernel_rfl) (by kernel_rfl) (by kernel_rfl) (fun _ _ _ h => h) (Or.inl ⟨by kernel_rfl, ?_⟩) (by assumption) ?_; rotate_left; (focus (intro w hSw; (try dsimp only at hSw); go_simp; all_goals with_reducible rfl)); (try simp only [Act.put, List.getElem_toArray, List.getElem_cons_succ, List.getElem_cons_zero, List.setIfInBounds_toArray, List.set_cons_zero, List.set_cons_succ]))
            (refine wpAnyH_take (i := 20) (v := ?_) rfl (by kernel_rfl) (by kernel_rfl) (by kernel_rfl) (fun _ _ _ h => h) (Or.inl ⟨by kernel_rfl, ?_⟩) (by assumption) ?_; rotate_left; (focus (intro w hSw; (try dsimp only at hSw); go_simp; all_goals with_reducible rfl)); (try simp only [Act.put, List.getElem_toArray, List.getElem_cons_succ, List.getElem_cons_zero, List.setIfInBounds_toArray, List.set_cons_zero, List.set_cons_succ]))
            (refine wpAnyH_ready (rs := [21]) (by kernel_rfl) (by simp) ?_; refine AllReadyH.cons rfl (fun K hK => ?_) AllReadyH.nil)
            go_simp
            (refine hK.out _ _ (HS4.out) (fun hHeld => ?_); clear hK K; (try simp only [Act.put, List.getElem_toArray, List.getElem_cons_succ, List.getElem_cons_zero, List.setIfInBounds_toArray, List.set_cons_zero, List.set_cons_succ]))
            (refine wpAnyH_done (by kernel_rfl) ?_ _)
            clear hHeld
            go_wp2
            go_roundw
            case rel => exact ⟨i + 1, by omega, by go_num, HK, HAr⟩
            case measure => simp [intOf]; omega
          · have hbn' : ¬ (base i : Int) < k := by omega
            have HA : Hid (Arr wr w.heap.size k (vec (scF (fun _ => 0) base (fun q => T q L) (i + 1)))) := Lib.hid (har.out.congr fun j hj => by unfold vec; rw [scF_other _ base _ (by omega)])
            clear har hbb hAi
            go_wp2
            go_roundw
            case rel => exact ⟨i + 1, by omega, by go_num, hkp, HA⟩
            case measure => simp [intOf]; omega
        · obtain rfl : i = m := by omega
          clear hlti
          go_wp2
          go_ret
          exact ⟨w.heap.size, Nat.le_refl _, rfl, har.out, HX.out wr hkp.out⟩
end Go.Proofs.YthcmopgdjibojaaGreatDoor.smp

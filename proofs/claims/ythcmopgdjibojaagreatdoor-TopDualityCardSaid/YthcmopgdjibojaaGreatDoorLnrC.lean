import Derived.Test.YthcmopgdjibojaaGreatDoorLnrX
import Derived.RegionTactic
import Derived.BigRegion
import Derived.Deep.DeepCutAuto
/- linear: Fits. -/
namespace Go.Proofs.YthcmopgdjibojaaGreatDoor.lnr
open Go.RowKit
open Go.Proofs.YthcmopgdjibojaaGreatDoor.lib Go.Proofs.YthcmopgdjibojaaGreatDoor.app Go.Proofs.YthcmopgdjibojaaGreatDoor.nt Go.Proofs.YthcmopgdjibojaaGreatDoor.rd Go.Proofs.YthcmopgdjibojaaGreatDoor.wh Go.Proofs.YthcmopgdjibojaaGreatDoor.smx Go.Proofs.YthcmopgdjibojaaGreatDoor.rat Go.Proofs.YthcmopgdjibojaaGreatDoor.typ
set_option linter.unusedVariables false
set_option linter.unusedSimpArgs false

set_option maxRecDepth 20000 in
set_option maxHeartbeats 4000000 in
theorem fits_any (C0 : Option Addr) (c0 : Nat) (C1 : Option Addr) (c1 : Nat) (t : Lnr) (h0 : LnOk t) (hn8 : t.cost.length ≤ 8) (hm6 : t.rows.length ≤ 6) (A' : Option Addr) (c' : Nat) (q : Nat → Rat)
    (hq : ∀ i, i < t.cost.length → Dg 200 (q i)) (hq0 : ∀ i, i < t.cost.length → 0 ≤ q i) (hh : ∀ r ∈ t.rows, Lp.Holds r.kind (dot r.coef q t.cost.length) (r.right : Rat))
    (w : World) (B B' : Nat) (hB : B ≤ w.heap.size) (hB' : B' ≤ w.heap.size) (hl : RowAt rLrw w B C1 t.rows) (hr : Rats w B' A' t.cost.length q) (ht : TabT w) :
    Calls Tryz.prog 11 #[LnV t.cost.length t.rows.length C0 c0 C1 c1, .slice A' t.cost.length c'] w fun e w' => e = .returned (.bool true) ∧ Below w.heap.size w w' := by
  have hlen := hl.len
  obtain ⟨n, hn⟩ : ∃ n, t.cost.length = n := ⟨_, rfl⟩
  have HK : Hid (∀ r ∈ t.rows, r.coef.length = n ∧ 1 ≤ r.kind ∧ r.kind ≤ 3) := Lib.hid (by rw [← hn]; exact h0)
  obtain ⟨l, hl'⟩ : ∃ l, t.rows = l := ⟨_, rfl⟩
  rw [hn] at hn8 hq hq0 hr hh ⊢
  rw [hl'] at HK hl hm6 hlen hh ⊢
  clear h0 hn hl'
  unfold LnV
  obtain ⟨m, hm⟩ : ∃ m, l.length = m := ⟨_, rfl⟩
  have HM := Lib.hid hm
  have HRI : Hid (∀ i, i < n → ∀ w', Below w.heap.size w w' → Calls Tryz.prog 34 #[.string (ratS (q i))] w' fun e w2 => e = .returned (.bool true) ∧ Below w'.heap.size w' w2) := Lib.hid (fun i hi w' h => rright_any (q i) ((hq i hi).mono (by omega)) w' (ht.below h))
  have HSI : Hid (∀ i, i < n → ∀ w', Below w.heap.size w w' → Calls Tryz.prog 42 #[.string (ratS (q i))] w' fun e w2 => e = .returned (.int .i64 (sgnQ (q i))) ∧ Below w'.heap.size w' w2) := Lib.hid (fun i hi w' h => rsign_any (q i) ((hq i hi).mono (by omega)) w' (ht.below h))
  have HS0 : Hid (∀ i, i < n → 0 ≤ sgnQ (q i)) := Lib.hid (fun i hi => Int.not_lt.1 fun h => Rat.not_le.2 (sgnQ_neg.1 h) (hq0 i hi))
  have hdg : ∀ r ∈ l, Dg 2000 (dot r.coef q n) := fun r hr => by
    obtain ⟨k, hk⟩ := List.getElem?_of_mem hr
    obtain ⟨ad, D0, d0, _, _, _, hI, hF⟩ := row_Lrw hl hk
    have hc := (HK.out r hr).1
    have h := sum_dg (f := fun i => (((r.coef[i]?.getD 0 : Int)) : Rat) * q i) (e := 219) (n := n) (fun i hi => by
      have hx := hF.1 (r.coef[i]'(by omega)) (List.getElem_mem _)
      rw [List.getElem?_eq_getElem (by omega)]
      exact (Dg.int (i64_digits hx.1 hx.2) (by omega)).mul (hq i (by omega)))
    refine h.mono ?_
    have : n * (219 + 1) ≤ 8 * (219 + 1) := Nat.mul_le_mul_right _ hn8
    omega
  have HLE : Hid (∀ (k : Nat) (r : Lrw), l[k]? = some r → ∀ w', Below w.heap.size w w' → Calls Tryz.prog 43 #[LnV n l.length C0 c0 C1 c1, .int .i64 k, .slice A' n c'] w' (RatOut w' (dot r.coef q n))) := Lib.hid (fun k r hk w' h => left_any C0 c0 C1 c1 n l k r hk A' c' q (HK.out r (List.mem_of_getElem? hk)).1 hn8 hq w' B B' (Nat.le_trans hB h.size) (Nat.le_trans hB' h.size) (hl.below (h.mono hB)) (hr.below (h.mono hB')) (ht.below h))
  have HHO : Hid (∀ r ∈ l, i64Q r.right → ∀ w', Below w.heap.size w w' → Calls Tryz.prog 44 #[.int .i64 r.kind, .string (ratS (dot r.coef q n)), .string (ratS (r.right : Rat))] w' fun e w2 => e = .returned (.bool true) ∧ Below w'.heap.size w' w2) := Lib.hid (fun r hm h64 w' h => holds_any r.kind (HK.out r hm).2 _ _ (hh r hm) ((hdg r hm).mono (by omega)) ((Dg.int (i64_digits h64.1 h64.2) (by omega)).mono (by omega)) w' (ht.below h))
  have HOF : Hid (∀ z, i64Q z → ∀ w', Below w.heap.size w w' → Calls Tryz.prog 45 #[.int .i64 z] w' fun e w2 => e = .returned (.string (ratS (z : Rat))) ∧ Below w'.heap.size w' w2) := Lib.hid (fun z h64 w' h => rof_any z h64.1 h64.2 w' (ht.below h))
  unfold RatOut LnV at HLE
  rw [hm] at hm6 hlen HLE ⊢
  have hbelr : ∀ w', Below w.heap.size w w' → RowAt rLrw w' B C1 l := fun w' h => hl.below (h.mono hB)
  have hbelx : ∀ w', Below w.heap.size w w' → Rats w' B' A' n q := fun w' h => hr.below (h.mono hB')
  clear hm hq hq0 hh hdg ht hl hr
  go_enter Tryz.func11, Tryz.ntmps11
  go_wp2
  go_loopw [19] (fun i wr => ∃ k : Nat, k ≤ n ∧ i = .int .i64 k ∧ Below w.heap.size w wr ∧ w.heap.size < wr.heap.size ∧ PBox wr w.heap.size n m C0 c0 C1 c1) (fun i _ => n - (intOf i).toNat)
  case atStart => exact ⟨0, by omega, rfl, by repeat (first | assumption | exact Below.refl _ _ | refine Below.drew ?_ | refine Below.alloc ?_ (by first | omega | (simp <;> omega)) _ | refine Below.setCell ?_ (by first | omega | (simp <;> omega)) _), by simp, by simp [PBox]⟩
  case round =>
    obtain ⟨k, hk, rfl, hbel, hsz, ⟨b0, b1⟩⟩ := hrel
    by_cases hlt : k < n
    · obtain ⟨ad, rfl, hadb, hcx⟩ := (hbelx _ hbel).at_ hlt
      have hlen' : n ≤ 17592186043904 := by omega
      have HR := Lib.hid (fun (w' : World) (h : Below w.heap.size w w') => HRI.out k hlt w' h)
      have HS := Lib.hid (fun (w' : World) (h : Below w.heap.size w w') => HSI.out k hlt w' h)
      have hs0 := HS0.out k hlt
      generalize sgnQ (q k) = s at HS hs0
      generalize ratS (q k) = S at HR HS hcx
      go_wp2_with (first | (go_at_call 34; (with_reducible refine (HR.out _ hbel).mono ?_); rintro e w2 ⟨rfl, hb2⟩; have hbl2 := hbel.trans (hb2.mono hbel.size)) | (go_at_call 42; (with_reducible refine (HS.out _ hbl2).mono ?_); rintro e w3 ⟨rfl, hb3⟩; have hbl3 := hbl2.trans (hb3.mono hbl2.size)))
      go_roundw
      case rel => exact ⟨k + 1, by omega, by go_num, hbl3, Nat.lt_of_lt_of_le hsz (Nat.le_trans hb2.size hb3.size), PBox.below (B := w2.heap.size) (PBox.below (B := wr.heap.size) ⟨b0, b1⟩ hb2 hsz) hb3 (Nat.lt_of_lt_of_le hsz hb2.size)⟩
      case measure => simp [intOf]; omega
    · obtain rfl : k = n := by omega
      clear hlt
      obtain ⟨wo, hwo⟩ : ∃ wo : World, wo = wr := ⟨_, rfl⟩
      subst hwo
      go_wp2
      go_loopw [35] (fun i wr => ∃ j : Nat, j ≤ m ∧ i = .int .i64 j ∧ Below w.heap.size w wr ∧ w.heap.size < wr.heap.size ∧ PBox wr w.heap.size k m C0 c0 C1 c1) (fun i _ => m - (intOf i).toNat)
      case atStart => exact ⟨0, by omega, rfl, hbel, hsz, b0, b1⟩
      case round =>
        obtain ⟨j, hj, rfl, hbel', hsz', ⟨b0', b1'⟩⟩ := hrel
        by_cases hlt : j < m
        · obtain ⟨r, ad, D0, d0, hx, rfl, hadb, ⟨k0, k1, k2⟩, hI, hF⟩ := row_at (hbelr _ hbel') (k := j) (by rw [HM.out]; exact hlt)
          have hmem := List.mem_of_getElem? hx
          have hb' : (ad.add (j * 3)).block < wr.heap.size := by rw [block_of_add]; omega
          have HL := Lib.hid (fun (w' : World) (h : Below w.heap.size w w') => HLE.out j r hx w' h)
          have HH := Lib.hid (fun (w' : World) (h : Below w.heap.size w w') => HHO.out r hmem hF.2.2 w' h)
          have HO := Lib.hid (fun (w' : World) (h : Below w.heap.size w w') => HOF.out r.right hF.2.2 w' h)
          generalize ratS (dot r.coef q k) = S at HL HH
          generalize ratS (r.right : Rat) = R at HH HO
          generalize r.kind = kd at k1 HH
          generalize r.right = rg at k2 HO
          clear hx hI hF hmem
          go_upto_region 13 with (go_at_call 43; (with_reducible refine (HL.out _ (by exact by repeat (first | assumption | exact Below.refl _ _ | refine Below.drew ?_ | refine Below.alloc ?_ (by first | omega | (simp <;> omega)) _ | refine Below.setCell ?_ (by first | omega | (simp <;> omega)) _))).mono ?_); rintro e w2 ⟨rfl, hb2⟩; have hbl2 : Below w.heap.size w w2 := Below.trans (by repeat (first | assumption | exact Below.refl _ _ | refine Below.drew ?_ | refine Below.alloc ?_ (by first | omega | (simp <;> omega)) _ | refine Below.setCell ?_ (by first | omega | (simp <;> omega)) _)) (hb2.mono (by simp; omega)); have hbr2 : Below wr.heap.size wr w2 := Below.trans (by repeat (first | assumption | exact Below.refl _ _ | refine Below.drew ?_ | refine Below.alloc ?_ (by first | omega | (simp <;> omega)) _ | refine Below.setCell ?_ (by first | omega | (simp <;> omega)) _)) (hb2.mono (by simp)); have hsz2 : wr.heap.size < w2.heap.size := (by have := hb2.size; simp at this; omega); have r1 := hb2.cell (p := ⟨wr.heap.size, 1, none⟩) (by simp); have r2 := hb2.cell (p := ⟨wr.heap.size, 2, none⟩) (by simp); simp at r1 r2)
          (refine wp_region_held_drew (S := (fun w' => w'.cell? ⟨wr.heap.size, 1, none⟩ = some (.int .i64 kd) ∧ w'.cell? ⟨wr.heap.size, 2, none⟩ = some (.int .i64 rg))) (by kernel_rfl) ?_ (fun hHeld => ?_))
          · exact ⟨r1, r2⟩
          (refine wpAnyH_take (i := 0) (v := ?_) rfl (by kernel_rfl) (by kernel_rfl) (by kernel_rfl) (fun _ _ _ h => h) (Or.inl ⟨by kernel_rfl, ?_⟩) (by assumption) ?_; rotate_left; (focus (intro w hSw; (try dsimp only at hSw); go_simp; all_goals with_reducible rfl)); (try simp only [Act.put, List.getElem_toArray, List.getElem_cons_succ, List.getElem_cons_zero, List.setIfInBounds_toArray, List.set_cons_zero, List.set_cons_succ]))
          (refine wpAnyH_take (i := 1) (v := ?_) rfl (by kernel_rfl) (by kernel_rfl) (by kernel_rfl) (fun _ _ _ h => h) (Or.inl ⟨by kernel_rfl, ?_⟩) (by assumption) ?_; rotate_left; (focus (intro w hSw; (try dsimp only at hSw); go_simp; all_goals with_reducible rfl)); (try simp only [Act.put, List.getElem_toArray, List.getElem_cons_succ, List.getElem_cons_zero, List.setIfInBounds_toArray, List.set_cons_zero, List.set_cons_succ]))
          (refine wpAnyH_take (i := 2) (v := ?_) rfl (by kernel_rfl) (by kernel_rfl) (by kernel_rfl) (fun _ _ _ h => h) (Or.inl ⟨by kernel_rfl, ?_⟩) (by assumption) ?_; rotate_left; (focus (intro w hSw; (try dsimp only at hSw); go_simp; all_goals with_reducible rfl)); (try simp only [Act.put, List.getElem_toArray, List.getElem_cons_succ, List.getElem_cons_zero, List.setIfInBounds_toArray, List.set_cons_zero, List.set_cons_succ]))
          (refine wpAnyH_take (i := 3) (v := ?_) rfl (by kernel_rfl) (by kernel_rfl) (by kernel_rfl) (fun _ _ _ h => h) (Or.inl ⟨by kernel_rfl, ?_⟩) (by assumption) ?_; rotate_left; (focus (intro w hSw; (try dsimp only at hSw); go_simp; all_goals with_reducible rfl)); (try simp only [Act.put, List.getElem_toArray, List.getElem_cons_succ, List.getElem_cons_zero, List.setIfInBounds_toArray, List.set_cons_zero, List.set_cons_succ]))
          (refine wpAnyH_take (i := 4) (v := ?_) rfl (by kernel_rfl) (by kernel_rfl) (by kernel_rfl) (fun _ _ _ h => h) (Or.inl ⟨by kernel_rfl, ?_⟩) (by assumption) ?_; rotate_left; (focus (intro w hSw; (try dsimp only at hSw); go_simp; all_goals with_reducible rfl)); (try simp only [Act.put, List.getElem_toArray, List.getElem_cons_succ, List.getElem_cons_zero, List.setIfInBounds_toArray, List.set_cons_zero, List.set_cons_succ]))
          (refine wpAnyH_take (i := 5) (v := ?_) rfl (by kernel_rfl) (by kernel_rfl) (by kernel_rfl) (fun _ _ _ h => h) (Or.inl ⟨by kernel_rfl, ?_⟩) (by assumption) ?_; rotate_left; (focus (intro w hSw; (try dsimp only at hSw); go_simp; all_goals with_reducible rfl)); (try simp only [Act.put, List.getElem_toArray, List.getElem_cons_succ, List.getElem_cons_zero, List.setIfInBounds_toArray, List.set_cons_zero, List.set_cons_succ]))
          (refine wpAnyH_take (i := 6) (v := ?_) rfl (by kernel_rfl) (by kernel_rfl) (by kernel_rfl) (fun _ _ _ h => h) (Or.inl ⟨by kernel_rfl, ?_⟩) (by assumption) ?_; rotate_left; (focus (intro w hSw; (try dsimp only at hSw); go_simp; all_goals with_reducible rfl)); (try simp only [Act.put, List.getElem_toArray, List.getElem_cons_succ, List.getElem_cons_zero, List.setIfInBounds_toArray, List.set_cons_zero, List.set_cons_succ]))
          (refine wpAnyH_take (i := 7) (v := ?_) rfl (by kernel_rfl) (by kernel_rfl) (by kernel_rfl) (fun _ _ _ h => h) (Or.inl ⟨by kernel_rfl, ?_⟩) (by assumption) ?_; rotate_left; (focus (intro w hSw; (try dsimp only at hSw); go_simp; all_goals with_reducible rfl)); (try simp only [Act.put, List.getElem_toArray, List.getElem_cons_succ, List.getElem_cons_zero, List.setIfInBounds_toArray, List.set_cons_zero, List.set_cons_succ]))
          (refine wpAnyH_ready (rs := [8]) (by kernel_rfl) (by simp) ?_; refine AllReadyH.cons rfl (fun K hK => ?_) AllReadyH.nil; go_simp)
          go_at_call 45
          (with_reducible refine (HO.out _ hbl2.drew).mono ?_)
          rintro e w3 ⟨rfl, hb3⟩
          have hbl3 : Below w.heap.size w w3 := hbl2.drew.trans (hb3.mono hbl2.size)
          have hbr3 : Below wr.heap.size wr w3 := hbr2.drew.trans (hb3.mono hbr2.size)
          have s1 := (hb3.cell (p := ⟨wr.heap.size, 1, none⟩) hsz2).trans r1
          have s2 := (hb3.cell (p := ⟨wr.heap.size, 2, none⟩) hsz2).trans r2
          have hsz3 : wr.heap.size < w3.heap.size := Nat.lt_of_lt_of_le hsz2 hb3.size
          (refine hK.out _ _ ?_ (fun hHeld => ?_))
          · exact ⟨s1, s2⟩
          clear hK K
          (try simp only [Act.put, List.getElem_toArray, List.getElem_cons_succ, List.getElem_cons_zero, List.setIfInBounds_toArray, List.set_cons_zero, List.set_cons_succ])
          (refine wpAnyH_ready (rs := [9]) (by kernel_rfl) (by simp) ?_; refine AllReadyH.cons rfl (fun K hK => ?_) AllReadyH.nil; go_simp)
          go_at_call 44
          (with_reducible refine (HH.out _ hbl3).mono ?_)
          rintro e w4 ⟨rfl, hb4⟩
          have hbl4 : Below w.heap.size w w4 := hbl3.trans (hb4.mono hbl3.size)
          have hbr4 : Below wr.heap.size wr w4 := hbr3.trans (hb4.mono hbr3.size)
          have t1 := (hb4.cell (p := ⟨wr.heap.size, 1, none⟩) hsz3).trans s1
          have t2 := (hb4.cell (p := ⟨wr.heap.size, 2, none⟩) hsz3).trans s2
          have hsz4 : wr.heap.size < w4.heap.size := Nat.lt_of_lt_of_le hsz3 hb4.size
          (refine hK.out _ _ ?_ (fun hHeld => ?_))
          · exact ⟨t1, t2⟩
          clear hK K
          (try simp only [Act.put, List.getElem_toArray, List.getElem_cons_succ, List.getElem_cons_zero, List.setIfInBounds_toArray, List.set_cons_zero, List.set_cons_succ])
          (refine wpAnyH_take (i := 10) (v := ?_) rfl (by kernel_rfl) (by kernel_rfl) (by kernel_rfl) (fun _ _ _ h => h) (Or.inl ⟨by kernel_rfl, ?_⟩) (by assumption) ?_; rotate_left; (focus (intro w hSw; (try dsimp only at hSw); go_simp; all_goals with_reducible rfl)); (try simp only [Act.put, List.getElem_toArray, List.getElem_cons_succ, List.getElem_cons_zero, List.setIfInBounds_toArray, List.set_cons_zero, List.set_cons_succ]))
          (refine wpAnyH_take (i := 11) (v := ?_) rfl (by kernel_rfl) (by kernel_rfl) (by kernel_rfl) (fun _ _ _ h => h) (Or.inl ⟨by kernel_rfl, ?_⟩) (by assumption) ?_; rotate_left; (focus (intro w hSw; (try dsimp only at hSw); go_simp; all_goals with_reducible rfl)); (try simp only [Act.put, List.getElem_toArray, List.getElem_cons_succ, List.getElem_cons_zero, List.setIfInBounds_toArray, List.set_cons_zero, List.set_cons_succ]))
          (refine wpAnyH_done (by kernel_rfl) ?_ _)
          clear hHeld
          go_wp2
          go_roundw
          case rel => exact ⟨j + 1, by omega, by go_num, hbl4, Nat.lt_trans hsz' hsz4, PBox.below (B := wr.heap.size) ⟨b0', b1'⟩ hbr4 hsz'⟩
          case measure => simp [intOf]; omega
        · obtain rfl : j = m := by omega
          clear hlt
          go_wp2
          go_ret
          exact ⟨rfl, hbel'⟩
end Go.Proofs.YthcmopgdjibojaaGreatDoor.lnr

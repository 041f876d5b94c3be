/- simplex: falls. -/
import Derived.Test.YthcmopgdjibojaaGreatDoorSmpN
namespace Go.Proofs.YthcmopgdjibojaaGreatDoor.smp
open Go.RowKit
open Go.Proofs.YthcmopgdjibojaaGreatDoor.lib Go.Proofs.YthcmopgdjibojaaGreatDoor.app Go.Proofs.YthcmopgdjibojaaGreatDoor.nt Go.Proofs.YthcmopgdjibojaaGreatDoor.rd Go.Proofs.YthcmopgdjibojaaGreatDoor.wh Go.Proofs.YthcmopgdjibojaaGreatDoor.smx Go.Proofs.YthcmopgdjibojaaGreatDoor.rat Go.Proofs.YthcmopgdjibojaaGreatDoor.lnr Go.Proofs.YthcmopgdjibojaaGreatDoor.typ
set_option linter.unusedVariables false
set_option linter.unusedSimpArgs false

set_option maxRecDepth 20000 in
set_option maxHeartbeats 4000000 in
theorem falls_any (C0 : Option Addr) (c0 : Nat) (C1 : Option Addr) (c1 : Nat) (t : Lnr) (h0 : LnOk t) (h64 : LnrFits t) (hn8 : t.cost.length ≤ 8) (hm6 : t.rows.length ≤ 6) (A' : Option Addr) (c' : Nat) (q : Nat → Rat)
    (hq : ∀ i, i < t.cost.length → Dg 200 (q i)) (hq0 : ∀ i, i < t.cost.length → 0 ≤ q i) (hh : ∀ r ∈ t.rows, Lp.Holds r.kind (dot r.coef q t.cost.length) 0) (hv : dot t.cost q t.cost.length < 0)
    (w : World) (B B' : Nat) (hB : B ≤ w.heap.size) (hB' : B' ≤ w.heap.size) (hI : Ints w B C0 t.cost) (hl : RowAt rLrw w B C1 t.rows) (hr : Rats w B' A' t.cost.length q) (ht : TabT w) :
    Calls Tryz.prog 36 #[LnV t.cost.length t.rows.length C0 c0 C1 c1, .slice A' t.cost.length c'] w fun e w' => e = .returned (.bool true) ∧ Below w.heap.size w w' := by
  have hlen := hl.len
  have hdgv : Dg 2000 (dot t.cost q t.cost.length) := by
    have h := sum_dg (f := fun i => (((t.cost[i]?.getD 0 : Int)) : Rat) * q i) (e := 219) (n := t.cost.length) (fun i hi => by
      have hx := h64 (t.cost[i]'(by omega)) (List.getElem_mem _)
      rw [List.getElem?_eq_getElem (by omega)]
      exact (Dg.int (i64_digits hx.1 hx.2) (by omega)).mul (hq i (by omega)))
    refine h.mono ?_
    have : t.cost.length * (219 + 1) ≤ 8 * (219 + 1) := Nat.mul_le_mul_right _ hn8
    omega
  have HVA := Lib.hid (fun (w' : World) (h : Below w.heap.size w w') => value_any C0 c0 C1 c1 t.rows.length t.cost A' c' q hn8 h64 hq w' B B' (Nat.le_trans hB h.size) (Nat.le_trans hB' h.size) (hI.below (h.mono hB)) (hr.below (h.mono hB')) (ht.below h))
  have HVS := Lib.hid (fun (w' : World) (h : Below w.heap.size w w') => rsign_any _ (hdgv.mono (by omega)) w' (ht.below h))
  have hvs := sgnQ_neg.2 hv
  obtain ⟨n, hn⟩ : ∃ n, t.cost.length = n := ⟨_, rfl⟩
  have HK : Hid (∀ r ∈ t.rows, r.coef.length = n ∧ 1 ≤ r.kind ∧ r.kind ≤ 3) := Lib.hid (by rw [← hn]; exact h0)
  obtain ⟨l, hl'⟩ : ∃ l, t.rows = l := ⟨_, rfl⟩
  rw [hn] at hn8 hq hq0 hr hh HVA HVS hvs ⊢
  rw [hl'] at HK hl hm6 hlen hh HVA ⊢
  clear h0 hn hl' hdgv hv h64
  unfold RatOut at HVA
  unfold LnV at HVA ⊢
  generalize sgnQ (dot t.cost q n) = sv at HVS hvs
  generalize ratS (dot t.cost q n) = SV at HVA HVS
  obtain ⟨m, hm⟩ : ∃ m, l.length = m := ⟨_, rfl⟩
  have HM := Lib.hid hm
  have HSI : Hid (∀ i, i < n → ∀ w', Below w.heap.size w w' → Calls Tryz.prog 42 #[.string (ratS (q i))] w' fun e w2 => e = .returned (.int .i64 (sgnQ (q i))) ∧ Below w'.heap.size w' w2) := Lib.hid (fun i hi w' h => rsign_any (q i) ((hq i hi).mono (by omega)) w' (ht.below h))
  have HS0 : Hid (∀ i, i < n → ¬ sgnQ (q i) < 0) := Lib.hid (fun i hi h => Rat.not_le.2 (sgnQ_neg.1 h) (hq0 i hi))
  have hdg : ∀ r ∈ l, Dg 2000 (dot r.coef q n) := fun r hr => by
    obtain ⟨k, hk⟩ := List.getElem?_of_mem hr
    obtain ⟨ad, D0, d0, _, _, _, hI, hF⟩ := row_Lrw hl hk
    have hc := (HK.out r hr).1
    have h := sum_dg (f := fun i => (((r.coef[i]?.getD 0 : Int)) : Rat) * q i) (e := 219) (n := n) (fun i hi => by
      have hx := hF.1 (r.coef[i]'(by omega)) (List.getElem_mem _)
      rw [List.getElem?_eq_getElem (by omega)]
      exact (Dg.int (i64_digits hx.1 hx.2) (by omega)).mul (hq i (by omega)))
    refine h.mono ?_
    have : n * (219 + 1) ≤ 8 * (219 + 1) := Nat.mul_le_mul_right _ hn8
    omega
  have HLE : Hid (∀ (k : Nat) (r : Lrw), l[k]? = some r → ∀ w', Below w.heap.size w w' → Calls Tryz.prog 43 #[LnV n l.length C0 c0 C1 c1, .int .i64 k, .slice A' n c'] w' (RatOut w' (dot r.coef q n))) := Lib.hid (fun k r hk w' h => left_any C0 c0 C1 c1 n l k r hk A' c' q (HK.out r (List.mem_of_getElem? hk)).1 hn8 hq w' B B' (Nat.le_trans hB h.size) (Nat.le_trans hB' h.size) (hl.below (h.mono hB)) (hr.below (h.mono hB')) (ht.below h))
  have HSL : Hid (∀ r ∈ l, ∀ w', Below w.heap.size w w' → Calls Tryz.prog 42 #[.string (ratS (dot r.coef q n))] w' fun e w2 => e = .returned (.int .i64 (sgnQ (dot r.coef q n))) ∧ Below w'.heap.size w' w2) := Lib.hid (fun r hm w' h => rsign_any _ ((hdg r hm).mono (by omega)) w' (ht.below h))
  have HSK : Hid (∀ r ∈ l, (r.kind = 1 → ¬ 0 < sgnQ (dot r.coef q n)) ∧ (r.kind = 2 → sgnQ (dot r.coef q n) = 0) ∧ (r.kind = 3 → ¬ sgnQ (dot r.coef q n) < 0)) := Lib.hid (fun r hm => by
    obtain ⟨h1, h2, h3⟩ := hh r hm
    exact ⟨fun h hp => Rat.not_le.2 (sgnQ_pos.1 hp) (h1 h), fun h => sgnQ_zero.2 (h2 h), fun h hp => Rat.not_le.2 (sgnQ_neg.1 hp) (h3 h)⟩)
  unfold RatOut LnV at HLE
  rw [hm] at hm6 hlen HLE HVA ⊢
  have hbelr : ∀ w', Below w.heap.size w w' → RowAt rLrw w' B C1 l := fun w' h => hl.below (h.mono hB)
  have hbelx : ∀ w', Below w.heap.size w w' → Rats w' B' A' n q := fun w' h => hr.below (h.mono hB')
  clear hm hq hq0 hh hdg ht hl hr hI
  go_enter Tryz.func36, Tryz.ntmps36
  go_wp2
  go_loopw [16] (fun i wr => ∃ k : Nat, k ≤ n ∧ i = .int .i64 k ∧ Below w.heap.size w wr ∧ w.heap.size < wr.heap.size ∧ PBox wr w.heap.size n m C0 c0 C1 c1) (fun i _ => n - (intOf i).toNat)
  case atStart => exact ⟨0, by omega, rfl, by repeat (first | assumption | exact Below.refl _ _ | refine Below.drew ?_ | refine Below.alloc ?_ (by first | omega | (simp <;> omega)) _ | refine Below.setCell ?_ (by first | omega | (simp <;> omega)) _), by simp, by simp [PBox]⟩
  case round =>
    obtain ⟨k, hk, rfl, hbel, hsz, ⟨b0, b1⟩⟩ := hrel
    by_cases hlt : k < n
    · obtain ⟨ad, rfl, hadb, hcx⟩ := (hbelx _ hbel).at_ hlt
      have HS := Lib.hid (fun (w' : World) (h : Below w.heap.size w w') => HSI.out k hlt w' h)
      have hs0 := HS0.out k hlt
      generalize sgnQ (q k) = s at HS hs0
      generalize ratS (q k) = S at HS hcx
      go_wp2_with (go_at_call 42; (with_reducible refine (HS.out _ hbel).mono ?_); rintro e w3 ⟨rfl, hb3⟩; have hbl3 := hbel.trans (hb3.mono hbel.size))
      go_roundw
      case rel => exact ⟨k + 1, by omega, by go_num, hbl3, Nat.lt_of_lt_of_le hsz hb3.size, PBox.below (B := wr.heap.size) ⟨b0, b1⟩ hb3 hsz⟩
      case measure => simp [intOf]; omega
    · obtain rfl : k = n := by omega
      clear hlt
      obtain ⟨wo, hwo⟩ : ∃ wo : World, wo = wr := ⟨_, rfl⟩
      subst hwo
      go_wp2
      go_loopw [27] (fun i wr => ∃ j : Nat, j ≤ m ∧ i = .int .i64 j ∧ Below w.heap.size w wr ∧ w.heap.size < wr.heap.size ∧ PBox wr w.heap.size k m C0 c0 C1 c1) (fun i _ => m - (intOf i).toNat)
      case atStart => exact ⟨0, by omega, rfl, hbel, hsz, b0, b1⟩
      case round =>
        obtain ⟨j, hj, rfl, hbel', hsz', ⟨b0', b1'⟩⟩ := hrel
        by_cases hlt : j < m
        · obtain ⟨r, ad, D0, d0, hx, rfl, hadb, ⟨k0, k1, k2⟩, hI, hF⟩ := row_at (hbelr _ hbel') (k := j) (by rw [HM.out]; exact hlt)
          have hmem := List.mem_of_getElem? hx
          have hb' : (ad.add (j * 3)).block < wr.heap.size := by rw [block_of_add]; omega
          have HL := Lib.hid (fun (w' : World) (h : Below w.heap.size w w') => HLE.out j r hx w' h)
          have HH := Lib.hid (fun (w' : World) (h : Below w.heap.size w w') => HSL.out r hmem w' h)
          obtain ⟨s1, s2, s3⟩ := HSK.out r hmem
          have hkd : r.kind = 1 ∨ r.kind = 2 ∨ r.kind = 3 := by have := (HK.out r hmem).2; omega
          generalize sgnQ (dot r.coef q k) = sg at HH s1 s2 s3
          generalize ratS (dot r.coef q k) = S at HL HH
          generalize r.kind = kd at k1 s1 s2 s3 hkd
          generalize r.right = rg at k2
          clear hx hI hF hmem
          rcases hkd with rfl | rfl | rfl
          · have s1' := s1 rfl
            clear s1 s2 s3
            go_wp2_with (first | (go_at_call 43; (with_reducible refine (HL.out _ (by exact by repeat (first | assumption | exact Below.refl _ _ | refine Below.drew ?_ | refine Below.alloc ?_ (by first | omega | (simp <;> omega)) _ | refine Below.setCell ?_ (by first | omega | (simp <;> omega)) _))).mono ?_); rintro e w2 ⟨rfl, hb2⟩; have hbl2 : Below w.heap.size w w2 := Below.trans (by repeat (first | assumption | exact Below.refl _ _ | refine Below.drew ?_ | refine Below.alloc ?_ (by first | omega | (simp <;> omega)) _ | refine Below.setCell ?_ (by first | omega | (simp <;> omega)) _)) (hb2.mono (by simp; omega)); have hbr2 : Below wr.heap.size wr w2 := Below.trans (by repeat (first | assumption | exact Below.refl _ _ | refine Below.drew ?_ | refine Below.alloc ?_ (by first | omega | (simp <;> omega)) _ | refine Below.setCell ?_ (by first | omega | (simp <;> omega)) _)) (hb2.mono (by simp)); have hsz2 : wr.heap.size < w2.heap.size := (by have := hb2.size; simp at this; omega); have r1 := hb2.cell (p := ⟨wr.heap.size, 1, none⟩) (by simp); simp at r1) | (go_at_call 42; (with_reducible refine (HH.out _ hbl2).mono ?_); rintro e w3 ⟨rfl, hb3⟩; have hbl3 := hbl2.trans (hb3.mono hbl2.size); have hbr3 : Below wr.heap.size wr w3 := hbr2.trans (hb3.mono hbr2.size); have q1 := (hb3.cell (p := ⟨wr.heap.size, 1, none⟩) hsz2).trans r1))
            go_roundw
            case rel => exact ⟨j + 1, by omega, by go_num, hbl3, Nat.lt_of_lt_of_le hsz' hbr3.size, PBox.below (B := wr.heap.size) ⟨b0', b1'⟩ hbr3 hsz'⟩
            case measure => simp [intOf]; omega
          · have s2' := s2 rfl
            clear s1 s2 s3
            subst s2'
            go_wp2_with (first | (go_at_call 43; (with_reducible refine (HL.out _ (by exact by repeat (first | assumption | exact Below.refl _ _ | refine Below.drew ?_ | refine Below.alloc ?_ (by first | omega | (simp <;> omega)) _ | refine Below.setCell ?_ (by first | omega | (simp <;> omega)) _))).mono ?_); rintro e w2 ⟨rfl, hb2⟩; have hbl2 : Below w.heap.size w w2 := Below.trans (by repeat (first | assumption | exact Below.refl _ _ | refine Below.drew ?_ | refine Below.alloc ?_ (by first | omega | (simp <;> omega)) _ | refine Below.setCell ?_ (by first | omega | (simp <;> omega)) _)) (hb2.mono (by simp; omega)); have hbr2 : Below wr.heap.size wr w2 := Below.trans (by repeat (first | assumption | exact Below.refl _ _ | refine Below.drew ?_ | refine Below.alloc ?_ (by first | omega | (simp <;> omega)) _ | refine Below.setCell ?_ (by first | omega | (simp <;> omega)) _)) (hb2.mono (by simp)); have hsz2 : wr.heap.size < w2.heap.size := (by have := hb2.size; simp at this; omega); have r1 := hb2.cell (p := ⟨wr.heap.size, 1, none⟩) (by simp); simp at r1) | (go_at_call 42; (with_reducible refine (HH.out _ hbl2).mono ?_); rintro e w3 ⟨rfl, hb3⟩; have hbl3 := hbl2.trans (hb3.mono hbl2.size); have hbr3 : Below wr.heap.size wr w3 := hbr2.trans (hb3.mono hbr2.size); have q1 := (hb3.cell (p := ⟨wr.heap.size, 1, none⟩) hsz2).trans r1))
            go_roundw
            case rel => exact ⟨j + 1, by omega, by go_num, hbl3, Nat.lt_of_lt_of_le hsz' hbr3.size, PBox.below (B := wr.heap.size) ⟨b0', b1'⟩ hbr3 hsz'⟩
            case measure => simp [intOf]; omega
          · have s3' := s3 rfl
            clear s1 s2 s3
            go_wp2_with (first | (go_at_call 43; (with_reducible refine (HL.out _ (by exact by repeat (first | assumption | exact Below.refl _ _ | refine Below.drew ?_ | refine Below.alloc ?_ (by first | omega | (simp <;> omega)) _ | refine Below.setCell ?_ (by first | omega | (simp <;> omega)) _))).mono ?_); rintro e w2 ⟨rfl, hb2⟩; have hbl2 : Below w.heap.size w w2 := Below.trans (by repeat (first | assumption | exact Below.refl _ _ | refine Below.drew ?_ | refine Below.alloc ?_ (by first | omega | (simp <;> omega)) _ | refine Below.setCell ?_ (by first | omega | (simp <;> omega)) _)) (hb2.mono (by simp; omega)); have hbr2 : Below wr.heap.size wr w2 := Below.trans (by repeat (first | assumption | exact Below.refl _ _ | refine Below.drew ?_ | refine Below.alloc ?_ (by first | omega | (simp <;> omega)) _ | refine Below.setCell ?_ (by first | omega | (simp <;> omega)) _)) (hb2.mono (by simp)); have hsz2 : wr.heap.size < w2.heap.size := (by have := hb2.size; simp at this; omega); have r1 := hb2.cell (p := ⟨wr.heap.size, 1, none⟩) (by simp); simp at r1) | (go_at_call 42; (with_reducible refine (HH.out _ hbl2).mono ?_); rintro e w3 ⟨rfl, hb3⟩; have hbl3 := hbl2.trans (hb3.mono hbl2.size); have hbr3 : Below wr.heap.size wr w3 := hbr2.trans (hb3.mono hbr2.size); have q1 := (hb3.cell (p := ⟨wr.heap.size, 1, none⟩) hsz2).trans r1))
            go_roundw
            case rel => exact ⟨j + 1, by omega, by go_num, hbl3, Nat.lt_of_lt_of_le hsz' hbr3.size, PBox.below (B := wr.heap.size) ⟨b0', b1'⟩ hbr3 hsz'⟩
            case measure => simp [intOf]; omega
        · obtain rfl : j = m := by omega
          clear hlt
          go_wp2_with (first | (go_at_call 9; (with_reducible refine (HVA.out _ hbel').mono ?_); rintro e w2 ⟨rfl, hb2⟩; have hbl2 := hbel'.trans (hb2.mono hbel'.size)) | (go_at_call 42; (with_reducible refine (HVS.out _ hbl2).mono ?_); rintro e w3 ⟨rfl, hb3⟩; have hbl3 := hbl2.trans (hb3.mono hbl2.size)))
          go_ret
          exact ⟨rfl, hbl3⟩
end Go.Proofs.YthcmopgdjibojaaGreatDoor.smp

import Derived.Test.YthcmopgdjibojaaGreatDoorLnrY
/- linear: below. -/
namespace Go.Proofs.YthcmopgdjibojaaGreatDoor.lnr
open Go.RowKit
open Go.Proofs.YthcmopgdjibojaaGreatDoor.lib Go.Proofs.YthcmopgdjibojaaGreatDoor.app Go.Proofs.YthcmopgdjibojaaGreatDoor.nt Go.Proofs.YthcmopgdjibojaaGreatDoor.rd Go.Proofs.YthcmopgdjibojaaGreatDoor.wh Go.Proofs.YthcmopgdjibojaaGreatDoor.smx Go.Proofs.YthcmopgdjibojaaGreatDoor.rat Go.Proofs.YthcmopgdjibojaaGreatDoor.typ
set_option linter.unusedVariables false
set_option linter.unusedSimpArgs false

set_option maxRecDepth 20000 in
set_option maxHeartbeats 4000000 in
theorem below1_any (pb : Nat) (lim : Nat → Int) (C0 : Option Addr) (c0 : Nat) (C1 : Option Addr) (c1 n : Nat) (l : List Lrw) (hn8 : n ≤ 8) (hm6 : l.length ≤ 6) (hok : ∀ r ∈ l, r.coef.length = n) (A' : Option Addr) (c' : Nat) (q : Nat → Rat)
    (hq : ∀ i, i < l.length → Dg 200 (q i)) (hle : ∀ i, i < n → dot (colL l i) q l.length ≤ (lim i : Rat)) (hl64 : ∀ i, i < n → i64Q (lim i))
    (w : World) (B B' : Nat) (hB : B ≤ w.heap.size) (hB' : B' ≤ w.heap.size) (hl : RowAt rLrw w B C1 l) (hr : Rats w B' A' l.length q) (ht : TabT w)
    (HC : ∀ i : Nat, i < n → ∀ w', Below w.heap.size w w' → Calls Tryz.prog 40 #[.int .i64 i, .pointer (some ⟨pb, 0, none⟩)] w' fun e w2 => e = .returned (.int .i64 (lim i)) ∧ Below w'.heap.size w' w2) :
    Calls Tryz.prog 39 #[LnV n l.length C0 c0 C1 c1, .slice A' l.length c', .func (.func 40) #[] #[.pointer (some ⟨pb, 0, none⟩)]] w fun e w' => e = .returned (.bool true) ∧ Below w.heap.size w w' := by
  have hlen := hl.len
  unfold LnV
  obtain ⟨m, hm⟩ : ∃ m, l.length = m := ⟨_, rfl⟩
  have HM := Lib.hid hm
  have HOK := Lib.hid hok
  have hL : ∀ i, (colL l i).length = m := fun i => by rw [← hm]; exact List.length_map ..
  have h64 : ∀ i, i < n → ∀ x ∈ colL l i, i64Q x := fun i hi x hx => by
    obtain ⟨r, hr, rfl⟩ := List.mem_map.1 hx
    obtain ⟨k, hk⟩ := List.getElem?_of_mem hr
    obtain ⟨_, _, _, _, _, _, _, hF⟩ := row_Lrw hl hk
    have hc := hok r hr
    rw [List.getElem?_eq_getElem (by omega)]
    exact hF.1 _ (List.getElem_mem _)
  have HN := Lib.hid (fun (k : Nat) (r : Lrw) (h : l[k]? = some r) (i : Nat) (x : Int) (hx : r.coef[i]? = some x) => colL_next h hx)
  have hdg : ∀ i, i < n → Dg 2000 (dot (colL l i) q m) := fun i hi => by
    have h := sum_dg (f := fun k => ((((colL l i)[k]?.getD 0 : Int)) : Rat) * q k) (e := 219) (n := m) (fun k hk => by
      have hx := h64 i hi ((colL l i)[k]'(by rw [hL]; exact hk)) (List.getElem_mem _)
      rw [List.getElem?_eq_getElem (by rw [hL]; exact hk)]
      exact (Dg.int (i64_digits hx.1 hx.2) (by omega)).mul (hq k (by omega)))
    refine h.mono ?_
    have : m * (219 + 1) ≤ 6 * (219 + 1) := Nat.mul_le_mul_right _ (by omega)
    omega
  have HT : Hid (∀ i, i < n → ∀ w', Below w.heap.size w w' → ∀ A c, Ints w' w'.heap.size A (colL l i) → Calls Tryz.prog 37 #[.slice A m c, .slice A' m c'] w' (RatOut w' (dot (colL l i) q m))) := Lib.hid (fun i hi w' h A c hA => by
    have e := times_any A c (colL l i) A' c' q (by rw [hL]; omega) (h64 i hi) (fun i hi => hq i (by have := hL i; rw [hL] at hi; omega)) w' w'.heap.size B' (Nat.le_refl _) (Nat.le_trans hB' h.size) hA (by rw [hL, ← hm]; exact hr.below (h.mono hB')) (ht.below h)
    rw [hL] at e
    exact e)
  have HOF : Hid (∀ i, i < n → ∀ w', Below w.heap.size w w' → Calls Tryz.prog 45 #[.int .i64 (lim i)] w' fun e w2 => e = .returned (.string (ratS (lim i : Rat))) ∧ Below w'.heap.size w' w2) := Lib.hid (fun i hi w' h => rof_any (lim i) (hl64 i hi).1 (hl64 i hi).2 w' (ht.below h))
  have HCM : Hid (∀ i, i < n → ∀ w', Below w.heap.size w w' → Calls Tryz.prog 76 #[.string (ratS (dot (colL l i) q m)), .string (ratS (lim i : Rat))] w' fun e w2 => e = .returned (.int .i64 (cmpQ (dot (colL l i) q m) (lim i : Rat))) ∧ Below w'.heap.size w' w2) := Lib.hid (fun i hi w' h => compare_any _ _ ((hdg i hi).mono (by omega)) ((Dg.int (i64_digits (hl64 i hi).1 (hl64 i hi).2) (by omega)).mono (by omega)) w' (ht.below h))
  have HLE : Hid (∀ i, i < n → ¬ 0 < cmpQ (dot (colL l i) q m) (lim i : Rat)) := Lib.hid (fun i hi h => by
    rw [← hm] at h
    exact Rat.not_le.2 (cmpQ_gt.1 h) (hle i hi))
  have HCl := Lib.hid HC
  have hbelr : ∀ w', Below w.heap.size w w' → RowAt rLrw w' B C1 l := fun w' h => hl.below (h.mono hB)
  rw [hm] at hm6 hlen ⊢
  unfold RatOut at HT
  have HL := Lib.hid hL
  clear hm hq ht hl hr h64 hL hle hl64 hok hdg HC
  go_enter Tryz.func39, Tryz.ntmps39
  go_wp2
  go_loopw [16] (fun i wr => ∃ k : Nat, k ≤ n ∧ i = .int .i64 k ∧ Below w.heap.size w wr ∧ w.heap.size < wr.heap.size ∧ PBox wr w.heap.size n m C0 c0 C1 c1) (fun i _ => n - (intOf i).toNat)
  case atStart => exact ⟨0, by omega, rfl, by repeat (first | assumption | exact Below.refl _ _ | refine Below.drew ?_ | refine Below.alloc ?_ (by first | omega | (simp <;> omega)) _ | refine Below.setCell ?_ (by first | omega | (simp <;> omega)) _), by simp, by simp [PBox]⟩
  case round =>
    obtain ⟨i, hi, rfl, hbel, hsz, ⟨b0, b1⟩⟩ := hrel
    by_cases hlti : i < n
    · have HLx := Lib.hid (HL.out i)
      have HTx := Lib.hid (HT.out i hlti)
      have HOx := Lib.hid (HOF.out i hlti)
      have HCx := Lib.hid (HCM.out i hlti)
      have HDx := Lib.hid (HCl.out i hlti)
      have hnle := HLE.out i hlti
      have HNi := Lib.hid (fun (k : Nat) (r : Lrw) (h : l[k]? = some r) (x : Int) (hx : r.coef[i]? = some x) => HN.out k r h i x hx)
      generalize cmpQ (dot (colL l i) q m) (lim i : Rat) = cm at HCx hnle
      generalize ratS (dot (colL l i) q m) = R at HTx HCx
      generalize ratS (lim i : Rat) = X at HOx HCx
      generalize lim i = li at HOx HDx
      generalize colL l i = L at HTx HNi HLx
      obtain ⟨wo, hwo⟩ : ∃ wo : World, wo = wr := ⟨_, rfl⟩
      subst hwo
      go_wp2_with (at_make; go_loud (refine make_col rfl _ _ rfl m rfl rfl (by omega) ?_; intro c1' w1 hown1 hb1; have hbx1 := (PBox.below (B := wo.heap.size) ⟨b0, b1⟩ hb1 hsz).2))
      have hb1w := hb1.mono (Nat.le_of_lt hsz)
      go_loopw [8, 26] (fun v k wr => ∃ (j : Nat) (A : Option Addr) (c : Nat), j ≤ m ∧ k = .int .i64 j ∧ v = .slice A j c ∧ wr.ownsRow (w.heap.size + 1) 3 1 (.slice A j c) j ((L.take j).map (.int .i64)) ∧ Below w.heap.size w wr ∧ w.heap.size < wr.heap.size ∧ PBox wr w.heap.size n m C0 c0 C1 c1) (fun _ k _ => m - (intOf k).toNat)
      case atStart => exact ⟨0, _, _, by omega, rfl, rfl, own_less (by simpa using hown1) hsz, hbel.trans hb1w, Nat.lt_of_lt_of_le hsz hb1.size, PBox.below (B := wo.heap.size) ⟨b0, b1⟩ hb1 hsz⟩
      case round =>
        obtain ⟨k, A1, cA, hk, rfl, rfl, hown, hbel, hsz, ⟨b0, b1⟩⟩ := hrel
        by_cases hlt : k < m
        · obtain ⟨r, ad2, D0, d0, hx, rfl, hadb2, ⟨k0, k1, k2⟩, hI, hF⟩ := row_at (hbelr _ hbel) (k := k) (by rw [HM.out]; exact hlt)
          have hb' : (ad2.add (k * 3)).block < wr.heap.size := by rw [block_of_add]; omega
          have hrn := HOK.out r (List.mem_of_getElem? hx)
          obtain ⟨ad3, x, rfl, hadb3, hcx, hcc⟩ := hI.at_ (k := i) (by omega)
          have hb3 : (ad3.add i).block < wr.heap.size := by rw [block_of_add]; omega
          have HNx := Lib.hid (HNi.out k r hx x hcx)
          rw [hrn] at k0
          generalize r.right = rg at k2
          generalize r.kind = kd at k1
          clear hx hI hF hcx
          have hi0 : (0 : Int) ≤ i := by omega
          have hin : (i : Int) < n := by omega
          have hownW : (wr.alloc (.cells #[.slice (some ad3) n d0, .int .i64 kd, .int .i64 rg] 30)).ownsRow (w.heap.size + 1) 3 1 (.slice A1 k cA) k ((L.take k).map (.int .i64)) := hown.alloc _
          go_wp2_with (at_builtin; go_loud (refine push_int rfl _ _ rfl (w.heap.size + 1) _ k (L.take k) rfl hownW x (by simp [go_sem]) (by omega) (by simp; omega) ?_; intro A2 c2 w2 hown2 hb2 hz2))
          simp at hz2
          go_roundw
          case rel => exact ⟨k + 1, A2, c2, by omega, by go_num, rfl, by rw [HNx.out]; exact hown2, Below.trans (by repeat (first | assumption | exact Below.refl _ _ | refine Below.drew ?_ | refine Below.alloc ?_ (by first | omega | (simp <;> omega)) _ | refine Below.setCell ?_ (by first | omega | (simp <;> omega)) _)) (hb2.mono (by simp)), by omega, PBox.below (B := w.heap.size + 1) (PBox.below (B := wr.heap.size) (w' := wr.alloc _) ⟨b0, b1⟩ (by repeat (first | assumption | exact Below.refl _ _ | refine Below.drew ?_ | refine Below.alloc ?_ (by first | omega | (simp <;> omega)) _ | refine Below.setCell ?_ (by first | omega | (simp <;> omega)) _)) hsz) hb2 (by omega)⟩
          case measure => simp [intOf]; omega
        · obtain rfl : k = m := by omega
          clear hlt
          have hT : L.take k = L := List.take_of_length_le (by rw [HLx.out]; exact Nat.le_refl _)
          rw [hT] at hown
          have hint : Ints wr wr.heap.size A1 L := Ints.of_own (c := cA) (by rw [HLx.out]; exact hown) (by rw [HLx.out]; omega)
          go_wp2_with (first | (go_at_call 37; (with_reducible refine (HTx.out _ hbel A1 cA hint).mono ?_); rintro e w2 ⟨rfl, hb2⟩; have hbl2 := hbel.trans (hb2.mono hbel.size)) | (go_at_call 40; (with_reducible refine (HDx.out _ hbl2).mono ?_); rintro e w3 ⟨rfl, hb3⟩; have hbl3 := hbl2.trans (hb3.mono hbl2.size)) | (go_at_call 45; (with_reducible refine (HOx.out _ hbl3).mono ?_); rintro e w4 ⟨rfl, hb4⟩; have hbl4 := hbl3.trans (hb4.mono hbl3.size)) | (go_at_call 76; (with_reducible refine (HCx.out _ hbl4).mono ?_); rintro e w5 ⟨rfl, hb5⟩; have hbl5 := hbl4.trans (hb5.mono hbl4.size)))
          have hz : Below wr.heap.size wr w5 := ((hb2.trans (hb3.mono hb2.size)).trans (hb4.mono (Nat.le_trans hb2.size hb3.size))).trans (hb5.mono (Nat.le_trans hb2.size (Nat.le_trans hb3.size hb4.size)))
          go_roundw
          case rel => exact ⟨i + 1, by omega, by go_num, hbl5, Nat.lt_of_lt_of_le hsz hz.size, PBox.below (B := wr.heap.size) ⟨b0, b1⟩ hz hsz⟩
          case measure => simp [intOf]; omega
    · obtain rfl : i = n := by omega
      clear hlti
      go_wp2
      go_ret
      exact ⟨rfl, hbel⟩
set_option maxRecDepth 20000 in
set_option maxHeartbeats 4000000 in
theorem below2_any (pb : Nat) (lim : Nat → Int) (C0 : Option Addr) (c0 : Nat) (C1 : Option Addr) (c1 n : Nat) (l : List Lrw) (hn8 : n ≤ 8) (hm6 : l.length ≤ 6) (hok : ∀ r ∈ l, r.coef.length = n) (A' : Option Addr) (c' : Nat) (q : Nat → Rat)
    (hq : ∀ i, i < l.length → Dg 200 (q i)) (hle : ∀ i, i < n → dot (colL l i) q l.length ≤ (lim i : Rat)) (hl64 : ∀ i, i < n → i64Q (lim i))
    (w : World) (B B' : Nat) (hB : B ≤ w.heap.size) (hB' : B' ≤ w.heap.size) (hl : RowAt rLrw w B C1 l) (hr : Rats w B' A' l.length q) (ht : TabT w)
    (HC : ∀ i : Nat, i < n → ∀ w', Below w.heap.size w w' → Calls Tryz.prog 46 #[.int .i64 i] w' fun e w2 => e = .returned (.int .i64 (lim i)) ∧ Below w'.heap.size w' w2) :
    Calls Tryz.prog 39 #[LnV n l.length C0 c0 C1 c1, .slice A' l.length c', .func (.func 46) #[] #[]] w fun e w' => e = .returned (.bool true) ∧ Below w.heap.size w w' := by
  have hlen := hl.len
  unfold LnV
  obtain ⟨m, hm⟩ : ∃ m, l.length = m := ⟨_, rfl⟩
  have HM := Lib.hid hm
  have HOK := Lib.hid hok
  have hL : ∀ i, (colL l i).length = m := fun i => by rw [← hm]; exact List.length_map ..
  have h64 : ∀ i, i < n → ∀ x ∈ colL l i, i64Q x := fun i hi x hx => by
    obtain ⟨r, hr, rfl⟩ := List.mem_map.1 hx
    obtain ⟨k, hk⟩ := List.getElem?_of_mem hr
    obtain ⟨_, _, _, _, _, _, _, hF⟩ := row_Lrw hl hk
    have hc := hok r hr
    rw [List.getElem?_eq_getElem (by omega)]
    exact hF.1 _ (List.getElem_mem _)
  have HN := Lib.hid (fun (k : Nat) (r : Lrw) (h : l[k]? = some r) (i : Nat) (x : Int) (hx : r.coef[i]? = some x) => colL_next h hx)
  have hdg : ∀ i, i < n → Dg 2000 (dot (colL l i) q m) := fun i hi => by
    have h := sum_dg (f := fun k => ((((colL l i)[k]?.getD 0 : Int)) : Rat) * q k) (e := 219) (n := m) (fun k hk => by
      have hx := h64 i hi ((colL l i)[k]'(by rw [hL]; exact hk)) (List.getElem_mem _)
      rw [List.getElem?_eq_getElem (by rw [hL]; exact hk)]
      exact (Dg.int (i64_digits hx.1 hx.2) (by omega)).mul (hq k (by omega)))
    refine h.mono ?_
    have : m * (219 + 1) ≤ 6 * (219 + 1) := Nat.mul_le_mul_right _ (by omega)
    omega
  have HT : Hid (∀ i, i < n → ∀ w', Below w.heap.size w w' → ∀ A c, Ints w' w'.heap.size A (colL l i) → Calls Tryz.prog 37 #[.slice A m c, .slice A' m c'] w' (RatOut w' (dot (colL l i) q m))) := Lib.hid (fun i hi w' h A c hA => by
    have e := times_any A c (colL l i) A' c' q (by rw [hL]; omega) (h64 i hi) (fun i hi => hq i (by have := hL i; rw [hL] at hi; omega)) w' w'.heap.size B' (Nat.le_refl _) (Nat.le_trans hB' h.size) hA (by rw [hL, ← hm]; exact hr.below (h.mono hB')) (ht.below h)
    rw [hL] at e
    exact e)
  have HOF : Hid (∀ i, i < n → ∀ w', Below w.heap.size w w' → Calls Tryz.prog 45 #[.int .i64 (lim i)] w' fun e w2 => e = .returned (.string (ratS (lim i : Rat))) ∧ Below w'.heap.size w' w2) := Lib.hid (fun i hi w' h => rof_any (lim i) (hl64 i hi).1 (hl64 i hi).2 w' (ht.below h))
  have HCM : Hid (∀ i, i < n → ∀ w', Below w.heap.size w w' → Calls Tryz.prog 76 #[.string (ratS (dot (colL l i) q m)), .string (ratS (lim i : Rat))] w' fun e w2 => e = .returned (.int .i64 (cmpQ (dot (colL l i) q m) (lim i : Rat))) ∧ Below w'.heap.size w' w2) := Lib.hid (fun i hi w' h => compare_any _ _ ((hdg i hi).mono (by omega)) ((Dg.int (i64_digits (hl64 i hi).1 (hl64 i hi).2) (by omega)).mono (by omega)) w' (ht.below h))
  have HLE : Hid (∀ i, i < n → ¬ 0 < cmpQ (dot (colL l i) q m) (lim i : Rat)) := Lib.hid (fun i hi h => by
    rw [← hm] at h
    exact Rat.not_le.2 (cmpQ_gt.1 h) (hle i hi))
  have HCl := Lib.hid HC
  have hbelr : ∀ w', Below w.heap.size w w' → RowAt rLrw w' B C1 l := fun w' h => hl.below (h.mono hB)
  rw [hm] at hm6 hlen ⊢
  unfold RatOut at HT
  have HL := Lib.hid hL
  clear hm hq ht hl hr h64 hL hle hl64 hok hdg HC
  go_enter Tryz.func39, Tryz.ntmps39
  go_wp2
  go_loopw [16] (fun i wr => ∃ k : Nat, k ≤ n ∧ i = .int .i64 k ∧ Below w.heap.size w wr ∧ w.heap.size < wr.heap.size ∧ PBox wr w.heap.size n m C0 c0 C1 c1) (fun i _ => n - (intOf i).toNat)
  case atStart => exact ⟨0, by omega, rfl, by repeat (first | assumption | exact Below.refl _ _ | refine Below.drew ?_ | refine Below.alloc ?_ (by first | omega | (simp <;> omega)) _ | refine Below.setCell ?_ (by first | omega | (simp <;> omega)) _), by simp, by simp [PBox]⟩
  case round =>
    obtain ⟨i, hi, rfl, hbel, hsz, ⟨b0, b1⟩⟩ := hrel
    by_cases hlti : i < n
    · have HLx := Lib.hid (HL.out i)
      have HTx := Lib.hid (HT.out i hlti)
      have HOx := Lib.hid (HOF.out i hlti)
      have HCx := Lib.hid (HCM.out i hlti)
      have HDx := Lib.hid (HCl.out i hlti)
      have hnle := HLE.out i hlti
      have HNi := Lib.hid (fun (k : Nat) (r : Lrw) (h : l[k]? = some r) (x : Int) (hx : r.coef[i]? = some x) => HN.out k r h i x hx)
      generalize cmpQ (dot (colL l i) q m) (lim i : Rat) = cm at HCx hnle
      generalize ratS (dot (colL l i) q m) = R at HTx HCx
      generalize ratS (lim i : Rat) = X at HOx HCx
      generalize lim i = li at HOx HDx
      generalize colL l i = L at HTx HNi HLx
      obtain ⟨wo, hwo⟩ : ∃ wo : World, wo = wr := ⟨_, rfl⟩
      subst hwo
      go_wp2_with (at_make; go_loud (refine make_col rfl _ _ rfl m rfl rfl (by omega) ?_; intro c1' w1 hown1 hb1; have hbx1 := (PBox.below (B := wo.heap.size) ⟨b0, b1⟩ hb1 hsz).2))
      have hb1w := hb1.mono (Nat.le_of_lt hsz)
      go_loopw [8, 26] (fun v k wr => ∃ (j : Nat) (A : Option Addr) (c : Nat), j ≤ m ∧ k = .int .i64 j ∧ v = .slice A j c ∧ wr.ownsRow (w.heap.size + 1) 3 1 (.slice A j c) j ((L.take j).map (.int .i64)) ∧ Below w.heap.size w wr ∧ w.heap.size < wr.heap.size ∧ PBox wr w.heap.size n m C0 c0 C1 c1) (fun _ k _ => m - (intOf k).toNat)
      case atStart => exact ⟨0, _, _, by omega, rfl, rfl, own_less (by simpa using hown1) hsz, hbel.trans hb1w, Nat.lt_of_lt_of_le hsz hb1.size, PBox.below (B := wo.heap.size) ⟨b0, b1⟩ hb1 hsz⟩
      case round =>
        obtain ⟨k, A1, cA, hk, rfl, rfl, hown, hbel, hsz, ⟨b0, b1⟩⟩ := hrel
        by_cases hlt : k < m
        · obtain ⟨r, ad2, D0, d0, hx, rfl, hadb2, ⟨k0, k1, k2⟩, hI, hF⟩ := row_at (hbelr _ hbel) (k := k) (by rw [HM.out]; exact hlt)
          have hb' : (ad2.add (k * 3)).block < wr.heap.size := by rw [block_of_add]; omega
          have hrn := HOK.out r (List.mem_of_getElem? hx)
          obtain ⟨ad3, x, rfl, hadb3, hcx, hcc⟩ := hI.at_ (k := i) (by omega)
          have hb3 : (ad3.add i).block < wr.heap.size := by rw [block_of_add]; omega
          have HNx := Lib.hid (HNi.out k r hx x hcx)
          rw [hrn] at k0
          generalize r.right = rg at k2
          generalize r.kind = kd at k1
          clear hx hI hF hcx
          have hi0 : (0 : Int) ≤ i := by omega
          have hin : (i : Int) < n := by omega
          have hownW : (wr.alloc (.cells #[.slice (some ad3) n d0, .int .i64 kd, .int .i64 rg] 30)).ownsRow (w.heap.size + 1) 3 1 (.slice A1 k cA) k ((L.take k).map (.int .i64)) := hown.alloc _
          go_wp2_with (at_builtin; go_loud (refine push_int rfl _ _ rfl (w.heap.size + 1) _ k (L.take k) rfl hownW x (by simp [go_sem]) (by omega) (by simp; omega) ?_; intro A2 c2 w2 hown2 hb2 hz2))
          simp at hz2
          go_roundw
          case rel => exact ⟨k + 1, A2, c2, by omega, by go_num, rfl, by rw [HNx.out]; exact hown2, Below.trans (by repeat (first | assumption | exact Below.refl _ _ | refine Below.drew ?_ | refine Below.alloc ?_ (by first | omega | (simp <;> omega)) _ | refine Below.setCell ?_ (by first | omega | (simp <;> omega)) _)) (hb2.mono (by simp)), by omega, PBox.below (B := w.heap.size + 1) (PBox.below (B := wr.heap.size) (w' := wr.alloc _) ⟨b0, b1⟩ (by repeat (first | assumption | exact Below.refl _ _ | refine Below.drew ?_ | refine Below.alloc ?_ (by first | omega | (simp <;> omega)) _ | refine Below.setCell ?_ (by first | omega | (simp <;> omega)) _)) hsz) hb2 (by omega)⟩
          case measure => simp [intOf]; omega
        · obtain rfl : k = m := by omega
          clear hlt
          have hT : L.take k = L := List.take_of_length_le (by rw [HLx.out]; exact Nat.le_refl _)
          rw [hT] at hown
          have hint : Ints wr wr.heap.size A1 L := Ints.of_own (c := cA) (by rw [HLx.out]; exact hown) (by rw [HLx.out]; omega)
          go_wp2_with (first | (go_at_call 37; (with_reducible refine (HTx.out _ hbel A1 cA hint).mono ?_); rintro e w2 ⟨rfl, hb2⟩; have hbl2 := hbel.trans (hb2.mono hbel.size)) | (go_at_call 46; (with_reducible refine (HDx.out _ hbl2).mono ?_); rintro e w3 ⟨rfl, hb3⟩; have hbl3 := hbl2.trans (hb3.mono hbl2.size)) | (go_at_call 45; (with_reducible refine (HOx.out _ hbl3).mono ?_); rintro e w4 ⟨rfl, hb4⟩; have hbl4 := hbl3.trans (hb4.mono hbl3.size)) | (go_at_call 76; (with_reducible refine (HCx.out _ hbl4).mono ?_); rintro e w5 ⟨rfl, hb5⟩; have hbl5 := hbl4.trans (hb5.mono hbl4.size)))
          have hz : Below wr.heap.size wr w5 := ((hb2.trans (hb3.mono hb2.size)).trans (hb4.mono (Nat.le_trans hb2.size hb3.size))).trans (hb5.mono (Nat.le_trans hb2.size (Nat.le_trans hb3.size hb4.size)))
          go_roundw
          case rel => exact ⟨i + 1, by omega, by go_num, hbl5, Nat.lt_of_lt_of_le hsz hz.size, PBox.below (B := wr.heap.size) ⟨b0, b1⟩ hz hsz⟩
          case measure => simp [intOf]; omega
    · obtain rfl : i = n := by omega
      clear hlti
      go_wp2
      go_ret
      exact ⟨rfl, hbel⟩
end Go.Proofs.YthcmopgdjibojaaGreatDoor.lnr

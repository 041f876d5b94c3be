/- ratio: Compare. -/
import Derived.Test.YthcmopgdjibojaaGreatDoorRatD
import Derived.Deep.LoopGhost
namespace Go.Proofs.YthcmopgdjibojaaGreatDoor.rat
open Go.RowKit
open Go.Lib (decDigits nDigits itoa decDigits_length nDigits_pos)
open Go.Proofs.YthcmopgdjibojaaGreatDoor.lib Go.Proofs.YthcmopgdjibojaaGreatDoor.app Go.Proofs.YthcmopgdjibojaaGreatDoor.nt Go.Proofs.YthcmopgdjibojaaGreatDoor.rd Go.Proofs.YthcmopgdjibojaaGreatDoor.wh
set_option linter.unusedVariables false
set_option linter.unusedSimpArgs false

/-- The comparison of two rational numbers. -/
def cmpQ (a b : Rat) : Int := ordN (a.num * b.den) (b.num * a.den)
theorem cmpQ_lt {a b : Rat} : cmpQ a b < 0 ↔ a < b := by
  rw [Rat.lt_iff]
  unfold cmpQ
  rcases Int.lt_trichotomy (a.num * b.den) (b.num * a.den) with h | h | h
  · rw [ordN_lt h]; omega
  · rw [ordN_eq h]; omega
  · rw [ordN_gt h]; omega
theorem cmpQ_eq {a b : Rat} : cmpQ a b = 0 ↔ a = b := by
  rw [Rat.eq_iff_mul_eq_mul]
  unfold cmpQ
  rcases Int.lt_trichotomy (a.num * b.den) (b.num * a.den) with h | h | h
  · rw [ordN_lt h]; omega
  · rw [ordN_eq h]; omega
  · rw [ordN_gt h]; omega
theorem cmpQ_gt {a b : Rat} : 0 < cmpQ a b ↔ b < a := by
  rw [Rat.lt_iff]
  unfold cmpQ
  rcases Int.lt_trichotomy (a.num * b.den) (b.num * a.den) with h | h | h
  · rw [ordN_lt h]; omega
  · rw [ordN_eq h]; omega
  · rw [ordN_gt h]; omega
/-- Whole parts decide, if they differ. -/
theorem ord_whole_lt {p r : Int} {q s : Nat} (hq : 0 < q) (hs : 0 < s) (h : p / q < r / s) : ordN (p * s) (r * q) = -1 := by
  refine ordN_lt ?_
  have h1 : p < (p / q + 1) * q := Int.lt_ediv_add_one_mul_self p (by omega)
  have h2 : r / s * s ≤ r := Int.ediv_mul_le r (by omega)
  have h3 : p * s < (p / q + 1) * q * s := Int.mul_lt_mul_of_pos_right h1 (by omega)
  have h4 : (p / q + 1) * s ≤ r / s * s := Int.mul_le_mul_of_nonneg_right (by omega) (by omega)
  have h5 : (p / q + 1) * s * q ≤ r * q := Int.mul_le_mul_of_nonneg_right (by omega) (by omega)
  have e : (p / (q : Int) + 1) * q * s = (p / q + 1) * s * q := by rw [Int.mul_assoc, Int.mul_comm (q : Int) s, ← Int.mul_assoc]
  omega
theorem ord_swap (a b : Int) : ordN a b = - ordN b a := by
  rcases Int.lt_trichotomy a b with h | h | h
  · rw [ordN_lt h, ordN_gt h]
  · rw [ordN_eq h, ordN_eq h.symm]; rfl
  · rw [ordN_gt h, ordN_lt h]; rfl
theorem ord_whole_gt {p r : Int} {q s : Nat} (hq : 0 < q) (hs : 0 < s) (h : r / s < p / q) : ordN (p * s) (r * q) = 1 := by
  rw [ord_swap, ord_whole_lt hs hq h]; rfl
theorem ord_shift (a b c : Int) : ordN (a + c) (b + c) = ordN a b := by
  rcases Int.lt_trichotomy a b with h | h | h
  · rw [ordN_lt h, ordN_lt (by omega)]
  · rw [ordN_eq h, ordN_eq (by omega)]
  · rw [ordN_gt h, ordN_gt (by omega)]
/-- Equal whole parts: the rests decide. -/
theorem ord_rest {p r : Int} {q s : Nat} (h : p / q = r / s) : ordN (p * s) (r * q) = ordN (p % q * s) (r % s * q) := by
  have h1 := Int.emod_add_mul_ediv p q
  have h2 := Int.emod_add_mul_ediv r s
  have e1 : p * s = p % q * s + (q : Int) * (r / s) * s := by rw [← h, ← Int.add_mul, h1]
  have e2 : r * q = r % s * q + (q : Int) * (r / s) * s := by
    have : r * q = (r % s + s * (r / s)) * q := by rw [h2]
    rw [this]
    grind
  rw [e1, e2, ord_shift]
theorem ord_inv {x y : Nat} {q s : Nat} : ordN ((x : Int) * s) ((y : Int) * q) = - ordN ((q : Int) * y) ((s : Int) * x) := by
  rw [ord_swap, Int.mul_comm (y : Int), Int.mul_comm (x : Int)]
/-- Where the comparison stands. -/
structure CmpSt (v : Int) (t p r : Int) (q s : Nat) : Prop where
  q0 : 0 < q
  s0 : 0 < s
  dp : nDigits p.natAbs ≤ 4095
  dr : nDigits r.natAbs ≤ 4095
  dq : nDigits q ≤ 4095
  ds : nDigits s ≤ 4095
  val : v = t * ordN (p * s) (r * q)
theorem CmpSt.step {v t p r : Int} {q s : Nat} (h : CmpSt v t p r q s) (he : p / q = r / s) {x y : Nat} (hx : p % q = x) (hy : r % s = y) (hx0 : 0 < x) (hy0 : 0 < y) : CmpSt v (-t) q s x y := by
  have hxq : x < q := by have := Int.emod_lt_of_pos p (show (0 : Int) < q by have := h.q0; omega); omega
  have hys : y < s := by have := Int.emod_lt_of_pos r (show (0 : Int) < s by have := h.s0; omega); omega
  refine ⟨hx0, hy0, by rw [Int.natAbs_natCast]; exact h.dq, by rw [Int.natAbs_natCast]; exact h.ds, Nat.le_trans (nDigits_mono (by omega)) h.dq, Nat.le_trans (nDigits_mono (by omega)) h.ds, ?_⟩
  rw [h.val, ord_rest he, hx, hy, ord_inv, Int.mul_neg, Int.neg_mul]
set_option maxRecDepth 20000 in
set_option maxHeartbeats 4000000 in
theorem compare_any (a b : Rat) (ha : Dg 4095 a) (hb : Dg 4095 b) (w : World) (ht : TabT w) :
    Calls Tryz.prog 76 #[.string (ratS a), .string (ratS b)] w fun e w' => e = .returned (.int .i64 (cmpQ a b)) ∧ Below w.heap.size w w' := by
  have H2 := Lib.hid (rtwo_any a b (ha.mono (by omega)) (hb.mono (by omega)) w ht)
  have HT : Hid (∀ w', Below w.heap.size w w' → TabT w') := Lib.hid (fun w' h => ht.below h)
  have HST : Hid (CmpSt (cmpQ a b) 1 a.num b.num a.den b.den) := Lib.hid ⟨a.den_pos, b.den_pos, ha.1, hb.1, ha.2, hb.2, by unfold cmpQ; rw [Int.one_mul]⟩
  generalize cmpQ a b = v at HST ⊢
  generalize ratS a = S at H2 ⊢
  generalize ratS b = T at H2 ⊢
  clear ha hb ht
  go_enter Tryz.func76, Tryz.ntmps76
  go_wp2_with (go_at_call 100; (with_reducible refine H2.out.mono ?_); rintro e w1 ⟨rfl, hb1⟩)
  go_loopg [5, 6, 7, 8, 10] a.den (fun q v5 v6 v7 v8 v10 wr => ∃ (P Q R S : ByteArray) (t p r : Int) (s : Nat), v5 = .string P ∧ v6 = .string Q ∧ v7 = .string R ∧ v8 = .string S ∧ v10 = .int .i64 t ∧ (t = 1 ∨ t = -1) ∧ Hid (P = intS p ∧ Q = natS q ∧ R = intS r ∧ S = natS s) ∧ Hid (CmpSt v t p r q s) ∧ Below w.heap.size w wr)
  case atStart => exact ⟨_, _, _, _, 1, a.num, b.num, b.den, rfl, rfl, rfl, rfl, rfl, .inl rfl, Lib.hid ⟨rfl, rfl, rfl, rfl⟩, HST, hb1⟩
  case round =>
    obtain ⟨P, Q, R, S', t, p, r, s, rfl, rfl, rfl, rfl, rfl, htt, hstr, hst, hbel⟩ := hrel
    have hsz := hbel.size
    have hq0 := hst.out.q0
    have hs0 := hst.out.s0
    obtain ⟨x, hx⟩ : ∃ x : Nat, p % (gk : Int) = x := ⟨(p % (gk : Int)).toNat, by have := Int.emod_nonneg p (show (gk : Int) ≠ 0 by omega); omega⟩
    obtain ⟨y, hy⟩ : ∃ y : Nat, r % (s : Int) = y := ⟨(r % (s : Int)).toNat, by have := Int.emod_nonneg r (show (s : Int) ≠ 0 by omega); omega⟩
    have hdF : nDigits (p / (gk : Int)).natAbs ≤ 1000000 := by
      have h1 : (p / (gk : Int)).natAbs ≤ p.natAbs + 1 := by
        have := Int.natAbs_ediv_le_natAbs p gk
        omega
      exact Nat.le_trans (succ_digits h1 hst.out.dp) (by omega)
    have hdG : nDigits (r / (s : Int)).natAbs ≤ 1000000 := by
      have h1 : (r / (s : Int)).natAbs ≤ r.natAbs + 1 := by
        have := Int.natAbs_ediv_le_natAbs r s
        omega
      exact Nat.le_trans (succ_digits h1 hst.out.dr) (by omega)
    have HD1 : Hid (∀ w', Below w.heap.size w w' → Calls Tryz.prog 119 #[.string P, .string Q] w' fun e w2 => e = .returned (.tuple #[.string (intS (p / gk)), .string (natS x), .int .i64 0]) ∧ Below w'.heap.size w' w2) := Lib.hid (fun w' h => by
      have h1 := wdiv_any p gk hq0 hst.out.dp (by have := hst.out.dq; omega) w' (HT.out w' h)
      rw [hx, intS_nat, ← hstr.out.1, ← hstr.out.2.1] at h1
      exact h1)
    have HD2 : Hid (∀ w', Below w.heap.size w w' → Calls Tryz.prog 119 #[.string R, .string S'] w' fun e w2 => e = .returned (.tuple #[.string (intS (r / s)), .string (natS y), .int .i64 0]) ∧ Below w'.heap.size w' w2) := Lib.hid (fun w' h => by
      have h1 := wdiv_any r s hs0 hst.out.dr (by have := hst.out.ds; omega) w' (HT.out w' h)
      rw [hy, intS_nat, ← hstr.out.2.2.1, ← hstr.out.2.2.2] at h1
      exact h1)
    have HC := Lib.hid (fun w => wcompare_any (p / gk) (r / s) hdF hdG w)
    have x0 : ((natS x).toList == [48]) = decide (x = 0) := natS_is _ 0 (by decide)
    have y0 : ((natS y).toList == [48]) = decide (y = 0) := natS_is _ 0 (by decide)
    have HXY := Lib.hid (And.intro hx hy)
    have hxq : x < gk := by have := Int.emod_lt_of_pos p (show (0 : Int) < gk by omega); omega
    obtain ⟨X, hX⟩ : ∃ X, natS x = X := ⟨_, rfl⟩
    obtain ⟨Y, hY⟩ : ∃ Y, natS y = Y := ⟨_, rfl⟩
    have HXS := Lib.hid (And.intro hX hY)
    rw [hX] at HD1 x0
    rw [hY] at HD2 y0
    clear hx hy hX hY hdF hdG
    rcases Int.lt_trichotomy (p / (gk : Int)) (r / (s : Int)) with hlt | heq | hgt
    · rw [ordN_lt hlt] at HC
      have HV : Hid (v = t * (-1)) := Lib.hid (by rw [hst.out.val, ord_whole_lt hq0 hs0 hlt])
      generalize intS (p / (gk : Int)) = F at HD1 HC
      generalize intS (r / (s : Int)) = G at HD2 HC
      clear hlt x0 y0
      rcases htt with rfl | rfl
      all_goals
        go_wp2_with (first | (go_at_call 119; (with_reducible refine (HD1.out _ hbel).mono ?_); rintro e w2 ⟨rfl, hb2⟩; have hbl2 := hbel.trans (hb2.mono hbel.size)) | (go_at_call 119; (with_reducible refine (HD2.out _ hbl2).mono ?_); rintro e w3 ⟨rfl, hb3⟩; have hbl3 := hbl2.trans (hb3.mono hbl2.size)) | (go_at_call 120; (with_reducible refine (HC.out _).mono ?_); rintro e w4 ⟨rfl, rfl⟩))
        go_ret
        exact ⟨ret_int (by rw [HV.out]; rfl), hbl3⟩
    · rw [ordN_eq heq] at HC
      by_cases hx0 : x = 0
      · rw [decide_eq_true hx0] at x0
        by_cases hy0 : y = 0
        · rw [decide_eq_true hy0] at y0
          have HV : Hid (v = 0) := Lib.hid (by rw [hst.out.val, ord_rest heq, HXY.out.1, HXY.out.2, hx0, hy0]; simp [ordN_eq])
          generalize intS (p / (gk : Int)) = F at HD1 HC
          generalize intS (r / (s : Int)) = G at HD2 HC
          clear heq hx0 hy0
          go_wp2_with (first | (go_at_call 119; (with_reducible refine (HD1.out _ hbel).mono ?_); rintro e w2 ⟨rfl, hb2⟩; have hbl2 := hbel.trans (hb2.mono hbel.size)) | (go_at_call 119; (with_reducible refine (HD2.out _ hbl2).mono ?_); rintro e w3 ⟨rfl, hb3⟩; have hbl3 := hbl2.trans (hb3.mono hbl2.size)) | (go_at_call 120; (with_reducible refine (HC.out _).mono ?_); rintro e w4 ⟨rfl, rfl⟩))
          go_ret
          exact ⟨ret_int (by rw [HV.out]), hbl3⟩
        · rw [decide_eq_false hy0] at y0
          have HV : Hid (v = t * (-1)) := Lib.hid (by
            rw [hst.out.val, ord_rest heq, HXY.out.1, HXY.out.2, hx0, ordN_lt]
            have : (0 : Int) < (y : Int) * gk := Int.mul_pos (by omega) (by omega)
            simpa using this)
          generalize intS (p / (gk : Int)) = F at HD1 HC
          generalize intS (r / (s : Int)) = G at HD2 HC
          clear heq hx0 hy0
          rcases htt with rfl | rfl
          all_goals
            go_wp2_with (first | (go_at_call 119; (with_reducible refine (HD1.out _ hbel).mono ?_); rintro e w2 ⟨rfl, hb2⟩; have hbl2 := hbel.trans (hb2.mono hbel.size)) | (go_at_call 119; (with_reducible refine (HD2.out _ hbl2).mono ?_); rintro e w3 ⟨rfl, hb3⟩; have hbl3 := hbl2.trans (hb3.mono hbl2.size)) | (go_at_call 120; (with_reducible refine (HC.out _).mono ?_); rintro e w4 ⟨rfl, rfl⟩))
            go_ret
            exact ⟨ret_int (by rw [HV.out]; rfl), hbl3⟩
      · rw [decide_eq_false hx0] at x0
        by_cases hy0 : y = 0
        · rw [decide_eq_true hy0] at y0
          have HV : Hid (v = t) := Lib.hid (by
            rw [hst.out.val, ord_rest heq, HXY.out.1, HXY.out.2, hy0, ordN_gt, Int.mul_one]
            have : (0 : Int) < (x : Int) * s := Int.mul_pos (by omega) (by omega)
            simpa using this)
          generalize intS (p / (gk : Int)) = F at HD1 HC
          generalize intS (r / (s : Int)) = G at HD2 HC
          clear heq hx0 hy0
          rcases htt with rfl | rfl
          all_goals
            go_wp2_with (first | (go_at_call 119; (with_reducible refine (HD1.out _ hbel).mono ?_); rintro e w2 ⟨rfl, hb2⟩; have hbl2 := hbel.trans (hb2.mono hbel.size)) | (go_at_call 119; (with_reducible refine (HD2.out _ hbl2).mono ?_); rintro e w3 ⟨rfl, hb3⟩; have hbl3 := hbl2.trans (hb3.mono hbl2.size)) | (go_at_call 120; (with_reducible refine (HC.out _).mono ?_); rintro e w4 ⟨rfl, rfl⟩))
            go_ret
            exact ⟨ret_int (by rw [HV.out]), hbl3⟩
        · rw [decide_eq_false hy0] at y0
          have HN : Hid (CmpSt v (-t) gk s x y) := Lib.hid (hst.out.step heq HXY.out.1 HXY.out.2 (by omega) (by omega))
          generalize intS (p / (gk : Int)) = F at HD1 HC
          generalize intS (r / (s : Int)) = G at HD2 HC
          clear heq hx0 hy0
          rcases htt with rfl | rfl
          all_goals
            go_wp2_with (first | (go_at_call 119; (with_reducible refine (HD1.out _ hbel).mono ?_); rintro e w2 ⟨rfl, hb2⟩; have hbl2 := hbel.trans (hb2.mono hbel.size)) | (go_at_call 119; (with_reducible refine (HD2.out _ hbl2).mono ?_); rintro e w3 ⟨rfl, hb3⟩; have hbl3 := hbl2.trans (hb3.mono hbl2.size)) | (go_at_call 120; (with_reducible refine (HC.out _).mono ?_); rintro e w4 ⟨rfl, rfl⟩))
            go_roundg x
            case measure => exact hxq
            case rel => exact ⟨Q, X, S', Y, _, gk, s, y, rfl, rfl, rfl, rfl, rfl, by omega, Lib.hid ⟨by rw [hstr.out.2.1, intS_nat], HXS.out.1.symm, by rw [hstr.out.2.2.2, intS_nat], HXS.out.2.symm⟩, HN, hbl3⟩
    · rw [ordN_gt hgt] at HC
      have HV : Hid (v = t) := Lib.hid (by rw [hst.out.val, ord_whole_gt hq0 hs0 hgt, Int.mul_one])
      generalize intS (p / (gk : Int)) = F at HD1 HC
      generalize intS (r / (s : Int)) = G at HD2 HC
      clear hgt x0 y0
      rcases htt with rfl | rfl
      all_goals
        go_wp2_with (first | (go_at_call 119; (with_reducible refine (HD1.out _ hbel).mono ?_); rintro e w2 ⟨rfl, hb2⟩; have hbl2 := hbel.trans (hb2.mono hbel.size)) | (go_at_call 119; (with_reducible refine (HD2.out _ hbl2).mono ?_); rintro e w3 ⟨rfl, hb3⟩; have hbl3 := hbl2.trans (hb3.mono hbl2.size)) | (go_at_call 120; (with_reducible refine (HC.out _).mono ?_); rintro e w4 ⟨rfl, rfl⟩))
        go_ret
        exact ⟨ret_int (by rw [HV.out]), hbl3⟩
end Go.Proofs.YthcmopgdjibojaaGreatDoor.rat

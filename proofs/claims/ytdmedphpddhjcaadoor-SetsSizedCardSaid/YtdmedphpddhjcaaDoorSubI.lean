/- The law SetsTell, walked. -/
import Derived.Test.YtdmedphpddhjcaaDoorSubH
namespace Go.Proofs.YtdmedphpddhjcaaDoor.sets
open Go.RowKit Go.Shelf
open Go.Proofs.YtdmedphpddhjcaaDoor.lib
set_option linter.unusedVariables false

theorem and_nat (a b : Nat) (ha : a < 9223372036854775808) (hb : b < 9223372036854775808) : bits .and .i64 (a : Int) (b : Int) = ((a &&& b : Nat) : Int) := by
  have e1 : (BitVec.ofInt 64 (a : Int)).toNat = a := by rw [BitVec.toNat_ofInt]; omega
  have e2 : (BitVec.ofInt 64 (b : Int)).toNat = b := by rw [BitVec.toNat_ofInt]; omega
  have hle : a &&& b ≤ a := Nat.and_le_left
  show IntKind.i64.wrap ((BitVec.ofInt 64 (a : Int) &&& BitVec.ofInt 64 (b : Int)).toNat : Nat) = _
  rw [BitVec.toNat_and, e1, e2, IntKind.wrap_i64]
  omega
theorem or_lt (a b : Nat) (ha : a < 9223372036854775808) (hb : b < 9223372036854775808) : a ||| b < 9223372036854775808 := Nat.or_lt_two_pow (n := 63) ha hb
theorem or_nat (a b : Nat) (ha : a < 9223372036854775808) (hb : b < 9223372036854775808) : bits .or .i64 (a : Int) (b : Int) = ((a ||| b : Nat) : Int) := by
  have e1 : (BitVec.ofInt 64 (a : Int)).toNat = a := by rw [BitVec.toNat_ofInt]; omega
  have e2 : (BitVec.ofInt 64 (b : Int)).toNat = b := by rw [BitVec.toNat_ofInt]; omega
  have hle := or_lt a b ha hb
  show IntKind.i64.wrap ((BitVec.ofInt 64 (a : Int) ||| BitVec.ofInt 64 (b : Int)).toNat : Nat) = _
  rw [BitVec.toNat_or, e1, e2, IntKind.wrap_i64]
  omega

set_option maxHeartbeats 4000000 in
theorem tell_any (a b i : Int) (w : World) (hT : TabAt 1 Lib.deBruijn64tab w) (h1 : 1 < w.heap.size) :
    Calls Tryd.prog 5 #[.int .i64 a, .int .i64 b, .int .i64 i] w fun e w' => e = .returned (.bool true) ∧ Below w.heap.size w w' := by
  obtain ⟨x, hx⟩ : ∃ x, plainN a = x := ⟨_, rfl⟩
  obtain ⟨y, hy⟩ : ∃ y, plainN b = y := ⟨_, rfl⟩
  have hxl : x < 9223372036854775808 := by rw [← hx]; exact plainN_lt a
  have hyl : y < 9223372036854775808 := by rw [← hy]; exact plainN_lt b
  have hAnd := and_nat x y hxl hyl
  have hOr := or_nat x y hxl hyl
  have hal : x &&& y < 9223372036854775808 := Nat.lt_of_le_of_lt Nat.and_le_left hxl
  have hol := or_lt x y hxl hyl
  have hml : (memL (x : Int)).length ≤ 63 := memTo_len (x : Int) 63
  go_enter Tryd.func5, Tryd.ntmps5
  go_wp2_with fail
  refine (plain_any a _).mono ?_
  rintro e w0 ⟨rfl, rfl⟩
  rw [hx]
  go_wp2_with fail
  refine (plain_any b _).mono ?_
  rintro e w0 ⟨rfl, rfl⟩
  rw [hy]
  clear hx hy
  go_wp2_with fail
  refine (has_any _ _ _).mono ?_
  rintro e w0 ⟨rfl, rfl⟩
  go_wp2_with fail
  refine (rhas_any _ _ (by omega) (by omega) _).mono ?_
  rintro e w0 ⟨rfl, rfl⟩
  have hq : (hasB (x : Int) i == hasB (x : Int) i) = true := beq_self_eq_true _
  go_wp2_with fail
  refine (size_any x hxl _).mono ?_
  rintro e w1 ⟨rfl, hb1⟩
  have s1 := hb1.size
  go_wp2_with fail
  refine (rsize_any x hxl _).mono ?_
  rintro e w0 ⟨rfl, rfl⟩
  go_wp2_with fail
  refine (members_any _ _).mono ?_
  rintro e w2 ⟨A2, c2, rfl, hown2, hb2⟩
  have I2 : Ints w2 w2.heap.size A2 (memL (x : Int)) := Ints.of_own (c := c2) hown2 (by omega)
  have s2 := hb2.size
  clear hown2
  go_wp2_with fail
  refine (rmembers_any _ (by omega) (by omega) _).mono ?_
  rintro e w3 ⟨A3, c3, rfl, hown3, hb3⟩
  have I3 : Ints w3 w3.heap.size A3 (memL (x : Int)) := Ints.of_own (c := c3) hown3 (by omega)
  have I23 : Ints w3 w2.heap.size A2 (memL (x : Int)) := I2.below hb3
  have s3 := hb3.size
  clear hown3 I2
  go_wp2_with fail
  refine (same_any A2 c2 _ _ rfl A3 c3 _ _ rfl _ w2.heap.size w3.heap.size s3 (Nat.le_refl _) I23 I3).mono ?_
  rintro e w4 ⟨rfl, hb4⟩
  rw [show sameB (memL (x : Int)) (memL (x : Int)) = true by simp [sameB]]
  have s4 := hb4.size
  have B4 : Below w.heap.size w w4 := ((hb1.trans (hb2.mono s1)).trans (hb3.mono (by omega))).trans (hb4.mono (by omega))
  clear hb1 hb2 hb3 hb4 I23 I3
  go_wp2_with fail
  refine (least_calls x hxl _ (tab_below hT B4 h1)).mono ?_
  rintro e w0 ⟨rfl, rfl⟩
  rw [least_plain x hxl]
  go_wp2_with fail
  refine (rleast_any x hxl _).mono ?_
  rintro e w5 ⟨rfl, hb5⟩
  have s5 := hb5.size
  have B5 : Below w.heap.size w w5 := B4.trans (hb5.mono (by omega))
  have hl : ((memL (x : Int)).head?.getD (-1) == (memL (x : Int)).head?.getD (-1)) = true := beq_self_eq_true _
  go_wp2_with fail
  refine (within_any x y hxl hyl _).mono ?_
  rintro e w0 ⟨rfl, rfl⟩
  go_wp2_with fail
  refine (rwithin_any x y hxl hyl _).mono ?_
  rintro e w6 ⟨rfl, hb6⟩
  rw [within_plain x y hxl hyl]
  have s6 := hb6.size
  have B6 : Below w.heap.size w w6 := B5.trans (hb6.mono (by omega))
  have hi : (inN x y == inN x y) = true := beq_self_eq_true _
  go_wp2_with fail
  refine (within_any (x &&& y) x hal hxl _).mono ?_
  rintro e w0 ⟨rfl, rfl⟩
  rw [and_in]
  go_wp2_with fail
  refine (within_any x (x ||| y) hxl hol _).mono ?_
  rintro e w0 ⟨rfl, rfl⟩
  rw [in_or]
  go_wp2_with fail
  refine (awake_any _ (tab_below hT B6 h1) (by omega)).mono ?_
  rintro e w7 ⟨rfl, hb7⟩
  go_wp2
  go_ret
  exact ⟨rfl, B6.trans (hb7.mono (by omega))⟩
end Go.Proofs.YtdmedphpddhjcaaDoor.sets

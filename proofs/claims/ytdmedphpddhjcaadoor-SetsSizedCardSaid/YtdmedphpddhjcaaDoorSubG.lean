/- The law SetsRoundTrip, walked. -/
import Derived.Test.YtdmedphpddhjcaaDoorSubF
namespace Go.Proofs.YtdmedphpddhjcaaDoor.sets
open Go.RowKit Go.Shelf
open Go.Proofs.YtdmedphpddhjcaaDoor.lib
set_option linter.unusedVariables false

theorem mod_succ (s k : Nat) : s % 2 ^ (k + 1) = s % 2 ^ k + 2 ^ k * (s.testBit k).toNat := by
  rw [Nat.pow_succ, Nat.mod_mul, Nat.testBit_eq_decide_div_mod_eq]
  congr 2
  by_cases h : s / 2 ^ k % 2 = 1
  · simp [h]
  · simp [show s / 2 ^ k % 2 = 0 by omega]

theorem of_mem (s : Nat) (hs : s < 9223372036854775808) : ∀ (m k : Nat), k + m = 63 → ofR ((s % 2 ^ k : Nat) : Int) (((List.range' k m).filter (hasN (s : Int))).map (fun i : Nat => (i : Int))) = ((s : Int), 0)
  | 0, k, h => by
    obtain rfl : k = 63 := by omega
    rw [show s % 2 ^ 63 = s from Nat.mod_eq_of_lt (by omega)]
    rfl
  | m + 1, k, h => by
    have ih := of_mem s hs m (k + 1) (by omega)
    have hm := mod_succ s k
    rw [List.range'_succ, List.filter_cons, hasN_nat]
    cases hb : s.testBit k
    · rw [hb] at hm
      rw [if_neg (by decide)]
      rw [hm] at ih
      simpa using ih
    · rw [hb] at hm
      rw [if_pos rfl, List.map_cons, ofR, if_neg (by omega), if_neg, show ((s % 2 ^ k : Nat) : Int) + pow2 ((k : Int).toNat) = ((s % 2 ^ (k + 1) : Nat) : Int) from ?_]
      · exact ih
      · rw [hm]; unfold pow2; simp
      · rw [hasB_nat (by omega), hasN_nat, Nat.testBit_lt_two_pow (Nat.mod_lt _ (Nat.two_pow_pos k))]; decide

theorem of_memL (s : Nat) (hs : s < 9223372036854775808) : ofR 0 (memL (s : Int)) = ((s : Int), 0) := by
  have := of_mem s hs 63 0 rfl
  rw [← List.range_eq_range'] at this
  simpa [memL, memTo, Nat.mod_one] using this

theorem and63 (n : Int) : bits .and .i64 n 9223372036854775807 = n % 9223372036854775808 := by
  have h1 : (BitVec.ofInt 64 9223372036854775807).toNat = 2 ^ 63 - 1 := by decide
  have key : (BitVec.ofInt 64 n &&& BitVec.ofInt 64 9223372036854775807).toNat = (n % ((2 ^ 64 : Nat) : Int)).toNat % 2 ^ 63 := by
    rw [BitVec.toNat_and, BitVec.toNat_ofInt, h1, Nat.and_two_pow_sub_one_eq_mod]
  show IntKind.i64.wrap ((BitVec.ofInt 64 n &&& BitVec.ofInt 64 9223372036854775807).toNat : Nat) = n % 9223372036854775808
  rw [key, IntKind.wrap_i64]
  omega

/-- A number without its sign bit. -/
def plainN (n : Int) : Nat := (n % 9223372036854775808).toNat
theorem plainN_lt (n : Int) : plainN n < 9223372036854775808 := by unfold plainN; omega
theorem plain_any (n : Int) (w : World) : Calls Tryd.prog 8 #[.int .i64 n] w fun e w' => e = .returned (.int .i64 (plainN n)) ∧ w = w' := by
  go_enter Tryd.func8, Tryd.ntmps8
  go_wp2
  go_ret
  refine ⟨ret_int ?_, rfl⟩
  rw [and63]; unfold plainN; omega

set_option maxHeartbeats 2000000 in
theorem roundTrip_any (a : Int) (A : Option Addr) (c : Nat) (l : List Int) (w : World) (hL : Ints w w.heap.size A l) (hT : TabAt 1 Lib.deBruijn64tab w) (h1 : 1 < w.heap.size) :
    Calls Tryd.prog 3 #[.int .i64 a, .slice A l.length c] w fun e w' => e = .returned (.bool true) ∧ Below w.heap.size w w' := by
  have hlen := hL.len
  by_cases hlong : 70 < l.length
  · go_enter Tryd.func3, Tryd.ntmps3
    go_wp2_with (go_at_call 7; refine (awake_any _ hT h1).mono ?_; rintro e w1 ⟨rfl, hb⟩)
    go_ret
    exact ⟨rfl, hb⟩
  · have hs := plainN_lt a
    have hm := Lib.hid (of_memL (plainN a) hs)
    have hml := memTo_len (plainN a : Int) 63
    have hml' : (memL (plainN a : Int)).length ≤ 63 := hml
    clear hml
    go_enter Tryd.func3, Tryd.ntmps3
    go_wp2_with fail
    refine (plain_any _ _).mono ?_
    rintro e w0 ⟨rfl, rfl⟩
    go_wp2_with fail
    refine (members_any _ _).mono ?_
    rintro e w1 ⟨A1, c1, rfl, hown, hb⟩
    have I1 : Ints w1 w1.heap.size A1 (memL (plainN a : Int)) := Ints.of_own (c := c1) hown (by omega)
    have IL : Ints w1 w1.heap.size A l := (hL.below hb).more hb.size
    have hT1 := tab_below hT hb h1
    have hz := hb.size
    clear hown
    go_wp2_with fail
    refine (of_any A1 c1 _ w1 I1).mono ?_
    rintro e w2 ⟨rfl, rfl⟩
    rw [hm.out]
    go_wp2_with fail
    refine (of_any A c l w1 IL).mono ?_
    rintro e w2 ⟨rfl, rfl⟩
    go_wp2_with fail
    refine (rof_any A c l w1 IL).mono ?_
    rintro e w2 ⟨rfl, rfl⟩
    go_wp2_with fail
    refine (awake_any w1 hT1 (by omega)).mono ?_
    rintro e w2 ⟨rfl, hb2⟩
    go_wp2
    go_ret
    exact ⟨rfl, hb.trans (hb2.mono hz)⟩
end Go.Proofs.YtdmedphpddhjcaaDoor.sets

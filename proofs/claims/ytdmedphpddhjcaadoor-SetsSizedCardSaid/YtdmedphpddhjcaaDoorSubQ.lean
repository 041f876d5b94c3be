/- Counting a set's members; a list's set; plain. -/
import Derived.Test.YtdmedphpddhjcaaDoorSubP
import Derived.Test.YtdmedphpddhjcaaDoorSetP
namespace Go.Proofs.YtdmedphpddhjcaaDoor.sets
set_option linter.unusedVariables false

def cntN (n : Nat) : Nat := if h : n = 0 then 0 else n % 2 + cntN (n / 2)
termination_by n
decreasing_by omega
theorem cntN_zero : cntN 0 = 0 := by rw [cntN]; simp
theorem cntN_step (n : Nat) : cntN n = n % 2 + cntN (n / 2) := by
  by_cases h : n = 0
  · subst h; simp [cntN_zero]
  · rw [cntN, dif_neg h]

theorem cnt_filter : ∀ (w s : Nat), s < 2 ^ w → ((List.range w).filter (fun i => s.testBit i)).length = cntN s
  | 0, s, h => by obtain rfl : s = 0 := by simpa using h
                  simp [cntN_zero]
  | w + 1, s, h => by
    have ih := cnt_filter w (s / 2) (by rw [Nat.pow_succ] at h; omega)
    rw [List.range_succ_eq_map, List.filter_cons, List.filter_map, cntN_step, ← ih]
    have e : ((fun i => s.testBit i) ∘ Nat.succ) = fun i => (s / 2).testBit i := by
      funext i
      simp [Nat.testBit_succ]
    rw [e]
    by_cases hb : s % 2 = 1
    · rw [if_pos (by simp [Nat.testBit_zero, hb])]
      simp [hb]; omega
    · rw [if_neg (by simp [Nat.testBit_zero, hb])]
      simp [show s % 2 = 0 by omega]

theorem memL_len (s : Nat) (h : s < 9223372036854775808) : (memL (s : Int)).length = cntN s := by
  rw [← cnt_filter 63 s (by omega)]
  simp only [memL, memTo, List.length_map]
  congr 1
  congr 1
  funext i
  exact hasN_nat s i

theorem subW_len : ∀ (w s : Nat), s < 2 ^ w → (subW w s).length = 2 ^ cntN s
  | 0, s, h => by obtain rfl : s = 0 := by simpa using h
                  simp [subW, cntN_zero]
  | w + 1, s, h => by
    rcases two_cases s with ⟨q, rfl⟩ | ⟨q, rfl⟩
    · rw [subW_even, List.length_map, subW_len w q (by rw [Nat.pow_succ] at h; omega), cntN_step (2 * q)]
      simp
    · rw [subW_odd, pairs_len, subW_len w q (by rw [Nat.pow_succ] at h; omega), cntN_step (2 * q + 1), show (2 * q + 1) / 2 = q by omega, show (2 * q + 1) % 2 = 1 by omega, Nat.add_comm 1, Nat.pow_succ]
      omega

theorem or_pow (n k : Nat) (hn : n < 9223372036854775808) (hk : k ≤ 62) (h : n.testBit k = false) : bits .or .i64 (n : Int) (pow2 k) = (n : Int) + pow2 k := by
  have hp : 2 ^ k ≤ 2 ^ 62 := Nat.pow_le_pow_right (by omega) hk
  have e1 : (BitVec.ofInt 64 (n : Int)).toNat = n := by rw [BitVec.toNat_ofInt]; omega
  have e2 : (BitVec.ofInt 64 (pow2 k)).toNat = 2 ^ k := by rw [BitVec.toNat_ofInt, pow2]; generalize 2 ^ k = p at hp ⊢; omega
  have e3 : n ||| 2 ^ k = n + 2 ^ k := by
    have := BitVec.add_eq_or_of_and_eq_zero (BitVec.ofNat 65 n) (BitVec.ofNat 65 (2 ^ k)) (by
      apply BitVec.eq_of_toNat_eq
      rw [BitVec.toNat_and, BitVec.toNat_ofNat, BitVec.toNat_ofNat, Nat.mod_eq_of_lt (by omega), Nat.mod_eq_of_lt (by omega)]
      apply Nat.eq_of_testBit_eq
      intro i
      rw [Nat.testBit_and, Nat.testBit_two_pow]
      by_cases hi : k = i
      · subst hi; simp [h]
      · simp [hi])
    have h2 := congrArg BitVec.toNat this
    rw [BitVec.toNat_add, BitVec.toNat_or, BitVec.toNat_ofNat, BitVec.toNat_ofNat, Nat.mod_eq_of_lt (a := n) (by omega), Nat.mod_eq_of_lt (a := 2 ^ k) (by omega), Nat.mod_eq_of_lt (by omega)] at h2
    exact h2.symm
  have e4 : n + 2 ^ k < 2 ^ 63 := by
    rw [← e3]; exact Nat.or_lt_two_pow (by omega) (by omega)
  show IntKind.i64.wrap ((BitVec.ofInt 64 (n : Int) ||| BitVec.ofInt 64 (pow2 k)).toNat : Nat) = _
  rw [BitVec.toNat_or, e1, e2, e3, IntKind.wrap_i64]
  unfold pow2
  omega

/-- A set with one more number is still a set. -/
theorem add_pow_lt (n k : Nat) (hn : n < 9223372036854775808) (hk : k ≤ 62) (h : n.testBit k = false) : (n : Int) + pow2 k < 9223372036854775808 := by
  have h1 := or_pow n k hn hk h
  rw [← h1]
  show IntKind.i64.wrap _ < _
  rw [IntKind.wrap_i64]
  omega

/-- What the rest of the list makes of a set that is under way. -/
def ofR : Int → List Int → Int × Int
  | s, [] => (s, 0)
  | s, i :: l => if i < 0 ∨ 62 < i then (0, 2) else if hasB s i = true then (0, 6) else ofR (s + pow2 i.toNat) l
end Go.Proofs.YtdmedphpddhjcaaDoor.sets

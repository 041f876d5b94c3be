/- Plain: the set of the elements that have a property, as a number. Portable. -/
import Derived.Test.YtceceomaheobhaaDoorBitP
namespace Go.Proofs.YtceceomaheobhaaDoor.sch
open Go.Proofs.YtceceomaheobhaaDoor.sets
set_option linter.unusedVariables false

section
variable {X : Type}
def suchN (p : X → Bool) (l : List X) : Nat → Nat
  | 0 => 0
  | k + 1 => suchN p l k ||| (match l[k]? with | some o => if p o = true then 2 ^ k else 0 | none => 0)
theorem suchN_yes {p : X → Bool} {l : List X} {k : Nat} {o : X} (h : l[k]? = some o) (hp : p o = true) : suchN p l (k + 1) = suchN p l k ||| 2 ^ k := by simp only [suchN, h, hp, if_true]
theorem suchN_no {p : X → Bool} {l : List X} {k : Nat} {o : X} (h : l[k]? = some o) (hp : p o = false) : suchN p l (k + 1) = suchN p l k := by simp [suchN, h, hp]
theorem suchN_lt (p : X → Bool) (l : List X) : ∀ k, suchN p l k < 2 ^ k
  | 0 => by unfold suchN; decide
  | k + 1 => by
    have ih := suchN_lt p l k
    have h2 : 2 ^ k < 2 ^ (k + 1) := by rw [Nat.pow_succ]; have := Nat.two_pow_pos k; omega
    unfold suchN
    refine Nat.or_lt_two_pow (by omega) ?_
    split
    · split
      · exact h2
      · exact Nat.two_pow_pos _
    · exact Nat.two_pow_pos _
theorem or_add {n k : Nat} (h : n < 2 ^ k) : n ||| 2 ^ k = n + 2 ^ k := by
  have h1 := Nat.two_pow_add_eq_or_of_lt h 1
  rw [Nat.mul_one] at h1
  rw [Nat.or_comm, ← h1, Nat.add_comm]
theorem suchN_bit (p : X → Bool) (l : List X) : ∀ k i, (suchN p l k).testBit i = (decide (i < k) && (match l[i]? with | some o => p o | none => false))
  | 0, i => by simp [suchN]
  | k + 1, i => by
    unfold suchN
    rw [Nat.testBit_or, suchN_bit p l k i]
    rcases Nat.lt_trichotomy i k with h | h | h
    · have e : (match l[k]? with | some o => if p o = true then 2 ^ k else 0 | none => 0 : Nat).testBit i = false := by
        split
        · split
          · rw [Nat.testBit_two_pow]; simp; omega
          · exact Nat.zero_testBit i
        · exact Nat.zero_testBit i
      rw [e, Bool.or_false, decide_eq_true h, decide_eq_true (by omega : i < k + 1)]
    · subst h
      rw [decide_eq_false (by omega : ¬ i < i), decide_eq_true (by omega : i < i + 1), Bool.false_and, Bool.false_or, Bool.true_and]
      cases l[i]? with
      | none => exact Nat.zero_testBit i
      | some o =>
        cases hp : p o
        · simp [hp]
        · simp [hp]
    · have e : (match l[k]? with | some o => if p o = true then 2 ^ k else 0 | none => 0 : Nat).testBit i = false := by
        split
        · split
          · rw [Nat.testBit_two_pow]; simp; omega
          · exact Nat.zero_testBit i
        · exact Nat.zero_testBit i
      rw [e, decide_eq_false (by omega), decide_eq_false (by omega : ¬ i < k + 1), Bool.false_and, Bool.or_false]
theorem such_and {p q : X → Bool} (hpq : ∀ x, q x = true → p x = true) (l : List X) (k : Nat) : suchN q l k &&& suchN p l k = suchN q l k := by
  apply Nat.eq_of_testBit_eq
  intro i
  rw [Nat.testBit_and, suchN_bit, suchN_bit]
  cases decide (i < k)
  · rfl
  · cases l[i]? with
    | none => rfl
    | some o =>
      cases hq : q o
      · simp [hq]
      · simp [hq, hpq o hq]
end
/-- 2 ^ k, closed. -/
def p2 (k : Nat) : Nat := 2 ^ k
theorem p2_le {k : Nat} (h : k ≤ 61) : p2 k ≤ 2305843009213693952 := by
  have h1 : 2 ^ k ≤ 2 ^ 61 := Nat.pow_le_pow_right (by decide) h
  have h2 : (2 ^ 61 : Nat) = 2305843009213693952 := by decide
  unfold p2
  omega
theorem p2_eq (k : Nat) : p2 k = 2 ^ k := rfl
theorem p2_pos (k : Nat) : 1 ≤ p2 k := Nat.two_pow_pos k
theorem p2_succ (k : Nat) : p2 (k + 1) = 2 * p2 k := by unfold p2; rw [Nat.pow_succ]; omega
theorem such_yes {X : Type} {p : X → Bool} {l : List X} {k : Nat} {o : X} (h : l[k]? = some o) (hp : p o = true) : suchN p l (k + 1) = suchN p l k ||| p2 k := suchN_yes h hp
theorem such_lt {X : Type} (p : X → Bool) (l : List X) (k : Nat) : suchN p l k < p2 k := suchN_lt p l k
theorem or_p2 {n k : Nat} (h : n < p2 k) : n ||| p2 k = n + p2 k := or_add h
theorem such_zero {X : Type} (p : X → Bool) (l : List X) : suchN p l 0 = 0 := rfl
theorem such_no {X : Type} {p : X → Bool} {l : List X} {k : Nat} {o : X} (h : l[k]? = some o) (hp : p o = false) : suchN p l (k + 1) = suchN p l k := suchN_no h hp
attribute [irreducible] suchN p2
end Go.Proofs.YtceceomaheobhaaDoor.sch

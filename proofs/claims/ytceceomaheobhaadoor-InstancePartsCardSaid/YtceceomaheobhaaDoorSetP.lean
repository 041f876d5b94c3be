/- Plain facts on sets as numbers. -/
import Derived.Test.YtceceomaheobhaaDoorRows
import Derived.Laws.BitsLemmas
namespace Go.Proofs.YtceceomaheobhaaDoor.sets
set_option linter.unusedVariables false

def pow2 (j : Nat) : Int := ((2 ^ j : Nat) : Int)
theorem pow2_zero : pow2 0 = 1 := rfl
theorem pow2_succ (j : Nat) : pow2 (j + 1) = 2 * pow2 j := by unfold pow2; rw [Nat.pow_succ]; omega
theorem pow2_pos (j : Nat) : 1 ≤ pow2 j := by
  have := Nat.two_pow_pos j
  unfold pow2
  omega
theorem pow2_le {j : Nat} (h : j ≤ 62) : pow2 j ≤ 4611686018427387904 := by
  have h1 : 2 ^ j ≤ 2 ^ 62 := Nat.pow_le_pow_right (by decide) h
  have h2 : (2 ^ 62 : Nat) = 4611686018427387904 := by decide
  unfold pow2
  omega
/-- The number i is in the set s. -/
def hasN (s : Int) (i : Nat) : Bool := decide (s / pow2 i % 2 = 1)
def hasB (s i : Int) : Bool := decide (0 ≤ i ∧ i ≤ 62 ∧ hasN s i.toNat = true)
theorem hasB_nat {s : Int} {i : Nat} (h : i ≤ 62) : hasB s i = hasN s i := by
  unfold hasB
  rw [Int.toNat_natCast]
  cases h1 : hasN s i <;> simp <;> omega
theorem hasN_nat (n i : Nat) : hasN n i = n.testBit i := by
  unfold hasN pow2
  rw [Nat.testBit_eq_decide_div_mod_eq]
  congr 1
  rw [← Int.natCast_ediv]
  apply propext
  omega
theorem i64_and1 (n : Int) : bits .and .i64 n 1 = n % 2 := by
  have h1 : (BitVec.ofInt 64 1).toNat = 2 ^ 1 - 1 := by decide
  have key : (BitVec.ofInt 64 n &&& BitVec.ofInt 64 1).toNat = (n % ((2 ^ 64 : Nat) : Int)).toNat % 2 ^ 1 := by
    rw [BitVec.toNat_and, BitVec.toNat_ofInt, h1, Nat.and_two_pow_sub_one_eq_mod]
  show IntKind.i64.wrap ((BitVec.ofInt 64 n &&& BitVec.ofInt 64 1).toNat : Nat) = n % 2
  rw [key, IntKind.wrap_i64]
  omega

/-- The members below k, ascending. -/
def memTo (s : Int) (k : Nat) : List Int := ((List.range k).filter (hasN s)).map (fun i : Nat => (i : Int))
theorem memTo_yes {s : Int} {k : Nat} (h : hasN s k = true) : memTo s (k + 1) = memTo s k ++ [(k : Int)] := by
  simp [memTo, List.range_succ, h]
theorem memTo_no {s : Int} {k : Nat} (h : ¬ hasN s k = true) : memTo s (k + 1) = memTo s k := by
  simp [memTo, List.range_succ, h]
theorem memTo_len (s : Int) (k : Nat) : (memTo s k).length ≤ k := by
  have := List.length_filter_le (hasN s) (List.range k)
  simpa [memTo] using this
def memL (s : Int) : List Int := memTo s 63
theorem mem_memL {s : Int} {x : Int} : x ∈ memL s ↔ hasB s x = true := by
  simp only [memL, memTo, List.mem_map, List.mem_filter, List.mem_range]
  constructor
  · rintro ⟨i, ⟨hi, hh⟩, rfl⟩
    rw [hasB_nat (by omega)]
    exact hh
  · intro h
    unfold hasB at h
    simp only [decide_eq_true_eq] at h
    exact ⟨x.toNat, ⟨by omega, h.2.2⟩, by omega⟩
theorem memL_ne {s : Int} (h : 0 < s) (h' : s ≤ 9223372036854775807) : 0 < (memL s).length := by
  obtain ⟨n, rfl⟩ := Int.eq_ofNat_of_zero_le (show 0 ≤ s by omega)
  obtain ⟨i, hi⟩ := Nat.exists_testBit_of_ne_zero (show n ≠ 0 by omega)
  have h62 : i < 63 := by
    rcases Nat.lt_or_ge i 63 with h1 | h1
    · exact h1
    · have h2 : 2 ^ 63 ≤ 2 ^ i := Nat.pow_le_pow_right (by decide) h1
      have h3 : (2 ^ 63 : Nat) = 9223372036854775808 := by decide
      rw [Nat.testBit_lt_two_pow (by omega)] at hi
      cases hi
  have hm : ((i : Nat) : Int) ∈ memL (n : Int) := mem_memL.2 (by rw [hasB_nat (by omega), hasN_nat]; exact hi)
  exact List.length_pos_of_mem hm
end Go.Proofs.YtceceomaheobhaaDoor.sets

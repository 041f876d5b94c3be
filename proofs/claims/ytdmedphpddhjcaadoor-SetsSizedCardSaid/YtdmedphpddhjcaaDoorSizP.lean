/- Plain facts on the subsets of a size: the list, ascending, and Gosper's step from one to the next. -/
import Derived.Test.YtdmedphpddhjcaaDoorSubQ
namespace Go.Proofs.YtdmedphpddhjcaaDoor.sets
set_option linter.unusedVariables false

/-- The numbers with k of the n lowest bits, ascending. -/
def sizW : Nat → Nat → List Nat
  | _, 0 => [0]
  | 0, _ + 1 => []
  | n + 1, k + 1 => sizW n (k + 1) ++ (sizW n k).map (fun t => t + 2 ^ n)
theorem sizW_zero (n : Nat) : sizW n 0 = [0] := by cases n <;> rfl
theorem sizW_succ (n k : Nat) : sizW (n + 1) (k + 1) = sizW n (k + 1) ++ (sizW n k).map (fun t => t + 2 ^ n) := rfl
/-- How many there are. -/
def chN : Nat → Nat → Nat
  | _, 0 => 1
  | 0, _ + 1 => 0
  | n + 1, k + 1 => chN n (k + 1) + chN n k
theorem chN_zero (n : Nat) : chN n 0 = 1 := by cases n <;> rfl
theorem sizW_len : ∀ n k, (sizW n k).length = chN n k
  | n, 0 => by rw [sizW_zero, chN_zero]; rfl
  | 0, k + 1 => rfl
  | n + 1, k + 1 => by rw [sizW_succ, List.length_append, List.length_map, sizW_len n (k + 1), sizW_len n k]; rfl
theorem chN_big : ∀ n k, n < k → chN n k = 0
  | _, 0, h => by omega
  | 0, k + 1, h => rfl
  | n + 1, k + 1, h => by show chN n (k + 1) + chN n k = 0; rw [chN_big n (k + 1) (by omega), chN_big n k (by omega)]
theorem chN_pos : ∀ n k, k ≤ n → 0 < chN n k
  | n, 0, h => by rw [chN_zero]; omega
  | 0, k + 1, h => by omega
  | n + 1, k + 1, h => by have := chN_pos n k (by omega); show 0 < chN n (k + 1) + chN n k; omega
theorem chN_self (n : Nat) : chN n n = 1 := by
  induction n with
  | zero => rfl
  | succ n ih => show chN n (n + 1) + chN n n = 1; rw [chN_big n (n + 1) (by omega), ih]
theorem sizW_lt : ∀ n k t, t ∈ sizW n k → t < 2 ^ n
  | n, 0, t, h => by rw [sizW_zero] at h; simp at h; subst h; exact Nat.two_pow_pos n
  | 0, k + 1, t, h => by simp [sizW] at h
  | n + 1, k + 1, t, h => by
    have hp : 2 ^ (n + 1) = 2 * 2 ^ n := by rw [Nat.pow_succ]; omega
    rw [sizW_succ, List.mem_append, List.mem_map] at h
    rcases h with h | ⟨u, hu, rfl⟩
    · have := sizW_lt n (k + 1) t h; omega
    · have := sizW_lt n k u hu; omega
theorem sizW_first : ∀ n k, k ≤ n → (sizW n k)[0]? = some (2 ^ k - 1)
  | n, 0, h => by rw [sizW_zero]; rfl
  | 0, k + 1, h => by omega
  | n + 1, k + 1, h => by
    rw [sizW_succ]
    by_cases hk : k + 1 ≤ n
    · have h1 := sizW_first n (k + 1) hk
      rw [List.getElem?_append_left (by rw [sizW_len]; exact chN_pos n (k + 1) hk)]
      exact h1
    · obtain rfl : k = n := by omega
      have h0 : sizW k (k + 1) = [] := List.eq_nil_of_length_eq_zero (by rw [sizW_len]; exact chN_big _ _ (by omega))
      have hp : 2 ^ (k + 1) = 2 * 2 ^ k := by rw [Nat.pow_succ]; omega
      have hq := Nat.two_pow_pos k
      rw [h0, List.nil_append, List.getElem?_map, sizW_first k k (by omega), Option.map_some]
      congr 1
      omega
theorem sizW_last : ∀ n k, k ≤ n → (sizW n k)[chN n k - 1]? = some (2 ^ n - 2 ^ (n - k))
  | n, 0, h => by rw [sizW_zero, chN_zero]; simp
  | 0, k + 1, h => by omega
  | n + 1, k + 1, h => by
    have hpos := chN_pos n k (by omega)
    have hl : chN (n + 1) (k + 1) = chN n (k + 1) + chN n k := rfl
    have hp : 2 ^ (n + 1) = 2 * 2 ^ n := by rw [Nat.pow_succ]; omega
    have hle : 2 ^ (n - k) ≤ 2 ^ n := Nat.pow_le_pow_right (by omega) (by omega)
    rw [sizW_succ, hl, List.getElem?_append_right (by rw [sizW_len]; omega), sizW_len, show chN n (k + 1) + chN n k - 1 - chN n (k + 1) = chN n k - 1 by omega, List.getElem?_map, sizW_last n k (by omega), Option.map_some, show n + 1 - (k + 1) = n - k by omega]
    congr 1
    omega

/-- y is the step's answer at x: a head, a nought, a run of ones, noughts. -/
def Gos (n x y : Nat) : Prop := ∃ h j r, 1 ≤ r ∧ j + r + 1 ≤ n ∧ x = h * 2 ^ (j + r + 1) + (2 ^ r - 1) * 2 ^ j ∧ y = h * 2 ^ (j + r + 1) + 2 ^ (j + r) + (2 ^ (r - 1) - 1)
theorem Gos.more {n x y : Nat} (h : Gos n x y) : Gos (n + 1) x y := by
  obtain ⟨h, j, r, h1, h2, h3, h4⟩ := h
  exact ⟨h, j, r, h1, by omega, h3, h4⟩
theorem Gos.shift {n x y : Nat} (h : Gos n x y) : Gos (n + 1) (x + 2 ^ n) (y + 2 ^ n) := by
  obtain ⟨h, j, r, h1, h2, h3, h4⟩ := h
  have e : (h + 2 ^ (n - (j + r + 1))) * 2 ^ (j + r + 1) = h * 2 ^ (j + r + 1) + 2 ^ n := by
    rw [Nat.add_mul, ← Nat.pow_add, show n - (j + r + 1) + (j + r + 1) = n by omega]
  refine ⟨h + 2 ^ (n - (j + r + 1)), j, r, h1, by omega, ?_, ?_⟩
  · rw [e, h3]; omega
  · rw [e, h4]; omega
theorem sizW_next : ∀ n k i x y, (sizW n k)[i]? = some x → (sizW n k)[i + 1]? = some y → Gos n x y
  | n, 0, i, x, y, h1, h2 => by rw [sizW_zero] at h2; simp at h2
  | 0, k + 1, i, x, y, h1, h2 => by simp [sizW] at h2
  | n + 1, k + 1, i, x, y, h1, h2 => by
    rw [sizW_succ] at h1 h2
    have hl := sizW_len n (k + 1)
    rcases Nat.lt_trichotomy (i + 1) (chN n (k + 1)) with h | h | h
    · rw [List.getElem?_append_left (by omega)] at h1 h2
      exact (sizW_next n (k + 1) i x y h1 h2).more
    · have hkn : k + 1 ≤ n := by
        rcases Nat.lt_or_ge n (k + 1) with h' | h'
        · rw [chN_big _ _ h'] at h; omega
        · exact h'
      have hla := sizW_last n (k + 1) hkn
      have hfi := sizW_first n k (by omega)
      rw [List.getElem?_append_left (by omega), show i = chN n (k + 1) - 1 by omega, hla] at h1
      rw [List.getElem?_append_right (by omega), hl, show i + 1 - chN n (k + 1) = 0 by omega, List.getElem?_map, hfi, Option.map_some] at h2
      injection h1 with h1
      injection h2 with h2
      refine ⟨0, n - (k + 1), k + 1, by omega, by omega, ?_, ?_⟩
      · rw [← h1, Nat.sub_mul, ← Nat.pow_add, show k + 1 + (n - (k + 1)) = n by omega]; omega
      · rw [← h2, show n - (k + 1) + (k + 1) = n by omega, show k + 1 - 1 = k by omega]; omega
    · rw [List.getElem?_append_right (by omega), List.getElem?_map, Option.map_eq_some_iff] at h1 h2
      obtain ⟨u, hu, rfl⟩ := h1
      obtain ⟨v, hv, rfl⟩ := h2
      rw [show i + 1 - (sizW n (k + 1)).length = i - (sizW n (k + 1)).length + 1 by omega] at hv
      exact (sizW_next n k _ u v hu hv).shift

theorem and_compl : ∀ V m, m < 2 ^ V → m &&& (2 ^ V - 1 - m) = 0
  | 0, m, h => by obtain rfl : m = 0 := by simpa using h
                  rfl
  | V + 1, m, h => by
    have hp : 2 ^ (V + 1) = 2 * 2 ^ V := by rw [Nat.pow_succ]; omega
    rcases two_cases m with ⟨q, rfl⟩ | ⟨q, rfl⟩
    · have ih := and_compl V q (by omega)
      have h1 := and_two q (2 ^ V - 1 - q) 0 1 (by omega) (by omega)
      rw [ih] at h1
      rw [show 2 ^ (V + 1) - 1 - 2 * q = 2 * (2 ^ V - 1 - q) + 1 by omega]
      simpa using h1
    · have ih := and_compl V q (by omega)
      have h1 := and_two q (2 ^ V - 1 - q) 1 0 (by omega) (by omega)
      rw [ih] at h1
      rw [show 2 ^ (V + 1) - 1 - (2 * q + 1) = 2 * (2 ^ V - 1 - q) + 0 by omega, h1]
      simp
theorem low_nat : ∀ j W m, j < W → (2 * m + 1) * 2 ^ j < 2 ^ W → (2 * m + 1) * 2 ^ j &&& (2 ^ W - (2 * m + 1) * 2 ^ j) = 2 ^ j
  | 0, 0, m, h, h' => by omega
  | 0, W + 1, m, h, h' => by
    have hp : 2 ^ (W + 1) = 2 * 2 ^ W := by rw [Nat.pow_succ]; omega
    simp only [Nat.pow_zero, Nat.mul_one] at h' ⊢
    rw [show 2 ^ (W + 1) - (2 * m + 1) = 2 * (2 ^ W - 1 - m) + 1 by omega, and_two m (2 ^ W - 1 - m) 1 1 (by omega) (by omega), and_compl W m (by omega)]
    rfl
  | j + 1, 0, m, h, h' => by omega
  | j + 1, W + 1, m, h, h' => by
    have hp : 2 ^ (W + 1) = 2 * 2 ^ W := by rw [Nat.pow_succ]; omega
    have hq : (2 * m + 1) * 2 ^ (j + 1) = 2 * ((2 * m + 1) * 2 ^ j) := by rw [Nat.pow_succ, ← Nat.mul_assoc]; omega
    have ih := low_nat j W m (by omega) (by omega)
    have h1 := and_two ((2 * m + 1) * 2 ^ j) (2 ^ W - (2 * m + 1) * 2 ^ j) 0 0 (by omega) (by omega)
    rw [ih] at h1
    rw [hq, show 2 ^ (W + 1) - 2 * ((2 * m + 1) * 2 ^ j) = 2 * (2 ^ W - (2 * m + 1) * 2 ^ j) + 0 by omega, Nat.pow_succ 2 j]
    simpa [Nat.mul_comm] using h1
theorem xor_run (h j r : Nat) : (h * 2 ^ (j + r + 1) + (2 ^ r - 1) * 2 ^ j) ^^^ (h * 2 ^ (j + r + 1) + 2 ^ (j + r)) = (2 ^ (r + 1) - 1) * 2 ^ j := by
  have hp : 2 ^ (j + r + 1) = 2 * 2 ^ (j + r) := by rw [Nat.pow_succ]; omega
  have hq : 2 ^ (j + r) = 2 ^ r * 2 ^ j := by rw [Nat.pow_add, Nat.mul_comm]
  have hb : 2 ^ (j + r) < 2 ^ (j + r + 1) := by have := Nat.two_pow_pos (j + r); omega
  have ha : (2 ^ r - 1) * 2 ^ j < 2 ^ (j + r + 1) := by
    rw [Nat.sub_mul, ← hq]; have := Nat.two_pow_pos (j + r); omega
  apply Nat.eq_of_testBit_eq
  intro i
  rw [Nat.testBit_xor, Nat.mul_comm h, Nat.testBit_two_pow_mul_add _ ha, Nat.testBit_two_pow_mul_add _ hb, Nat.mul_comm (2 ^ r - 1), Nat.mul_comm (2 ^ (r + 1) - 1), Nat.testBit_two_pow_mul, Nat.testBit_two_pow_mul, Nat.testBit_two_pow_sub_one, Nat.testBit_two_pow_sub_one, Nat.testBit_two_pow]
  by_cases h1 : i < j + r + 1
  · rw [if_pos h1, if_pos h1, Bool.eq_iff_iff]
    by_cases h2 : j ≤ i
    · by_cases h3 : i - j < r
      · simp [h2, h3]; omega
      · simp [h2, h3]; omega
    · simp [h2]; omega
  · rw [if_neg h1, if_neg h1]
    simp; omega
end Go.Proofs.YtdmedphpddhjcaaDoor.sets

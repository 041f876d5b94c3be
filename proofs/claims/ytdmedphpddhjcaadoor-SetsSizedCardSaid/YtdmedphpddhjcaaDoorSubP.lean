/- Plain facts on subsets: the list of the subsets of a number's bits, ascending, and the step from one to the next. -/
import Derived.Test.YtdmedphpddhjcaaDoorSetP
namespace Go.Proofs.YtdmedphpddhjcaaDoor.sets
set_option linter.unusedVariables false

def pairsL (l : List Nat) : List Nat := l.flatMap (fun t => [2 * t, 2 * t + 1])
/-- The subsets of the bits of s below bit w, ascending. -/
def subW : Nat → Nat → List Nat
  | 0, _ => [0]
  | w + 1, s => if s % 2 = 0 then (subW w (s / 2)).map (fun t => 2 * t) else pairsL (subW w (s / 2))
theorem subW_even (w q : Nat) : subW (w + 1) (2 * q) = (subW w q).map (fun t => 2 * t) := by rw [subW, if_pos (by omega), show 2 * q / 2 = q by omega]
theorem subW_odd (w q : Nat) : subW (w + 1) (2 * q + 1) = pairsL (subW w q) := by rw [subW, if_neg (by omega), show (2 * q + 1) / 2 = q by omega]
theorem two_cases (s : Nat) : (∃ q, s = 2 * q) ∨ ∃ q, s = 2 * q + 1 := by
  rcases Nat.mod_two_eq_zero_or_one s with h | h
  · exact .inl ⟨s / 2, by omega⟩
  · exact .inr ⟨s / 2, by omega⟩

theorem and_two (a b x y : Nat) (hx : x < 2) (hy : y < 2) : (2 * a + x) &&& (2 * b + y) = 2 * (a &&& b) + (x &&& y) := by
  apply Nat.eq_of_testBit_eq
  intro i
  have hxy : x &&& y < 2 := Nat.and_lt_two_pow (n := 1) x (by omega)
  rcases i with _ | i
  · rw [Nat.testBit_and]
    simp only [Nat.testBit_zero]
    have h1 : (2 * a + x) % 2 = x := by omega
    have h2 : (2 * b + y) % 2 = y := by omega
    have h3 : (2 * (a &&& b) + (x &&& y)) % 2 = (x &&& y) := by omega
    rw [h1, h2, h3]
    have hx' : x = 0 ∨ x = 1 := by omega
    have hy' : y = 0 ∨ y = 1 := by omega
    rcases hx' with rfl | rfl <;> rcases hy' with rfl | rfl <;> decide
  · rw [Nat.testBit_and]
    simp only [Nat.testBit_succ]
    rw [show (2 * a + x) / 2 = a by omega, show (2 * b + y) / 2 = b by omega, show (2 * (a &&& b) + (x &&& y)) / 2 = (a &&& b) by omega, Nat.testBit_and]
theorem mem_pairs {l : List Nat} {t : Nat} : t ∈ pairsL l ↔ ∃ u, u ∈ l ∧ (t = 2 * u ∨ t = 2 * u + 1) := by simp [pairsL]
theorem subW_le : ∀ (w s t : Nat), t ∈ subW w s → s < 2 ^ w → t ≤ s
  | 0, s, t, h, hs => by simp [subW] at h; omega
  | w + 1, s, t, h, hs => by
    have hp : 2 ^ (w + 1) = 2 * 2 ^ w := by rw [Nat.pow_succ]; omega
    rcases two_cases s with ⟨q, rfl⟩ | ⟨q, rfl⟩
    · rw [subW_even, List.mem_map] at h
      obtain ⟨u, hu, rfl⟩ := h
      have := subW_le w q u hu (by omega)
      omega
    · rw [subW_odd, mem_pairs] at h
      obtain ⟨u, hu, hm⟩ := h
      have := subW_le w q u hu (by omega)
      omega
theorem sub_and : ∀ (w s t : Nat), t ∈ subW w s → s < 2 ^ w → ((2 ^ w - 1 - s) + t) &&& s = t
  | 0, s, t, h, hs => by
    simp [subW] at h
    have : s = 0 := by omega
    subst this
    subst h
    decide
  | w + 1, s, t, h, hs => by
    have hp : 2 ^ (w + 1) = 2 * 2 ^ w := by rw [Nat.pow_succ]; omega
    rcases two_cases s with ⟨q, rfl⟩ | ⟨q, rfl⟩
    · rw [subW_even, List.mem_map] at h
      obtain ⟨u, hu, rfl⟩ := h
      have ih := sub_and w q u hu (by omega)
      have h1 := and_two ((2 ^ w - 1 - q) + u) q 1 0 (by omega) (by omega)
      rw [ih] at h1
      rw [show (2 ^ (w + 1) - 1 - 2 * q) + 2 * u = 2 * ((2 ^ w - 1 - q) + u) + 1 by omega]
      simpa using h1
    · rw [subW_odd, mem_pairs] at h
      obtain ⟨u, hu, hm⟩ := h
      have ih := sub_and w q u hu (by omega)
      rcases hm with rfl | rfl
      · have h1 := and_two ((2 ^ w - 1 - q) + u) q 0 1 (by omega) (by omega)
        rw [ih] at h1
        rw [show (2 ^ (w + 1) - 1 - (2 * q + 1)) + 2 * u = 2 * ((2 ^ w - 1 - q) + u) + 0 by omega, h1]
        simp
      · have h1 := and_two ((2 ^ w - 1 - q) + u) q 1 1 (by omega) (by omega)
        rw [ih] at h1
        rw [show (2 ^ (w + 1) - 1 - (2 * q + 1)) + (2 * u + 1) = 2 * ((2 ^ w - 1 - q) + u) + 1 by omega, h1]
        simp
/-- The step from a subset to the next one. -/
def nextW (w s t : Nat) : Nat := ((2 ^ w - 1 - s) + t + 1) &&& s
theorem nextW_even {w q u : Nat} (h : q < 2 ^ w) : nextW (w + 1) (2 * q) (2 * u) = 2 * nextW w q u := by
  have hp : 2 ^ (w + 1) = 2 * 2 ^ w := by rw [Nat.pow_succ]; omega
  have h1 := and_two ((2 ^ w - 1 - q) + u + 1) q 0 0 (by omega) (by omega)
  unfold nextW
  rw [show (2 ^ (w + 1) - 1 - 2 * q) + 2 * u + 1 = 2 * ((2 ^ w - 1 - q) + u + 1) + 0 by omega]
  simpa using h1
theorem nextW_odd0 {w q u : Nat} (h : q < 2 ^ w) (hu : u ∈ subW w q) : nextW (w + 1) (2 * q + 1) (2 * u) = 2 * u + 1 := by
  have hp : 2 ^ (w + 1) = 2 * 2 ^ w := by rw [Nat.pow_succ]; omega
  have h1 := and_two ((2 ^ w - 1 - q) + u) q 1 1 (by omega) (by omega)
  rw [sub_and w q u hu h] at h1
  unfold nextW
  rw [show (2 ^ (w + 1) - 1 - (2 * q + 1)) + 2 * u + 1 = 2 * ((2 ^ w - 1 - q) + u) + 1 by omega, h1]
  simp
theorem nextW_odd1 {w q u : Nat} (h : q < 2 ^ w) : nextW (w + 1) (2 * q + 1) (2 * u + 1) = 2 * nextW w q u := by
  have hp : 2 ^ (w + 1) = 2 * 2 ^ w := by rw [Nat.pow_succ]; omega
  have h1 := and_two ((2 ^ w - 1 - q) + u + 1) q 0 1 (by omega) (by omega)
  unfold nextW
  rw [show (2 ^ (w + 1) - 1 - (2 * q + 1)) + (2 * u + 1) + 1 = 2 * ((2 ^ w - 1 - q) + u + 1) + 0 by omega, h1]
  simp
theorem pairs_at : ∀ (l : List Nat) (k : Nat), (pairsL l)[2 * k]? = l[k]?.map (fun t => 2 * t) ∧ (pairsL l)[2 * k + 1]? = l[k]?.map (fun t => 2 * t + 1)
  | [], k => by simp [pairsL]
  | x :: l, 0 => by simp [pairsL]
  | x :: l, k + 1 => by
    have h := pairs_at l k
    have e : pairsL (x :: l) = 2 * x :: (2 * x + 1) :: pairsL l := by simp [pairsL]
    rw [e, show 2 * (k + 1) = 2 * k + 1 + 1 by omega, List.getElem?_cons_succ, List.getElem?_cons_succ, List.getElem?_cons_succ, List.getElem?_cons_succ, List.getElem?_cons_succ]
    exact h
theorem pairs_len (l : List Nat) : (pairsL l).length = 2 * l.length := by
  induction l with
  | nil => rfl
  | cons x l ih =>
    have e : pairsL (x :: l) = 2 * x :: (2 * x + 1) :: pairsL l := by simp [pairsL]
    rw [e]
    simp only [List.length_cons, ih]
    omega
theorem subW_zero : ∀ (w s : Nat), (subW w s)[0]? = some 0
  | 0, s => rfl
  | w + 1, s => by
    rcases two_cases s with ⟨q, rfl⟩ | ⟨q, rfl⟩
    · rw [subW_even, List.getElem?_map, subW_zero w q]; rfl
    · rw [subW_odd]
      have := (pairs_at (subW w q) 0).1
      rw [subW_zero w q] at this
      exact this
theorem subW_pos (w s : Nat) : 0 < (subW w s).length := by
  have := subW_zero w s
  exact (List.getElem?_eq_some_iff.1 this).1
/-- The last subset is the set. -/
theorem subW_last : ∀ (w s : Nat), s < 2 ^ w → (subW w s)[(subW w s).length - 1]? = some s
  | 0, s, h => by
    have : s = 0 := by omega
    subst this
    rfl
  | w + 1, s, h => by
    have hp : 2 ^ (w + 1) = 2 * 2 ^ w := by rw [Nat.pow_succ]; omega
    rcases two_cases s with ⟨q, rfl⟩ | ⟨q, rfl⟩
    · rw [subW_even, List.length_map, List.getElem?_map, subW_last w q (by omega)]; rfl
    · have h0 := subW_pos w q
      rw [subW_odd, pairs_len, show 2 * (subW w q).length - 1 = 2 * ((subW w q).length - 1) + 1 by omega, (pairs_at _ _).2, subW_last w q (by omega)]
      rfl
/-- Each further subset is greater, and the step leads to it. -/
theorem subW_next : ∀ (w s : Nat), s < 2 ^ w → ∀ (k t t' : Nat), (subW w s)[k]? = some t → (subW w s)[k + 1]? = some t' → nextW w s t = t' ∧ t < t'
  | 0, s, h, k, t, t', h1, h2 => by simp [subW] at h2
  | w + 1, s, h, k, t, t', h1, h2 => by
    have hp : 2 ^ (w + 1) = 2 * 2 ^ w := by rw [Nat.pow_succ]; omega
    rcases two_cases s with ⟨q, rfl⟩ | ⟨q, rfl⟩
    · rw [subW_even, List.getElem?_map, Option.map_eq_some_iff] at h1 h2
      obtain ⟨u, hu, rfl⟩ := h1
      obtain ⟨u', hu', rfl⟩ := h2
      obtain ⟨h3, h4⟩ := subW_next w q (by omega) k u u' hu hu'
      rw [nextW_even (by omega), h3]
      omega
    · rw [subW_odd] at h1 h2
      rcases two_cases k with ⟨j, rfl⟩ | ⟨j, rfl⟩
      · rw [(pairs_at _ _).1, Option.map_eq_some_iff] at h1
        rw [(pairs_at _ _).2, Option.map_eq_some_iff] at h2
        obtain ⟨u, hu, rfl⟩ := h1
        obtain ⟨u', hu', rfl⟩ := h2
        rw [hu] at hu'
        injection hu' with hu'
        subst hu'
        rw [nextW_odd0 (by omega) (List.mem_of_getElem? hu)]
        omega
      · rw [(pairs_at _ _).2, Option.map_eq_some_iff] at h1
        rw [show 2 * j + 1 + 1 = 2 * (j + 1) by omega, (pairs_at _ _).1, Option.map_eq_some_iff] at h2
        obtain ⟨u, hu, rfl⟩ := h1
        obtain ⟨u', hu', rfl⟩ := h2
        obtain ⟨h3, h4⟩ := subW_next w q (by omega) j u u' hu hu'
        rw [nextW_odd1 (by omega), h3]
        omega
/-- What the step is in Go. -/
theorem go_next {s t : Nat} (hs : s < 9223372036854775808) (ht : t < s) : bits .and .i64 ((t : Int) - (s : Int)) (s : Int) = ((nextW 64 s t : Nat) : Int) := by
  have e1 : (BitVec.ofInt 64 ((t : Int) - (s : Int))).toNat = (2 ^ 64 - 1 - s) + t + 1 := by
    rw [BitVec.toNat_ofInt]
    omega
  have e2 : (BitVec.ofInt 64 (s : Int)).toNat = s := by
    rw [BitVec.toNat_ofInt]
    omega
  show IntKind.i64.wrap ((BitVec.ofInt 64 ((t : Int) - (s : Int)) &&& BitVec.ofInt 64 (s : Int)).toNat : Nat) = _
  rw [BitVec.toNat_and, e1, e2, IntKind.wrap_i64]
  have h3 : nextW 64 s t ≤ s := Nat.and_le_right
  have h4 : ((2 ^ 64 - 1 - s) + t + 1) &&& s = nextW 64 s t := rfl
  rw [h4]
  omega
/-- By the highest bit: what the reference does. -/
theorem subW_high : ∀ (w s : Nat), subW (w + 1) s = if s / 2 ^ w % 2 = 1 then subW w s ++ (subW w s).map (fun t => t + 2 ^ w) else subW w s
  | 0, s => by
    rcases two_cases s with ⟨q, rfl⟩ | ⟨q, rfl⟩
    · rw [subW_even, if_neg (by simp)]
      rfl
    · rw [subW_odd, if_pos (by simp)]
      rfl
  | w + 1, s => by
    have hp : 2 ^ (w + 1) = 2 * 2 ^ w := by rw [Nat.pow_succ]; omega
    rcases two_cases s with ⟨q, rfl⟩ | ⟨q, rfl⟩
    · rw [subW_even, subW_high w q, subW_even]
      have hq : 2 * q / 2 ^ (w + 1) = q / 2 ^ w := by rw [hp, Nat.mul_div_mul_left _ _ (by omega)]
      rw [hq]
      split
      · rw [List.map_append, List.map_map, List.map_map]
        congr 1
        apply List.map_congr_left
        intro t _
        show 2 * (t + 2 ^ w) = 2 * t + 2 ^ (w + 1)
        omega
      · rfl
    · rw [subW_odd, subW_high w q, subW_odd]
      have hq : (2 * q + 1) / 2 ^ (w + 1) = q / 2 ^ w := by
        rw [hp, ← Nat.div_div_eq_div_mul]
        congr 1
        omega
      rw [hq]
      split
      · have ha : ∀ a b : List Nat, pairsL (a ++ b) = pairsL a ++ pairsL b := by intro a b; simp [pairsL]
        have hm : ∀ l : List Nat, pairsL (l.map (fun t => t + 2 ^ w)) = (pairsL l).map (fun t => t + 2 ^ (w + 1)) := by
          intro l
          induction l with
          | nil => rfl
          | cons x l ih =>
            have e : ∀ (x : Nat) (l : List Nat), pairsL (x :: l) = 2 * x :: (2 * x + 1) :: pairsL l := by intro x l; simp [pairsL]
            rw [List.map_cons, e, e, ih, List.map_cons, List.map_cons]
            congr 1
            · omega
            · congr 1
              omega
        rw [ha, hm]
      · rfl
end Go.Proofs.YtdmedphpddhjcaaDoor.sets

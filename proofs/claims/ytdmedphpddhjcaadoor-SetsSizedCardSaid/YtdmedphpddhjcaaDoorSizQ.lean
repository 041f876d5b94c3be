/- Gosper's step in Go's words; the spread of a set's members; how many ways there are to choose. -/
import Derived.Test.YtdmedphpddhjcaaDoorSizP
import Derived.Test.YtdmedphpddhjcaaDoorSubI
namespace Go.Proofs.YtdmedphpddhjcaaDoor.sets
set_option linter.unusedVariables false

theorem go_low (x j m : Nat) (hx : x = (2 * m + 1) * 2 ^ j) (h : x < 9223372036854775808) : bits .and .i64 (x : Int) (-(x : Int)) = ((2 ^ j : Nat) : Int) := by
  have hp := Nat.two_pow_pos j
  have hpx : 2 ^ j ≤ x := by rw [hx]; exact Nat.le_mul_of_pos_left _ (by omega)
  have hj : j < 64 := by
    rcases Nat.lt_or_ge j 64 with h' | h'
    · exact h'
    · have : 2 ^ 64 ≤ 2 ^ j := Nat.pow_le_pow_right (by omega) h'
      omega
  have e1 : (BitVec.ofInt 64 (x : Int)).toNat = x := by rw [BitVec.toNat_ofInt]; omega
  have e2 : (BitVec.ofInt 64 (-(x : Int))).toNat = 2 ^ 64 - x := by rw [BitVec.toNat_ofInt]; omega
  have e3 := low_nat j 64 m hj (by omega)
  rw [← hx] at e3
  show IntKind.i64.wrap ((BitVec.ofInt 64 (x : Int) &&& BitVec.ofInt 64 (-(x : Int))).toNat : Nat) = _
  rw [BitVec.toNat_and, e1, e2, e3, IntKind.wrap_i64]
  omega
theorem xor_nat (a b : Nat) (ha : a < 9223372036854775808) (hb : b < 9223372036854775808) : bits .xor .i64 (a : Int) (b : Int) = ((a ^^^ b : Nat) : Int) := by
  have e1 : (BitVec.ofInt 64 (a : Int)).toNat = a := by rw [BitVec.toNat_ofInt]; omega
  have e2 : (BitVec.ofInt 64 (b : Int)).toNat = b := by rw [BitVec.toNat_ofInt]; omega
  have hle : a ^^^ b < 2 ^ 63 := Nat.xor_lt_two_pow ha hb
  show IntKind.i64.wrap ((BitVec.ofInt 64 (a : Int) ^^^ BitVec.ofInt 64 (b : Int)).toNat : Nat) = _
  rw [BitVec.toNat_xor, e1, e2, IntKind.wrap_i64]
  omega

theorem gos_step {n x y : Nat} (h : Gos n x y) (hn : n ≤ 63) (hy : y < 2 ^ n) : ∃ low q d e : Nat, 1 ≤ low ∧ bits .and .i64 (x : Int) (-(x : Int)) = (low : Int) ∧ x + low < 2 ^ n ∧ bits .xor .i64 (x : Int) ((x + low : Nat) : Int) = (q : Int) ∧ q / low = d ∧ d / 4 = e ∧ bits .or .i64 ((x + low : Nat) : Int) (e : Int) = (y : Int) ∧ 1 ≤ x := by
  obtain ⟨h, j, r, h1, h2, h3, h4⟩ := h
  obtain ⟨r, rfl⟩ : ∃ s, r = s + 1 := ⟨r - 1, by omega⟩
  have h63 : 2 ^ n ≤ 2 ^ 63 := Nat.pow_le_pow_right (by omega) hn
  have e1 : 2 ^ (j + (r + 1) + 1) = 2 * 2 ^ (j + (r + 1)) := by rw [Nat.pow_succ]; omega
  have e2 : 2 ^ (j + (r + 1)) = 2 ^ (r + 1) * 2 ^ j := by rw [Nat.pow_add, Nat.mul_comm]
  have e3 : 2 ^ (r + 1) = 2 * 2 ^ r := by rw [Nat.pow_succ]; omega
  have e4 : 2 ^ (r + 1 + 1) = 2 * 2 ^ (r + 1) := by rw [Nat.pow_succ]; omega
  have pj := Nat.two_pow_pos j
  have pr := Nat.two_pow_pos r
  have ple : 2 ^ j ≤ 2 ^ (r + 1) * 2 ^ j := Nat.le_mul_of_pos_left _ (by omega)
  have hup : x + 2 ^ j = h * 2 ^ (j + (r + 1) + 1) + 2 ^ (j + (r + 1)) := by
    rw [h3, Nat.sub_mul, ← e2]; omega
  have hupy : x + 2 ^ j ≤ y := by rw [hup, h4]; omega
  have hxm : x = (2 * (h * 2 ^ (r + 1) + (2 ^ r - 1)) + 1) * 2 ^ j := by
    rw [show 2 * (h * 2 ^ (r + 1) + (2 ^ r - 1)) + 1 = h * (2 * 2 ^ (r + 1)) + (2 ^ (r + 1) - 1) by rw [Nat.mul_left_comm]; omega, Nat.add_mul, Nat.mul_assoc, Nat.mul_assoc, ← e2, ← e1]
    exact h3
  refine ⟨2 ^ j, (2 ^ (r + 1 + 1) - 1) * 2 ^ j, 2 ^ (r + 1 + 1) - 1, 2 ^ r - 1, pj, go_low x j _ hxm (by omega), by omega, ?_, ?_, by omega, ?_, ?_⟩
  · rw [xor_nat _ _ (by omega) (by omega), hup, h3, xor_run]
  · exact Nat.mul_div_cancel _ pj
  · have hrj : 2 ^ r ≤ 2 ^ (j + (r + 1)) := Nat.pow_le_pow_right (by omega) (by omega)
    have hpx : 2 ^ (j + (r + 1)) * (2 * h + 1) = x + 2 ^ j := by rw [hup, e1, Nat.mul_add, Nat.mul_one, Nat.mul_left_comm, Nat.mul_comm h, ← Nat.mul_assoc]
    have ho := Nat.two_pow_add_eq_or_of_lt (i := j + (r + 1)) (b := 2 ^ r - 1) (by omega) (2 * h + 1)
    rw [hpx] at ho
    rw [or_nat _ _ (by omega) (by omega), ← ho, hup, h4]
    rfl
  · rw [hxm]; exact Nat.mul_pos (by omega) pj

/-- At the last one. -/
theorem gos_last {n k : Nat} (hk : 1 ≤ k) (hkn : k ≤ n) (hn : n ≤ 63) : bits .and .i64 ((2 ^ n - 2 ^ (n - k) : Nat) : Int) (-((2 ^ n - 2 ^ (n - k) : Nat) : Int)) = ((2 ^ (n - k) : Nat) : Int) := by
  have h63 : 2 ^ n ≤ 2 ^ 63 := Nat.pow_le_pow_right (by omega) hn
  have e2 : 2 ^ n = 2 ^ k * 2 ^ (n - k) := by rw [← Nat.pow_add, show k + (n - k) = n by omega]
  obtain ⟨k, rfl⟩ : ∃ s, k = s + 1 := ⟨k - 1, by omega⟩
  have e3 : 2 ^ (k + 1) = 2 * 2 ^ k := by rw [Nat.pow_succ]; omega
  have pk := Nat.two_pow_pos k
  have pj := Nat.two_pow_pos (n - (k + 1))
  refine go_low _ (n - (k + 1)) (2 ^ k - 1) ?_ (by omega)
  rw [show 2 * (2 ^ k - 1) + 1 = 2 ^ (k + 1) - 1 by omega, Nat.sub_mul, ← e2]
  omega

/-- The members at the places of p below k, as a set. -/
def sprN (l : List Int) (p : Nat) : Nat → Int
  | 0 => 0
  | k + 1 => sprN l p k + if p.testBit k then pow2 (l[k]?.getD 0).toNat else 0
theorem spr_step {l : List Int} {p k : Nat} {x : Int} (h : l[k]? = some x) : sprN l p (k + 1) = sprN l p k + if p.testBit k then pow2 x.toNat else 0 := by rw [sprN, h]; rfl
theorem pow2_mono {a b : Nat} (h : a ≤ b) : pow2 a ≤ pow2 b := by
  unfold pow2
  have := Nat.pow_le_pow_right (n := 2) (by omega) h
  omega
theorem spr_bound {l : List Int} (hl : l.Pairwise (· < ·)) (h0 : ∀ x ∈ l, 0 ≤ x) (p : Nat) : ∀ (k : Nat) (x : Int), l[k]? = some x → 0 ≤ sprN l p k ∧ sprN l p k < pow2 x.toNat
  | 0, x, h => ⟨Int.le_refl _, by have := pow2_pos x.toNat; show (0 : Int) < _; omega⟩
  | k + 1, x, h => by
    obtain ⟨hk, hx⟩ := List.getElem?_eq_some_iff.1 h
    have hy : l[k]? = some l[k] := List.getElem?_eq_getElem (by omega)
    have ih := spr_bound hl h0 p k _ hy
    have hlt : l[k] < x := by rw [← hx]; exact (List.pairwise_iff_getElem.1 hl) k (k + 1) (by omega) hk (by omega)
    have hy0 := h0 _ (List.getElem_mem (show k < l.length by omega))
    have hm := pow2_mono (show l[k].toNat + 1 ≤ x.toNat by omega)
    have hpp := pow2_pos l[k].toNat
    rw [pow2_succ] at hm
    rw [spr_step hy]
    split <;> omega
theorem memL_up (s : Int) : (memL s).Pairwise (· < ·) := by
  unfold memL memTo
  rw [List.pairwise_map]
  exact (List.pairwise_lt_range.filter _).imp (fun h => by omega)
theorem memL_in {s x : Int} (h : x ∈ memL s) : 0 ≤ x ∧ x ≤ 62 := by
  have := mem_memL.1 h
  unfold hasB at this
  rw [decide_eq_true_eq] at this
  exact ⟨this.1, this.2.1⟩
theorem spr_lt {l : List Int} (hl : l.Pairwise (· < ·)) (h0 : ∀ x ∈ l, 0 ≤ x ∧ x ≤ 62) (p k : Nat) (hk : k ≤ l.length) : 0 ≤ sprN l p k ∧ sprN l p k < 9223372036854775808 := by
  rcases k with _ | k
  · exact ⟨Int.le_refl _, by show (0 : Int) < _; omega⟩
  · have hy : l[k]? = some l[k] := List.getElem?_eq_getElem (by omega)
    have h1 := spr_bound hl (fun x hx => (h0 x hx).1) p k _ hy
    have h2 := h0 _ (List.getElem_mem (show k < l.length by omega))
    have h3 := pow2_le (j := l[k].toNat) (by omega)
    rw [spr_step hy]
    split <;> omega

/-- What the reference lists. -/
def szL (L : List Int) : Nat → Nat → List Int
  | _, 0 => [0]
  | 0, _ + 1 => []
  | n + 1, k + 1 => szL L n (k + 1) ++ (szL L n k).map (fun t => t + pow2 (L[n]?.getD 0).toNat)
theorem szL_zero (L : List Int) (n : Nat) : szL L n 0 = [0] := by cases n <;> rfl
theorem szL_len (L : List Int) : ∀ n k, (szL L n k).length = chN n k
  | n, 0 => by rw [szL_zero, chN_zero]; rfl
  | 0, k + 1 => rfl
  | n + 1, k + 1 => by
    show (szL L n (k + 1) ++ (szL L n k).map _).length = chN n (k + 1) + chN n k
    rw [List.length_append, List.length_map, szL_len L n (k + 1), szL_len L n k]
theorem szL_nil (L : List Int) {n k : Nat} (h : n < k) : szL L n k = [] := List.eq_nil_of_length_eq_zero (by rw [szL_len, chN_big _ _ h])
theorem spr_congr (L : List Int) (p q : Nat) : ∀ k, (∀ i, i < k → p.testBit i = q.testBit i) → sprN L p k = sprN L q k
  | 0, _ => rfl
  | k + 1, h => by
    rw [sprN, sprN, spr_congr L p q k (fun i hi => h i (by omega)), h k (by omega)]
theorem spr_zero (L : List Int) : ∀ n, sprN L 0 n = 0
  | 0 => rfl
  | n + 1 => by rw [sprN, spr_zero L n]; simp
/-- The program's list is the reference's. -/
theorem spr_sizW (L : List Int) : ∀ n k, (sizW n k).map (fun t => sprN L t n) = szL L n k
  | n, 0 => by rw [sizW_zero, szL_zero, List.map_cons, spr_zero]; rfl
  | 0, k + 1 => rfl
  | n + 1, k + 1 => by
    rw [sizW_succ, List.map_append, List.map_map]
    show _ = szL L n (k + 1) ++ (szL L n k).map _
    rw [← spr_sizW L n (k + 1), ← spr_sizW L n k, List.map_map]
    congr 1
    · apply List.map_congr_left
      intro t ht
      rw [sprN, Nat.testBit_lt_two_pow (sizW_lt n (k + 1) t ht)]
      simp
    · apply List.map_congr_left
      intro t ht
      have hlt := sizW_lt n k t ht
      show sprN L (t + 2 ^ n) (n + 1) = sprN L t n + _
      rw [sprN, Nat.add_comm t, Nat.testBit_two_pow_add_eq, Nat.testBit_lt_two_pow hlt, spr_congr L (2 ^ n + t) t n (fun i hi => Nat.testBit_two_pow_add_gt hi t)]
      simp

/-- The product rule. -/
theorem chN_mul : ∀ n k, chN (n + 1) (k + 1) * (k + 1) = chN n k * (n + 1)
  | n, 0 => by
    have h : ∀ n, chN n 1 = n := by
      intro n
      induction n with
      | zero => rfl
      | succ n ih => show chN n 1 + chN n 0 = n + 1; rw [ih, chN_zero]
    rw [h, chN_zero]; omega
  | 0, k + 1 => by
    rw [chN_big 1 (k + 2) (by omega), chN_big 0 (k + 1) (by omega)]; omega
  | n + 1, k + 1 => by
    have h1 := chN_mul n (k + 1)
    have h2 := chN_mul n k
    have e1 : chN (n + 1 + 1) (k + 1 + 1) = chN (n + 1) (k + 1 + 1) + chN (n + 1) (k + 1) := rfl
    have e2 : chN (n + 1) (k + 1) = chN n (k + 1) + chN n k := rfl
    rw [e1, Nat.add_mul, h1, Nat.mul_succ (chN (n + 1) (k + 1)) (k + 1), h2, Nat.mul_succ (chN (n + 1) (k + 1)) (n + 1)]
    rw [show chN n (k + 1) * (n + 1) + (chN n k * (n + 1) + chN (n + 1) (k + 1)) = (chN n (k + 1) + chN n k) * (n + 1) + chN (n + 1) (k + 1) by rw [Nat.add_mul]; omega, ← e2]
theorem chN_div (m i : Nat) : chN m i * (m + 1) / (i + 1) = chN (m + 1) (i + 1) := by
  rw [← chN_mul]; exact Nat.mul_div_cancel _ (by omega)
theorem chN_up (a i : Nat) : ∀ d, chN a i ≤ chN (a + d) (i + d)
  | 0 => Nat.le_refl _
  | d + 1 => by
    have := chN_up a i d
    have e : chN (a + d + 1) (i + d + 1) = chN (a + d) (i + d + 1) + chN (a + d) (i + d) := rfl
    show _ ≤ chN (a + d + 1) (i + d + 1)
    omega
theorem chN_symm : ∀ a b, chN (a + b) a = chN (a + b) b
  | 0, b => by rw [chN_zero, Nat.zero_add, chN_self]
  | a + 1, 0 => by rw [chN_zero, Nat.add_zero, chN_self]
  | a + 1, b + 1 => by
    have h1 := chN_symm a (b + 1)
    have h2 := chN_symm (a + 1) b
    show chN (a + 1 + b + 1) (a + 1) = chN (a + 1 + b + 1) (b + 1)
    have e1 : chN (a + 1 + b + 1) (a + 1) = chN (a + 1 + b) (a + 1) + chN (a + 1 + b) a := rfl
    have e2 : chN (a + 1 + b + 1) (b + 1) = chN (a + 1 + b) (b + 1) + chN (a + 1 + b) b := rfl
    rw [show a + (b + 1) = a + 1 + b by omega] at h1
    rw [e1, e2, h1, h2]; omega
termination_by a b => a + b
def cap5 (n : Nat) : Nat := if 100000 < n then 100000 else n
theorem chN_sum (n : Nat) (h : n ≤ 10) : (List.range 12).foldl (fun s k => s + chN n k) 0 = 2 ^ n := by
  rcases n with _|_|_|_|_|_|_|_|_|_|_|n <;> first | rfl | omega
theorem chN_small (n k : Nat) (h : n ≤ 10) : chN n k ≤ 2 ^ n := by
  clear h
  induction n generalizing k with
  | zero => cases k <;> simp [chN]
  | succ n ih =>
    have hp : 2 ^ (n + 1) = 2 * 2 ^ n := by rw [Nat.pow_succ]; omega
    cases k with
    | zero => rw [chN_zero]; have := Nat.two_pow_pos (n + 1); omega
    | succ k => have h1 := ih k; have h2 := ih (k + 1); show chN n (k + 1) + chN n k ≤ _; omega
end Go.Proofs.YtdmedphpddhjcaaDoor.sets

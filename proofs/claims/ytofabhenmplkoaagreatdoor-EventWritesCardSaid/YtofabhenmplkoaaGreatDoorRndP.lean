/- Plain facts on the random numbers: the generator of Lehmer, one step back, and a shuffle as a permutation. -/
import Derived.Test.YtofabhenmplkoaaGreatDoorRows
namespace Go.Proofs.YtofabhenmplkoaaGreatDoor.rnd
set_option linter.unusedVariables false

def good (a : Int) : Int := if a.tmod 2147483647 < 0 then a.tmod 2147483647 + 2147483647 else if a.tmod 2147483647 = 0 then 1 else a.tmod 2147483647
def nxt (a : Int) : Int := good a * 48271 % 2147483647
def bel (a n : Int) : Int := if n < 1 then 0 else (nxt a - 1) % n

theorem tmod_bd (a : Int) : -2147483647 < a.tmod 2147483647 ∧ a.tmod 2147483647 < 2147483647 := by
  refine ⟨?_, Int.tmod_lt_of_pos a (by decide)⟩
  rcases Int.le_total 0 a with h | h
  · have := Int.tmod_nonneg 2147483647 h; omega
  · have h1 := Int.tmod_lt_of_pos (-a) (b := 2147483647) (by decide)
    rw [Int.neg_tmod] at h1
    omega
theorem good_bd (a : Int) : 1 ≤ good a ∧ good a ≤ 2147483646 := by
  have h := tmod_bd a
  unfold good
  split
  · omega
  · split <;> omega
theorem good_id {a : Int} (h : 1 ≤ a) (h' : a ≤ 2147483646) : good a = a := by
  have e : a.tmod 2147483647 = a := Int.tmod_eq_of_lt (by omega) (by omega)
  unfold good
  rw [e, if_neg (by omega), if_neg (by omega)]
theorem nxt_bd (a : Int) : 1 ≤ nxt a ∧ nxt a ≤ 2147483646 := by
  have h := good_bd a
  unfold nxt
  generalize good a = g at *
  omega
theorem nxt_back (a : Int) : nxt a * 1899818559 % 2147483647 = good a := by
  have h := good_bd a
  unfold nxt
  generalize good a = g at *
  omega
theorem bel_bd (a n : Int) (h : 1 ≤ n) : 0 ≤ bel a n ∧ bel a n < n := by
  unfold bel
  rw [if_neg (by omega)]
  exact ⟨Int.emod_nonneg _ (by omega), Int.emod_lt_of_pos _ (by omega)⟩

/-! A shuffle. -/
def upto (n : Nat) : List Int := (List.range n).map (fun k : Nat => (k : Int))
theorem upto_length (n : Nat) : (upto n).length = n := by simp [upto]
theorem upto_succ (n : Nat) : upto (n + 1) = upto n ++ [(n : Int)] := by simp [upto, List.range_succ]
def swapL (l : List Int) (i k : Nat) : List Int := (l.set i (l[k]?.getD 0)).set k (l[i]?.getD 0)
theorem swapL_length (l : List Int) (i k : Nat) : (swapL l i k).length = l.length := by simp [swapL]
def shufGo : Nat → Int → List Int → List Int × Int
  | 0, s, l => (l, s)
  | i + 1, s, l => shufGo i (nxt s) (swapL l (i + 1) (bel s (i + 2)).toNat)
def shufL (a : Int) (n : Nat) : List Int := (shufGo (n - 1) (good a) (upto n)).1
def shufS (a : Int) (n : Nat) : Int := (shufGo (n - 1) (good a) (upto n)).2
theorem shufGo_length : ∀ (i : Nat) (s : Int) (l : List Int), (shufGo i s l).1.length = l.length
  | 0, s, l => rfl
  | i + 1, s, l => by rw [shufGo, shufGo_length i, swapL_length]
theorem shufL_length (a : Int) (n : Nat) : (shufL a n).length = n := by rw [shufL, shufGo_length, upto_length]
theorem swap_perm (l : List Int) (i k : Nat) (hi : i < l.length) (hk : k < l.length) : (swapL l i k).Perm l := by
  unfold swapL
  have e : (l.set i (l[k]?.getD 0)).set k (l[i]?.getD 0) = (l.toArray.swap i k (by simpa using hi) (by simpa using hk)).toList := by
    apply List.ext_getElem
    · simp
    · intro j h1 h2
      simp [List.getElem_set, List.getElem?_eq_getElem hi, List.getElem?_eq_getElem hk]
  rw [e]
  exact (Array.perm_iff_toList_perm.1 (Array.swap_perm _ _))
theorem shufGo_perm : ∀ (i : Nat) (s : Int) (l : List Int), (i = 0 ∨ i < l.length) → (shufGo i s l).1.Perm l
  | 0, s, l, _ => List.Perm.refl _
  | i + 1, s, l, h => by
    have hb := bel_bd s (i + 2) (by omega)
    have hp := swap_perm l (i + 1) (bel s (i + 2)).toNat (by omega) (by omega)
    rw [shufGo]
    exact (shufGo_perm i _ _ (by right; rw [swapL_length]; omega)).trans hp
theorem shufL_perm (a : Int) (n : Nat) : (shufL a n).Perm (upto n) := shufGo_perm _ _ _ (by rw [upto_length]; omega)
theorem upto_nodup (n : Nat) : (upto n).Nodup := by
  unfold upto
  rw [List.nodup_iff_pairwise_ne, List.pairwise_map]
  exact (List.pairwise_lt_range (n := n)).imp (fun h => by omega)
theorem shufL_nodup (a : Int) (n : Nat) : (shufL a n).Nodup := (shufL_perm a n).symm.nodup (upto_nodup n)
theorem shufL_bd (a : Int) (n : Nat) (x : Int) (h : x ∈ shufL a n) : 0 ≤ x ∧ x < n := by
  have h1 := (shufL_perm a n).mem_iff.1 h
  simp only [upto, List.mem_map, List.mem_range] at h1
  obtain ⟨k, hk, rfl⟩ := h1
  omega
end Go.Proofs.YtofabhenmplkoaaGreatDoor.rnd

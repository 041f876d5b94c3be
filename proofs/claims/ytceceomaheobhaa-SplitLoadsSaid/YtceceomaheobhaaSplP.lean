/- Plain functions of split loads. -/
import Derived.Test.YtceceomaheobhaaBase
namespace Go.Proofs.Ytceceomaheobhaa.spl
open Go.Proofs.Ytceceomaheobhaa.loads
set_option linter.unusedVariables false

/-- The part k (from 0 on) of n parts of q. -/
def porI (q n k : Int) : Int := q / n + (if k < q % n then 1 else 0)
theorem porI_bd {q n k : Int} (h0 : 0 ≤ q) (h1 : 1 ≤ n) : 0 ≤ porI q n k ∧ porI q n k ≤ q + 1 := by
  have a : 0 ≤ q / n := Int.ediv_nonneg h0 (by omega)
  have b : q / n ≤ q := Int.ediv_le_self _ h0
  unfold porI
  split <;> omega
/-- How many of k, k + n, .. are at most q. -/
def cntI (q n k : Int) : Int := if k ≤ q then (q - k) / n + 1 else 0
theorem cnt_step {q n k : Int} (hn : 1 ≤ n) (h : k ≤ q) : cntI q n k = 1 + cntI q n (k + n) := by
  unfold cntI
  rw [if_pos h]
  have e : q - k = (q - (k + n)) + n * 1 := by omega
  split
  · rw [e, Int.add_mul_ediv_left _ _ (by omega)]
    omega
  · rw [Int.ediv_eq_zero_of_lt (by omega) (by omega)]
    rfl
theorem cnt_end {q n k : Int} (h : ¬ k ≤ q) : cntI q n k = 0 := by unfold cntI; rw [if_neg h]
theorem cnt_por {q : Int} {n k : Nat} (h0 : 0 ≤ q) (hn : 1 ≤ n) (hn4 : n ≤ 4) (hk : k < n) : cntI q n ((k : Int) + 1) = porI q n k := by
  unfold cntI porI
  have : n = 1 ∨ n = 2 ∨ n = 3 ∨ n = 4 := by omega
  rcases this with rfl | rfl | rfl | rfl
  all_goals (split <;> split <;> omega)
def ptL (l : List Int) (n k : Int) : List Int := l.map fun q => porI q n k
theorem ptL_len (l : List Int) (n k : Int) : (ptL l n k).length = l.length := by unfold ptL; rw [List.length_map]
theorem ptL_at {l : List Int} {i : Nat} {x : Int} (h : l[i]? = some x) (n k : Int) : (ptL l n k)[i]? = some (porI x n k) := by
  unfold ptL
  rw [List.getElem?_map, h]
  rfl
/-- The first j of the n parts. -/
def partsTo (l : List Int) (n j : Nat) : List (List Int) := (List.range j).map fun k : Nat => ptL l n k
def partsL (l : List Int) (n : Nat) : List (List Int) := partsTo l n n
theorem partsTo_len (l : List Int) (n j : Nat) : (partsTo l n j).length = j := by unfold partsTo; simp
theorem partsTo_zero (l : List Int) (n : Nat) : partsTo l n 0 = [] := rfl
theorem partsTo_succ (l : List Int) (n j : Nat) : partsTo l n (j + 1) = partsTo l n j ++ [ptL l n j] := by
  unfold partsTo
  rw [List.range_succ, List.map_append]
  rfl
theorem partsL_len (l : List Int) (n : Nat) : (partsL l n).length = n := partsTo_len l n n
theorem partsL_at (l : List Int) {n k : Nat} (h : k < n) : (partsL l n)[k]? = some (ptL l n k) := by
  unfold partsL partsTo
  rw [List.getElem?_map, List.getElem?_range h]
  rfl
/-- A right load: at most three numbers from 0 to 1000. -/
def okLd (l : List Int) : Bool := decide (l.length ≤ 3) && rightB l l.length
theorem okLd_at {l : List Int} (h : okLd l = true) {x : Int} (hx : x ∈ l) : 0 ≤ x ∧ x ≤ 1000 := by
  unfold okLd rightB at h
  simp only [Bool.and_eq_true, List.all_eq_true, decide_eq_true_eq] at h
  exact h.2.1 x hx
theorem okLd_len {l : List Int} (h : okLd l = true) : l.length ≤ 3 := by
  unfold okLd at h
  simp only [Bool.and_eq_true, decide_eq_true_eq] at h
  exact h.1
/-- What Loads answers. -/
def loadsF (l : List Int) (n : Int) : Option (List (List Int)) := if (1 ≤ n ∧ n ≤ 4) ∧ okLd l = true then some (partsL l n.toNat) else none
theorem loadsF_some {l : List Int} {n : Nat} (h1 : 1 ≤ n) (h4 : n ≤ 4) (hl : okLd l = true) : loadsF l n = some (partsL l n) := by
  unfold loadsF
  rw [if_pos ⟨by omega, hl⟩, Int.toNat_natCast]
theorem loadsF_num {l : List Int} {n : Int} (h : n < 1 ∨ 4 < n) : loadsF l n = none := by
  unfold loadsF
  rw [if_neg (by omega)]
theorem loadsF_bad {l : List Int} {n : Int} (h : okLd l = false) : loadsF l n = none := by
  unfold loadsF
  rw [if_neg (by rw [h]; simp)]
/-- The sum of the parts of one number. -/
theorem por_sum {q : Int} {n : Nat} (h0 : 0 ≤ q) (hn : 1 ≤ n) (hn4 : n ≤ 4) : ((List.range n).map fun k : Nat => porI q n k).sum = q := by
  unfold porI
  have : n = 1 ∨ n = 2 ∨ n = 3 ∨ n = 4 := by omega
  rcases this with rfl | rfl | rfl | rfl
  all_goals
    simp only [List.range_succ, List.range_zero, List.nil_append, List.cons_append, List.map_cons, List.map_nil, List.sum_cons, List.sum_nil]
    repeat' split
    all_goals omega
end Go.Proofs.Ytceceomaheobhaa.spl

/- Plain functions of loads. -/
import Derived.Test.YtceceomaheobhaaDoorRows
namespace Go.Proofs.YtceceomaheobhaaDoor.loads
set_option linter.unusedVariables false

def withinB (l : List Int) (m : Int) : Bool := l.all fun x => decide (-m ≤ x ∧ x ≤ m)
def fitsGo : List Int → List Int → Bool
  | x :: xs, y :: ys => decide (x ≤ y) && fitsGo xs ys
  | _, _ => true
def fitsB (a c : List Int) : Bool := decide (a.length = c.length) && fitsGo a c
def rightB (a : List Int) (d : Int) : Bool := (a.all fun x => decide (0 ≤ x ∧ x ≤ 1000)) && decide ((a.length : Int) = d)
def negB (c : List Int) : Bool := c.any fun x => decide (x < 0)
def tripsGo : List Int → List Int → Int → Int × Int
  | x :: xs, y :: ys, t => if x ≤ 0 then tripsGo xs ys t else if y = 0 then (0, 24) else tripsGo xs ys (max t ((x + y - 1) / y))
  | _, _, t => (t, 0)
def trips (a c : List Int) : Int × Int := if a.length = c.length then (if negB c = true then (0, 2) else tripsGo a c 0) else (0, 2)
def sameB (a b : List Int) : Bool := decide (a = b)
theorem tripsGo_nil (c : List Int) (t : Int) : tripsGo [] c t = (t, 0) := by cases c <;> rfl
theorem quo_bd {x y : Int} (hx : 0 < x) (hy : 0 < y) : 0 ≤ (x + y - 1) / y ∧ (x + y - 1) / y ≤ x := by
  refine ⟨Int.ediv_nonneg (by omega) (by omega), ?_⟩
  refine Int.le_of_lt_add_one (Int.ediv_lt_of_lt_mul hy ?_)
  have h1 : y + x ≤ (x + 1) * y := by
    have h2 : 0 ≤ (x : Int) * (y - 1) := Int.mul_nonneg (by omega) (by omega)
    rw [Int.mul_sub] at h2
    rw [Int.add_mul]
    omega
  omega
theorem all_take {p : Int → Bool} {l : List Int} {k : Nat} {x : Int} (h : l[k]? = some x) : (l.drop k).all p = (p x && (l.drop (k + 1)).all p) := by
  obtain ⟨hk, rfl⟩ := List.getElem?_eq_some_iff.1 h
  rw [List.drop_eq_getElem_cons hk, List.all_cons]
theorem any_take {p : Int → Bool} {l : List Int} {k : Nat} {x : Int} (h : l[k]? = some x) : (l.drop k).any p = (p x || (l.drop (k + 1)).any p) := by
  obtain ⟨hk, rfl⟩ := List.getElem?_eq_some_iff.1 h
  rw [List.drop_eq_getElem_cons hk, List.any_cons]

/-- All rows have the length d. -/
def evenB (ls : List (List Int)) (d : Nat) : Bool := ls.all fun l => decide (l.length = d)
/-- The fold of the columns. -/
def colD (op : Int → Int → Int) (ls : List (List Int)) (d : Nat) (z : Int) : Int := ls.foldl (fun n l => op n (l[d]?.getD 0)) z
def colL (op : Int → Int → Int) (ls : List (List Int)) (acc : List Int) : List Int := (List.range acc.length).map fun d => colD op ls d (acc[d]?.getD 0)
def zeros (d : Nat) : List Int := List.replicate d 0
theorem colL_nil (op : Int → Int → Int) (acc : List Int) : colL op [] acc = acc := by
  unfold colL colD
  apply List.ext_getElem
  · simp
  · intro i h1 h2
    simp [h2]
theorem colL_cons (op : Int → Int → Int) (l : List Int) (ls : List (List Int)) (acc : List Int) (h : l.length = acc.length) : colL op (l :: ls) acc = colL op ls (List.zipWith op acc l) := by
  unfold colL colD
  rw [List.length_zipWith, h, Nat.min_self]
  apply List.map_congr_left
  intro d hd
  rw [List.mem_range] at hd
  rw [List.foldl_cons, List.getElem?_zipWith, List.getElem?_eq_getElem hd, List.getElem?_eq_getElem (by omega : d < l.length)]
  rfl
theorem colL_length (op : Int → Int → Int) (ls : List (List Int)) (acc : List Int) : (colL op ls acc).length = acc.length := by simp [colL]
/-- The fold that the program makes. -/
def foldGo (op : Int → Int → Int) : List (List Int) → List Int → Option (List Int)
  | [], acc => some acc
  | l :: ls, acc => if l.length = acc.length then foldGo op ls (List.zipWith op acc l) else none
theorem foldGo_eq (op : Int → Int → Int) : ∀ (ls : List (List Int)) (acc : List Int), foldGo op ls acc = if evenB ls acc.length = true then some (colL op ls acc) else none
  | [], acc => by simp [foldGo, evenB, colL_nil]
  | l :: ls, acc => by
    rw [foldGo]
    by_cases h : l.length = acc.length
    · rw [if_pos h, foldGo_eq op ls, List.length_zipWith, h, Nat.min_self, ← colL_cons op l ls acc h]
      simp [evenB, h]
    · rw [if_neg h, if_neg]
      simp [evenB, h]

/-- A list of n numbers of which the first k are made. -/
def partL (l : List Int) (n k : Nat) : List Int := l.take k ++ List.replicate (n - k) 0
theorem partL_zero (l : List Int) (n : Nat) : partL l n 0 = List.replicate n 0 := by simp [partL]
theorem partL_length {l : List Int} {n k : Nat} (h : l.length = n) (hk : k ≤ n) : (partL l n k).length = n := by
  simp only [partL, List.length_append, List.length_take, List.length_replicate]
  omega
theorem partL_set {l : List Int} {n k : Nat} {x : Int} (h : l.length = n) (hx : l[k]? = some x) : (partL l n k).set k x = partL l n (k + 1) := by
  obtain ⟨hk, rfl⟩ := List.getElem?_eq_some_iff.1 hx
  unfold partL
  rw [List.set_append_right _ _ (by rw [List.length_take]; omega), List.length_take, Nat.min_eq_left (by omega), Nat.sub_self]
  rw [show n - k = (n - (k + 1)) + 1 by omega, List.replicate_succ, List.set_cons_zero, List.take_succ_eq_append_getElem hk, List.append_assoc]
  rfl
theorem partL_full {l : List Int} {n : Nat} (h : l.length = n) : partL l n n = l := by
  unfold partL
  rw [Nat.sub_self, List.take_of_length_le (by omega)]
  simp
theorem zip_at {op : Int → Int → Int} {a b : List Int} {k : Nat} {x y : Int} (hx : a[k]? = some x) (hy : b[k]? = some y) : (List.zipWith op a b)[k]? = some (op x y) := by
  rw [List.getElem?_zipWith, hx, hy]
end Go.Proofs.YtceceomaheobhaaDoor.loads

/- The load of a set of orders: order.Load. -/
import Derived.Test.YthkbfmbohoclaaaDoorOrdA
import Derived.Test.YthkbfmbohoclaaaDoorSumR
import Derived.Deep.RegionWith
import Derived.Deep.RegionHeld3
import Derived.Deep.DrawnRows
import Derived.Deep.DeepMust
namespace Go.Proofs.YthkbfmbohoclaaaDoor.ord
open Go.RowKit
open Go.Proofs.YthkbfmbohoclaaaDoor.lib Go.Proofs.YthkbfmbohoclaaaDoor.rd Go.Proofs.YthkbfmbohoclaaaDoor.typ Go.Proofs.YthkbfmbohoclaaaDoor.sumr Go.Proofs.YthkbfmbohoclaaaDoor.loads Go.Proofs.YthkbfmbohoclaaaDoor.sets
set_option linter.unusedVariables false
attribute [local go_sem ↓] Go.wp_at_zero Go.wp_at_succ

theorem within_any (a b c : Int) (w : World) : Calls Tryd.prog 44 #[.int .i64 a, .int .i64 b, .int .i64 c] w fun e w' => e = .returned (.bool (decide (b ≤ a) && decide (a ≤ c))) ∧ w = w' := by
  by_cases h : b ≤ a
  all_goals
    go_enter Tryd.func44, Tryd.ntmps44
    go_wp2
    go_ret
    exact ⟨ret_bool (by first | (simp [h]; done) | (simp; omega)), rfl⟩
theorem in_any (a b c : Int) (w : World) : Calls Tryd.prog 47 #[.int .i64 a, .int .i64 b, .int .i64 c] w fun e w' => e = .returned (.bool (decide (b ≤ a) && decide (a ≤ c))) ∧ w = w' := by
  by_cases h : b ≤ a
  all_goals
    go_enter Tryd.func47, Tryd.ntmps47
    go_wp2
    go_ret
    exact ⟨ret_bool (by first | (simp [h]; done) | (simp; omega)), rfl⟩
theorem there_any (A : Option Addr) (n c : Nat) (i : Int) (hn : n ≤ 17592186043904) (w : World) : Calls Tryd.prog 46 #[.slice A n c, .int .i64 i] w fun e w' => e = .returned (.bool (decide (0 ≤ i) && decide (i < n))) ∧ w = w' := by
  by_cases h : 0 ≤ i
  all_goals
    go_enter Tryd.func46, Tryd.ntmps46
    go_wp2
    go_ret
    exact ⟨ret_bool (by first | (simp [h]; done) | (simp; omega)), rfl⟩

/-! The plain law of the load. -/
def loadOf (l : List Ord) (i : Int) : List Int := match l[i.toNat]? with | some o => o.load | none => []
def rowsOf (l : List Ord) (ms : List Int) : List (List Int) := ms.map (loadOf l)
def inAll (ms : List Int) (n : Nat) : Bool := ms.all fun m => decide (m < n)
def loadF (l : List Ord) (s dims : Int) : Option (List Int) := if 0 ≤ s ∧ inAll (memL s) l.length = true then foldR (fun x y => x + y) (rowsOf l (memL s)) dims else none
def stL (acc row : List Int) (q : Nat) : List Int := List.zipWith (fun x y => x + y) (acc.take q) (row.take q) ++ acc.drop q
theorem stL_zero (acc row : List Int) : stL acc row 0 = acc := by simp [stL]
theorem stL_full {acc row : List Int} {d : Nat} (h1 : acc.length = d) (h2 : row.length = d) : stL acc row d = List.zipWith (fun x y => x + y) acc row := by
  subst h1
  unfold stL
  rw [List.take_of_length_le (Nat.le_refl _), List.take_of_length_le (by omega), List.drop_length, List.append_nil]
theorem stL_length {acc row : List Int} {d q : Nat} (h1 : acc.length = d) (h2 : row.length = d) (hq : q ≤ d) : (stL acc row q).length = d := by
  simp only [stL, List.length_append, List.length_zipWith, List.length_take, List.length_drop]
  omega
theorem stL_at {acc row : List Int} {d q : Nat} {x : Int} (h1 : acc.length = d) (h2 : row.length = d) (hq : q < d) (hx : acc[q]? = some x) : (stL acc row q)[q]? = some x := by
  unfold stL
  rw [List.getElem?_append_right (by simp; omega), List.getElem?_drop, List.length_zipWith, List.length_take, List.length_take, ← hx]
  congr 1
  omega
theorem stL_set {acc row : List Int} {d q : Nat} {x y : Int} (h1 : acc.length = d) (h2 : row.length = d) (hq : q < d) (hx : acc[q]? = some x) (hy : row[q]? = some y) : (stL acc row q).set q (x + y) = stL acc row (q + 1) := by
  obtain ⟨_, hx2⟩ := List.getElem?_eq_some_iff.1 hx
  obtain ⟨_, hy2⟩ := List.getElem?_eq_some_iff.1 hy
  unfold stL
  have hz : (List.zipWith (fun x y => x + y) (acc.take q) (row.take q)).length = q := by simp; omega
  rw [List.set_append_right _ _ (by omega), hz, Nat.sub_self, List.drop_eq_getElem_cons (by omega), List.set_cons_zero, List.take_succ_eq_append_getElem (by omega), List.take_succ_eq_append_getElem (by omega), List.zipWith_append (by simp; omega), hx2, hy2]
  simp
end Go.Proofs.YthkbfmbohoclaaaDoor.ord

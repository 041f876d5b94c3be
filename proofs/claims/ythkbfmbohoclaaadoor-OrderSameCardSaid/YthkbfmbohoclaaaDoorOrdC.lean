/- The load of a set of orders: the walk of order.Load. -/
import Derived.Test.YthkbfmbohoclaaaDoorOrdB
namespace Go.Proofs.YthkbfmbohoclaaaDoor.ord
open Go.RowKit
open Go.Proofs.YthkbfmbohoclaaaDoor.lib Go.Proofs.YthkbfmbohoclaaaDoor.rd Go.Proofs.YthkbfmbohoclaaaDoor.typ Go.Proofs.YthkbfmbohoclaaaDoor.sumr Go.Proofs.YthkbfmbohoclaaaDoor.loads Go.Proofs.YthkbfmbohoclaaaDoor.sets
set_option linter.unusedVariables false
attribute [local go_sem ↓] Go.wp_at_zero Go.wp_at_succ

theorem loadF_neg {l : List Ord} {s dims : Int} (h : s < 0) : loadF l s dims = none := by unfold loadF; rw [if_neg (by omega)]
theorem loadF_dims {l : List Ord} {s dims : Int} (h : dims < 0 ∨ 3 < dims) : loadF l s dims = none := by
  unfold loadF
  split
  · exact foldR_no h
  · rfl
theorem memL_len (s : Int) : (memL s).length ≤ 63 := memTo_len s 63
theorem mem_nonneg {s x : Int} (h : x ∈ memL s) : 0 ≤ x ∧ x ≤ 62 := by
  have := mem_memL.1 h
  unfold hasB at this
  simp only [decide_eq_true_eq] at this
  omega
def inTo (ms : List Int) (n k : Nat) : Prop := ∀ (j : Nat) x, j < k → ms[j]? = some x → x < n
theorem inTo_step {ms : List Int} {n k : Nat} {x : Int} (h : inTo ms n k) (hx : ms[k]? = some x) (hn : x < n) : inTo ms n (k + 1) := by
  intro j y hj hy
  rcases Nat.lt_or_ge j k with h1 | h1
  · exact h j y h1 hy
  · obtain rfl : j = k := by omega
    rw [hx] at hy
    cases hy
    exact hn
theorem inTo_all {ms : List Int} {n : Nat} (h : inTo ms n ms.length) : inAll ms n = true := by
  unfold inAll
  rw [List.all_eq_true]
  intro x hx
  obtain ⟨j, hj, rfl⟩ := List.getElem_of_mem hx
  exact decide_eq_true (h j _ hj (List.getElem?_eq_getElem hj))
theorem inTo_no {ms : List Int} {n k : Nat} {x : Int} (hx : ms[k]? = some x) (hn : ¬ x < n) : inAll ms n = false := by
  unfold inAll
  rw [List.all_eq_false]
  exact ⟨x, List.mem_of_getElem? hx, by simpa using hn⟩
theorem loadF_out {l : List Ord} {s dims : Int} (h : inAll (memL s) l.length = false) : loadF l s dims = none := by
  unfold loadF
  rw [if_neg]
  rw [h]
  simp
theorem loadF_in {l : List Ord} {s dims : Int} (h0 : 0 ≤ s) (h : inAll (memL s) l.length = true) : loadF l s dims = foldR (fun x y => x + y) (rowsOf l (memL s)) dims := by
  unfold loadF
  rw [if_pos ⟨h0, h⟩]
theorem rowsOf_at {l : List Ord} {ms : List Int} {k i : Nat} {o : Ord} (h : ms[k]? = some (i : Int)) (ho : l[i]? = some o) : (rowsOf l ms)[k]? = some o.load := by
  unfold rowsOf
  rw [List.getElem?_map, h]
  simp [loadOf, ho]

theorem load_neg (A : Option Addr) (n c : Nat) (s dims : Int) (h : s < 0) (l : List Ord) (w : World) :
    Calls Tryd.prog 26 #[.slice A n c, .int .i64 s, .int .i64 dims] w (OutF w (loadF l s dims)) := by
  have HN := Lib.hid (loadF_neg (l := l) (dims := dims) h)
  go_enter Tryd.func26, Tryd.ntmps26
  go_wp2
  go_ret2
  exact .inr ⟨HN.out, rfl, Below.refl _ _⟩
theorem load_dims (A : Option Addr) (n c : Nat) (s dims : Int) (h0 : 0 ≤ s) (h : dims < 0 ∨ 3 < dims) (l : List Ord) (w : World) :
    Calls Tryd.prog 26 #[.slice A n c, .int .i64 s, .int .i64 dims] w (OutF w (loadF l s dims)) := by
  have HN := Lib.hid (loadF_dims (l := l) (s := s) h)
  have hq : (decide ((0 : Int) ≤ dims) && decide (dims ≤ 3)) = false := by rcases h with h | h <;> simp <;> omega
  clear h
  go_enter Tryd.func26, Tryd.ntmps26
  go_wp2_with (go_at_call 44; refine (within_any _ _ _ _).mono ?_; rw [hq]; rintro e w1 ⟨rfl, rfl⟩)
  go_ret2
  exact .inr ⟨HN.out, rfl, Below.refl _ _⟩
end Go.Proofs.YthkbfmbohoclaaaDoor.ord

/- Contracts of the random package and of its reference: the next state, a number below n, a shuffle. -/
import Derived.Test.YtamhjodppdodfaaDoorRndP
import Derived.Test.YtamhjodppdodfaaDoorBase
import Derived.RegionTactic
namespace Go.Proofs.YtamhjodppdodfaaDoor.rnd
open Go.RowKit
open Go.Proofs.YtamhjodppdodfaaDoor.lib
set_option linter.unusedVariables false

theorem good_any (a : Int) (w : World) : Calls Tryd.prog 24 #[.int .i64 a] w fun e w' => e = .returned (.int .i64 (good a)) ∧ w = w' := by
  have h := tmod_bd a
  go_enter Tryd.func24, Tryd.ntmps24
  go_wp2
  all_goals go_ret
  all_goals exact ⟨ret_int (by (try simp only [beq_iff_eq, beq_eq_false_iff_ne, ne_eq] at *); unfold good; split <;> first | rfl | omega | (split <;> first | rfl | omega)), rfl⟩
theorem next_any (a : Int) (w : World) : Calls Tryd.prog 12 #[.int .i64 a] w fun e w' => e = .returned (.int .i64 (nxt a)) ∧ w = w' := by
  have h := good_bd a
  go_enter Tryd.func12, Tryd.ntmps12
  go_wp2_with (go_at_call 24; refine (good_any _ _).mono ?_; rintro e w' ⟨rfl, rfl⟩)
  go_ret
  exact ⟨rfl, rfl⟩
theorem below_any (a n : Int) (w : World) : Calls Tryd.prog 27 #[.int .i64 a, .int .i64 n] w fun e w' => e = .returned (.tuple #[.int .i64 (bel a n), .int .i64 (nxt a)]) ∧ w = w' := by
  have h := nxt_bd a
  by_cases hn : n < 1
  · go_enter Tryd.func27, Tryd.ntmps27
    go_wp2_with (go_at_call 12; refine (next_any _ _).mono ?_; rintro e w' ⟨rfl, rfl⟩)
    go_ret2
    exact ⟨ret_ii (by unfold bel; rw [if_pos hn]) rfl, rfl⟩
  · go_enter Tryd.func27, Tryd.ntmps27
    go_wp2_with (go_at_call 12; refine (next_any _ _).mono ?_; rintro e w' ⟨rfl, rfl⟩)
    go_ret2
    exact ⟨ret_ii (by unfold bel; rw [if_neg (by omega)]) rfl, rfl⟩
/-- The two stores of an exchange. -/
theorem own_swap {w : World} {base g n cap : Nat} {l : List Int} (h : w.ownsRow base 3 1 (.slice (some ⟨g, 0, none⟩) n cap) n (l.map (.int .i64))) (i k : Nat) :
    ((w.setCell ⟨g, i, none⟩ (.int .i64 (l[k]?.getD 0))).setCell ⟨g, k, none⟩ (.int .i64 (l[i]?.getD 0))).ownsRow base 3 1 (.slice (some ⟨g, 0, none⟩) n cap) n ((swapL l i k).map (.int .i64)) := by
  have h1 := (h.stored i (.int .i64 (l[k]?.getD 0))).1
  have h2 := (h1.stored k (.int .i64 (l[i]?.getD 0))).1
  simpa [swapL, List.map_set] using h2

theorem own_there {w : World} {base g n cap : Nat} {xs : List Value} (h : w.ownsRow base 3 1 (.slice (some ⟨g, 0, none⟩) n cap) n xs) (i : Nat) (u : Value) (k : Nat) (hk : k < n) : ∃ v, (w.setCell ⟨g, i, none⟩ u).cell? ⟨g, k, none⟩ = some v := by
  have h1 := (h.stored i u).1
  have hl := h1.1
  rw [h1.cellAt k (by omega)]
  exact ⟨_, List.getElem?_eq_getElem (by omega)⟩

/-- What a shuffle hands back: a row of the call's own, and the state. -/
def Shuffled (w : World) (l : List Int) (n : Nat) (s : Int) (e : Ending) (w' : World) : Prop :=
  ∃ A c, e = .returned (.tuple #[.slice A n c, .int .i64 s]) ∧ w'.ownsRow w.heap.size 3 1 (.slice A n c) n (l.map (.int .i64)) ∧ Below w.heap.size w w'

end Go.Proofs.YtamhjodppdodfaaDoor.rnd

/- The laws of the random numbers: the next state, and shuffles. -/
import Derived.Test.YtpoejdejedbjdaaRndA
import Derived.Laws.MakeOwn
namespace Go.Proofs.Ytpoejdejedbjdaa.rnd
open Go.RowKit
open Go.Proofs.Ytpoejdejedbjdaa.lib
set_option linter.unusedVariables false

theorem shuf12 : shufL 1 2 = [1, 0] ∧ shufS 1 2 = 48271 := by decide +kernel
set_option maxHeartbeats 1000000 in
theorem awake_any (w : World) : Calls Try.prog 30 #[] w fun e w' => e = .returned (.bool true) ∧ Below w.heap.size w w' := by
  have hn : nxt 1 = 48271 := by decide +kernel
  go_enter Try.func30, Try.ntmps30
  go_wp2_with fail
  refine (shuffle_any 1 2 (by omega) _).mono ?_
  rintro e w1 ⟨A, c, rfl, hown, hb⟩
  rw [shuf12.1] at hown
  rw [shuf12.2]
  obtain ⟨g, cap, hv, hg1, hg2⟩ := hown.form (by omega)
  injection hv with hA _ hc
  subst hA hc
  have c0 := own_cells hown 0 (by omega)
  have c1 := own_cells hown 1 (by omega)
  simp at c0 c1
  go_wp2_with (go_at_call 25; refine (next_any _ _).mono ?_; rintro e w' ⟨rfl, rfl⟩)
  go_ret
  exact ⟨rfl, hb⟩

set_option maxHeartbeats 1000000 in
theorem law_next (a n : Int) (w : World) : Calls Try.prog 8 #[.int .i64 a, .int .i64 n] w fun e w' => e = .returned (.bool true) ∧ Below w.heap.size w w' := by
  have h1 := nxt_bd a
  have h2 := nxt_back a
  have h3 := bel_bd a n
  have H2 := Lib.hid h2
  have hq : (nxt a * 1899818559 % 2147483647 == good a) = true := by simp [h2]
  clear h2
  by_cases hn : n < 1
  all_goals
    first | (have h4 := h3 (by omega)) | skip
    clear h3
    go_enter Try.func8, Try.ntmps8
    go_wp2_with (first
      | (go_at_call 25; refine (next_any _ _).mono ?_; rintro e w' ⟨rfl, rfl⟩)
      | (go_at_call 26; refine (below_any _ _ _).mono ?_; rintro e w' ⟨rfl, rfl⟩)
      | (go_at_call 27; refine (rbelow_any _ _ _).mono ?_; rintro e w' ⟨rfl, rfl⟩)
      | (go_at_call 28; refine (rnext_any _ _).mono ?_; rintro e w' ⟨rfl, rfl⟩)
      | (go_at_call 29; refine (rgood_any _ _).mono ?_; rintro e w' ⟨rfl, rfl⟩)
      | (go_at_call 30; refine (awake_any _).mono ?_; rintro e w1 ⟨rfl, hb⟩))
    go_ret
    exact ⟨rfl, by assumption⟩
end Go.Proofs.Ytpoejdejedbjdaa.rnd

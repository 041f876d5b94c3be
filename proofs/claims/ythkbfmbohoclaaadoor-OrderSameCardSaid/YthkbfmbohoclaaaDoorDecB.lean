/- text.Decimal of a number below 20. -/
import Derived.Test.YthkbfmbohoclaaaDoorDecA
namespace Go.Proofs.YthkbfmbohoclaaaDoor.txt
open Go.RowKit
open Go.Proofs.YthkbfmbohoclaaaDoor.lib
set_option linter.unusedVariables false

theorem formatInt_any (n : Nat) (hn : n < 20) (w : World) : Calls Tryd.prog 80 #[.int .i64 n, .int .i64 10] w fun e w' => e = .returned (.string (decS n)) ∧ w = w' := by
  have hn' : (n : Int) < 100 := by omega
  have hn0 : (0 : Int) ≤ n := by omega
  go_enter Tryd.func80, Tryd.ntmps80
  go_wp2_with (go_at_call 83; refine (small_any n hn _).mono ?_; rintro e w1 ⟨rfl, rfl⟩)
  go_ret
  exact ⟨rfl, rfl⟩
theorem itoa0_any (n : Nat) (hn : n < 20) (w : World) : Calls Tryd.prog 69 #[.int .i64 n] w fun e w' => e = .returned (.string (decS n)) ∧ w = w' := by
  go_enter Tryd.func69, Tryd.ntmps69
  go_wp2_with (go_at_call 80; refine (formatInt_any n hn _).mono ?_; rintro e w1 ⟨rfl, rfl⟩)
  go_ret
  exact ⟨rfl, rfl⟩
theorem itoa_any (n : Nat) (hn : n < 20) (w : World) : Calls Tryd.prog 56 #[.int .i64 n] w fun e w' => e = .returned (.string (decS n)) ∧ w = w' := by
  go_enter Tryd.func56, Tryd.ntmps56
  go_wp2_with (go_at_call 69; refine (itoa0_any n hn _).mono ?_; rintro e w1 ⟨rfl, rfl⟩)
  go_ret
  exact ⟨rfl, rfl⟩
theorem dec_any (n : Nat) (hn : n < 20) (w : World) : Calls Tryd.prog 37 #[.int .i64 n] w fun e w' => e = .returned (.string (decS n)) ∧ w = w' := by
  go_enter Tryd.func37, Tryd.ntmps37
  go_wp2_with (go_at_call 56; refine (itoa_any n hn _).mono ?_; rintro e w1 ⟨rfl, rfl⟩)
  go_ret
  exact ⟨rfl, rfl⟩
end Go.Proofs.YthkbfmbohoclaaaDoor.txt

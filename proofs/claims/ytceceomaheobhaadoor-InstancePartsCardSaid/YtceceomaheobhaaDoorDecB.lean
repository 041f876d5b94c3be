/- text.Decimal of a number below 100. -/
import Derived.Test.YtceceomaheobhaaDoorDecA
namespace Go.Proofs.YtceceomaheobhaaDoor.txt
open Go.RowKit
open Go.Proofs.YtceceomaheobhaaDoor.lib
set_option linter.unusedVariables false

theorem formatInt_any (n : Nat) (hn : n < 100) (w : World) : Calls Tryd.prog 83 #[.int .i64 n, .int .i64 10] w fun e w' => e = .returned (.string (decS n)) ∧ w = w' := by
  have hn' : (n : Int) < 100 := by omega
  have hn0 : (0 : Int) ≤ n := by omega
  go_enter Tryd.func83, Tryd.ntmps83
  go_wp2_with (go_at_call 85; refine (small_any n hn _).mono ?_; rintro e w1 ⟨rfl, rfl⟩)
  go_ret
  exact ⟨rfl, rfl⟩
theorem itoa0_any (n : Nat) (hn : n < 100) (w : World) : Calls Tryd.prog 75 #[.int .i64 n] w fun e w' => e = .returned (.string (decS n)) ∧ w = w' := by
  go_enter Tryd.func75, Tryd.ntmps75
  go_wp2_with (go_at_call 83; refine (formatInt_any n hn _).mono ?_; rintro e w1 ⟨rfl, rfl⟩)
  go_ret
  exact ⟨rfl, rfl⟩
theorem itoa_any (n : Nat) (hn : n < 100) (w : World) : Calls Tryd.prog 56 #[.int .i64 n] w fun e w' => e = .returned (.string (decS n)) ∧ w = w' := by
  go_enter Tryd.func56, Tryd.ntmps56
  go_wp2_with (go_at_call 75; refine (itoa0_any n hn _).mono ?_; rintro e w1 ⟨rfl, rfl⟩)
  go_ret
  exact ⟨rfl, rfl⟩
theorem dec_any (n : Nat) (hn : n < 100) (w : World) : Calls Tryd.prog 45 #[.int .i64 n] w fun e w' => e = .returned (.string (decS n)) ∧ w = w' := by
  go_enter Tryd.func45, Tryd.ntmps45
  go_wp2_with (go_at_call 56; refine (itoa_any n hn _).mono ?_; rintro e w1 ⟨rfl, rfl⟩)
  go_ret
  exact ⟨rfl, rfl⟩
end Go.Proofs.YtceceomaheobhaaDoor.txt

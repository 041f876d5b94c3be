/- Orders: within. Portable. -/
import Derived.Test.YtceceomaheobhaaDoorOrdT
import Derived.Deep.QuietTactic
namespace Go.Proofs.YtceceomaheobhaaDoor.ord
open Go.RowKit
open Go.Proofs.YtceceomaheobhaaDoor.lib Go.Proofs.YtceceomaheobhaaDoor.rd Go.Proofs.YtceceomaheobhaaDoor.typ
set_option linter.unusedVariables false

theorem within_any (a b c : Int) (w : World) : Calls Tryd.prog 70 #[.int .i64 a, .int .i64 b, .int .i64 c] w fun e w' => e = .returned (.bool (decide (b ≤ a) && decide (a ≤ c))) ∧ w = w' := by
  by_cases h : b ≤ a
  all_goals
    go_enter Tryd.func70, Tryd.ntmps70
    go_wp2
    go_ret
    exact ⟨ret_bool (by first | (simp [h]; done) | (simp; omega)), rfl⟩
end Go.Proofs.YtceceomaheobhaaDoor.ord

/- rules: decimal, the tests of pairs. -/
import Derived.Test.YtceceomaheobhaaBase
import Derived.RangeFuncBox
namespace Go.Proofs.Ytceceomaheobhaa.rul
open Go.RowKit
open Go.Proofs.Ytceceomaheobhaa.lib Go.Proofs.Ytceceomaheobhaa.rd Go.Proofs.Ytceceomaheobhaa.eqg Go.Proofs.Ytceceomaheobhaa.txt
set_option linter.unusedVariables false
set_option linter.unusedSimpArgs false

def looseB (x y : Int × Int) : Bool := twoEq x y || (x.1 == y.2 && x.2 == y.1)
theorem two_run (x y : Int × Int) (w : World) : (Op.equalIn 10000 76 (.agg #[.int .i64 x.1, .int .i64 x.2]) (.agg #[.int .i64 y.1, .int .i64 y.2])).run Try.prog w = .ok (twoEq x y) w := by
  obtain ⟨i0, hi, _⟩ := info_parts int_info
  have h := arr.run_eq_ints (t := 76) w 9998 Try.underlying76 hi [x.1, x.2] [y.1, y.2] rfl rfl
  have e : decide ([x.1, x.2] = [y.1, y.2]) = twoEq x y := by
    unfold twoEq
    rw [Bool.eq_iff_iff]
    simp
  rw [e] at h
  exact h
def rightB (n orders : Int) : Bool := decide (0 ≤ n) && decide (n < orders)
end Go.Proofs.Ytceceomaheobhaa.rul

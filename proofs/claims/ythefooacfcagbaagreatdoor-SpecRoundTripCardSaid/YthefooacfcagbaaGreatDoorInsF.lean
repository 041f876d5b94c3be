/- Lists of orders that are the same. -/
import Derived.Test.YthefooacfcagbaaGreatDoorInsE
import Derived.Test.YthefooacfcagbaaGreatDoorC1
import Derived.Deep.DeepCutAuto
import Derived.Outline
namespace Go.Proofs.YthefooacfcagbaaGreatDoor.ins
open Go.RowKit
open lib rd typ eqg ord
set_option linter.unusedVariables false
set_option linter.unusedSimpArgs false
end Go.Proofs.YthefooacfcagbaaGreatDoor.ins

/- Lists of orders that are the same. -/
import Derived.Test.YthefooacfcagbaaGreatDoorInsE
import Derived.Test.YthefooacfcagbaaGreatDoorC1
import Derived.Deep.DeepCutAuto
import Derived.Outline
namespace Go.Proofs.YthefooacfcagbaaGreatDoor.ins
open Go.RowKit
open Go.Proofs.YthefooacfcagbaaGreatDoor.lib Go.Proofs.YthefooacfcagbaaGreatDoor.rd Go.Proofs.YthefooacfcagbaaGreatDoor.typ Go.Proofs.YthefooacfcagbaaGreatDoor.eqg Go.Proofs.YthefooacfcagbaaGreatDoor.ord
set_option linter.unusedVariables false
set_option linter.unusedSimpArgs false

end Go.Proofs.YthefooacfcagbaaGreatDoor.ins

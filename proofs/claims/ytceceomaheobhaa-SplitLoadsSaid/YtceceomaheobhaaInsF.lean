/- Lists of orders that are the same. -/
import Derived.Test.YtceceomaheobhaaInsE
import Derived.Test.YtceceomaheobhaaOrdG
import Derived.Deep.DeepCutAuto
import Derived.Outline
namespace Go.Proofs.Ytceceomaheobhaa.ins
open Go.RowKit
open Go.Proofs.Ytceceomaheobhaa.lib Go.Proofs.Ytceceomaheobhaa.rd Go.Proofs.Ytceceomaheobhaa.typ Go.Proofs.Ytceceomaheobhaa.eqg Go.Proofs.Ytceceomaheobhaa.ord
set_option linter.unusedVariables false
set_option linter.unusedSimpArgs false

end Go.Proofs.Ytceceomaheobhaa.ins

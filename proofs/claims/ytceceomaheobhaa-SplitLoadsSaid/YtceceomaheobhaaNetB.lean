/- network.slow: the errors of delays. -/
import Derived.Test.YtceceomaheobhaaNetA
import Derived.IntWalk
namespace Go.Proofs.Ytceceomaheobhaa.net
open Go.RowKit
open Go.Proofs.Ytceceomaheobhaa.lib Go.Proofs.Ytceceomaheobhaa.rd Go.Proofs.Ytceceomaheobhaa.typ Go.Proofs.Ytceceomaheobhaa.app Go.Proofs.Ytceceomaheobhaa.note Go.Proofs.Ytceceomaheobhaa.mrk
open Go.Proofs.Ytceceomaheobhaa.win (tickB tick_t tick_f)
set_option linter.unusedVariables false
set_option linter.unusedSimpArgs false

end Go.Proofs.Ytceceomaheobhaa.net

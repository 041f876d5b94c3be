/- The parts of the errors of an order: the closure, names known, numbers. -/
import Derived.Test.YtceceomaheobhaaBase
namespace Go.Proofs.Ytceceomaheobhaa.ord
open Go.RowKit
open Go.Proofs.Ytceceomaheobhaa.lib Go.Proofs.Ytceceomaheobhaa.rd Go.Proofs.Ytceceomaheobhaa.typ Go.Proofs.Ytceceomaheobhaa.note
set_option linter.unusedVariables false
set_option linter.unusedSimpArgs false

/-- The numbers of an order are right. -/
def numB (o : Ord) (types : Int) : Bool :=
  inB o.penalty (-1) 1000000 && inB o.split 1 4 && (o.split == 1 || o.pick.place == -1 || o.drop.place == -1) && decide (-1 ≤ o.last) && decide (o.last < types) && decide (-1 ≤ o.now) && decide (o.now < types)
end Go.Proofs.Ytceceomaheobhaa.ord

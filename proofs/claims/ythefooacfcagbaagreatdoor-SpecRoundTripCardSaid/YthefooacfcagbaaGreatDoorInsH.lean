/- The same instances: the program. -/
import Derived.Test.YthefooacfcagbaaGreatDoorInsF
namespace Go.Proofs.YthefooacfcagbaaGreatDoor.ins
open Go.RowKit
open lib rd typ eqg note
set_option linter.unusedVariables false
set_option linter.unusedSimpArgs false
def sameI (a b : Ins) : Bool := eqL sameS a.net.places b.net.places && (eqL sameA a.net.arcs b.net.arcs && (eqL flt.sameT a.types b.types && (eqL ord.sameO a.orders b.orders && (eqL twoEq a.apart b.apart && (eqL twoEq a.before b.before)))))
end Go.Proofs.YthefooacfcagbaaGreatDoor.ins

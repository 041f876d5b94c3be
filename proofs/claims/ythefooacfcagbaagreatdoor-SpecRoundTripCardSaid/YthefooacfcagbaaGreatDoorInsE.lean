/- The same arcs; lists of arcs, types, orders that are the same. -/
import Derived.Test.YthefooacfcagbaaGreatDoorInsD
import Derived.Test.YthefooacfcagbaaGreatDoorOrdI
import Derived.Test.YthefooacfcagbaaGreatDoorFltX
namespace Go.Proofs.YthefooacfcagbaaGreatDoor.ins
open Go.RowKit
open lib rd typ eqg
set_option linter.unusedVariables false
set_option linter.unusedSimpArgs false
def sameA (a b : Arc) : Bool := (a.frm == b.frm) && ((a.to == b.to) && ((a.profile == b.profile) && ((a.miles == b.miles) && (eqL ptEq a.travel b.travel && eqL ptEq a.slow b.slow))))
theorem sameA_self (a : Arc) : sameA a a = true := by unfold sameA; rw [eqL_self ptEq_self, eqL_self ptEq_self]; simp
theorem Ints.go {w w' : World} {B : Nat} {A : Option Addr} {l : List Int} (h : Ints w B A l) (hB : B ≤ w.heap.size) (hb : Below w.heap.size w w') : Ints w' w'.heap.size A l := ((h.more hB).below hb).more hb.size
end Go.Proofs.YthefooacfcagbaaGreatDoor.ins

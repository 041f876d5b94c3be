/- The program's limits are within the reference's. -/
import Derived.Test.YthefooacfcagbaaGreatDoorR13C
namespace Go.Proofs.YthefooacfcagbaaGreatDoor.ins
open Go.RowKit
open lib typ
set_option linter.unusedVariables false
theorem lim_rlim' {x : Ins} (h : Lim x) : RLim x where
 places := by have := h.places; omega
 points := fun a ha => by have := h.points a ha; omega
 net := by have := h.net; omega
 types := by have := h.types; omega
 orders := by have := h.orders; omega
 apart := by have := h.apart; omega
 before := by have := h.before; omega
end Go.Proofs.YthefooacfcagbaaGreatDoor.ins

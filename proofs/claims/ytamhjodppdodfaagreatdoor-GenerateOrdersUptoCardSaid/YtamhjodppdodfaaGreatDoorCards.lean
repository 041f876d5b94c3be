/-
  DERIVED. GIVEN WITH THE SEED: THE CARDS: each row of YtamhjodppdodfaaGreatDoorRows.lean that lists a variable, with what it lists TIED to the program's text (the seventh form; the later family's looks); each row that meets fmt, with fmt's text TOLD by the authors' own Lean function (tested against real Go, not proved from fmt's source: count such statements apart). THE CARD IS WHAT COUNTS. Prove the row's statement (the work); the ties are given (YtamhjodppdodfaaGreatDoorTie.lean); close each card by the builder's one call (the guide's Derived/Test/ToyasCard.lean, 'card_holds'). Laid BY PROGRAM, IN A SANDBOX (cutbox-door.mjs). By AI agents, Wed Nov 11 2026. No macro, syntax, notation, axiom, sorry.
-/
import Derived.Test.YtamhjodppdodfaaGreatDoorRows
import GoSem.ClaimSeven
namespace Go.Proofs.YtamhjodppdodfaaGreatDoor
namespace Rows

/-- THE TIED CARD OF 'lorrylaw60.GenerateInstances'. -/
def generateInstancesCard : Claim7 := { stood := { row := generateInstancesRow, standIns := [], harness := (true, "d40315150721f6d1f2e80a73e221f31d11c928c2549efa7f7364e0baa5280959"), looks := false }, kinds := [], alts := [], laidByText := true, laidKinds := [.data, .data, .data], laidTests := true, laidLooks := .later }
def GenerateInstancesCardSaid : Prop := Claim7.holds Tryz.pinned (.plain (OpenSpec.ofChange generateInstancesSpec)) generateInstancesCard

/-- THE TIED CARD OF 'lorrylaw60.GenerateOrders'. -/
def generateOrdersCard : Claim7 := { stood := { row := generateOrdersRow, standIns := [], harness := (true, "d40315150721f6d1f2e80a73e221f31d11c928c2549efa7f7364e0baa5280959"), looks := false }, kinds := [], alts := [], laidByText := true, laidKinds := [.data, .data, .data], laidTests := true, laidLooks := .later }
def GenerateOrdersCardSaid : Prop := Claim7.holds Tryz.pinned (.plain (OpenSpec.ofChange generateOrdersSpec)) generateOrdersCard

/-- THE SECOND FORM's CARD OF 'lorrylaw60.GenerateInstances'. -/
def generateInstancesUptoCard : Claim7 := { stood := { row := generateInstancesUptoRow, standIns := [], harness := (true, "d40315150721f6d1f2e80a73e221f31d11c928c2549efa7f7364e0baa5280959"), looks := false }, kinds := [], alts := [], laidByText := true, laidKinds := [.data, .data, .data], laidTests := true, laidLooks := .later }
def GenerateInstancesUptoCardSaid : Prop := Claim7.holds Tryz.pinned (.plain (OpenSpec.upto generateInstancesSpec)) generateInstancesUptoCard

/-- THE SECOND FORM's CARD OF 'lorrylaw60.GenerateOrders'. -/
def generateOrdersUptoCard : Claim7 := { stood := { row := generateOrdersUptoRow, standIns := [], harness := (true, "d40315150721f6d1f2e80a73e221f31d11c928c2549efa7f7364e0baa5280959"), looks := false }, kinds := [], alts := [], laidByText := true, laidKinds := [.data, .data, .data], laidTests := true, laidLooks := .later }
def GenerateOrdersUptoCardSaid : Prop := Claim7.holds Tryz.pinned (.plain (OpenSpec.upto generateOrdersSpec)) generateOrdersUptoCard
end Rows
end Go.Proofs.YtamhjodppdodfaaGreatDoor

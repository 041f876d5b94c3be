/-
  DERIVED. GIVEN WITH THE SEED: THE CARDS: each row of YtceceomaheobhaaGreatDoorRows.lean that lists a variable, with what it lists TIED to the program's text (the seventh form; the later family's looks); each row that meets fmt, with fmt's text TOLD by the authors' own Lean function (tested against real Go, not proved from fmt's source: count such statements apart). THE CARD IS WHAT COUNTS. Prove the row's statement (the work); the ties are given (YtceceomaheobhaaGreatDoorTie.lean); close each card by the builder's one call (the guide's Derived/Test/ToyasCard.lean, 'card_holds'). Laid BY PROGRAM, IN A SANDBOX (cutbox-door.mjs). By AI agents, Wed Nov 11 2026. No macro, syntax, notation, axiom, sorry.
-/
import Derived.Test.YtceceomaheobhaaGreatDoorRows
import GoSem.ClaimSeven
namespace Go.Proofs.YtceceomaheobhaaGreatDoor
namespace Rows

/-- THE TIED CARD OF 'lorrylaw13.InstanceChecks'. -/
def instanceChecksCard : Claim7 := { stood := { row := instanceChecksRow, standIns := [], harness := (true, "58617c44293a45603db296d25206bbfefc961b8e2e9e23228ec5f3cfc9c948c6"), looks := false }, kinds := [], alts := [], laidByText := true, laidKinds := [.data, .data, .data], laidTests := true, laidLooks := .later }
def InstanceChecksCardSaid : Prop := Claim7.holds Tryz.pinned (.plain (OpenSpec.ofChange instanceChecksSpec)) instanceChecksCard

/-- THE TIED CARD OF 'lorrylaw13.InstanceAdds'. -/
def instanceAddsCard : Claim7 := { stood := { row := instanceAddsRow, standIns := [], harness := (true, "58617c44293a45603db296d25206bbfefc961b8e2e9e23228ec5f3cfc9c948c6"), looks := false }, kinds := [], alts := [], laidByText := true, laidKinds := [.data, .data, .data], laidTests := true, laidLooks := .later }
def InstanceAddsCardSaid : Prop := Claim7.holds Tryz.pinned (.plain (OpenSpec.ofChange instanceAddsSpec)) instanceAddsCard

/-- THE TIED CARD OF 'lorrylaw15.SplitValid'. -/
def splitValidCard : Claim7 := { stood := { row := splitValidRow, standIns := [], harness := (true, "58617c44293a45603db296d25206bbfefc961b8e2e9e23228ec5f3cfc9c948c6"), looks := false }, kinds := [], alts := [], laidByText := true, laidKinds := [.data, .data, .data], laidTests := true, laidLooks := .later }
def SplitValidCardSaid : Prop := Claim7.holds Tryz.pinned (.plain (OpenSpec.ofChange splitValidSpec)) splitValidCard

/-- THE SECOND FORM's CARD OF 'lorrylaw13.InstanceChecks'. -/
def instanceChecksUptoCard : Claim7 := { stood := { row := instanceChecksUptoRow, standIns := [], harness := (true, "58617c44293a45603db296d25206bbfefc961b8e2e9e23228ec5f3cfc9c948c6"), looks := false }, kinds := [], alts := [], laidByText := true, laidKinds := [.data, .data, .data], laidTests := true, laidLooks := .later }
def InstanceChecksUptoCardSaid : Prop := Claim7.holds Tryz.pinned (.plain (OpenSpec.upto instanceChecksSpec)) instanceChecksUptoCard

/-- THE SECOND FORM's CARD OF 'lorrylaw13.InstanceAdds'. -/
def instanceAddsUptoCard : Claim7 := { stood := { row := instanceAddsUptoRow, standIns := [], harness := (true, "58617c44293a45603db296d25206bbfefc961b8e2e9e23228ec5f3cfc9c948c6"), looks := false }, kinds := [], alts := [], laidByText := true, laidKinds := [.data, .data, .data], laidTests := true, laidLooks := .later }
def InstanceAddsUptoCardSaid : Prop := Claim7.holds Tryz.pinned (.plain (OpenSpec.upto instanceAddsSpec)) instanceAddsUptoCard

/-- THE SECOND FORM's CARD OF 'lorrylaw15.SplitValid'. -/
def splitValidUptoCard : Claim7 := { stood := { row := splitValidUptoRow, standIns := [], harness := (true, "58617c44293a45603db296d25206bbfefc961b8e2e9e23228ec5f3cfc9c948c6"), looks := false }, kinds := [], alts := [], laidByText := true, laidKinds := [.data, .data, .data], laidTests := true, laidLooks := .later }
def SplitValidUptoCardSaid : Prop := Claim7.holds Tryz.pinned (.plain (OpenSpec.upto splitValidSpec)) splitValidUptoCard
end Rows
end Go.Proofs.YtceceomaheobhaaGreatDoor

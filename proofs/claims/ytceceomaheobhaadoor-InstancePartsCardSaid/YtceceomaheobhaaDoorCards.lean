/-
  DERIVED. GIVEN WITH THE SEED: THE CARDS: each row of YtceceomaheobhaaDoorRows.lean that lists a variable, with what it lists TIED to the program's text (the seventh form; the later family's looks); each row that meets fmt, with fmt's text TOLD by the authors' own Lean function (tested against real Go, not proved from fmt's source: count such statements apart). THE CARD IS WHAT COUNTS. Prove the row's statement (the work); the ties are given (YtceceomaheobhaaDoorTie.lean); close each card by the builder's one call (the guide's Derived/Test/ToyasCard.lean, 'card_holds'). Laid BY PROGRAM, IN A SANDBOX (cutbox-door.mjs). By AI agents, Wed Nov 11 2026. No macro, syntax, notation, axiom, sorry.
-/
import Derived.Test.YtceceomaheobhaaDoorRows
import GoSem.ClaimSeven
namespace Go.Proofs.YtceceomaheobhaaDoor
namespace Rows

/-- THE TIED CARD OF 'lorrylaw13.InstanceSets'. -/
def instanceSetsCard : Claim7 := { stood := { row := instanceSetsRow, standIns := [], harness := (true, "aca6ffd4b685fc0c1f3dd9c9043dcdbf0b44c7c64eb513e06e79543941329709"), looks := false }, kinds := [], alts := [], laidByText := true, laidKinds := [.data, .data, .data], laidTests := true, laidLooks := .later }
def InstanceSetsCardSaid : Prop := Claim7.holds Tryd.pinned (.plain (OpenSpec.ofChange instanceSetsSpec)) instanceSetsCard

/-- THE TIED CARD OF 'lorrylaw13.InstanceSame'. -/
def instanceSameCard : Claim7 := { stood := { row := instanceSameRow, standIns := [], harness := (true, "aca6ffd4b685fc0c1f3dd9c9043dcdbf0b44c7c64eb513e06e79543941329709"), looks := false }, kinds := [], alts := [], laidByText := true, laidKinds := [.data, .data, .data], laidTests := true, laidLooks := .later }
def InstanceSameCardSaid : Prop := Claim7.holds Tryd.pinned (.plain (OpenSpec.ofChange instanceSameSpec)) instanceSameCard

/-- THE TIED CARD OF 'lorrylaw13.InstanceParts'. -/
def instancePartsCard : Claim7 := { stood := { row := instancePartsRow, standIns := [], harness := (true, "aca6ffd4b685fc0c1f3dd9c9043dcdbf0b44c7c64eb513e06e79543941329709"), looks := false }, kinds := [], alts := [], laidByText := true, laidKinds := [.data, .data, .data], laidTests := true, laidLooks := .later }
def InstancePartsCardSaid : Prop := Claim7.holds Tryd.pinned (.plain (OpenSpec.ofChange instancePartsSpec)) instancePartsCard

/-- THE SECOND FORM's CARD OF 'lorrylaw13.InstanceSets'. -/
def instanceSetsUptoCard : Claim7 := { stood := { row := instanceSetsUptoRow, standIns := [], harness := (true, "aca6ffd4b685fc0c1f3dd9c9043dcdbf0b44c7c64eb513e06e79543941329709"), looks := false }, kinds := [], alts := [], laidByText := true, laidKinds := [.data, .data, .data], laidTests := true, laidLooks := .later }
def InstanceSetsUptoCardSaid : Prop := Claim7.holds Tryd.pinned (.plain (OpenSpec.upto instanceSetsSpec)) instanceSetsUptoCard

/-- THE SECOND FORM's CARD OF 'lorrylaw13.InstanceSame'. -/
def instanceSameUptoCard : Claim7 := { stood := { row := instanceSameUptoRow, standIns := [], harness := (true, "aca6ffd4b685fc0c1f3dd9c9043dcdbf0b44c7c64eb513e06e79543941329709"), looks := false }, kinds := [], alts := [], laidByText := true, laidKinds := [.data, .data, .data], laidTests := true, laidLooks := .later }
def InstanceSameUptoCardSaid : Prop := Claim7.holds Tryd.pinned (.plain (OpenSpec.upto instanceSameSpec)) instanceSameUptoCard

/-- THE SECOND FORM's CARD OF 'lorrylaw13.InstanceParts'. -/
def instancePartsUptoCard : Claim7 := { stood := { row := instancePartsUptoRow, standIns := [], harness := (true, "aca6ffd4b685fc0c1f3dd9c9043dcdbf0b44c7c64eb513e06e79543941329709"), looks := false }, kinds := [], alts := [], laidByText := true, laidKinds := [.data, .data, .data], laidTests := true, laidLooks := .later }
def InstancePartsUptoCardSaid : Prop := Claim7.holds Tryd.pinned (.plain (OpenSpec.upto instancePartsSpec)) instancePartsUptoCard
end Rows
end Go.Proofs.YtceceomaheobhaaDoor

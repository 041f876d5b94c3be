/-
  DERIVED. GIVEN WITH THE SEED: THE CARDS: each row of YthefooacfcagbaaGreatDoorRows.lean that lists a variable, with what it lists TIED to the program's text (the seventh form; the later family's looks); each row that meets fmt, with fmt's text TOLD by the authors' own Lean function (tested against real Go, not proved from fmt's source: count such statements apart). THE CARD IS WHAT COUNTS. Prove the row's statement (the work); the ties are given (YthefooacfcagbaaGreatDoorTie.lean); close each card by the builder's one call (the guide's Derived/Test/ToyasCard.lean, 'card_holds'). Laid BY PROGRAM, IN A SANDBOX (cutbox-door.mjs). By AI agents, Wed Nov 11 2026. No macro, syntax, notation, axiom, sorry.
-/
import Derived.Test.YthefooacfcagbaaGreatDoorRows
import GoSem.ClaimSeven
namespace Go.Proofs.YthefooacfcagbaaGreatDoor
namespace Rows

/-- THE TIED CARD OF 'lorrylaw14.SpecRoundTrip'. -/
def specRoundTripCard : Claim7 := { stood := { row := specRoundTripRow, standIns := [], harness := (true, "d8cf9a91a995061e1e55217fc556304ce3ab9ae2869ac3f47499acef458d2fbb"), looks := true }, kinds := [], alts := [], laidByText := true, laidKinds := [.data, .data, .data, .data, .sentinel, .sentinel, .pinned], laidTests := true, laidLooks := .later }
def SpecRoundTripCardSaid : Prop := Claim7.holds Tryz.pinned (.plain (OpenSpec.ofChange specRoundTripSpec)) specRoundTripCard

/-- THE TIED CARD OF 'lorrylaw14.SpecParses'. -/
def specParsesCard : Claim7 := { stood := { row := specParsesRow, standIns := [], harness := (true, "d8cf9a91a995061e1e55217fc556304ce3ab9ae2869ac3f47499acef458d2fbb"), looks := true }, kinds := [], alts := [], laidByText := true, laidKinds := [.data, .data, .data, .data, .sentinel, .sentinel, .pinned], laidTests := true, laidLooks := .later }
def SpecParsesCardSaid : Prop := Claim7.holds Tryz.pinned (.plain (OpenSpec.ofChange specParsesSpec)) specParsesCard

/-- THE TIED CARD OF 'lorrylaw14.SpecParts'. -/
def specPartsCard : Claim7 := { stood := { row := specPartsRow, standIns := [], harness := (true, "d8cf9a91a995061e1e55217fc556304ce3ab9ae2869ac3f47499acef458d2fbb"), looks := true }, kinds := [], alts := [], laidByText := true, laidKinds := [.data, .data, .data, .data, .sentinel, .sentinel, .pinned], laidTests := true, laidLooks := .later }
def SpecPartsCardSaid : Prop := Claim7.holds Tryz.pinned (.plain (OpenSpec.ofChange specPartsSpec)) specPartsCard

/-- THE TIED CARD OF 'lorrylaw14.SpecLines'. -/
def specLinesCard : Claim7 := { stood := { row := specLinesRow, standIns := [], harness := (true, "d8cf9a91a995061e1e55217fc556304ce3ab9ae2869ac3f47499acef458d2fbb"), looks := true }, kinds := [], alts := [], laidByText := true, laidKinds := [.data, .data, .data, .data, .sentinel, .sentinel, .pinned], laidTests := true, laidLooks := .later }
def SpecLinesCardSaid : Prop := Claim7.holds Tryz.pinned (.plain (OpenSpec.ofChange specLinesSpec)) specLinesCard

/-- THE SECOND FORM's CARD OF 'lorrylaw14.SpecRoundTrip'. -/
def specRoundTripUptoCard : Claim7 := { stood := { row := specRoundTripUptoRow, standIns := [], harness := (true, "d8cf9a91a995061e1e55217fc556304ce3ab9ae2869ac3f47499acef458d2fbb"), looks := true }, kinds := [], alts := [], laidByText := true, laidKinds := [.data, .data, .data, .data, .sentinel, .sentinel, .pinned], laidTests := true, laidLooks := .later }
def SpecRoundTripUptoCardSaid : Prop := Claim7.holds Tryz.pinned (.plain (OpenSpec.upto specRoundTripSpec)) specRoundTripUptoCard

/-- THE SECOND FORM's CARD OF 'lorrylaw14.SpecParses'. -/
def specParsesUptoCard : Claim7 := { stood := { row := specParsesUptoRow, standIns := [], harness := (true, "d8cf9a91a995061e1e55217fc556304ce3ab9ae2869ac3f47499acef458d2fbb"), looks := true }, kinds := [], alts := [], laidByText := true, laidKinds := [.data, .data, .data, .data, .sentinel, .sentinel, .pinned], laidTests := true, laidLooks := .later }
def SpecParsesUptoCardSaid : Prop := Claim7.holds Tryz.pinned (.plain (OpenSpec.upto specParsesSpec)) specParsesUptoCard

/-- THE SECOND FORM's CARD OF 'lorrylaw14.SpecParts'. -/
def specPartsUptoCard : Claim7 := { stood := { row := specPartsUptoRow, standIns := [], harness := (true, "d8cf9a91a995061e1e55217fc556304ce3ab9ae2869ac3f47499acef458d2fbb"), looks := true }, kinds := [], alts := [], laidByText := true, laidKinds := [.data, .data, .data, .data, .sentinel, .sentinel, .pinned], laidTests := true, laidLooks := .later }
def SpecPartsUptoCardSaid : Prop := Claim7.holds Tryz.pinned (.plain (OpenSpec.upto specPartsSpec)) specPartsUptoCard

/-- THE SECOND FORM's CARD OF 'lorrylaw14.SpecLines'. -/
def specLinesUptoCard : Claim7 := { stood := { row := specLinesUptoRow, standIns := [], harness := (true, "d8cf9a91a995061e1e55217fc556304ce3ab9ae2869ac3f47499acef458d2fbb"), looks := true }, kinds := [], alts := [], laidByText := true, laidKinds := [.data, .data, .data, .data, .sentinel, .sentinel, .pinned], laidTests := true, laidLooks := .later }
def SpecLinesUptoCardSaid : Prop := Claim7.holds Tryz.pinned (.plain (OpenSpec.upto specLinesSpec)) specLinesUptoCard
end Rows
end Go.Proofs.YthefooacfcagbaaGreatDoor

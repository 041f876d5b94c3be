/-
  DERIVED. GIVEN WITH THE SEED: THE CARDS: each row of YtofabhenmplkoaaGreatDoorRows.lean that lists a variable, with what it lists TIED to the program's text (the seventh form; the later family's looks); each row that meets fmt, with fmt's text TOLD by the authors' own Lean function (tested against real Go, not proved from fmt's source: count such statements apart). THE CARD IS WHAT COUNTS. Prove the row's statement (the work); the ties are given (YtofabhenmplkoaaGreatDoorTie.lean); close each card by the builder's one call (the guide's Derived/Test/ToyasCard.lean, 'card_holds'). Laid BY PROGRAM, IN A SANDBOX (cutbox-door.mjs). By AI agents, Wed Nov 11 2026. No macro, syntax, notation, axiom, sorry.
-/
import Derived.Test.YtofabhenmplkoaaGreatDoorRows
import GoSem.ClaimSeven
namespace Go.Proofs.YtofabhenmplkoaaGreatDoor
namespace Rows

/-- THE TIED CARD OF 'lorrylaw45.EventChecks'. -/
def eventChecksCard : Claim7 := { stood := { row := eventChecksRow, standIns := [], harness := (true, "b3da2d252f873777682476dd1f69b6d35f9c2029f5471223d5d107fed44961ac"), looks := true }, kinds := [], alts := [], laidByText := true, laidKinds := [.data, .data, .data, .sentinel, .sentinel], laidTests := true, laidLooks := .later }
def EventChecksCardSaid : Prop := Claim7.holds Tryz.pinned (.plain (OpenSpec.ofChange eventChecksSpec)) eventChecksCard

/-- THE TIED CARD OF 'lorrylaw45.EventApplies'. -/
def eventAppliesCard : Claim7 := { stood := { row := eventAppliesRow, standIns := [], harness := (true, "b3da2d252f873777682476dd1f69b6d35f9c2029f5471223d5d107fed44961ac"), looks := true }, kinds := [], alts := [], laidByText := true, laidKinds := [.data, .data, .data, .sentinel, .sentinel], laidTests := true, laidLooks := .later }
def EventAppliesCardSaid : Prop := Claim7.holds Tryz.pinned (.plain (OpenSpec.ofChange eventAppliesSpec)) eventAppliesCard

/-- THE TIED CARD OF 'lorrylaw45.EventWrites'. -/
def eventWritesCard : Claim7 := { stood := { row := eventWritesRow, standIns := [], harness := (true, "b3da2d252f873777682476dd1f69b6d35f9c2029f5471223d5d107fed44961ac"), looks := true }, kinds := [], alts := [], laidByText := true, laidKinds := [.data, .data, .data, .sentinel, .sentinel], laidTests := true, laidLooks := .later }
def EventWritesCardSaid : Prop := Claim7.holds Tryz.pinned (.plain (OpenSpec.ofChange eventWritesSpec)) eventWritesCard

/-- THE TIED CARD OF 'lorrylaw45.EventReads'. -/
def eventReadsCard : Claim7 := { stood := { row := eventReadsRow, standIns := [], harness := (true, "b3da2d252f873777682476dd1f69b6d35f9c2029f5471223d5d107fed44961ac"), looks := true }, kinds := [], alts := [], laidByText := true, laidKinds := [.data, .data, .data, .sentinel, .sentinel], laidTests := true, laidLooks := .later }
def EventReadsCardSaid : Prop := Claim7.holds Tryz.pinned (.plain (OpenSpec.ofChange eventReadsSpec)) eventReadsCard

/-- THE TIED CARD OF 'lorrylaw45.EventSpares'. -/
def eventSparesCard : Claim7 := { stood := { row := eventSparesRow, standIns := [], harness := (true, "b3da2d252f873777682476dd1f69b6d35f9c2029f5471223d5d107fed44961ac"), looks := true }, kinds := [], alts := [], laidByText := true, laidKinds := [.data, .data, .data, .sentinel, .sentinel], laidTests := true, laidLooks := .later }
def EventSparesCardSaid : Prop := Claim7.holds Tryz.pinned (.plain (OpenSpec.ofChange eventSparesSpec)) eventSparesCard

/-- THE TIED CARD OF 'lorrylaw45.EventGone'. -/
def eventGoneCard : Claim7 := { stood := { row := eventGoneRow, standIns := [], harness := (true, "b3da2d252f873777682476dd1f69b6d35f9c2029f5471223d5d107fed44961ac"), looks := true }, kinds := [], alts := [], laidByText := true, laidKinds := [.data, .data, .data, .sentinel, .sentinel], laidTests := true, laidLooks := .later }
def EventGoneCardSaid : Prop := Claim7.holds Tryz.pinned (.plain (OpenSpec.ofChange eventGoneSpec)) eventGoneCard

/-- THE TIED CARD OF 'lorrylaw14.SpecRoundTrip'. -/
def specRoundTripCard : Claim7 := { stood := { row := specRoundTripRow, standIns := [], harness := (true, "b3da2d252f873777682476dd1f69b6d35f9c2029f5471223d5d107fed44961ac"), looks := true }, kinds := [], alts := [], laidByText := true, laidKinds := [.data, .data, .data, .data, .sentinel, .sentinel, .pinned], laidTests := true, laidLooks := .later }
def SpecRoundTripCardSaid : Prop := Claim7.holds Tryz.pinned (.plain (OpenSpec.ofChange specRoundTripSpec)) specRoundTripCard

/-- THE TIED CARD OF 'lorrylaw14.SpecParses'. -/
def specParsesCard : Claim7 := { stood := { row := specParsesRow, standIns := [], harness := (true, "b3da2d252f873777682476dd1f69b6d35f9c2029f5471223d5d107fed44961ac"), looks := true }, kinds := [], alts := [], laidByText := true, laidKinds := [.data, .data, .data, .data, .sentinel, .sentinel, .pinned], laidTests := true, laidLooks := .later }
def SpecParsesCardSaid : Prop := Claim7.holds Tryz.pinned (.plain (OpenSpec.ofChange specParsesSpec)) specParsesCard

/-- THE TIED CARD OF 'lorrylaw14.SpecParts'. -/
def specPartsCard : Claim7 := { stood := { row := specPartsRow, standIns := [], harness := (true, "b3da2d252f873777682476dd1f69b6d35f9c2029f5471223d5d107fed44961ac"), looks := true }, kinds := [], alts := [], laidByText := true, laidKinds := [.data, .data, .data, .data, .sentinel, .sentinel, .pinned], laidTests := true, laidLooks := .later }
def SpecPartsCardSaid : Prop := Claim7.holds Tryz.pinned (.plain (OpenSpec.ofChange specPartsSpec)) specPartsCard

/-- THE TIED CARD OF 'lorrylaw14.SpecLines'. -/
def specLinesCard : Claim7 := { stood := { row := specLinesRow, standIns := [], harness := (true, "b3da2d252f873777682476dd1f69b6d35f9c2029f5471223d5d107fed44961ac"), looks := true }, kinds := [], alts := [], laidByText := true, laidKinds := [.data, .data, .data, .data, .sentinel, .sentinel, .pinned], laidTests := true, laidLooks := .later }
def SpecLinesCardSaid : Prop := Claim7.holds Tryz.pinned (.plain (OpenSpec.ofChange specLinesSpec)) specLinesCard

/-- THE SECOND FORM's CARD OF 'lorrylaw45.EventChecks'. -/
def eventChecksUptoCard : Claim7 := { stood := { row := eventChecksUptoRow, standIns := [], harness := (true, "b3da2d252f873777682476dd1f69b6d35f9c2029f5471223d5d107fed44961ac"), looks := true }, kinds := [], alts := [], laidByText := true, laidKinds := [.data, .data, .data, .sentinel, .sentinel], laidTests := true, laidLooks := .later }
def EventChecksUptoCardSaid : Prop := Claim7.holds Tryz.pinned (.plain (OpenSpec.upto eventChecksSpec)) eventChecksUptoCard

/-- THE SECOND FORM's CARD OF 'lorrylaw45.EventApplies'. -/
def eventAppliesUptoCard : Claim7 := { stood := { row := eventAppliesUptoRow, standIns := [], harness := (true, "b3da2d252f873777682476dd1f69b6d35f9c2029f5471223d5d107fed44961ac"), looks := true }, kinds := [], alts := [], laidByText := true, laidKinds := [.data, .data, .data, .sentinel, .sentinel], laidTests := true, laidLooks := .later }
def EventAppliesUptoCardSaid : Prop := Claim7.holds Tryz.pinned (.plain (OpenSpec.upto eventAppliesSpec)) eventAppliesUptoCard

/-- THE SECOND FORM's CARD OF 'lorrylaw45.EventWrites'. -/
def eventWritesUptoCard : Claim7 := { stood := { row := eventWritesUptoRow, standIns := [], harness := (true, "b3da2d252f873777682476dd1f69b6d35f9c2029f5471223d5d107fed44961ac"), looks := true }, kinds := [], alts := [], laidByText := true, laidKinds := [.data, .data, .data, .sentinel, .sentinel], laidTests := true, laidLooks := .later }
def EventWritesUptoCardSaid : Prop := Claim7.holds Tryz.pinned (.plain (OpenSpec.upto eventWritesSpec)) eventWritesUptoCard

/-- THE SECOND FORM's CARD OF 'lorrylaw45.EventReads'. -/
def eventReadsUptoCard : Claim7 := { stood := { row := eventReadsUptoRow, standIns := [], harness := (true, "b3da2d252f873777682476dd1f69b6d35f9c2029f5471223d5d107fed44961ac"), looks := true }, kinds := [], alts := [], laidByText := true, laidKinds := [.data, .data, .data, .sentinel, .sentinel], laidTests := true, laidLooks := .later }
def EventReadsUptoCardSaid : Prop := Claim7.holds Tryz.pinned (.plain (OpenSpec.upto eventReadsSpec)) eventReadsUptoCard

/-- THE SECOND FORM's CARD OF 'lorrylaw45.EventSpares'. -/
def eventSparesUptoCard : Claim7 := { stood := { row := eventSparesUptoRow, standIns := [], harness := (true, "b3da2d252f873777682476dd1f69b6d35f9c2029f5471223d5d107fed44961ac"), looks := true }, kinds := [], alts := [], laidByText := true, laidKinds := [.data, .data, .data, .sentinel, .sentinel], laidTests := true, laidLooks := .later }
def EventSparesUptoCardSaid : Prop := Claim7.holds Tryz.pinned (.plain (OpenSpec.upto eventSparesSpec)) eventSparesUptoCard

/-- THE SECOND FORM's CARD OF 'lorrylaw45.EventGone'. -/
def eventGoneUptoCard : Claim7 := { stood := { row := eventGoneUptoRow, standIns := [], harness := (true, "b3da2d252f873777682476dd1f69b6d35f9c2029f5471223d5d107fed44961ac"), looks := true }, kinds := [], alts := [], laidByText := true, laidKinds := [.data, .data, .data, .sentinel, .sentinel], laidTests := true, laidLooks := .later }
def EventGoneUptoCardSaid : Prop := Claim7.holds Tryz.pinned (.plain (OpenSpec.upto eventGoneSpec)) eventGoneUptoCard

/-- THE SECOND FORM's CARD OF 'lorrylaw14.SpecRoundTrip'. -/
def specRoundTripUptoCard : Claim7 := { stood := { row := specRoundTripUptoRow, standIns := [], harness := (true, "b3da2d252f873777682476dd1f69b6d35f9c2029f5471223d5d107fed44961ac"), looks := true }, kinds := [], alts := [], laidByText := true, laidKinds := [.data, .data, .data, .data, .sentinel, .sentinel, .pinned], laidTests := true, laidLooks := .later }
def SpecRoundTripUptoCardSaid : Prop := Claim7.holds Tryz.pinned (.plain (OpenSpec.upto specRoundTripSpec)) specRoundTripUptoCard

/-- THE SECOND FORM's CARD OF 'lorrylaw14.SpecParses'. -/
def specParsesUptoCard : Claim7 := { stood := { row := specParsesUptoRow, standIns := [], harness := (true, "b3da2d252f873777682476dd1f69b6d35f9c2029f5471223d5d107fed44961ac"), looks := true }, kinds := [], alts := [], laidByText := true, laidKinds := [.data, .data, .data, .data, .sentinel, .sentinel, .pinned], laidTests := true, laidLooks := .later }
def SpecParsesUptoCardSaid : Prop := Claim7.holds Tryz.pinned (.plain (OpenSpec.upto specParsesSpec)) specParsesUptoCard

/-- THE SECOND FORM's CARD OF 'lorrylaw14.SpecParts'. -/
def specPartsUptoCard : Claim7 := { stood := { row := specPartsUptoRow, standIns := [], harness := (true, "b3da2d252f873777682476dd1f69b6d35f9c2029f5471223d5d107fed44961ac"), looks := true }, kinds := [], alts := [], laidByText := true, laidKinds := [.data, .data, .data, .data, .sentinel, .sentinel, .pinned], laidTests := true, laidLooks := .later }
def SpecPartsUptoCardSaid : Prop := Claim7.holds Tryz.pinned (.plain (OpenSpec.upto specPartsSpec)) specPartsUptoCard

/-- THE SECOND FORM's CARD OF 'lorrylaw14.SpecLines'. -/
def specLinesUptoCard : Claim7 := { stood := { row := specLinesUptoRow, standIns := [], harness := (true, "b3da2d252f873777682476dd1f69b6d35f9c2029f5471223d5d107fed44961ac"), looks := true }, kinds := [], alts := [], laidByText := true, laidKinds := [.data, .data, .data, .data, .sentinel, .sentinel, .pinned], laidTests := true, laidLooks := .later }
def SpecLinesUptoCardSaid : Prop := Claim7.holds Tryz.pinned (.plain (OpenSpec.upto specLinesSpec)) specLinesUptoCard
end Rows
end Go.Proofs.YtofabhenmplkoaaGreatDoor

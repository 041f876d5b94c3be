/-
  DERIVED. GIVEN WITH THE SEED: THE CARDS: each row of YthcmopgdjibojaaGreatDoorRows.lean that lists a variable, with what it lists TIED to the program's text (the seventh form; the later family's looks); each row that meets fmt, with fmt's text TOLD by the authors' own Lean function (tested against real Go, not proved from fmt's source: count such statements apart). THE CARD IS WHAT COUNTS. Prove the row's statement (the work); the ties are given (YthcmopgdjibojaaGreatDoorTie.lean); close each card by the builder's one call (the guide's Derived/Test/ToyasCard.lean, 'card_holds'). Laid BY PROGRAM, IN A SANDBOX (cutbox-door.mjs). By AI agents, Wed Nov 11 2026. No macro, syntax, notation, axiom, sorry.
-/
import Derived.Test.YthcmopgdjibojaaGreatDoorRows
import GoSem.ClaimSeven
namespace Go.Proofs.YthcmopgdjibojaaGreatDoor
namespace Rows

/-- THE TIED CARD OF 'lorrytop.TopDuality'. -/
def topDualityCard : Claim7 := { stood := { row := topDualityRow, standIns := [], harness := (true, "82dfc5db6fd555c9dec4fa49a06b5ea291b603bbb86a832748e9a8efd4a82299"), looks := false }, kinds := [], alts := [], laidByText := true, laidKinds := [.data, .data, .data], laidTests := true, laidLooks := .later }
def TopDualityCardSaid : Prop := Claim7.holds Tryz.pinned (.plain (OpenSpec.ofChange topDualitySpec)) topDualityCard

/-- THE TIED CARD OF 'lorrytop.TopAims'. -/
def topAimsCard : Claim7 := { stood := { row := topAimsRow, standIns := [], harness := (true, "82dfc5db6fd555c9dec4fa49a06b5ea291b603bbb86a832748e9a8efd4a82299"), looks := false }, kinds := [], alts := [], laidByText := true, laidKinds := [.data, .data, .data], laidTests := true, laidLooks := .later }
def TopAimsCardSaid : Prop := Claim7.holds Tryz.pinned (.plain (OpenSpec.ofChange topAimsSpec)) topAimsCard

/-- THE SECOND FORM's CARD OF 'lorrytop.TopDuality'. -/
def topDualityUptoCard : Claim7 := { stood := { row := topDualityUptoRow, standIns := [], harness := (true, "82dfc5db6fd555c9dec4fa49a06b5ea291b603bbb86a832748e9a8efd4a82299"), looks := false }, kinds := [], alts := [], laidByText := true, laidKinds := [.data, .data, .data], laidTests := true, laidLooks := .later }
def TopDualityUptoCardSaid : Prop := Claim7.holds Tryz.pinned (.plain (OpenSpec.upto topDualitySpec)) topDualityUptoCard

/-- THE SECOND FORM's CARD OF 'lorrytop.TopAims'. -/
def topAimsUptoCard : Claim7 := { stood := { row := topAimsUptoRow, standIns := [], harness := (true, "82dfc5db6fd555c9dec4fa49a06b5ea291b603bbb86a832748e9a8efd4a82299"), looks := false }, kinds := [], alts := [], laidByText := true, laidKinds := [.data, .data, .data], laidTests := true, laidLooks := .later }
def TopAimsUptoCardSaid : Prop := Claim7.holds Tryz.pinned (.plain (OpenSpec.upto topAimsSpec)) topAimsUptoCard
end Rows
end Go.Proofs.YthcmopgdjibojaaGreatDoor

/-
  DERIVED. GIVEN WITH THE SEED: THE CARDS: each row of YtamhjodppdodfaaDoorRows.lean that lists a variable, with what it lists TIED to the program's text (the seventh form; the later family's looks); each row that meets fmt, with fmt's text TOLD by the authors' own Lean function (tested against real Go, not proved from fmt's source: count such statements apart). THE CARD IS WHAT COUNTS. Prove the row's statement (the work); the ties are given (YtamhjodppdodfaaDoorTie.lean); close each card by the builder's one call (the guide's Derived/Test/ToyasCard.lean, 'card_holds'). Laid BY PROGRAM, IN A SANDBOX (cutbox-door.mjs). By AI agents, Wed Nov 11 2026. No macro, syntax, notation, axiom, sorry.
-/
import Derived.Test.YtamhjodppdodfaaDoorRows
import GoSem.ClaimSeven
namespace Go.Proofs.YtamhjodppdodfaaDoor
namespace Rows

/-- THE TIED CARD OF 'lorrylaw60.GenerateAgain'. -/
def generateAgainCard : Claim7 := { stood := { row := generateAgainRow, standIns := [], harness := (true, "eb4617320a15c0b576cc59baca3395fd01d27f6aa39c97a51c9034417f570353"), looks := false }, kinds := [], alts := [], laidByText := true, laidKinds := [.data, .data, .data], laidTests := true, laidLooks := .later }
def GenerateAgainCardSaid : Prop := Claim7.holds Tryd.pinned (.plain (OpenSpec.ofChange generateAgainSpec)) generateAgainCard

/-- THE SECOND FORM's CARD OF 'lorrylaw60.GenerateAgain'. -/
def generateAgainUptoCard : Claim7 := { stood := { row := generateAgainUptoRow, standIns := [], harness := (true, "eb4617320a15c0b576cc59baca3395fd01d27f6aa39c97a51c9034417f570353"), looks := false }, kinds := [], alts := [], laidByText := true, laidKinds := [.data, .data, .data], laidTests := true, laidLooks := .later }
def GenerateAgainUptoCardSaid : Prop := Claim7.holds Tryd.pinned (.plain (OpenSpec.upto generateAgainSpec)) generateAgainUptoCard
end Rows
end Go.Proofs.YtamhjodppdodfaaDoor

/- Joined texts: FltA FltB FltC FltE FltK FltL. -/
import Derived.Test.YthcmopgdjibojaaGreatDoorBase
import Derived.RangeFuncBox
import Derived.Deep.QuietTactic
import Derived.BigQuiet
/- Ranges; capacities. -/
namespace Go.Proofs.YthcmopgdjibojaaGreatDoor.flt
open Go.RowKit
open Go.Proofs.YthcmopgdjibojaaGreatDoor.lib
set_option linter.unusedVariables false

/-- n is from a to b. -/
def inB (n a b : Int) : Bool := decide (a ≤ n ∧ n ≤ b)
def capB (l : List Int) (m : Nat) : Bool := decide (1 ≤ l.length ∧ l.length ≤ 3 ∧ l.length = m) && l.all (fun x => inB x 0 1000)

end Go.Proofs.YthcmopgdjibojaaGreatDoor.flt

/- Capacities; is a name there already? -/
namespace Go.Proofs.YthcmopgdjibojaaGreatDoor.flt
open Go.RowKit
open Go.Proofs.YthcmopgdjibojaaGreatDoor.lib Go.Proofs.YthcmopgdjibojaaGreatDoor.rd Go.Proofs.YthcmopgdjibojaaGreatDoor.typ
set_option linter.unusedVariables false

end Go.Proofs.YthcmopgdjibojaaGreatDoor.flt

/- The closure that notes an error. -/
namespace Go.Proofs.YthcmopgdjibojaaGreatDoor.flt
open Go.RowKit
open Go.Proofs.YthcmopgdjibojaaGreatDoor.lib Go.Proofs.YthcmopgdjibojaaGreatDoor.rd Go.Proofs.YthcmopgdjibojaaGreatDoor.typ
set_option linter.unusedVariables false

/-- Block b is a box that holds a row of errors; the row lies at or beyond base. -/
def BoxRow (w : World) (b base : Nat) (xs : List Int) : Prop :=
  ∃ A c, Boxed w b 189 (.slice A xs.length c) ∧ w.ownsRow base 35 1 (.slice A xs.length c) xs.length (xs.map (.int .i64)) ∧ b < base ∧ base ≤ w.heap.size ∧ xs.length ≤ 100
theorem BoxRow.below {w w' : World} {b base : Nat} {xs : List Int} (h : BoxRow w b base xs) (hb : Below w.heap.size w w') : BoxRow w' b base xs := by
  obtain ⟨A, c, h1, h2, h3, h4, h5⟩ := h
  refine ⟨A, c, (hb.block b (by omega)).trans h1, ?_, h3, Nat.le_trans h4 hb.size, h5⟩
  rcases h2.2 with ⟨h6, h7⟩ | ⟨g, cap, cur, h6, h7, h8, h9⟩
  · exact ⟨h2.1, .inl ⟨h6, h7⟩⟩
  · exact ⟨h2.1, .inr ⟨g, cap, cur, h6, h7, (hb.block g (Array.getElem?_eq_some_iff.1 h8).1).trans h8, h9⟩⟩
/-- What a call of the closure has done. -/
def AddOut (w : World) (b base : Nat) (xs : List Int) (e : Ending) (w' : World) : Prop :=
  e = .returned (.tuple #[]) ∧ BoxRow w' b base xs ∧ Below b w w' ∧ (∀ k, b < k → k < base → w'.heap[k]? = w.heap[k]?) ∧ w.heap.size ≤ w'.heap.size

end Go.Proofs.YthcmopgdjibojaaGreatDoor.flt

/- The reference's known; dimensions; totals. -/
namespace Go.Proofs.YthcmopgdjibojaaGreatDoor.flt
open Go.RowKit
open Go.Proofs.YthcmopgdjibojaaGreatDoor.lib Go.Proofs.YthcmopgdjibojaaGreatDoor.rd Go.Proofs.YthcmopgdjibojaaGreatDoor.typ
set_option linter.unusedVariables false

end Go.Proofs.YthcmopgdjibojaaGreatDoor.flt

/- Totals; equal lists of numbers; the same types. -/
namespace Go.Proofs.YthcmopgdjibojaaGreatDoor.flt
open Go.RowKit
open Go.Proofs.YthcmopgdjibojaaGreatDoor.lib Go.Proofs.YthcmopgdjibojaaGreatDoor.rd Go.Proofs.YthcmopgdjibojaaGreatDoor.typ
set_option linter.unusedVariables false

theorem inB_bd {n a b : Int} (h : inB n a b = true) : a ≤ n ∧ n ≤ b := by unfold inB at h; simpa using h

end Go.Proofs.YthcmopgdjibojaaGreatDoor.flt

/- The same types. -/
namespace Go.Proofs.YthcmopgdjibojaaGreatDoor.flt
open Go.RowKit
open Go.Proofs.YthcmopgdjibojaaGreatDoor.lib Go.Proofs.YthcmopgdjibojaaGreatDoor.rd Go.Proofs.YthcmopgdjibojaaGreatDoor.typ
set_option linter.unusedVariables false

end Go.Proofs.YthcmopgdjibojaaGreatDoor.flt

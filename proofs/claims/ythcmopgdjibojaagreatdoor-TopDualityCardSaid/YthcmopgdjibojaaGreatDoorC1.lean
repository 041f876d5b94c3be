/- Joined texts: UndA RulA RulB RulC OrdF OrdG OrdH. -/
import Derived.Test.YthcmopgdjibojaaGreatDoorBase
import Derived.OwnWalk
import Derived.Deep.QuietTactic
import Derived.RangeFuncBox
import Derived.Deep.DeepCutAuto
import Derived.Deep.RegionHeld3
import Derived.Outline
/- Violations with a word ahead of their places: under. -/
namespace Go.Proofs.YthcmopgdjibojaaGreatDoor.und
open Go.RowKit
open Go.Proofs.YthcmopgdjibojaaGreatDoor.lib Go.Proofs.YthcmopgdjibojaaGreatDoor.rd Go.Proofs.YthcmopgdjibojaaGreatDoor.typ Go.Proofs.YthcmopgdjibojaaGreatDoor.app Go.Proofs.YthcmopgdjibojaaGreatDoor.flts Go.Proofs.YthcmopgdjibojaaGreatDoor.note
set_option linter.unusedVariables false
set_option linter.unusedSimpArgs false

end Go.Proofs.YthcmopgdjibojaaGreatDoor.und

/- rules: decimal, the tests of pairs. -/
namespace Go.Proofs.YthcmopgdjibojaaGreatDoor.rul
open Go.RowKit
open Go.Proofs.YthcmopgdjibojaaGreatDoor.lib Go.Proofs.YthcmopgdjibojaaGreatDoor.rd Go.Proofs.YthcmopgdjibojaaGreatDoor.eqg Go.Proofs.YthcmopgdjibojaaGreatDoor.txt
set_option linter.unusedVariables false
set_option linter.unusedSimpArgs false

end Go.Proofs.YthcmopgdjibojaaGreatDoor.rul

/- rules: the violations of a list of pairs. -/
namespace Go.Proofs.YthcmopgdjibojaaGreatDoor.rul
open Go.RowKit
open Go.Proofs.YthcmopgdjibojaaGreatDoor.lib Go.Proofs.YthcmopgdjibojaaGreatDoor.rd Go.Proofs.YthcmopgdjibojaaGreatDoor.typ Go.Proofs.YthcmopgdjibojaaGreatDoor.app Go.Proofs.YthcmopgdjibojaaGreatDoor.flts Go.Proofs.YthcmopgdjibojaaGreatDoor.eqg Go.Proofs.YthcmopgdjibojaaGreatDoor.txt Go.Proofs.YthcmopgdjibojaaGreatDoor.note
set_option linter.unusedVariables false
set_option linter.unusedSimpArgs false

end Go.Proofs.YthcmopgdjibojaaGreatDoor.rul

/- rules.Check: the violations of the pairs of an instance. -/
namespace Go.Proofs.YthcmopgdjibojaaGreatDoor.rul
open Go.RowKit
open Go.Proofs.YthcmopgdjibojaaGreatDoor.lib Go.Proofs.YthcmopgdjibojaaGreatDoor.rd Go.Proofs.YthcmopgdjibojaaGreatDoor.typ Go.Proofs.YthcmopgdjibojaaGreatDoor.app Go.Proofs.YthcmopgdjibojaaGreatDoor.flts Go.Proofs.YthcmopgdjibojaaGreatDoor.eqg Go.Proofs.YthcmopgdjibojaaGreatDoor.txt Go.Proofs.YthcmopgdjibojaaGreatDoor.note
set_option linter.unusedVariables false
set_option linter.unusedSimpArgs false

end Go.Proofs.YthcmopgdjibojaaGreatDoor.rul

/- The parts of the errors of an order: the closure, names known, numbers. -/
namespace Go.Proofs.YthcmopgdjibojaaGreatDoor.ord
open Go.RowKit
open Go.Proofs.YthcmopgdjibojaaGreatDoor.lib Go.Proofs.YthcmopgdjibojaaGreatDoor.rd Go.Proofs.YthcmopgdjibojaaGreatDoor.typ Go.Proofs.YthcmopgdjibojaaGreatDoor.note
set_option linter.unusedVariables false
set_option linter.unusedSimpArgs false

end Go.Proofs.YthcmopgdjibojaaGreatDoor.ord

/- The errors of an order. -/
namespace Go.Proofs.YthcmopgdjibojaaGreatDoor.ord
open Go.RowKit
open Go.Proofs.YthcmopgdjibojaaGreatDoor.lib Go.Proofs.YthcmopgdjibojaaGreatDoor.rd Go.Proofs.YthcmopgdjibojaaGreatDoor.typ Go.Proofs.YthcmopgdjibojaaGreatDoor.txt Go.Proofs.YthcmopgdjibojaaGreatDoor.note
set_option linter.unusedVariables false
set_option linter.unusedSimpArgs false

/-- Block k holds an order's cells. -/
def OrBlk (w : World) (k : Nat) (t : Ord) (C : Option Addr) (c : Nat) : Prop := w.heap[k]? = some (.cells (OrdCells t C c).toArray 111 (0, 0))
theorem OrBlk.cells {w : World} {k : Nat} {t : Ord} {C : Option Addr} {c : Nat} (h : OrBlk w k t C c) : w.cell? ⟨k, 0, none⟩ = some (.string t.name) ∧ w.cell? ⟨k, 1, none⟩ = some (.slice C t.load.length c) ∧ w.cell? ⟨k, 2, none⟩ = some (.int .i64 t.pick.place) ∧ w.cell? ⟨k, 3, none⟩ = some (.int .i64 t.pick.opn) ∧ w.cell? ⟨k, 4, none⟩ = some (.int .i64 t.pick.close) ∧ w.cell? ⟨k, 5, none⟩ = some (.int .i64 t.pick.service) ∧
    w.cell? ⟨k, 6, none⟩ = some (.int .i64 t.drop.place) ∧ w.cell? ⟨k, 7, none⟩ = some (.int .i64 t.drop.opn) ∧ w.cell? ⟨k, 8, none⟩ = some (.int .i64 t.drop.close) ∧ w.cell? ⟨k, 9, none⟩ = some (.int .i64 t.drop.service) ∧ w.cell? ⟨k, 10, none⟩ = some (.int .i64 t.skills) ∧ w.cell? ⟨k, 11, none⟩ = some (.int .i64 t.penalty) ∧ w.cell? ⟨k, 12, none⟩ = some (.int .i64 t.split) ∧ w.cell? ⟨k, 13, none⟩ = some (.int .i64 t.last) ∧ w.cell? ⟨k, 14, none⟩ = some (.int .i64 t.now) ∧ w.cell? ⟨k, 15, none⟩ = some (.bool t.off) := by
  refine ⟨?_, ?_, ?_, ?_, ?_, ?_, ?_, ?_, ?_, ?_, ?_, ?_, ?_, ?_, ?_, ?_⟩ <;> simp [World.cell?, show w.heap[k]? = _ from h, OrdCells]

/-- Where the walk of errors stands between two questions. -/
structure St (H : Nat) (w : World) (t : Ord) (C : Option Addr) (c : Nat) (xs : List Int) (wx : World) : Prop where
  box : BoxRow wx (H + 1) (H + 1 + 1 + 1) xs
  blk : OrBlk wx (H + 1 + 1) t C c
  bel : Below H w wx
  len : xs.length < 50
theorem St.size {H : Nat} {w : World} {t : Ord} {C : Option Addr} {c : Nat} {xs : List Int} {wx : World} (h : St H w t C c xs wx) : H + 1 + 1 + 1 ≤ wx.heap.size := by obtain ⟨_, _, _, _, _, h4, _⟩ := h.box; exact h4
theorem St.below {H : Nat} {w : World} {t : Ord} {C : Option Addr} {c : Nat} {xs : List Int} {wx wy : World} (h : St H w t C c xs wx) (hb : Below wx.heap.size wx wy) : St H w t C c xs wy := by
  have hs := h.size
  exact ⟨h.box.below hb, (hb.block _ (by omega)).trans h.blk, h.bel.trans (hb.mono (by omega)), h.len⟩
theorem St.add {H : Nat} {w : World} {t : Ord} {C : Option Addr} {c : Nat} {xs ys : List Int} {wx wy : World} {e : Ending} (h : St H w t C c xs wx) (ha : AddOut wx (H + 1) (H + 1 + 1 + 1) ys e wy) (hl : ys.length < 50) : St H w t C c ys wy := by
  obtain ⟨_, h1, h2, h3, _⟩ := ha
  exact ⟨h1, (h3 _ (by omega) (by omega)).trans h.blk, h.bel.trans (h2.mono (by omega)), hl⟩

end Go.Proofs.YthcmopgdjibojaaGreatDoor.ord

/- The violations of orders: Check of the program. -/
namespace Go.Proofs.YthcmopgdjibojaaGreatDoor.ord
open Go.RowKit
open Go.Proofs.YthcmopgdjibojaaGreatDoor.lib Go.Proofs.YthcmopgdjibojaaGreatDoor.rd Go.Proofs.YthcmopgdjibojaaGreatDoor.typ Go.Proofs.YthcmopgdjibojaaGreatDoor.txt Go.Proofs.YthcmopgdjibojaaGreatDoor.app Go.Proofs.YthcmopgdjibojaaGreatDoor.note Go.Proofs.YthcmopgdjibojaaGreatDoor.flts
set_option linter.unusedVariables false

end Go.Proofs.YthcmopgdjibojaaGreatDoor.ord

/- The errors of an order. -/
import Derived.Test.YtceceomaheobhaaOrdF
import Derived.Test.YtceceomaheobhaaBase
import Derived.Deep.RegionHeld3
import Derived.Deep.DeepCutAuto
import Derived.Outline
namespace Go.Proofs.Ytceceomaheobhaa.ord
open Go.RowKit
open Go.Proofs.Ytceceomaheobhaa.lib Go.Proofs.Ytceceomaheobhaa.rd Go.Proofs.Ytceceomaheobhaa.typ Go.Proofs.Ytceceomaheobhaa.txt Go.Proofs.Ytceceomaheobhaa.note
set_option linter.unusedVariables false
set_option linter.unusedSimpArgs false

/-- Block k holds an order's cells. -/
def OrBlk (w : World) (k : Nat) (t : Ord) (C : Option Addr) (c : Nat) : Prop := w.heap[k]? = some (.cells (OrdCells t C c).toArray 75 (0, 0))
theorem OrBlk.cells {w : World} {k : Nat} {t : Ord} {C : Option Addr} {c : Nat} (h : OrBlk w k t C c) : w.cell? ⟨k, 0, none⟩ = some (.string t.name) ∧ w.cell? ⟨k, 1, none⟩ = some (.slice C t.load.length c) ∧ w.cell? ⟨k, 2, none⟩ = some (.int .i64 t.pick.place) ∧ w.cell? ⟨k, 3, none⟩ = some (.int .i64 t.pick.opn) ∧ w.cell? ⟨k, 4, none⟩ = some (.int .i64 t.pick.close) ∧ w.cell? ⟨k, 5, none⟩ = some (.int .i64 t.pick.service) ∧
    w.cell? ⟨k, 6, none⟩ = some (.int .i64 t.drop.place) ∧ w.cell? ⟨k, 7, none⟩ = some (.int .i64 t.drop.opn) ∧ w.cell? ⟨k, 8, none⟩ = some (.int .i64 t.drop.close) ∧ w.cell? ⟨k, 9, none⟩ = some (.int .i64 t.drop.service) ∧ w.cell? ⟨k, 10, none⟩ = some (.int .i64 t.skills) ∧ w.cell? ⟨k, 11, none⟩ = some (.int .i64 t.penalty) ∧ w.cell? ⟨k, 12, none⟩ = some (.int .i64 t.split) ∧ w.cell? ⟨k, 13, none⟩ = some (.int .i64 t.last) ∧ w.cell? ⟨k, 14, none⟩ = some (.int .i64 t.now) ∧ w.cell? ⟨k, 15, none⟩ = some (.bool t.off) := by
  refine ⟨?_, ?_, ?_, ?_, ?_, ?_, ?_, ?_, ?_, ?_, ?_, ?_, ?_, ?_, ?_, ?_⟩ <;> simp [World.cell?, show w.heap[k]? = _ from h, OrdCells]

/-- Where the walk of errors stands between two questions. -/
structure St (H : Nat) (w : World) (t : Ord) (C : Option Addr) (c : Nat) (xs : List Int) (wx : World) : Prop where
  box : BoxRow wx (H + 1) (H + 1 + 1 + 1) xs
  blk : OrBlk wx (H + 1 + 1) t C c
  bel : Below H w wx
  len : xs.length < 50
theorem St.size {H : Nat} {w : World} {t : Ord} {C : Option Addr} {c : Nat} {xs : List Int} {wx : World} (h : St H w t C c xs wx) : H + 1 + 1 + 1 ≤ wx.heap.size := by obtain ⟨_, _, _, _, _, h4, _⟩ := h.box; exact h4
theorem St.below {H : Nat} {w : World} {t : Ord} {C : Option Addr} {c : Nat} {xs : List Int} {wx wy : World} (h : St H w t C c xs wx) (hb : Below wx.heap.size wx wy) : St H w t C c xs wy := by
  have hs := h.size
  exact ⟨h.box.below hb, (hb.block _ (by omega)).trans h.blk, h.bel.trans (hb.mono (by omega)), h.len⟩
theorem St.add {H : Nat} {w : World} {t : Ord} {C : Option Addr} {c : Nat} {xs ys : List Int} {wx wy : World} {e : Ending} (h : St H w t C c xs wx) (ha : AddOut wx (H + 1) (H + 1 + 1 + 1) ys e wy) (hl : ys.length < 50) : St H w t C c ys wy := by
  obtain ⟨_, h1, h2, h3, _⟩ := ha
  exact ⟨h1, (h3 _ (by omega) (by omega)).trans h.blk, h.bel.trans (h2.mono (by omega)), hl⟩

/-- Both windows of an order are right. -/
def winB (o : Ord) : Bool := (win.chk o.pick.place o.pick.opn o.pick.close o.pick.service == 0) && (win.chk o.drop.place o.drop.opn o.drop.close o.drop.service == 0)
/-- The errors of an order, in order. -/
def errsO (places dims types : Int) (l : List Ord) (i : Nat) (o : Ord) : List Int :=
  pushIf (pushIf (pushIf (pushIf (pushIf (pushIf (pushIf (pushIf [] (nameB o.name) 5) (!((l.take i).any (fun x => sameS x.name o.name))) 6) (loads.rightB o.load dims) 17) (inB o.pick.place (-1) places && inB o.drop.place (-1) places) 11) ((o.pick.place != -1) || (o.drop.place != -1)) 19) (winB o) 14) (inB o.skills 0 1073741823) 18) (numB o types) 2

end Go.Proofs.Ytceceomaheobhaa.ord

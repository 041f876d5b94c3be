/- The errors of a type. -/
import Derived.Test.YtceceomaheobhaaFltX
import Derived.Test.YtceceomaheobhaaBase
import Derived.Deep.RegionHeld3
import Derived.Deep.DeepCutAuto
import Derived.Outline
namespace Go.Proofs.Ytceceomaheobhaa.flt
open Go.RowKit
open Go.Proofs.Ytceceomaheobhaa.lib Go.Proofs.Ytceceomaheobhaa.rd Go.Proofs.Ytceceomaheobhaa.typ Go.Proofs.Ytceceomaheobhaa.txt
set_option linter.unusedVariables false
set_option linter.unusedSimpArgs false

def pushIf (xs : List Int) (right : Bool) (u : Int) : List Int := if right then xs else xs ++ [u]
theorem pushIf_len (xs : List Int) (r : Bool) (u : Int) : (pushIf xs r u).length ≤ xs.length + 1 := by unfold pushIf; split <;> simp

/-- Block k holds a type's cells. -/
def TyBlk (w : World) (k : Nat) (t : Ty) (C : Option Addr) (c : Nat) : Prop := w.heap[k]? = some (.cells (TyCells t C c).toArray 94 (0, 0))
theorem TyBlk.cells {w : World} {k : Nat} {t : Ty} {C : Option Addr} {c : Nat} (h : TyBlk w k t C c) : w.cell? ⟨k, 0, none⟩ = some (.string t.name) ∧ w.cell? ⟨k, 1, none⟩ = some (.int .i64 t.count) ∧ w.cell? ⟨k, 2, none⟩ = some (.int .i64 t.frm) ∧ w.cell? ⟨k, 3, none⟩ = some (.int .i64 t.to) ∧ w.cell? ⟨k, 4, none⟩ = some (.slice C t.cap.length c) ∧
    w.cell? ⟨k, 5, none⟩ = some (.int .i64 t.skills) ∧ w.cell? ⟨k, 6, none⟩ = some (.int .i64 t.profile) ∧ w.cell? ⟨k, 7, none⟩ = some (.int .i64 t.opn) ∧ w.cell? ⟨k, 8, none⟩ = some (.int .i64 t.close) ∧ w.cell? ⟨k, 9, none⟩ = some (.int .i64 t.drive) ∧ w.cell? ⟨k, 10, none⟩ = some (.int .i64 t.rest) ∧ w.cell? ⟨k, 11, none⟩ = some (.int .i64 t.fixed) ∧ w.cell? ⟨k, 12, none⟩ = some (.int .i64 t.mile) ∧ w.cell? ⟨k, 13, none⟩ = some (.int .i64 t.tick) := by
  refine ⟨?_, ?_, ?_, ?_, ?_, ?_, ?_, ?_, ?_, ?_, ?_, ?_, ?_, ?_⟩ <;> simp [World.cell?, show w.heap[k]? = _ from h, TyCells]

/-- Where the walk of errors stands between two questions. -/
structure St (H : Nat) (w : World) (t : Ty) (C : Option Addr) (c : Nat) (xs : List Int) (wx : World) : Prop where
  box : BoxRow wx (H + 1) (H + 1 + 1 + 1) xs
  blk : TyBlk wx (H + 1 + 1) t C c
  bel : Below H w wx
  len : xs.length < 50
theorem St.size {H : Nat} {w : World} {t : Ty} {C : Option Addr} {c : Nat} {xs : List Int} {wx : World} (h : St H w t C c xs wx) : H + 1 + 1 + 1 ≤ wx.heap.size := by obtain ⟨_, _, _, _, _, h4, _⟩ := h.box; exact h4
theorem St.below {H : Nat} {w : World} {t : Ty} {C : Option Addr} {c : Nat} {xs : List Int} {wx wy : World} (h : St H w t C c xs wx) (hb : Below wx.heap.size wx wy) : St H w t C c xs wy := by
  have hs := h.size
  exact ⟨h.box.below hb, (hb.block _ (by omega)).trans h.blk, h.bel.trans (hb.mono (by omega)), h.len⟩
theorem St.add {H : Nat} {w : World} {t : Ty} {C : Option Addr} {c : Nat} {xs ys : List Int} {wx wy : World} {e : Ending} (h : St H w t C c xs wx) (ha : AddOut wx (H + 1) (H + 1 + 1 + 1) ys e wy) (hl : ys.length < 50) : St H w t C c ys wy := by
  obtain ⟨_, h1, h2, h3, _⟩ := ha
  exact ⟨h1, (h3 _ (by omega) (by omega)).trans h.blk, h.bel.trans (h2.mono (by omega)), hl⟩

/-- The errors of a type, in order. -/
def errsL (places : Int) (l : List Ty) (i : Nat) (t : Ty) (d : Nat) : List Int :=
  pushIf (pushIf (pushIf (pushIf (pushIf (pushIf (pushIf (pushIf (pushIf [] (nameB t.name) 5) (!((l.take i).any (fun x => sameS x.name t.name))) 6) (inB t.count 0 10) 22) (inB t.frm 0 places && inB t.to 0 places) 11) (capB t.cap d) 17) (inB t.skills 0 1073741823) 18)
    (inB t.opn 0 t.close && decide (t.close ≤ 4096)) 15) (inB t.drive 1 4096 && inB t.rest 0 4096) 16) (inB t.profile 0 7 && inB t.fixed 0 100000 && inB t.mile 0 100 && inB t.tick 0 100) 2

/-- A row of errors, handed back. -/
def ErrsOut (w : World) (xs : List Int) (e : Ending) (w' : World) : Prop :=
  ∃ A c, e = .returned (.slice A xs.length c) ∧ w'.ownsRow w.heap.size 24 1 (.slice A xs.length c) xs.length (xs.map (.int .i64)) ∧ Below w.heap.size w w'

end Go.Proofs.Ytceceomaheobhaa.flt

/- Drawers of numbers: a box whose number turns with each draw; blocks of the call's own. -/
import Derived.Test.YtofabhenmplkoaaGreatDoorGenP
import Derived.Test.YtofabhenmplkoaaGreatDoorRndA
import Derived.Test.YtofabhenmplkoaaGreatDoorBase
import Derived.RangeFuncBox
import Derived.Laws.BitsLemmas
import Derived.Deep.DeepCutAuto
namespace Go.Proofs.YtofabhenmplkoaaGreatDoor.gen
open Go.RowKit
open Go.Proofs.YtofabhenmplkoaaGreatDoor.lib Go.Proofs.YtofabhenmplkoaaGreatDoor.rd Go.Proofs.YtofabhenmplkoaaGreatDoor.app Go.Proofs.YtofabhenmplkoaaGreatDoor.typ Go.Proofs.YtofabhenmplkoaaGreatDoor.txt Go.Proofs.YtofabhenmplkoaaGreatDoor.big
set_option linter.unusedVariables false
set_option linter.unusedSimpArgs false

/-- Block b holds these cells. -/
def Blk (w : World) (b : Nat) (t : TypeId) (cs : List Value) : Prop := w.heap[b]? = some (.cells cs.toArray t (0, 0))
section
variable {w w' : World} {b : Nat} {t : TypeId} {cs : List Value}
theorem Blk.lt (h : Blk w b t cs) : b < w.heap.size := (Array.getElem?_eq_some_iff.1 h).1
theorem Blk.cell (h : Blk w b t cs) {j : Nat} {u : Value} (hj : cs[j]? = some u) : w.cell? ⟨b, j, none⟩ = some u := by
  unfold World.cell?
  rw [h]
  simpa using hj
theorem Blk.cells (h : Blk w b t cs) : CellsAt w ⟨b, 0, none⟩ cs := fun j u hu => World.news_of_block (w := w) (B := b) h j u (by simpa using hu)
theorem Blk.frozen (h : Blk w b t cs) (j : Nat) : w.frozen? ⟨b, j, none⟩ = false := by simp [World.frozen?, show w.heap[b]? = _ from h]
theorem Blk.set (h : Blk w b t cs) (i : Nat) (u : Value) : Blk (w.setCell ⟨b, i, none⟩ u) b t (cs.set i u) := by
  have h1 := heap_setCell_same w b i _ _ u h
  unfold Blk
  rw [h1]
  simp
theorem Blk.kept {row : Option Nat} (h : Blk w b t cs) (hg : w.grownBy w' row) (hne : some b ≠ row) : Blk w' b t cs := (hg.block b h.lt hne).trans h
theorem Blk.new (w : World) (t : TypeId) (cs : List Value) : Blk (w.alloc (.cells cs.toArray t)) w.heap.size t cs := World.alloc_heap_new w _
theorem Blk.below (h : Blk w b t cs) (hb : Below w.heap.size w w') : Blk w' b t cs := (hb.block b h.lt).trans h
end
theorem wrapI {n : Int} (h0 : -9223372036854775808 ≤ n) (h1 : n ≤ 9223372036854775807) : IntKind.i64.wrap n = n := by
  rw [IntKind.wrap_i64]
  omega
/-- A number drawn: the box p holds the next state, the other blocks stay. -/
def DrawOut (t : TypeId) (p : Nat) (v : Value) (s' : Int) (w : World) (e : Ending) (w' : World) : Prop := e = .returned v ∧ Boxed w' p t (.int .i64 s') ∧ w.grownBy w' (some p)
/-- Where a call that draws stands: the box p holds the state; of the blocks that were there only p has turned. -/
structure GS (w : World) (p : Nat) (t : TypeId) (s : Int) (wx : World) : Prop where
  box : Boxed wx p t (.int .i64 s)
  grown : w.grownBy wx (some p)
  lt : p < w.heap.size
section
variable {w wx wy : World} {p : Nat} {t : TypeId} {s s' : Int}
theorem GS.start (h : Boxed w p t (.int .i64 s)) : GS w p t s w := ⟨h, World.grownBy.refl _ _, h.lt⟩
theorem GS.size (h : GS w p t s wx) : w.heap.size ≤ wx.heap.size := h.grown.size
theorem GS.alloc (h : GS w p t s wx) (o : Obj) : GS w p t s (wx.alloc o) := ⟨h.box.alloc o, h.grown.trans (World.grownBy_alloc wx o _), h.lt⟩
theorem GS.set (h : GS w p t s wx) {b : Nat} (hb : w.heap.size ≤ b) (i : Nat) (u : Value) : GS w p t s (wx.setCell ⟨b, i, none⟩ u) :=
  ⟨(Below.heap_setCell wx ⟨b, i, none⟩ u p (show p ≠ b by have := h.lt; omega)).trans h.box, ⟨h.grown.os, h.grown.tape, h.grown.output, Nat.le_trans h.grown.size (by simp [World.setCell]), fun k hk hne => (Below.heap_setCell wx ⟨b, i, none⟩ u k (show k ≠ b by omega)).trans (h.grown.block k hk hne)⟩, h.lt⟩
theorem GS.draw (h : GS w p t s wx) (hb : Boxed wy p t (.int .i64 s')) (hg : wx.grownBy wy (some p)) : GS w p t s' wy := ⟨hb, h.grown.trans hg, h.lt⟩
theorem GS.drew (h : GS w p t s wx) : GS w p t s wx.drew := ⟨h.box, ⟨h.grown.os, h.grown.tape, h.grown.output, h.grown.size, h.grown.block⟩, h.lt⟩
theorem GS.below (h : GS w p t s wx) (hb : Below wx.heap.size wx wy) : GS w p t s wy :=
  ⟨(hb.block p (Nat.lt_of_lt_of_le h.lt h.size)).trans h.box, ⟨hb.os.trans h.grown.os, hb.tape.trans h.grown.tape, hb.output.trans h.grown.output, Nat.le_trans h.size hb.size, fun k hk hne => (hb.block k (Nat.lt_of_lt_of_le hk h.size)).trans (h.grown.block k hk hne)⟩, h.lt⟩
/-- Behind an append to a row of the call's own. -/
theorem GS.grow (h : GS w p t s wx) {row : Option Nat} (hg : wx.grownBy wy row) (hr : ∀ k, row = some k → w.heap.size ≤ k) : GS w p t s wy :=
  ⟨h.box.kept hg (fun e => by have := hr p e.symm; have := h.lt; omega), ⟨hg.os.trans h.grown.os, hg.tape.trans h.grown.tape, hg.output.trans h.grown.output, Nat.le_trans h.size hg.size, fun k hk hne => (hg.block k (Nat.lt_of_lt_of_le hk h.size) (fun e => by have := hr k e.symm; omega)).trans (h.grown.block k hk hne)⟩, h.lt⟩
theorem GS.store (h : GS w p t s wx) {g : Nat} (hg : w.heap.size ≤ g) (hk : ∀ k, k ≠ g → wy.heap[k]? = wx.heap[k]?) (hb : Below g wx wy) : GS w p t s wy :=
  ⟨(hk p (by have := h.lt; omega)).trans h.box, ⟨hb.os.trans h.grown.os, hb.tape.trans h.grown.tape, hb.output.trans h.grown.output, Nat.le_trans h.size hb.size, fun k hl hne => (hk k (by omega)).trans (h.grown.block k hl hne)⟩, h.lt⟩
theorem GS.out (h : GS w p t s wx) (v : Value) : DrawOut t p v s w (.returned v) wx := ⟨rfl, h.box, h.grown⟩
end
end Go.Proofs.YtofabhenmplkoaaGreatDoor.gen

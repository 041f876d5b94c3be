/- Arcs that are drawn: the reference. A block with a row that grows. -/
import Derived.Test.YtamhjodppdodfaaDoorGenE
import Derived.Test.YtamhjodppdodfaaDoorGenR
import Derived.Deep.RegionHeld3
import Derived.Deep.DeepCutAuto
namespace Go.Proofs.YtamhjodppdodfaaDoor.gen
open Go.RowKit
open Go.Proofs.YtamhjodppdodfaaDoor.lib Go.Proofs.YtamhjodppdodfaaDoor.rd Go.Proofs.YtamhjodppdodfaaDoor.app Go.Proofs.YtamhjodppdodfaaDoor.els Go.Proofs.YtamhjodppdodfaaDoor.typ Go.Proofs.YtamhjodppdodfaaDoor.txt Go.Proofs.YtamhjodppdodfaaDoor.big Go.Proofs.YtamhjodppdodfaaDoor.off
set_option linter.unusedVariables false
set_option linter.unusedSimpArgs false

/-- Where a call that draws stands: its drawer, the block that it builds, the row that it builds. -/
structure BSt (T bt et : TypeId) (sz : Nat) (W : World) (p B1 ob : Nat) (s : Int) (cs : List Value) (A : Option Addr) (k c : Nat) (l : List Value) (wx : World) : Prop where
  gs : GS W p T s wx
  blk : Blk wx ob bt cs
  own : wx.ownsRow B1 et sz (.slice A k c) k l
  size : B1 ≤ wx.heap.size
/-- Where its blocks lie. -/
def BPl (W : World) (p B1 ob : Nat) : Prop := p < W.heap.size ∧ W.heap.size ≤ ob ∧ ob < B1
section
variable {T bt et : TypeId} {sz : Nat} {W wx wy : World} {p B1 ob : Nat} {s s' : Int} {cs : List Value} {A : Option Addr} {k c : Nat} {l : List Value}
theorem BSt.set (h : BSt T bt et sz W p B1 ob s cs A k c l wx) (hl : BPl W p B1 ob) (i : Nat) (u : Value) : BSt T bt et sz W p B1 ob s (cs.set i u) A k c l (wx.setCell ⟨ob, i, none⟩ u) := by
  obtain ⟨h2, h3, h4⟩ := hl
  exact ⟨h.gs.set h3 i u, h.blk.set i u, own_fr h.own (Fr.set (q := ob) wx i u (fun q hq => by have h' : B1 ≤ q := hq; omega)), by have := h.size; simp [World.setCell]; omega⟩
theorem BSt.drew (h : BSt T bt et sz W p B1 ob s cs A k c l wx) : BSt T bt et sz W p B1 ob s cs A k c l wx.drew := ⟨h.gs.drew, h.blk, h.own, h.size⟩
theorem BSt.draw (h : BSt T bt et sz W p B1 ob s cs A k c l wx) (hl : BPl W p B1 ob) (hb : Boxed wy p T (.int .i64 s')) (hg : wx.grownBy wy (some p)) : BSt T bt et sz W p B1 ob s' cs A k c l wy := by
  obtain ⟨h2, h3, h4⟩ := hl
  exact ⟨h.gs.draw hb hg, h.blk.kept hg (fun e => by injection e; omega), own_draw h.own (by omega) hg, Nat.le_trans h.size hg.size⟩
theorem BSt.below (h : BSt T bt et sz W p B1 ob s cs A k c l wx) (hb : Below wx.heap.size wx wy) : BSt T bt et sz W p B1 ob s cs A k c l wy :=
  ⟨h.gs.below hb, h.blk.below hb, own_below h.own hb, Nat.le_trans h.size hb.size⟩
theorem BSt.app {g n c' : Nat} {l' : List Value} (h : BSt T bt et sz W p B1 ob s cs A k c l wx) (hl : BPl W p B1 ob) (ho : wy.ownsRow B1 et sz (.slice (some ⟨g, 0, none⟩) n c') n l') (hg : wx.grownBy wy (Value.slice A k c).ownBlock) : BSt T bt et sz W p B1 ob s cs (some ⟨g, 0, none⟩) n c' l' wy := by
  obtain ⟨h2, h3, h4⟩ := hl
  have hne : ∀ q, q < B1 → some q ≠ (Value.slice A k c).ownBlock := fun q hq e => by have := (World.ownsRow.lt h.own q e.symm).1; omega
  exact ⟨h.gs.grow hg (fun q e => by have := (World.ownsRow.lt h.own q e).1; omega), h.blk.kept hg (hne _ h4), ho, Nat.le_trans h.size hg.size⟩
end
def arcL (i j m : Int) (tr : Value) : List Value := [.int .i64 i, .int .i64 j, .int .i64 0, .int .i64 m, tr, .slice none 0 0]
theorem arcL_one {i j m : Int} {tr : Value} (h : tr.oneCell' = true) : ∀ u ∈ arcL i j m tr, u.oneCell' = true := fun u hu => by
  simp only [arcL, List.mem_cons, List.not_mem_nil, or_false] at hu
  rcases hu with rfl | rfl | rfl | rfl | rfl | rfl
  all_goals first | rfl | exact h
theorem stArc' : StructOf 68 6 := ⟨⟨_, Tryd.underlying68⟩, by kernel_rfl⟩
/-- An arc that was drawn, handed back. -/
def ArcOut (T : TypeId) (p : Nat) (s : Int) (i j : Nat) (w : World) (e : Ending) (w' : World) : Prop := ∃ A c, e = .returned (.agg (ArcCells (arcF s i j) A c none 0).toArray) ∧ w'.ownsRow w.heap.size 80 2 (.slice A (arcF s i j).travel.length c) (arcF s i j).travel.length (pcs (arcF s i j).travel) ∧ Boxed w' p T (.int .i64 (arcN s)) ∧ w.grownBy w' (some p)
end Go.Proofs.YtamhjodppdodfaaDoor.gen

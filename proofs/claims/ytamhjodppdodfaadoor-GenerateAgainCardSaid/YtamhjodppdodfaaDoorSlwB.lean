/- A network in which the arcs between two places take more ticks. The program. -/
import Derived.Test.YtamhjodppdodfaaDoorSlwA
import Derived.Test.YtamhjodppdodfaaDoorGenR
import Derived.Deep.RegionHeld3
namespace Go.Proofs.YtamhjodppdodfaaDoor.evt
open Go.RowKit
open Go.Proofs.YtamhjodppdodfaaDoor.lib Go.Proofs.YtamhjodppdodfaaDoor.rd Go.Proofs.YtamhjodppdodfaaDoor.app Go.Proofs.YtamhjodppdodfaaDoor.els Go.Proofs.YtamhjodppdodfaaDoor.off Go.Proofs.YtamhjodppdodfaaDoor.typ Go.Proofs.YtamhjodppdodfaaDoor.big Go.Proofs.YtamhjodppdodfaaDoor.ins Go.Proofs.YtamhjodppdodfaaDoor.ord Go.Proofs.YtamhjodppdodfaaDoor.gen
set_option linter.unusedVariables false
set_option linter.unusedSimpArgs false

theorem late_fits {l : List Pt} {t n : Int} {s : List Pt} (h : lateF l t n = .ok s) (hl : ∀ p ∈ l, PtFits p ∧ -1000000 ≤ p.a ∧ p.a ≤ 1000000) (ht : 0 ≤ t ∧ t ≤ 4096) (hn : 0 ≤ n ∧ n ≤ 4096) : (∀ p ∈ s, PtFits p) ∧ s.length ≤ l.length + 1 := by
  rcases List.eq_nil_or_concat l with rfl | ⟨l', p, rfl⟩
  · have e : s = [⟨t, n⟩] := by
      have h' : (Except.ok [⟨t, n⟩] : Except Int (List Pt)) = .ok s := h
      injection h' with h'
      exact h'.symm
    subst e
    refine ⟨fun p hp => ?_, Nat.le_refl _⟩
    rw [List.mem_singleton] at hp
    subst hp
    unfold PtFits
    simp only
    omega
  · rw [List.concat_eq_append] at h hl ⊢
    rw [late_snoc] at h
    have hp := hl p (by simp)
    split at h
    · cases h
    · split at h
      · split at h
        · cases h
        · injection h with h
          subst h
          refine ⟨fun q hq => ?_, by simp⟩
          rcases List.mem_append.1 hq with hq | hq
          · exact (hl q (by simp [hq])).1
          · rw [List.mem_singleton] at hq
            subst hq
            have hf := hp.1
            unfold PtFits at hf ⊢
            simp only
            omega
      · split at h
        · cases h
        · injection h with h
          subst h
          refine ⟨fun q hq => ?_, by simp⟩
          rcases List.mem_append.1 hq with hq | hq
          · exact (hl q hq).1
          · rw [List.mem_singleton] at hq
            subst hq
            unfold PtFits
            simp only
            omega
/-- What Slower answers. -/
def SlwOut (w : World) (A0 : Option Addr) (d0 : Nat) (r : Except Int Net) (e : Ending) (w' : World) : Prop := match r with
  | .error k => e = .returned (.tuple #[.agg #[.slice none 0 0, .slice none 0 0], .int .i64 k]) ∧ Below w.heap.size w w'
  | .ok N => ∃ A c, e = .returned (.tuple #[.agg #[.slice A0 N.places.length d0, .slice A N.arcs.length c], .int .i64 0]) ∧ RowAt rArc w' w'.heap.size A N.arcs ∧ Below w.heap.size w w'
/-- Where Slower's loop stands. -/
structure SlwSt (w : World) (A0 : Option Addr) (m d0 ob n : Nat) (B : Option Addr) (d : Nat) (CS : List Value) (xs : List Arc) (wx : World) : Prop where
  own : wx.ownsRow (w.heap.size + 2) 68 6 (.slice B n d) n CS
  els : EG oArc wx (fun b => some b ≠ (Value.slice B n d).ownBlock ∧ b ≠ w.heap.size + 1) CS xs
  obx : Blk wx ob 25 (netC A0 m d0 B n d)
  rbx : Blk wx (w.heap.size + 1) 25 (netC none 0 0 none 0 0)
  bel : Below w.heap.size w wx
  low : w.heap.size + 2 ≤ ob
  ne : some ob ≠ (Value.slice B n d).ownBlock
section
variable {w wx wy : World} {A0 B : Option Addr} {m d0 ob n d : Nat} {CS : List Value} {xs : List Arc}
theorem SlwSt.size (h : SlwSt w A0 m d0 ob n B d CS xs wx) : w.heap.size + 2 < wx.heap.size := Nat.lt_of_le_of_lt h.low h.obx.lt
theorem SlwSt.below (h : SlwSt w A0 m d0 ob n B d CS xs wx) (hb : Below wx.heap.size wx wy) : SlwSt w A0 m d0 ob n B d CS xs wy :=
  ⟨own_below h.own hb, h.els.below hb, h.obx.below hb, h.rbx.below hb, h.bel.trans (hb.mono (by have := h.size; omega)), h.low, h.ne⟩
/-- An arc's delays are replaced. -/
theorem SlwSt.mod {g k c' : Nat} {x : Arc} {s : List Pt} {C : Option Addr} (h : SlwSt w A0 m d0 ob n (some ⟨g, 0, none⟩) d CS xs wx) (hk : xs[k]? = some x) (hs : RowOff oPt wx (fun b => some b ≠ (Value.slice (some ⟨g, 0, none⟩) n d).ownBlock ∧ b ≠ w.heap.size + 1) C s) :
    SlwSt w A0 m d0 ob n (some ⟨g, 0, none⟩) d (CS.set (k * 6 + 5) (.slice C s.length c')) (xs.set k { x with slow := s }) (wx.setCell ⟨g, k * 6 + 5, none⟩ (.slice C s.length c')) := by
  have hkl := (List.getElem?_eq_some_iff.1 hk).1
  have hgr := grownBy_set wx g (k * 6 + 5) (.slice C s.length c')
  have hgb : w.heap.size + 2 ≤ g := (World.ownsRow.lt h.own g rfl).1
  have hkp : ∀ b, b < wx.heap.size → (some b ≠ (Value.slice (some ⟨g, 0, none⟩) n d).ownBlock ∧ b ≠ w.heap.size + 1) → (some b ≠ (Value.slice (some ⟨g, 0, none⟩) n d).ownBlock ∧ b ≠ w.heap.size + 1) ∧ (wx.setCell ⟨g, k * 6 + 5, none⟩ (.slice C s.length c')).heap[b]? = wx.heap[b]? := fun b hb hp => ⟨hp, hgr.block b hb hp.1⟩
  refine ⟨(h.own.stored _ _).1, ?_, (hgr.block _ h.obx.lt h.ne).trans h.obx, (hgr.block _ h.rbx.lt (fun e => by injection e; omega)).trans h.rbx, h.bel.setCell (p := ⟨g, k * 6 + 5, none⟩) (by show w.heap.size ≤ g; omega) _, h.low, h.ne⟩
  refine EG.mod (r := oArc) (h.els.keep hgr.size hkp) hkl (show 5 < 6 by decide) ?_
  obtain ⟨C0, c0, C1, c1, hc, h0, h1, hf⟩ := oArc_at (h.els.2 k x hk)
  rw [hc]
  exact oArc_mk (t := { x with slow := s }) (h0.keep hgr.size hkp) (hs.keep hgr.size hkp) hf
/-- An element's cells. -/
theorem SlwSt.elem {g k : Nat} {x : Arc} (h : SlwSt w A0 m d0 ob n (some ⟨g, 0, none⟩) d CS xs wx) (hk : xs[k]? = some x) (hn : xs.length = n) :
    ∃ C0 c0 C1 c1, CellsAt wx ⟨g, k * 6, none⟩ (ArcCells x C0 c0 C1 c1) ∧ RowAt rPt wx wx.heap.size C1 x.slow := by
  have hkl := (List.getElem?_eq_some_iff.1 hk).1
  obtain ⟨c, h3, h4, h5⟩ := h.els.at_ hk
  obtain ⟨C0, c0, C1, c1, rfl, h0, h1, hf⟩ := oArc_at h3
  refine ⟨C0, c0, C1, c1, fun j u hu => ?_, h1.row⟩
  have hj : j < 6 := (List.getElem?_eq_some_iff.1 hu).1
  rw [Addr.add_mid, h.own.cellAt (k * 6 + j) (by omega)]
  exact h5 j u hu
end
end Go.Proofs.YtamhjodppdodfaaDoor.evt

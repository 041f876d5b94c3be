/- Orders that are drawn: the reference. -/
import Derived.Test.YtamhjodppdodfaaDoorGenF
import Derived.Test.YtamhjodppdodfaaDoorFltF
namespace Go.Proofs.YtamhjodppdodfaaDoor.gen
open Go.RowKit
open Go.Proofs.YtamhjodppdodfaaDoor.lib Go.Proofs.YtamhjodppdodfaaDoor.rd Go.Proofs.YtamhjodppdodfaaDoor.app Go.Proofs.YtamhjodppdodfaaDoor.els Go.Proofs.YtamhjodppdodfaaDoor.typ Go.Proofs.YtamhjodppdodfaaDoor.txt Go.Proofs.YtamhjodppdodfaaDoor.big Go.Proofs.YtamhjodppdodfaaDoor.off Go.Proofs.YtamhjodppdodfaaDoor.ins Go.Proofs.YtamhjodppdodfaaDoor.ord
set_option linter.unusedVariables false
set_option linter.unusedSimpArgs false

section
variable {T : TypeId} {W0 W5 wx wy : World} {rb p B1 ob : Nat} {s s' : Int} {cs : List Value} {A : Option Addr} {k c : Nat} {l : List Value}
theorem OSt.below (h : OSt T W0 W5 rb p B1 ob s cs A k c l wx) (hb : Below wx.heap.size wx wy) : OSt T W0 W5 rb p B1 ob s cs A k c l wy :=
  ⟨h.gs.below hb, h.blk.below hb, own_below h.own hb, h.fr.trans (Fr.below hb), Nat.le_trans h.size hb.size⟩
theorem OSt.app {g n c' : Nat} {l' : List Value} (h : OSt T W0 W5 rb p B1 ob s cs A k c l wx) (hl : OPl W0 W5 p B1 ob) (ho : wy.ownsRow B1 3 1 (.slice (some ⟨g, 0, none⟩) n c') n l') (hg : wx.grownBy wy (Value.slice A k c).ownBlock) : OSt T W0 W5 rb p B1 ob s cs (some ⟨g, 0, none⟩) n c' l' wy := by
  obtain ⟨h1, h2, h3, h4⟩ := hl
  have hne : ∀ q, q < B1 → some q ≠ (Value.slice A k c).ownBlock := fun q hq e => by have := (World.ownsRow.lt h.own q e.symm).1; omega
  exact ⟨h.gs.grow hg (fun q e => by have := (World.ownsRow.lt h.own q e).1; omega), h.blk.kept hg (hne _ h4), ho, h.fr.trans (Fr.grown hg (fun q hq => hne q (by have := hq.1; omega))), Nat.le_trans h.size hg.size⟩
end
end Go.Proofs.YtamhjodppdodfaaDoor.gen

/- A struct stored into the middle of a block of the call's own. -/
import Derived.Test.YtofabhenmplkoaaGreatDoorGenX
set_option linter.unusedVariables false
set_option linter.unusedSimpArgs false
namespace Go.Proofs.YtofabhenmplkoaaGreatDoor.evt
open Go.RowKit
open lib rd app els typ big gen
open off (setM yF yJ)
theorem blk_setCells {b : Nat} {t : TypeId} : ∀ (vs : List Value) (o : Nat) (w : World) (cs : List Value), Blk w b t cs → Blk (w.setCells b o vs) b t (setM cs o vs) ∧ Below b w (w.setCells b o vs)
 | [], o, w, cs, h => ⟨h, Below.refl _ _⟩
 | v :: r, o, w, cs, h => by
  obtain ⟨h3, h4⟩ := blk_setCells r (o + 1) _ _ (h.set o v)
  exact ⟨h3, (Below.setCell (p := ⟨b, o, none⟩) (Below.refl _ _) (Nat.le_refl _) v).trans h4⟩
theorem setCells_other {b : Nat} : ∀ (vs : List Value) (o : Nat) (w : World) (k : Nat), k ≠ b → (w.setCells b o vs).heap[k]? = w.heap[k]?
 | [], o, w, k, h => rfl
 | v :: r, o, w, k, h => (setCells_other r (o + 1) _ k h).trans (Below.heap_setCell w ⟨b, o, none⟩ v k h)
theorem blk_there {w : World} {b o k : Nat} {t : TypeId} {cs : List Value} (h : Blk w b t cs) (hk : o + k ≤ cs.length) : w.there b o k := fun j hj => by
 refine ⟨?_, h.frozen _⟩
 rw [h.cell (j := o + j) (List.getElem?_eq_getElem (by omega))]
 rfl
theorem stp_one (s : Stp) : ∀ u ∈ zF s, u.oneCell' = true := fun u hu => by
 simp only [zF, List.mem_cons, List.not_mem_nil, or_false] at hu
 rcases hu with rfl | rfl | rfl | rfl <;> rfl
end Go.Proofs.YtofabhenmplkoaaGreatDoor.evt

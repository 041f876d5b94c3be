/- Travel functions that are drawn, on both sides; an arc of the reference. -/
import Derived.Test.YtofabhenmplkoaaGreatDoorGenB
import Derived.Test.YtofabhenmplkoaaGreatDoorOff
import Derived.Test.YtofabhenmplkoaaGreatDoorBase
import Derived.Deep.RegionHeld3
namespace Go.Proofs.YtofabhenmplkoaaGreatDoor.gen
open Go.RowKit
open Go.Proofs.YtofabhenmplkoaaGreatDoor.lib Go.Proofs.YtofabhenmplkoaaGreatDoor.rd Go.Proofs.YtofabhenmplkoaaGreatDoor.app Go.Proofs.YtofabhenmplkoaaGreatDoor.typ Go.Proofs.YtofabhenmplkoaaGreatDoor.txt Go.Proofs.YtofabhenmplkoaaGreatDoor.big Go.Proofs.YtofabhenmplkoaaGreatDoor.off
set_option linter.unusedVariables false
set_option linter.unusedSimpArgs false

theorem pt_elem : ElemOf 57 140 (.agg #[.int .i64 0, .int .i64 0]) 2 16 := ⟨Tryz.underlying57, by kernel_rfl, rfl, by decide, by decide⟩
def pcs (l : List Pt) : List Value := l.flatMap PtCells
theorem pcs_append (l l' : List Pt) : pcs (l ++ l') = pcs l ++ pcs l' := by unfold pcs; rw [List.flatMap_append]
theorem pcs_at {l : List Pt} {i : Nat} {q : Pt} (h : l[i]? = some q) (j : Nat) (hj : j < 2) : (pcs l)[i * 2 + j]? = (PtCells q)[j]? := flat_at (g := PtCells) (s := 2) (fun _ => rfl) l i q h j hj
/-- A slice literal is a row of the call's own. -/
theorem own_new (w : World) {base size n : Nat} {e : TypeId} {cs : List Value} (hl : cs.length = n * size) (hb : base ≤ w.heap.size) (hn : n ≤ 1000) : (w.alloc (.cells cs.toArray e)).ownsRow base e size (.slice (some ⟨w.heap.size, 0, none⟩) n n) n cs :=
  ⟨hl, .inr ⟨w.heap.size, n, cs.toArray, rfl, hb, World.alloc_heap_new w _, Nat.le_refl _, by unfold maxLen; omega, by simpa using hl, by simp [← hl]⟩⟩
theorem own_draw {w w' : World} {base p : Nat} {e : TypeId} {size n : Nat} {v : Value} {xs : List Value} (h : w.ownsRow base e size v n xs) (hp : p < base) (hg : w.grownBy w' (some p)) : w'.ownsRow base e size v n xs := by
  refine own_grown h hg (Or.inr (fun e => ?_))
  have := (World.ownsRow.lt h p e).1
  omega
theorem own_drew {w : World} {base : Nat} {e : TypeId} {size n : Nat} {v : Value} {xs : List Value} (h : w.ownsRow base e size v n xs) : w.drew.ownsRow base e size v n xs := h
/-- A travel function that was drawn, handed back. -/
def TrvOut (T : TypeId) (p : Nat) (l : List Pt) (s' : Int) (w : World) (e : Ending) (w' : World) : Prop := ∃ A c, e = .returned (.slice A l.length c) ∧ w'.ownsRow w.heap.size 140 2 (.slice A l.length c) l.length (pcs l) ∧ Boxed w' p T (.int .i64 s') ∧ w.grownBy w' (some p)
theorem pts_len (p : Pt) (s : Int) : ∀ k, (ptsTo p s k).1.length = k + 1
  | 0 => rfl
  | k + 1 => by rw [ptsTo, List.length_append, pts_len p s k]; rfl
theorem pts_last (p : Pt) (s : Int) : ∀ k, (ptsTo p s k).1[k]? = some (ptsTo p s k).2.1
  | 0 => rfl
  | k + 1 => by
    rw [ptsTo]
    simp only
    rw [List.getElem?_append_right (by rw [pts_len]; exact Nat.le_refl _), pts_len, Nat.sub_self]
    rfl
theorem pts_bd (p : Pt) (s : Int) (hp : 0 ≤ p.t ∧ p.t ≤ 50 ∧ 0 ≤ p.a ∧ p.a ≤ 110) : ∀ k : Nat, 0 ≤ (ptsTo p s k).2.1.t ∧ (ptsTo p s k).2.1.t ≤ 50 + 100 * k ∧ 0 ≤ (ptsTo p s k).2.1.a ∧ (ptsTo p s k).2.1.a ≤ 110 + 120 * k
  | 0 => by show 0 ≤ p.t ∧ _; simp [ptsTo]; omega
  | k + 1 => by
    have ih := pts_bd p s hp k
    have f1 := frm_bd (s := (ptsTo p s k).2.2) (a := 10) (b := 100) (by omega)
    have f2 := frm_bd (s := nx 1 (ptsTo p s k).2.2) (a := 0) (b := 120) (by omega)
    rw [ptsTo]
    simp only [ptNext]
    push_cast
    split <;> omega
end Go.Proofs.YtofabhenmplkoaaGreatDoor.gen

/- Violations appended, many at once, in one step. Portable. -/
import Derived.Test.YtamhjodppdodfaaGreatDoorPshF
import Derived.Test.YtamhjodppdodfaaGreatDoorBase
namespace Go.Proofs.YtamhjodppdodfaaGreatDoor.flts
open Go.RowKit
open Go.Proofs.YtamhjodppdodfaaGreatDoor.lib Go.Proofs.YtamhjodppdodfaaGreatDoor.rd Go.Proofs.YtamhjodppdodfaaGreatDoor.typ Go.Proofs.YtamhjodppdodfaaGreatDoor.app Go.Proofs.YtamhjodppdodfaaGreatDoor.mrk
set_option linter.unusedVariables false

theorem fcs_ones (fs : List Flt) : ∀ u ∈ fcs fs, u.oneCell' = true := fun u hu => by
  unfold fcs at hu
  rw [List.mem_flatMap] at hu
  obtain ⟨f, _, hf⟩ := hu
  simp at hf
  rcases hf with rfl | rfl <;> rfl
theorem fcs_app (a b : List Flt) : fcs (a ++ b) = fcs a ++ fcs b := by simp [fcs]
theorem wpList_appF {ops : Array Oper} {rest : List Oper} {o : Oper} {a : Act} {Q : Exit → Act → World → Prop} {W : World} (hgd : o.guard = none) (s x : Operand)
    (ho : o.op = .call { callee := .builtin .append, args := #[s, x], argTypes := #[35, 35] })
    (base : Nat) (A : Option Addr) (fs : List Flt) (c : Nat) (hs : a.eval s = .slice A fs.length c) (hown : Fown W base A c fs) (A2 : Option Addr) (gs : List Flt) (c2 : Nat) (hx : a.eval x = .slice A2 gs.length c2) (hr : Reads W W.heap.size 2 A2 gs.length (fcs gs))
    (G : List Flt) (hG : G = fs ++ gs) (hn : G.length ≤ 1000000000) (hbase : base ≤ W.heap.size)
    (h : ∀ A' c' w', Fown w' base A' c' G → Below base W w' → wpList Tryz.prog ops Q rest (a.put o.dst (.slice A' G.length c')) w') :
    wpList Tryz.prog ops Q (o :: rest) a W := by
  subst hG
  have e : (fs ++ gs).length = fs.length + gs.length := by simp
  refine wpList_appN fault_elem s x ho base (.slice A fs.length c) fs.length (fcs fs) hs hown W.heap.size A2 gs.length c2 (fcs gs) hx hr (fcs_ones gs) (by omega) hbase hgd ?_
  intro A' c' w' h1 h2
  have hh := h A' c' w' (by unfold Fown; rw [e, fcs_app]; exact h1) ((Below.refl base W).grown h2 hbase (fun q e => (World.ownsRow.lt hown _ e).1))
  rw [e] at hh
  exact hh
end Go.Proofs.YtamhjodppdodfaaGreatDoor.flts

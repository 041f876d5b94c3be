/- One violation appended, in one step. Portable. -/
import Derived.Test.YtamhjodppdodfaaGreatDoorBase
import Derived.Laws.Strings
namespace Go.Proofs.YtamhjodppdodfaaGreatDoor.flts
open Go.RowKit
open Go.Proofs.YtamhjodppdodfaaGreatDoor.lib Go.Proofs.YtamhjodppdodfaaGreatDoor.rd Go.Proofs.YtamhjodppdodfaaGreatDoor.typ Go.Proofs.YtamhjodppdodfaaGreatDoor.app Go.Proofs.YtamhjodppdodfaaGreatDoor.mrk
set_option linter.unusedVariables false

theorem wpList_pushF {ops : Array Oper} {rest : List Oper} {o : Oper} {a : Act} {Q : Exit → Act → World → Prop} {W : World} (hgd : o.guard = none) (s x : Operand)
    (ho : o.op = .call { callee := .builtin .append, args := #[s, x], argTypes := #[35, 35] })
    (base : Nat) (A : Option Addr) (fs : List Flt) (c : Nat) (hs : a.eval s = .slice A fs.length c) (hown : Fown W base A c fs) (f : Flt) (G : List Flt) (hG : G = fs ++ [f])
    (hx : a.eval x = .slice (some ⟨W.heap.size, 0, none⟩) 1 1) (hn : fs.length ≤ 1000000000) (hbase : base ≤ W.heap.size)
    (h : ∀ g c' w', Fown w' base (some ⟨g, 0, none⟩) c' G → Below base W w' → W.heap.size < w'.heap.size → (∀ q, q < W.heap.size → (Value.slice A fs.length c).ownBlock ≠ some q → w'.heap[q]? = W.heap[q]?) → ((Value.slice A fs.length c).ownBlock = some g ∨ W.heap.size ≤ g) → wpList Tryz.prog ops Q rest (a.put o.dst (.slice (some ⟨g, 0, none⟩) G.length c')) w') :
    wpList Tryz.prog ops Q (o :: rest) a (W.alloc (.cells #[.int .i64 f.err, .string f.at_] 78)) := by
  subst hG
  refine wpList_app fault_elem s x ho base A fs.length c (fcs fs) hs (World.ownsRow.alloc hown _) ⟨W.heap.size, 0, none⟩ 1 [.int .i64 f.err, .string f.at_] hx rfl (two_new W (.int .i64 f.err) (.string f.at_) 78) (by simp [Value.oneCell']) hn (by simp; omega) hgd ?_
  intro g c' w' h1 h2 h3
  have e : (fs ++ [f]).length = fs.length + 1 := by simp
  have hz := h2.size
  simp at hz
  have hr := h g c' w' (by unfold Fown; rw [e, fcs_snoc]; exact h1) (((Below.refl base W).alloc hbase _).grown h2 (by simp; omega) (fun q e => (World.ownsRow.lt hown _ e).1)) (by omega) (fun q hq hne => (h2.block q (by simp; omega) (fun e => hne e.symm)).trans (Below.heap_alloc W _ q hq)) (h3.imp id fun h => (by simp at h; omega))
  rw [e] at hr
  exact hr
theorem Fown.below {w w' : World} {base c : Nat} {A : Option Addr} {fs : List Flt} (h : Fown w base A c fs) (hb : Below w.heap.size w w') : Fown w' base A c fs := own_below h hb
theorem Fown.nil (w : World) (base : Nat) : Fown w base none 0 [] := World.ownsRow_nil _ _ _ _
theorem str_eq (x s : ByteArray) : (x.toList == s.toList) = decide (x = s) := by
  rw [Bool.eq_iff_iff, beq_iff_eq, decide_eq_true_eq, ByteArray.toList_eq, ByteArray.toList_eq]
  constructor
  · intro h
    cases x
    cases s
    simpa using h
  · rintro rfl
    rfl
theorem take_snoc'' {α : Type} {l : List α} {k : Nat} {x : α} (h : l[k]? = some x) : l.take (k + 1) = l.take k ++ [x] := by
  obtain ⟨h1, h2⟩ := List.getElem?_eq_some_iff.1 h
  rw [List.take_succ_eq_append_getElem h1, h2]
theorem hasB_step {X : Type} [DecidableEq X] {l : List X} {k : Nat} {x y : X} (h : l[k]? = some x) : hasB (l.take (k + 1)) y = (hasB (l.take k) y || decide (x = y)) := by
  unfold hasB
  rw [take_snoc'' h, Bool.eq_iff_iff]
  simp only [List.mem_append, List.mem_singleton, Bool.or_eq_true, decide_eq_true_eq]
  constructor
  · rintro (h | h)
    · exact .inl h
    · exact .inr h.symm
  · rintro (h | h)
    · exact .inl h
    · exact .inr h.symm
theorem hasB_zero {X : Type} [DecidableEq X] (l : List X) (y : X) : hasB (l.take 0) y = false := by unfold hasB; simp
end Go.Proofs.YtamhjodppdodfaaGreatDoor.flts

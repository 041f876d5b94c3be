/- The violations of types: Check of the program. -/
import Derived.Test.YtceceomaheobhaaFltD
import Derived.Test.YtceceomaheobhaaFltX
import Derived.Test.YtceceomaheobhaaBase
import Derived.Deep.DeepCutAuto
namespace Go.Proofs.Ytceceomaheobhaa.flt
open Go.RowKit
open Go.Proofs.Ytceceomaheobhaa.lib Go.Proofs.Ytceceomaheobhaa.rd Go.Proofs.Ytceceomaheobhaa.typ Go.Proofs.Ytceceomaheobhaa.txt Go.Proofs.Ytceceomaheobhaa.app
set_option linter.unusedVariables false

theorem fault_elem : ElemOf 77 113 (.agg #[.int .i64 0, .string ⟨#[]⟩]) 2 24 := ⟨Try.underlying77, by kernel_rfl, rfl, by decide, by decide⟩
/-- The cells of violations. -/
def fcs (fs : List Flt) : List Value := fs.flatMap fun f => [.int .i64 f.err, .string f.at_]
theorem fcs_snoc (fs : List Flt) (f : Flt) : fcs (fs ++ [f]) = fcs fs ++ [.int .i64 f.err, .string f.at_] := by simp [fcs]
def Fown (w : World) (base : Nat) (A : Option Addr) (c : Nat) (fs : List Flt) : Prop := w.ownsRow base 113 2 (.slice A fs.length c) fs.length (fcs fs)

def fltsAt (P : Int) (l : List Ty) (i : Nat) : List Flt := match l[i]? with
  | some t => (errsL P l i t (dimsN l)).map fun e => ⟨e, decS i⟩
  | none => []
/-- The violations of the types below j. -/
def fltsTo (P : Int) (l : List Ty) : Nat → List Flt
  | 0 => if inB l.length 1 6 then [] else [⟨4, ⟨#[]⟩⟩]
  | j + 1 => fltsTo P l j ++ fltsAt P l j
theorem errsL_len (P : Int) (l : List Ty) (i : Nat) (t : Ty) (d : Nat) : (errsL P l i t d).length ≤ 9 := by
  unfold errsL
  repeat (refine Nat.le_trans (pushIf_len _ _ _) (Nat.add_le_add_right ?_ 1))
  exact Nat.le_refl _
theorem fltsTo_len (P : Int) (l : List Ty) : ∀ j, (fltsTo P l j).length ≤ 1 + 9 * j
  | 0 => by unfold fltsTo; split <;> simp
  | j + 1 => by
    have ih := fltsTo_len P l j
    have h : (fltsAt P l j).length ≤ 9 := by
      unfold fltsAt
      split
      · rw [List.length_map]; exact errsL_len _ _ _ _ _
      · exact Nat.zero_le _
    rw [fltsTo, List.length_append]
    omega

theorem row_place {w : World} {base c : Nat} {e : TypeId} {A : Option Addr} {l : List Int} (h : w.ownsRow base e 1 (.slice A l.length c) l.length (l.map (.int .i64))) :
    ∃ g, base ≤ g ∧ (0 < l.length → A = some ⟨g, 0, none⟩ ∧ g < w.heap.size) ∧ ∀ q, q < l.length → w.cell? ⟨g, q, none⟩ = some (.int .i64 (l[q]?.getD 0)) := by
  rcases h.2 with ⟨h1, h2⟩ | ⟨g, cap, cur, h1, h2, h3, h4⟩
  · exact ⟨base, Nat.le_refl _, fun hh => absurd hh (by omega), fun q hq => absurd hq (by omega)⟩
  · injection h1 with h1 _ _
    subst h1
    refine ⟨g, h2, fun _ => ⟨rfl, (Array.getElem?_eq_some_iff.1 h3).1⟩, fun q hq => ?_⟩
    rw [h.cellAt q (by omega), List.getElem?_map, List.getElem?_eq_getElem hq]
    rfl
theorem two_new (w : World) (a b : Value) (t : TypeId) (j : Nat) (u : Value) (h : [a, b][j]? = some u) : (w.alloc (.cells #[a, b] t)).cell? ((⟨w.heap.size, 0, none⟩ : Addr).add j) = some u :=
  World.news_of_block (w := w.alloc (.cells #[a, b] t)) (B := w.heap.size) (heap_alloc_new w _) j u (by simpa using h)

/-- What is appended: the violations of one type's errors. -/
def mkF (i : Nat) (E : List Int) : List Flt := E.map fun e => ⟨e, decS i⟩
theorem mkF_take {i : Nat} {E : List Int} {q : Nat} {x : Int} (h : E[q]? = some x) : mkF i (E.take (q + 1)) = mkF i (E.take q) ++ [⟨x, decS i⟩] := by
  obtain ⟨h1, h2⟩ := List.getElem?_eq_some_iff.1 h
  unfold mkF
  rw [List.take_succ_eq_append_getElem h1, h2, List.map_append]
  rfl
def FltsOut (w : World) (fs : List Flt) (e : Ending) (w' : World) : Prop := ∃ A c, e = .returned (.slice A fs.length c) ∧ Fown w' w.heap.size A c fs ∧ Below w.heap.size w w'

end Go.Proofs.Ytceceomaheobhaa.flt

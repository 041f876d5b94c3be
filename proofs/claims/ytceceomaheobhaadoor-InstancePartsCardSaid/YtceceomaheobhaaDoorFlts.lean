/- Violations that a call appends: their row, portable. -/
import Derived.Test.YtceceomaheobhaaDoorTyp
import Derived.Test.YtceceomaheobhaaDoorOwnR
import Derived.Test.YtceceomaheobhaaDoorApp
import Derived.Test.YtceceomaheobhaaDoorDecB
namespace Go.Proofs.YtceceomaheobhaaDoor.flts
open Go.RowKit
open Go.Proofs.YtceceomaheobhaaDoor.lib Go.Proofs.YtceceomaheobhaaDoor.rd Go.Proofs.YtceceomaheobhaaDoor.typ Go.Proofs.YtceceomaheobhaaDoor.txt Go.Proofs.YtceceomaheobhaaDoor.app
set_option linter.unusedVariables false

theorem fault_elem : ElemOf 35 54 (.agg #[.int .i64 0, .string ⟨#[]⟩]) 2 24 := ⟨Tryd.underlying35, by kernel_rfl, rfl, by decide, by decide⟩
/-- The cells of violations. -/
def fcs (fs : List Flt) : List Value := fs.flatMap fun f => [.int .i64 f.err, .string f.at_]
theorem fcs_snoc (fs : List Flt) (f : Flt) : fcs (fs ++ [f]) = fcs fs ++ [.int .i64 f.err, .string f.at_] := by simp [fcs]
def Fown (w : World) (base : Nat) (A : Option Addr) (c : Nat) (fs : List Flt) : Prop := w.ownsRow base 54 2 (.slice A fs.length c) fs.length (fcs fs)

theorem row_place {w : World} {base c : Nat} {e : TypeId} {A : Option Addr} {l : List Int} (h : w.ownsRow base e 1 (.slice A l.length c) l.length (l.map (.int .i64))) :
    ∃ g, base ≤ g ∧ (0 < l.length → A = some ⟨g, 0, none⟩ ∧ g < w.heap.size) ∧ ∀ q, q < l.length → w.cell? ⟨g, q, none⟩ = some (.int .i64 (l[q]?.getD 0)) := by
  rcases h.2 with ⟨h1, h2⟩ | ⟨g, cap, cur, h1, h2, h3, h4⟩
  · exact ⟨base, Nat.le_refl _, fun hh => absurd hh (by omega), fun q hq => absurd hq (by omega)⟩
  · injection h1 with h1 _ _
    subst h1
    refine ⟨g, h2, fun _ => ⟨rfl, (Array.getElem?_eq_some_iff.1 h3).1⟩, fun q hq => ?_⟩
    rw [h.cellAt q (by omega), List.getElem?_map, List.getElem?_eq_getElem hq]
    rfl
/-- What is appended: the violations of one type's errors. -/
def mkF (i : Nat) (E : List Int) : List Flt := E.map fun e => ⟨e, decS i⟩
theorem mkF_take {i : Nat} {E : List Int} {q : Nat} {x : Int} (h : E[q]? = some x) : mkF i (E.take (q + 1)) = mkF i (E.take q) ++ [⟨x, decS i⟩] := by
  obtain ⟨h1, h2⟩ := List.getElem?_eq_some_iff.1 h
  unfold mkF
  rw [List.take_succ_eq_append_getElem h1, h2, List.map_append]
  rfl
def FltsOut (w : World) (fs : List Flt) (e : Ending) (w' : World) : Prop := ∃ A c, e = .returned (.slice A fs.length c) ∧ Fown w' w.heap.size A c fs ∧ Below w.heap.size w w'

theorem decS_size (n : Nat) : (decS n).size ≤ 2 := by
  unfold decS
  split
  · exact Nat.le_succ 1
  · exact Nat.le_refl 2
theorem flts_row {w : World} {base c : Nat} {A : Option Addr} {fs : List Flt} (h : Fown w base A c fs) (hf : ∀ f ∈ fs, FltFits f) (hl : fs.length ≤ 17592186043904) : RowAt rFlt w w.heap.size A fs :=
  rowAt_own (cells := fun f => [.int .i64 f.err, .string f.at_]) (fun _ => rfl) h (fun f hf' => rFlt_mk (hf f hf')) hl (by decide)
theorem flt_one {w : World} {base c : Nat} {A : Option Addr} {f : Flt} (h : Fown w base A c [f]) : ∃ g, A = some ⟨g, 0, none⟩ ∧ g < w.heap.size ∧ w.cell? ⟨g, 0, none⟩ = some (.int .i64 f.err) ∧ w.cell? ⟨g, 1, none⟩ = some (.string f.at_) := by
  unfold Fown at h
  rcases h.2 with ⟨h1, h2⟩ | ⟨g, cap, cur, h1, h2, h3, h4⟩
  · simp at h2
  · simp only [Value.slice.injEq] at h1
    obtain ⟨rfl, _, _⟩ := h1
    have hc := h.cells (g := g) rfl
    exact ⟨g, rfl, (Array.getElem?_eq_some_iff.1 h3).1, hc 0 _ rfl, hc 1 _ rfl⟩
end Go.Proofs.YtceceomaheobhaaDoor.flts

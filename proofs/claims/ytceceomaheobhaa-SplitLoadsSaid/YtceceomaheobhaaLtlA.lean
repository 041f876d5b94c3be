/- The examples of layer 13: little. -/
import Derived.Test.YtceceomaheobhaaInsA
import Derived.Test.YtceceomaheobhaaOnlA
import Derived.RangeFuncBox
import Derived.Deep.DeepCutAuto
import Derived.Outline
namespace Go.Proofs.Ytceceomaheobhaa.ins
open Go.RowKit
open Go.Proofs.Ytceceomaheobhaa.lib Go.Proofs.Ytceceomaheobhaa.rd Go.Proofs.Ytceceomaheobhaa.typ
set_option linter.unusedVariables false
set_option linter.unusedSimpArgs false

/-- Elements in a block that is written out. -/
theorem row_blk {X : Type} {r : Rd X} {w : World} {B g : Nat} {cs : List Value} {x : X} {t : TypeId} {fr : Nat × Nat} (h : w.heap[g]? = some (.cells cs.toArray t fr)) (hg : g < B) (hr : r.at_ w B cs x) : RowAt r w B (some ⟨g, 0, none⟩) [x] := by
  refine ⟨by simp, fun i y hi => ?_⟩
  rcases i with _ | i
  · simp at hi
    subst hi
    refine ⟨_, cs, rfl, hg, hr, fun j u hu => ?_⟩
    rw [Nat.zero_mul, Nat.zero_add]
    exact World.news_of_block (w := w) (B := g) h j u (by simpa using hu)
  · simp at hi
theorem row_blk2 {X : Type} {r : Rd X} {w : World} {B g : Nat} {cs cs' : List Value} {x x' : X} {t : TypeId} {fr : Nat × Nat} (h : w.heap[g]? = some (.cells (cs ++ cs').toArray t fr)) (hg : g < B) (hr : r.at_ w B cs x) (hr' : r.at_ w B cs' x') : RowAt r w B (some ⟨g, 0, none⟩) [x, x'] := by
  have hl := r.len hr
  have hl' := r.len hr'
  have hnew := fun j u hu => World.news_of_block (w := w) (B := g) h j u hu
  refine ⟨by simp, fun i y hi => ?_⟩
  rcases i with _ | _ | i
  · simp at hi
    subst hi
    refine ⟨_, cs, rfl, hg, hr, fun j u hu => ?_⟩
    rw [Nat.zero_mul, Nat.zero_add]
    exact hnew j u (by rw [List.getElem?_append_left (List.getElem?_eq_some_iff.1 hu).1]; exact hu)
  · simp at hi
    subst hi
    refine ⟨_, cs', rfl, hg, hr', fun j u hu => ?_⟩
    rw [Nat.zero_add, Nat.one_mul]
    exact hnew (r.size + j) u (by rw [List.getElem?_append_right (by omega), hl, Nat.add_sub_cancel_left]; exact hu)
  · simp at hi
theorem ints_blk {w : World} {B g : Nat} {l : List Int} {t : TypeId} {fr : Nat × Nat} (h : w.heap[g]? = some (.cells (l.map (.int .i64)).toArray t fr)) (hg : g < B) (hl : l.length ≤ 17592186043904) : Ints w B (some ⟨g, 0, none⟩) l :=
  ⟨⟨by simp, fun _ => ⟨_, rfl, hg, fun j u hu => World.news_of_block (w := w) (B := g) h j u (by simpa using hu)⟩⟩, hl⟩

def oaO : Ord := ⟨⟨#[111, 97]⟩, [1], ⟨-1, 0, 0, 0⟩, ⟨0, 0, 50, 0⟩, 0, -1, 1, -1, -1, false⟩
def obO : Ord := ⟨⟨#[111, 98]⟩, [1], ⟨-1, 0, 0, 0⟩, ⟨0, 0, 50, 0⟩, 0, 0, 1, -1, -1, false⟩
def vanI : Ty := ⟨⟨#[118, 97, 110]⟩, 1, 0, 0, [5], 0, 0, 0, 100, 50, 0, 0, 0, 0⟩
def hubS : ByteArray := ⟨#[104, 117, 98]⟩
def littleI : Ins := ⟨⟨[hubS], []⟩, [vanI], [oaO, obO], [(0, 1)], []⟩
theorem oa_fits : OrdFits oaO := by unfold OrdFits StpFits oaO; decide
theorem ob_fits : OrdFits obO := by unfold OrdFits StpFits obO; decide
theorem van_fits : TyFits vanI := by unfold TyFits vanI; decide
def littleP (k : Nat) : InP := ⟨some ⟨k + 1 + 1 + 1 + 1 + 1 + 1, 0, none⟩, 1, none, 0, some ⟨k + 1 + 1 + 1 + 1 + 1 + 1 + 1, 0, none⟩, 1, some ⟨k + 1 + 1 + 1 + 1 + 1 + 1 + 1 + 1, 0, none⟩, 2, some ⟨k + 1 + 1 + 1 + 1 + 1 + 1 + 1 + 1 + 1, 0, none⟩, 1, none, 0⟩
def littleCells (k : Nat) : List Value := [.slice (some ⟨k + 1 + 1 + 1 + 1 + 1 + 1, 0, none⟩) 1 1, .slice none 0 0, .slice (some ⟨k + 1 + 1 + 1 + 1 + 1 + 1 + 1, 0, none⟩) 1 1, .slice (some ⟨k + 1 + 1 + 1 + 1 + 1 + 1 + 1 + 1, 0, none⟩) 2 2, .slice (some ⟨k + 1 + 1 + 1 + 1 + 1 + 1 + 1 + 1 + 1, 0, none⟩) 1 1, .slice none 0 0]
def LittleOut (w : World) (e : Ending) (w' : World) : Prop := ∃ P : InP, e = .returned (InV littleI P) ∧ InAt w' w'.heap.size littleI P ∧ Below w.heap.size w w'
end Go.Proofs.Ytceceomaheobhaa.ins

/- Violations with a word ahead of their places: under. -/
import Derived.Test.YtceceomaheobhaaBase
import Derived.OwnWalk
import Derived.Deep.QuietTactic
namespace Go.Proofs.Ytceceomaheobhaa.und
open Go.RowKit
open Go.Proofs.Ytceceomaheobhaa.lib Go.Proofs.Ytceceomaheobhaa.rd Go.Proofs.Ytceceomaheobhaa.typ Go.Proofs.Ytceceomaheobhaa.app Go.Proofs.Ytceceomaheobhaa.flts Go.Proofs.Ytceceomaheobhaa.note
set_option linter.unusedVariables false
set_option linter.unusedSimpArgs false

def undP (word : ByteArray) (f : Flt) : Flt := ⟨f.err, if f.at_.toList.isEmpty = true then word else word ++ (⟨#[32]⟩ ++ f.at_)⟩
def undL (word : ByteArray) (fs : List Flt) : List Flt := fs.map (undP word)
theorem undL_take {word : ByteArray} {fs : List Flt} {k : Nat} {f : Flt} (h : fs[k]? = some f) : undL word (fs.take (k + 1)) = undL word (fs.take k) ++ [undP word f] := by
  obtain ⟨h1, h2⟩ := List.getElem?_eq_some_iff.1 h
  unfold undL
  rw [List.take_succ_eq_append_getElem h1, h2, List.map_append]
  rfl
end Go.Proofs.Ytceceomaheobhaa.und

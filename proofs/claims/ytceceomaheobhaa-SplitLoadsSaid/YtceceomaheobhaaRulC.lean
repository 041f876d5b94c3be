/- rules.Check: the violations of the pairs of an instance. -/
import Derived.Test.YtceceomaheobhaaRulB
import Derived.Test.YtceceomaheobhaaBase
namespace Go.Proofs.Ytceceomaheobhaa.rul
open Go.RowKit
open Go.Proofs.Ytceceomaheobhaa.lib Go.Proofs.Ytceceomaheobhaa.rd Go.Proofs.Ytceceomaheobhaa.typ Go.Proofs.Ytceceomaheobhaa.app Go.Proofs.Ytceceomaheobhaa.flts Go.Proofs.Ytceceomaheobhaa.eqg Go.Proofs.Ytceceomaheobhaa.txt Go.Proofs.Ytceceomaheobhaa.note
set_option linter.unusedVariables false
set_option linter.unusedSimpArgs false

def apartS : ByteArray := ⟨#[97, 112, 97, 114, 116]⟩
def beforeS : ByteArray := ⟨#[98, 101, 102, 111, 114, 101]⟩
def rulesF (orders : Int) (a b : List (Int × Int)) : List Flt := pairsTo orders apartS looseB a a.length ++ pairsTo orders beforeS twoEq b b.length
theorem fcs_one (fs : List Flt) : ∀ u ∈ fcs fs, u.oneCell' = true := fun u hu => by
  unfold fcs at hu
  rw [List.mem_flatMap] at hu
  obtain ⟨f, _, hf⟩ := hu
  simp at hf
  rcases hf with rfl | rfl <;> rfl
theorem fcs_append (a b : List Flt) : fcs (a ++ b) = fcs a ++ fcs b := by simp [fcs]
end Go.Proofs.Ytceceomaheobhaa.rul

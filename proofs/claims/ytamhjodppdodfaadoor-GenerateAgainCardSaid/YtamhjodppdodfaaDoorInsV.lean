/- Two lemmas that many texts need. -/
import Derived.Test.YtamhjodppdodfaaDoorZ3
import Derived.Test.YtamhjodppdodfaaDoorBase
namespace Go.Proofs.YtamhjodppdodfaaDoor.ins
open Go.RowKit
open Go.Proofs.YtamhjodppdodfaaDoor.lib Go.Proofs.YtamhjodppdodfaaDoor.rd Go.Proofs.YtamhjodppdodfaaDoor.typ Go.Proofs.YtamhjodppdodfaaDoor.els Go.Proofs.YtamhjodppdodfaaDoor.sets Go.Proofs.YtamhjodppdodfaaDoor.ord Go.Proofs.YtamhjodppdodfaaDoor.app
set_option linter.unusedVariables false
set_option linter.unusedSimpArgs false

theorem insCs_one (x : Ins) (P : InP) : ∀ u ∈ insCs x P, u.oneCell' = true := fun u hu => by
  simp only [insCs, List.mem_cons, List.not_mem_nil, or_false] at hu
  rcases hu with rfl | rfl | rfl | rfl | rfl | rfl <;> rfl
theorem and_bit (s : Int) (k : Nat) : (bits .and .i64 (s / 2 ^ k) 1 == 1) = hasN s k := by
  rw [i64_and1]
  unfold hasN pow2
  rw [Bool.eq_iff_iff]
  simp
end Go.Proofs.YtamhjodppdodfaaDoor.ins

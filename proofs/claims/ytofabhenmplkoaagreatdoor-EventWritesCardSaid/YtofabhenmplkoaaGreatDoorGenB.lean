/- Stops that are drawn, on both sides. -/
import Derived.Test.YtofabhenmplkoaaGreatDoorGenA
import Derived.Deep.RegionHeld3
namespace Go.Proofs.YtofabhenmplkoaaGreatDoor.gen
open Go.RowKit
open Go.Proofs.YtofabhenmplkoaaGreatDoor.lib Go.Proofs.YtofabhenmplkoaaGreatDoor.rd Go.Proofs.YtofabhenmplkoaaGreatDoor.app Go.Proofs.YtofabhenmplkoaaGreatDoor.typ Go.Proofs.YtofabhenmplkoaaGreatDoor.txt Go.Proofs.YtofabhenmplkoaaGreatDoor.big
set_option linter.unusedVariables false
set_option linter.unusedSimpArgs false

theorem stStp : StructOf 33 4 := ⟨⟨_, Tryz.underlying33⟩, by kernel_rfl⟩
def stpV (s : Stp) : Value := .agg #[.int .i64 s.place, .int .i64 s.opn, .int .i64 s.close, .int .i64 s.service]
def stpC (a b c d : Int) : List Value := [.int .i64 a, .int .i64 b, .int .i64 c, .int .i64 d]
theorem stpC_one (a b c d : Int) : ∀ u ∈ stpC a b c d, u.oneCell' = true := fun u hu => by
  simp only [stpC, List.mem_cons, List.not_mem_nil, or_false] at hu
  rcases hu with rfl | rfl | rfl | rfl <;> rfl
end Go.Proofs.YtofabhenmplkoaaGreatDoor.gen

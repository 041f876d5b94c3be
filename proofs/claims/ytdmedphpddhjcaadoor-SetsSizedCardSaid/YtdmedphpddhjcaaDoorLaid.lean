/- What the rows' lists of variables give: the library's two tables, in their variables; and a world that has them, for the witness. -/
import Derived.Test.YtdmedphpddhjcaaDoorCards
import Derived.Test.YtdmedphpddhjcaaDoorTie
import Derived.Test.YtdmedphpddhjcaaDoorSubF
import Derived.WalkKit
import Derived.ProofKit
import Derived.OpenShut
import Derived.Deep.DeepHandedRow
import Derived.Lib.LaidTab
namespace Go.Proofs.YtdmedphpddhjcaaDoor.laid
open Go.ChangeShapes Go.WideShapes Go.ChangeAt Go.RowKit

theorem own : ownKnob Tryd.prog.godebug = none := by kernel_rfl
theorem g1 : Tryd.prog.globalNamed "math/bits.deBruijn64tab" = some 1 := by kernel_rfl
theorem g1Type : (Tryd.prog.globals[1]?).map (·.type) = some 51 := by kernel_rfl
theorem cells64 : Tryd.prog.cellsOf 51 = 64 := by kernel_rfl
theorem cells8 : Tryd.prog.cellsOf 5 = 1 := by kernel_rfl

def zs64 : List Int := Lib.deBruijn64tab.map (fun n : Nat => (n : Int))

theorem tail_met {P : Program} {W : World} {x : String × DataW Unit} {l : List (String × DataW Unit)} (h : laidMet P (x :: l) W) : laidMet P l W := by
  obtain ⟨ps, ⟨g', t', cs, fuel, p, q, _, _, _, _, hr, rfl⟩, hnd, hall⟩ := h
  exact ⟨q, hr, (List.nodup_append.1 hnd).2.1, fun b off hm => hall b off (List.mem_append_right _ hm)⟩

/-- The table, as the walks want it. -/
theorem table {W : World} (h : laidMetH Tryd.prog Rows.setsRoundTripRow.laid W) : TabAt 1 Lib.deBruijn64tab W := by
  have h0 : laidMet Tryd.prog [("math/bits.deBruijn32tab", Rows.laid_math_bits_deBruijn32tab), ("math/bits.deBruijn64tab", Lib.tabData .u8 zs64)] W := h
  have ht : Lib.TabIs Tryd.prog W "math/bits.deBruijn64tab" .u8 zs64 :=
    Lib.tabIs_of_head (rest := []) g1 g1Type Tryd.underlying51 Tryd.underlying5 cells8 cells64 (tail_met h0)
  intro j hj
  have := ht.cell g1 j (by simpa [zs64] using hj)
  rw [this]
  simp [zs64, List.getD, hj]

theorem big {W : World} (h : TabAt 1 Lib.deBruijn64tab W) : 1 < W.heap.size := by
  have := h 0 (by decide)
  rcases Nat.lt_or_ge 1 W.heap.size with h1 | h1
  · exact h1
  · simp [World.cell?, Array.getElem?_eq_none h1] at this

/-- A variable's block with other cells. -/
def lay (xs : Array Value) : Obj → Obj
  | .cells _ t frozen => .cells xs t frozen
  | o => o

/-- The settled world with the two tables laid. -/
noncomputable def laidWorld (os : Os) : World :=
  { World.holding Tryd.prog os ⟨#[], #[], []⟩ with heap := ((World.holding Tryd.prog os ⟨#[], #[], []⟩).heap.modify 0 (lay (Lib.deBruijn32tab.map (fun n : Nat => Value.int .u8 n)).toArray)).modify 1 (lay (Lib.deBruijn64tab.map (fun n : Nat => Value.int .u8 n)).toArray) }
end Go.Proofs.YtdmedphpddhjcaaDoor.laid

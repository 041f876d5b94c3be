/- An argument that is an array of two numbers. -/
import Derived.Test.YthkbfmbohoclaaaDoorRdArg
namespace Go.Proofs.YthkbfmbohoclaaaDoor.rd
open Go.RowKit Go.ChangeShapes Go.WideShapes Go.ChangeAt Go.Deep
open Go.Proofs.YthkbfmbohoclaaaDoor.lib
set_option linter.unusedVariables false

set_option maxRecDepth 20000 in
theorem arg_two {H : Type} {enc : TypeId × Value → H} {W : World} {base : Nat} {v : Value} {d : DataW H} {p : List MemPlace}
    (hv : Value.okWide Tryd.prog W .any base 42 v) (h : DataW.Trod enc Tryd.prog W 0 (fun _ => true) true 42 v d p) (hw : ∀ n ∈ d.weights Tryd.prog 42, n ≤ reachBytes) :
    ∃ a b : Int, v = .agg #[.int .i64 a, .int .i64 b] ∧ (-9223372036854775808 ≤ a ∧ a ≤ 9223372036854775807) ∧ (-9223372036854775808 ≤ b ∧ b ≤ 9223372036854775807) := by
  have ht := Tryd.underlying42
  simp only [Value.okWide, ht] at hv
  obtain ⟨cs, rfl, _⟩ := hv
  obtain ⟨fuel, hf⟩ := h
  obtain ⟨x, hx⟩ := opens_two ht (by kernel_rfl) (by kernel_rfl) (opens_int Tryd.underlying3) H enc W fuel _ _ hf hw
  obtain ⟨_, _, he, ⟨rfl, h1⟩, ⟨rfl, h2⟩⟩ := hx
  refine ⟨x.1, x.2, ?_, h1, h2⟩
  have e : cs.toList = [.int .i64 x.1, .int .i64 x.2] := by simpa [Value.cells] using he
  rw [← Array.toArray_toList (xs := cs), e]
end Go.Proofs.YthkbfmbohoclaaaDoor.rd

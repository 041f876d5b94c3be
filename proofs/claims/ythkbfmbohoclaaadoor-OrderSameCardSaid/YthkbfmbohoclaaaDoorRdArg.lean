/- A call's arguments, read: slices with their capacity, structs by value. -/
import Derived.Test.YthkbfmbohoclaaaDoorRd
namespace Go.Proofs.YthkbfmbohoclaaaDoor.rd
open Go.RowKit Go.ChangeShapes Go.WideShapes Go.ChangeAt Go.Deep
open Go.Proofs.YthkbfmbohoclaaaDoor.lib
set_option linter.unusedVariables false

set_option maxRecDepth 20000 in
theorem arg_slice {X : Type} {t e : TypeId} {r : Rd X} (ht : Tryd.prog.underlying t = some (.slice e)) (ho : Opens t (rSlice r)) {H : Type} {enc : TypeId × Value → H} {W : World} {base : Nat} {v : Value} {d : DataW H} {p : List MemPlace}
    (hv : Value.okWide Tryd.prog W .any base t v) (h : DataW.Trod enc Tryd.prog W 0 (fun _ => true) true t v d p) (hw : ∀ n ∈ d.weights Tryd.prog t, n ≤ reachBytes) :
    ∃ A c l, v = .slice A l.length c ∧ RowAt r W W.heap.size A l ∧ l.length ≤ c ∧ c ≤ maxLen := by
  obtain ⟨A, n, c, rfl⟩ := okWide_slice ht hv
  have hh := h
  obtain ⟨fuel, hf⟩ := hh
  obtain ⟨l, A', c', he, hr⟩ := ho H enc W fuel _ _ hf hw
  simp [Value.cells] at he
  obtain ⟨rfl, rfl, rfl⟩ := he
  refine ⟨A, c, l, rfl, hr, ?_⟩
  rcases open_slice ht hf with ⟨hcs, _⟩ | ⟨a, len, cap, m, k, D, Pl, hcs, _, hl, hm, _⟩
  · simp [Value.cells] at hcs
    obtain ⟨_, h2, h3⟩ := hcs
    rw [h2, h3]
    exact ⟨Nat.le_refl _, Nat.zero_le _⟩
  · simp [Value.cells] at hcs
    obtain ⟨_, h2, h3⟩ := hcs
    rw [h2, h3]
    exact ⟨hl, hm⟩
set_option maxRecDepth 20000 in
theorem arg_struct {X : Type} {t : TypeId} {fs : Array Field} {r : Rd X} (ht : Tryd.prog.underlying t = some (.struct fs)) (ho : Opens t r) {H : Type} {enc : TypeId × Value → H} {W : World} {base : Nat} {v : Value} {d : DataW H} {p : List MemPlace}
    (hv : Value.okWide Tryd.prog W .any base t v) (h : DataW.Trod enc Tryd.prog W 0 (fun _ => true) true t v d p) (hw : ∀ n ∈ d.weights Tryd.prog t, n ≤ reachBytes) :
    ∃ cs x, v = .agg (List.toArray cs) ∧ r.at_ W W.heap.size cs x := by
  obtain ⟨cs, rfl, _⟩ := okWide_struct ht hv
  obtain ⟨fuel, hf⟩ := h
  obtain ⟨x, hx⟩ := ho H enc W fuel _ _ hf hw
  exact ⟨cs.toList, x, by simp, by simpa [Value.cells] using hx⟩
end Go.Proofs.YthkbfmbohoclaaaDoor.rd

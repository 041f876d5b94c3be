/- A slice of numbers among a call's arguments. Portable. -/
import Derived.Test.YtceceomaheobhaaBase
namespace Go.Proofs.Ytceceomaheobhaa.rd
open Go.RowKit Go.ChangeShapes Go.WideShapes Go.ChangeAt Go.Deep
open Go.Proofs.Ytceceomaheobhaa.lib
set_option linter.unusedVariables false

set_option maxRecDepth 20000 in
theorem arg_ints {t e : TypeId} (ht : Try.prog.underlying t = some (.slice e)) (he : Try.prog.underlying e = some (.int .i64)) (hC : Try.prog.cellsOf e = 1) (h8 : 8 ≤ Try.prog.bytesOf e) {H : Type} {enc : TypeId × Value → H} {W : World} {base : Nat} {v : Value} {d : DataW H} {p : List MemPlace}
    (hv : Value.okWide Try.prog W .any base t v) (h : DataW.Trod enc Try.prog W 0 (fun _ => true) true t v d p) (hw : ∀ n ∈ d.weights Try.prog t, n ≤ reachBytes) :
    ∃ A c l, v = .slice A l.length c ∧ Ints W W.heap.size A l ∧ l.length ≤ c := by
  obtain ⟨A, n, c, rfl⟩ := okWide_slice ht hv
  obtain ⟨fuel, hf⟩ := h
  obtain ⟨l, A', c', hcs0, hI⟩ := opens_ints ht he hC h8 H enc W fuel _ _ hf hw
  simp [Value.cells] at hcs0
  obtain ⟨rfl, rfl, rfl⟩ := hcs0
  refine ⟨A, c, l, rfl, hI, ?_⟩
  rcases open_slice ht hf with ⟨hcs, _⟩ | ⟨a, len, cap, m, k, D, Pl, hcs, _, hl, hm, _⟩
  · simp [Value.cells] at hcs
    obtain ⟨_, h2, h3⟩ := hcs
    rw [h2, h3]
    exact Nat.le_refl _
  · simp [Value.cells] at hcs
    obtain ⟨_, h2, h3⟩ := hcs
    rw [h2, h3]
    exact hl
end Go.Proofs.Ytceceomaheobhaa.rd

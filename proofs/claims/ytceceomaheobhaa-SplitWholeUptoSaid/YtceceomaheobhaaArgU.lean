/- A slice of bytes among a call's arguments, its bulk small. -/
import Derived.Test.YtceceomaheobhaaBulkR
import Derived.Test.YtceceomaheobhaaSpvW
namespace Go.Proofs.Ytceceomaheobhaa.rd
open Go.RowKit Go.ChangeShapes Go.WideShapes Go.ChangeAt Go.Deep
open Go.Proofs.Ytceceomaheobhaa.lib
set_option linter.unusedVariables false

theorem opens_u8 {t : TypeId} (ht : Try.prog.underlying t = some (.int .u8)) : Opens t spl.rU8 := fun H enc W fuel cs y h hw => by
  obtain ⟨i, rfl, rfl, hi⟩ := DataW.trod_int ht h
  exact ⟨i, rfl, by simpa [Lit.wf, IntKind.min, IntKind.max, IntKind.signed, IntKind.bits] using hi⟩
set_option maxRecDepth 20000 in
theorem arg_bytesB {t e : TypeId} (ht : Try.prog.underlying t = some (.slice e)) (he : Try.prog.underlying e = some (.int .u8)) (hC : Try.prog.cellsOf e = 1) {H : Type} {enc : TypeId × Value → H} {W : World} {base : Nat} {v : Value} {d : DataW H} {p : List MemPlace}
    (hv : Value.okWide Try.prog W .any base t v) (h : DataW.Trod enc Try.prog W 0 (fun _ => true) true t v d p) (hw : ∀ n ∈ d.weights Try.prog t, n ≤ reachBytes) (hb : Rows.uptoBulk d ≤ 1048576) :
    ∃ A c l, v = .slice A l.length c ∧ RowAt spl.rU8 W W.heap.size A l := by
  obtain ⟨A, n0, c0, rfl⟩ := okWide_slice ht hv
  obtain ⟨fuel, hf⟩ := h
  have hr : Opens e spl.rU8 := opens_u8 he
  rcases open_slice ht hf with ⟨hcs, hd⟩ | ⟨a, len, cap, m, n, D, Pl, hcs, hba, hl, hm, hmm, hd, hi⟩
  · simp [Value.cells] at hcs
    obtain ⟨rfl, rfl, rfl⟩ := hcs
    exact ⟨none, 0, [], rfl, RowAt.nil⟩
  · simp [Value.cells] at hcs
    obtain ⟨rfl, rfl, rfl⟩ := hcs
    simp only [if_true] at hmm
    subst hmm
    injection hd with hd1 hd2
    subst hd1
    have hlen : n0 ≤ 17592186043904 := by
      have h4 := bulk_len ((List.range n0).map D)
      rw [List.length_map, List.length_range] at h4
      have h5 : Rows.uptoBulk (DataW.slice ((List.range n0).map D) ((List.range (m - n0)).map fun j => D (n0 + j))) = Rows.uptoBulkAll ((List.range n0).map D) + Rows.uptoBulkAll ((List.range (m - n0)).map fun j => D (n0 + j)) + 1 := by simp [Rows.uptoBulk]
      rw [h5] at hb
      omega
    obtain ⟨l, hll, hlp⟩ := choose_list (n := n0) (p := fun i x => ∃ cs', W.cells? 0 (a.add (i * Try.prog.cellsOf e)) (Try.prog.cellsOf e) = some cs' ∧ spl.rU8.at_ W W.heap.size cs' x) fun i hil => by
      obtain ⟨cs', h1, h2⟩ := hi i (by omega)
      obtain ⟨x, hx⟩ := hr H enc W n cs' _ h2 (fun k hk => hw k (by
        simp only [DataW.weights, ht]
        exact List.mem_cons_of_mem _ (List.mem_append_left _ (weights_all (List.mem_map.2 ⟨i, List.mem_range.2 hil, rfl⟩) k hk))))
      exact ⟨x, cs', h1, hx⟩
    subst hll
    refine ⟨some a, _, l, rfl, hlen, fun i x hix => ?_⟩
    obtain ⟨cs', h1, h2⟩ := hlp i x hix
    obtain ⟨_, h4, h5⟩ := World.cells?_some h1
    rw [hC] at h4 h5
    have hcell : ∀ (j : Nat) (u : Value), cs'[j]? = some u → W.cell? (a.add (i * spl.rU8.size + j)) = some u := fun j u hu => by
      have hj : j < 1 := by rw [← h4]; exact (List.getElem?_eq_some_iff.1 hu).1
      have h6 := h5 j hj
      rw [add_of_add] at h6
      exact h6.trans hu
    refine ⟨a, cs', rfl, ?_, h2, hcell⟩
    have hu : cs'[0]? = some (cs'[0]'(by omega)) := List.getElem?_eq_getElem (by omega)
    have h6 := Go.block_lt_of_cell (hcell 0 _ hu)
    rwa [block_of_add] at h6
end Go.Proofs.Ytceceomaheobhaa.rd

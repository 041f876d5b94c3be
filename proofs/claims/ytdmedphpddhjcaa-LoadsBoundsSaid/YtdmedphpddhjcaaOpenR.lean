/- A slice of slices of integers, opened. -/
import Derived.Test.YtdmedphpddhjcaaOpen
namespace Go.Proofs.Ytdmedphpddhjcaa.opens
open Go.RowKit Go.ChangeShapes Go.WideShapes Go.ChangeAt Go.Deep
open Go.Proofs.Ytdmedphpddhjcaa.lib
set_option linter.unusedVariables false

theorem weights_all {H : Type} {e : TypeId} : ∀ {l : List (DataW H)} {d : DataW H}, d ∈ l → ∀ n ∈ d.weights Try.prog e, n ∈ DataW.weightsAll Try.prog e l
  | x :: r, d, hd, n, hn => by
    rw [DataW.weightsAll, List.mem_append]
    rcases List.mem_cons.1 hd with rfl | h
    · exact .inl hn
    · exact .inr (weights_all h n hn)

theorem rows_of_trod {H : Type} {enc : TypeId × Value → H} {W : World} {base : Nat} {v : Value} {d : DataW H} {p : List MemPlace} (hv : Value.okWide Try.prog W .any base 32 v)
    (h : DataW.Trod enc Try.prog W 0 (fun _ => true) true 32 v d p) (hw : ∀ n ∈ d.weights Try.prog 32, n ≤ reachBytes) :
    ∃ A c ls, v = .slice A ls.length c ∧ Rows2 W W.heap.size A ls := by
  obtain ⟨A, n, c, rfl⟩ := okWide_slice Try.underlying32 hv
  obtain ⟨fuel, hf⟩ := h
  rcases open_int_rows Try.underlying32 Try.underlying22 Try.underlying3 cellsInts cellsInt hf with ⟨hcs, hx⟩ | ⟨a, len, cap, AA, LL, CC, ZZ, hcs, _, hl, hm, hx, hr⟩
  · simp [Value.cells] at hcs
    obtain ⟨rfl, rfl, rfl⟩ := hcs
    exact ⟨none, 0, [], rfl, Rows2.nil⟩
  · simp [Value.cells] at hcs
    obtain ⟨rfl, rfl, rfl⟩ := hcs
    simp only [Prod.mk.injEq] at hx
    obtain ⟨rfl, -⟩ := hx
    have hin : ∀ r, r < n → LL r ≤ 17592186043904 := by
      intro r hrn
      obtain ⟨h1, h2, h3, h4, h5, h6, h7⟩ := hr r (by omega)
      rcases hA : AA r with _ | a'
      · have := h6 hA
        omega
      · have hmem : intRow (H := H) .i64 (AA r) (LL r) (ZZ r) ∈ (List.range n).map fun r => intRow .i64 (AA r) (LL r) (ZZ r) := List.mem_map.2 ⟨r, List.mem_range.2 hrn, rfl⟩
        have hwr : (((lits (H := H) .i64 ((ZZ r).take (LL r))).length + (lits (H := H) .i64 ((ZZ r).drop (LL r))).length)) * Try.prog.bytesOf 3 ∈ (intRow (H := H) .i64 (AA r) (LL r) (ZZ r)).weights Try.prog 22 := by
          rw [hA]
          simp [intRow, DataW.weights, Try.underlying22]
        have hb := hw _ (by
          simp only [DataW.weights, Try.underlying32]
          exact List.mem_cons_of_mem _ (List.mem_append_left _ (weights_all hmem _ hwr)))
        rw [bytesInt] at hb
        simp only [lits, List.length_map, List.length_take, List.length_drop, reachBytes] at hb
        omega
    have hout : n ≤ 17592186043904 := by
      have hb := hw ((((List.range n).map fun r => intRow (H := H) .i64 (AA r) (LL r) (ZZ r)).length + ((List.range (c - n)).map fun j => intRow (H := H) .i64 (AA (n + j)) (LL (n + j)) (ZZ (n + j))).length) * Try.prog.bytesOf 22) (by simp [DataW.weights, Try.underlying32])
      rw [bytesInts] at hb
      simp only [List.length_map, List.length_range, reachBytes] at hb
      omega
    have hlen : ((List.range n).map fun r => (ZZ r).take (LL r)).length = n := by simp
    refine ⟨some a, c, (List.range n).map fun r => (ZZ r).take (LL r), by rw [hlen], by rw [hlen]; exact hout, (List.range n).map fun r => .slice (AA r) (LL r) (CC r), ?_, ?_⟩
    · rw [hlen]
      refine ⟨by simp, fun hn => ⟨a, rfl, ?_, fun j u hu => ?_⟩⟩
      · have h0 := (hr 0 (by omega)).1
        have h2 := Go.block_lt_of_cell h0
        rwa [block_of_add] at h2
      · rw [List.getElem?_map] at hu
        rcases Nat.lt_or_ge j n with hj | hj
        · rw [List.getElem?_range hj] at hu
          injection hu with hu
          subst hu
          exact (hr j (by omega)).1
        · rw [List.getElem?_eq_none (by simpa using hj)] at hu
          cases hu
    · intro i l hi
      rw [List.getElem?_map] at hi
      rcases Nat.lt_or_ge i n with hj | hj
      · rw [List.getElem?_range hj] at hi
        injection hi with hi
        subst hi
        obtain ⟨h1, h2, h3, h4, h5, h6, h7⟩ := hr i (by omega)
        have hlt : ((ZZ i).take (LL i)).length = LL i := by rw [List.length_take]; omega
        refine ⟨AA i, CC i, by rw [List.getElem?_map, List.getElem?_range hj, hlt]; rfl, ⟨?_, by rw [hlt]; exact hin i hj⟩⟩
        rw [hlt]
        refine ⟨by rw [List.length_map, hlt, Nat.mul_one], fun hn => ?_⟩
        rcases hA : AA i with _ | a'
        · have := h6 hA
          omega
        · obtain ⟨_, hcell⟩ := h7 a' hA
          refine ⟨a', rfl, ?_, fun j u hu => ?_⟩
          · have h0 := hcell 0 (by omega)
            have h2 := Go.block_lt_of_cell h0
            rwa [block_of_add] at h2
          · rw [List.getElem?_map] at hu
            change Option.map (Value.int .i64) ((List.take (LL i) (ZZ i))[j]?) = some u at hu
            rcases Nat.lt_or_ge j (LL i) with hjl | hjl
            · have hzl : j < (ZZ i).length := by omega
              rw [List.getElem?_take, if_pos hjl, List.getElem?_eq_getElem hzl] at hu
              injection hu with hu
              subst hu
              rw [hcell j (by omega), List.getD_eq_getElem?_getD, List.getElem?_eq_getElem (by omega)]
              rfl
            · rw [List.getElem?_eq_none (by omega)] at hu
              cases hu
      · rw [List.getElem?_eq_none (by simpa using hj)] at hi
        cases hi
end Go.Proofs.Ytdmedphpddhjcaa.opens

/- The subsets: each is within the set; they ascend. -/
import Derived.Test.YtdmedphpddhjcaaDoorSubM
namespace Go.Proofs.YtdmedphpddhjcaaDoor.sets
set_option linter.unusedVariables false

theorem subL_at {s : Nat} {k : Nat} {x : Int} (hs : s < 9223372036854775808) (h : (subL s)[k]? = some x) : ∃ t : Nat, x = t ∧ t < 9223372036854775808 ∧ inN t s = true := by
  simp only [subL, List.getElem?_map, Option.map_eq_some_iff] at h
  obtain ⟨t, ht, rfl⟩ := h
  have hm := List.mem_of_getElem? ht
  have hle := subW_le 64 s t hm (by omega)
  have ha := sub_and 64 s t hm (by omega)
  refine ⟨t, rfl, by omega, ?_⟩
  unfold inN
  rw [decide_eq_true_eq]
  rw [← ha, Nat.and_assoc, Nat.and_self]

theorem subL_up {s : Nat} {k : Nat} {x y : Int} (hs : s < 9223372036854775808) (h : (subL s)[k]? = some x) (h' : (subL s)[k + 1]? = some y) : x < y := by
  simp only [subL, List.getElem?_map, Option.map_eq_some_iff] at h h'
  obtain ⟨t, ht, rfl⟩ := h
  obtain ⟨t', ht', rfl⟩ := h'
  have := (subW_next 64 s (by omega) k t t' ht ht').2
  omega
end Go.Proofs.YtdmedphpddhjcaaDoor.sets

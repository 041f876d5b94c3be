/- The reference's doubling, plain. -/
import Derived.Test.YtdmedphpddhjcaaDoorSubI
namespace Go.Proofs.YtdmedphpddhjcaaDoor.sets
open Go.RowKit Go.Shelf
open Go.Proofs.YtdmedphpddhjcaaDoor.lib
set_option linter.unusedVariables false

/-- One more member doubles those that there are. -/
def dbl (acc : List Int) (m : Int) : List Int := acc ++ acc.map (fun x => x + pow2 m.toNat)
def dblL (l : List Int) : List Int := l.foldl dbl [0]

theorem dbl_memTo (s : Nat) : ∀ w, dblL (memTo (s : Int) w) = (subW w s).map (fun t : Nat => (t : Int))
  | 0 => by rfl
  | w + 1 => by
    have ih := dbl_memTo s w
    have hh : hasN (s : Int) w = decide (s / 2 ^ w % 2 = 1) := by rw [hasN_nat, Nat.testBit_eq_decide_div_mod_eq]
    rw [subW_high]
    by_cases hb : s / 2 ^ w % 2 = 1
    · rw [if_pos hb, memTo_yes (by rw [hh]; exact decide_eq_true hb), dblL, List.foldl_append]
      show dbl (dblL (memTo (s : Int) w)) (w : Int) = _
      rw [ih, dbl, List.map_append, List.map_map, List.map_map]
      congr 1
    · rw [if_neg hb, memTo_no (by rw [hh]; simp [hb]), ih]

theorem subW_63 (s : Nat) (hs : s < 9223372036854775808) : subW 64 s = subW 63 s := by
  rw [subW_high, if_neg (by rw [Nat.div_eq_of_lt (by omega)]; decide)]

theorem dbl_subL (s : Nat) (hs : s < 9223372036854775808) : dblL (memL (s : Int)) = subL s := by
  rw [memL, dbl_memTo, subL, subW_63 s hs]

theorem foldl_prefix : ∀ (l : List Int) (acc : List Int), acc <+: l.foldl dbl acc
  | [], acc => List.prefix_refl _
  | m :: l, acc => (List.prefix_append acc _).trans (foldl_prefix l (dbl acc m))

theorem dbl_prefix (l : List Int) (i : Nat) : dblL (l.take i) <+: dblL l := by
  conv => rhs; rw [← List.take_append_drop i l, dblL, List.foldl_append]
  exact foldl_prefix _ _

theorem dbl_take {l : List Int} {i : Nat} {m : Int} (h : l[i]? = some m) : dblL (l.take (i + 1)) = dblL (l.take i) ++ (dblL (l.take i)).map (fun x => x + pow2 m.toNat) := by
  obtain ⟨h1, h2⟩ := List.getElem?_eq_some_iff.1 h
  rw [List.take_succ_eq_append_getElem h1, dblL, List.foldl_append, h2]
  rfl

theorem subL_le (s : Nat) (hs : s < 9223372036854775808) (x : Int) (h : x ∈ subL s) : 0 ≤ x ∧ x ≤ s := by
  simp only [subL, List.mem_map] at h
  obtain ⟨t, ht, rfl⟩ := h
  have := subW_le 64 s t ht (by omega)
  omega

theorem subL_length (s : Nat) (hs : s < 9223372036854775808) : (subL s).length = 2 ^ cntN s := by
  rw [subL_len, subW_len 64 s (by omega)]

theorem big_iff (s : Nat) (hs : s < 9223372036854775808) : 8192 < (subL s).length ↔ 13 < cntN s := by
  rw [subL_length s hs, show 8192 = 2 ^ 13 from rfl]
  exact Nat.pow_lt_pow_iff_right (by omega)
end Go.Proofs.YtdmedphpddhjcaaDoor.sets

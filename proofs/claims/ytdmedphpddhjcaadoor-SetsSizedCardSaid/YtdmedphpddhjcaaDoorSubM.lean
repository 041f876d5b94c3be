/- The law SetsSubsets, walked: first where there are too many. -/
import Derived.Test.YtdmedphpddhjcaaDoorSubL
namespace Go.Proofs.YtdmedphpddhjcaaDoor.sets
open Go.RowKit Go.Shelf
open Go.Proofs.YtdmedphpddhjcaaDoor.lib
set_option linter.unusedVariables false

set_option maxHeartbeats 2000000 in
theorem lawSubsets_many (a : Int) (hmany : 13 < cntN (plainN a)) (w : World) (hT : TabAt 1 Lib.deBruijn64tab w) (h1 : 1 < w.heap.size) :
    Calls Tryd.prog 4 #[.int .i64 a] w fun e w' => e = .returned (.bool true) ∧ Below w.heap.size w w' := by
  obtain ⟨x, hx⟩ : ∃ x, plainN a = x := ⟨_, rfl⟩
  have hxl : x < 9223372036854775808 := by rw [← hx]; exact plainN_lt a
  rw [hx] at hmany
  have hbig := (big_iff x hxl).2 hmany
  go_enter Tryd.func4, Tryd.ntmps4
  go_wp2_with fail
  refine (plain_any a _).mono ?_
  rintro e w0 ⟨rfl, rfl⟩
  rw [hx]
  clear hx
  go_wp2_with fail
  refine (subsets_calls x hxl _).mono ?_
  rintro e w1 ⟨hb1, ⟨v, rfl, hl, _⟩ | ⟨rfl, _⟩⟩
  · exact absurd hl (by omega)
  have s1 := hb1.size
  go_wp2_with fail
  refine (rsubsets_many x hxl hmany _).mono ?_
  rintro e w0 ⟨rfl, rfl⟩
  go_wp2_with fail
  refine (same_any none 0 [] 0 rfl none 0 [] 0 rfl _ _ _ (Nat.le_refl _) (Nat.le_refl _) Ints.nil Ints.nil).mono ?_
  rintro e w2 ⟨rfl, hb2⟩
  rw [show sameB [] [] = true by decide]
  have s2 := hb2.size
  have B2 : Below w.heap.size w w2 := hb1.trans (hb2.mono s1)
  go_wp2_with fail
  go_loopw [7] (fun i wr => i = .int .i64 0 ∧ wr = w2) (fun _ _ => 0)
  case atStart => exact ⟨rfl, rfl⟩
  case round =>
    obtain ⟨rfl, rfl⟩ := hrel
    have hn13 : ¬ ((cntN x : Int) ≤ 13) := by omega
    go_wp2_with fail
    refine (rsize_any x hxl _).mono ?_
    rintro e w0 ⟨rfl, rfl⟩
    go_wp2_with fail
    refine (awake_any _ (tab_below hT B2 h1) (by omega)).mono ?_
    rintro e w3 ⟨rfl, hb3⟩
    go_wp2
    go_ret
    exact ⟨ret_bool (by simp; omega), B2.trans (hb3.mono (by omega))⟩
end Go.Proofs.YtdmedphpddhjcaaDoor.sets

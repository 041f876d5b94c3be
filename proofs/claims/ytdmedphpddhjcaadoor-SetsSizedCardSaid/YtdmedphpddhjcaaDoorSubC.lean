/- Subsets; Least (by the library's count of trailing zeros). -/
import Derived.Test.YtdmedphpddhjcaaDoorSubB
import Derived.Test.YtdmedphpddhjcaaDoorSetP
import Derived.Shelf.Spec.TrailingZeros
namespace Go.Proofs.YtdmedphpddhjcaaDoor.sets
open Go.RowKit Go.Shelf
open Go.Proofs.YtdmedphpddhjcaaDoor.lib
set_option linter.unusedVariables false

set_option maxHeartbeats 1000000 in
/-- sets.Subsets, of a set that is no less than 0. -/
theorem subsets_calls (s : Nat) (hs : s < 9223372036854775808) (w : World) :
    Calls Tryd.prog 12 #[.int .i64 s] w fun e W' => Below w.heap.size w W' ∧
      ((∃ v, e = .returned (.tuple #[v, .int .i64 0]) ∧ (subL s).length ≤ 8192 ∧ W'.ownsRow (w.heap.size + 5) 3 1 v (subL s).length ((subL s).map (Value.int .i64))) ∨
       (e = .returned (.tuple #[.slice none 0 0, .int .i64 4]) ∧ 8192 < (subL s).length)) := by
  have hn : ¬ ((s : Int) < 0) := by omega
  have h3 := callsIn_wide.1 (such_in Fence.wide 3 trivial trivial trivial trivial rfl (Nat.le_refl _) s hs w)
  go_enter Tryd.func12, Tryd.ntmps12
  go_wp2_with (go_at_call 27; refine h3.mono ?_; rintro e w1 ⟨hB, ⟨v, rfl, hl, hr⟩ | ⟨rfl, hl⟩⟩)
  · refine bodyPost_ret (v := .tuple #[v, .int .i64 0]) (by simp [results, Tryd.results12, go_sem]) rfl ⟨hB, .inl ⟨v, rfl, hl, hr⟩⟩
  · refine bodyPost_ret (v := .tuple #[.slice none 0 0, .int .i64 4]) (by simp [results, Tryd.results12, go_sem]) rfl ⟨hB, .inr ⟨rfl, hl⟩⟩

set_option maxHeartbeats 1000000 in
theorem tz64_core (x k idx : Nat) (w : World) (hx0 : ((x : Int) == 0) = false)
    (key : IntKind.u64.wrap (bits BinOp.and IntKind.u64 (x : Int) (IntKind.u64.wrap (-(x : Int))) * 285870213051353865) / 288230376151711744 = (idx : Int))
    (hi : idx < 64) (hk : k < 64) (hcell : w.cell? ⟨1, idx, none⟩ = some (.int .u8 k)) :
    Calls Tryd.prog 35 #[.int .u64 x] w fun e w' => e = .returned (.int .i64 k) ∧ w' = w := by
  go_enter Tryd.func35, Tryd.ntmps35
  go_wp2_with (simp only [key])
  go_ret
  exact ⟨rfl, rfl⟩

/-- sets.Least. -/
theorem least_calls (s : Nat) (hs : s < 9223372036854775808) (w : World) (hT : TabAt 1 Lib.deBruijn64tab w) :
    Calls Tryd.prog 21 #[.int .i64 s] w fun e w' => e = .returned (.int .i64 (if s = 0 then -1 else (Lib.ctz 64 s : Int))) ∧ w' = w := by
  by_cases h0 : s = 0
  · subst h0
    go_enter Tryd.func21, Tryd.ntmps21
    go_wp2
    go_ret
    exact ⟨rfl, rfl⟩
  · obtain ⟨hlow, hk⟩ := Lib.lowest_bit 64 s h0 (by omega)
    obtain ⟨hi, htab⟩ := Lib.deBruijn64_at _ hk
    have hcell := hT _ hi
    rw [htab] at hcell
    have h64 := tz64_core s _ _ w (by simp; omega) (tz64_key s _ (by omega) h0 hlow) hi hk hcell
    have htz : Calls Tryd.prog 29 #[.int .u64 s] w fun e w' => e = .returned (.int .i64 (Lib.ctz 64 s)) ∧ w' = w := by
      go_enter Tryd.func29, Tryd.ntmps29
      go_wp2_with (go_at_call 35; refine h64.mono ?_; rintro e w1 ⟨rfl, rfl⟩)
      go_ret
      exact ⟨rfl, rfl⟩
    rw [if_neg h0]
    have hn : ¬ ((s : Int) ≤ 0) := by omega
    go_enter Tryd.func21, Tryd.ntmps21
    go_wp2_with (go_at_call 29; refine htz.mono ?_; rintro e w1 ⟨rfl, rfl⟩)
    go_ret
    exact ⟨rfl, rfl⟩
end Go.Proofs.YtdmedphpddhjcaaDoor.sets

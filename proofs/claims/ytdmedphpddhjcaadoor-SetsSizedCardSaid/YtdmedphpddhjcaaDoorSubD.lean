/- Size, Of: of the program and of the reference. -/
import Derived.Test.YtdmedphpddhjcaaDoorSubQ
import Derived.Test.YtdmedphpddhjcaaDoorSetA
namespace Go.Proofs.YtdmedphpddhjcaaDoor.sets
open Go.RowKit
open Go.Proofs.YtdmedphpddhjcaaDoor.lib
set_option linter.unusedVariables false

theorem size_any (s : Nat) (hs : s < 9223372036854775808) (w : World) : Calls Tryd.prog 19 #[.int .i64 s] w fun e w' => e = .returned (.int .i64 (cntN s)) ∧ Below w.heap.size w w' := by
  have hl := Lib.hid (memL_len s hs)
  have hm := memTo_len (s : Int) 63
  go_enter Tryd.func19, Tryd.ntmps19
  go_wp2_with (go_at_call 10; refine (members_any _ _).mono ?_; rintro e w1 ⟨A, c, rfl, hown, hb⟩)
  go_loop [3, 7] (fun n i => ∃ k : Nat, k ≤ (memL (s : Int)).length ∧ i = .int .i64 k ∧ n = .int .i64 k) (fun _ i => (memL (s : Int)).length - (intOf i).toNat)
  case atStart => exact ⟨0, by omega, rfl, rfl⟩
  case round =>
    obtain ⟨k, hk, rfl, rfl⟩ := hrel
    have hm' : (memL (s : Int)).length ≤ 63 := hm
    by_cases hlt : k < (memL (s : Int)).length
    · go_wp2
      go_round
      case rel => exact ⟨k + 1, by omega, by go_num, by go_num⟩
      case measure => simp [intOf]; omega
    · go_wp2
      go_ret
      refine ⟨ret_int ?_, hb⟩
      have := hl.out
      omega

theorem rsize_any (s : Nat) (hs : s < 9223372036854775808) (w : World) : Calls Tryd.prog 16 #[.int .i64 s] w fun e w' => e = .returned (.int .i64 (cntN s)) ∧ w = w' := by
  go_enter Tryd.func16, Tryd.ntmps16
  go_wp2
  have hlen : cntN s ≤ 63 := by have h1 := memL_len s hs; have h2 := memTo_len (s : Int) 63; unfold memL at h1; omega
  go_loop [3, 0] (fun n t => ∃ k q : Nat, q < 9223372036854775808 ∧ n = .int .i64 k ∧ t = .int .i64 q ∧ k + cntN q = cntN s) (fun _ t => (intOf t).toNat)
  case atStart => exact ⟨0, s, hs, rfl, rfl, by omega⟩
  case round =>
    obtain ⟨k, q, hq, rfl, rfl, hsum⟩ := hrel
    by_cases h0 : q = 0
    · subst h0
      go_wp2
      go_ret
      rw [cntN_zero] at hsum
      exact ⟨ret_int (by omega), rfl⟩
    · have hst := cntN_step q
      have hgt : 0 < (q : Int) := by omega
      have hk : k + q % 2 ≤ 63 := by omega
      have HS := Lib.hid hsum
      have HST := Lib.hid hst
      clear hsum hst
      go_wp2
      go_round
      case rel => exact ⟨k + q % 2, q / 2, by omega, by go_num, by go_num, by have h1 := HS.out; have h2 := HST.out; omega⟩
      case measure => simp [intOf]; omega
end Go.Proofs.YtdmedphpddhjcaaDoor.sets

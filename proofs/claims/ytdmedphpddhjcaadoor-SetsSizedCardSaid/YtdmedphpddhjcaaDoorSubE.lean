/- Of: of the program and of the reference. -/
import Derived.Test.YtdmedphpddhjcaaDoorSubD
namespace Go.Proofs.YtdmedphpddhjcaaDoor.sets
open Go.RowKit
open Go.Proofs.YtdmedphpddhjcaaDoor.lib
set_option linter.unusedVariables false

theorem ofR_at {s : Int} {l : List Int} {k : Nat} {x : Int} (h : l[k]? = some x) : ofR s (l.drop k) = if x < 0 ∨ 62 < x then (0, 2) else if hasB s x = true then (0, 6) else ofR (s + pow2 x.toNat) (l.drop (k + 1)) := by
  rw [drop_at h, ofR]

theorem wrap64_id {n : Nat} (h : n < 9223372036854775808) : wrap64 (n : Int) = n := by unfold wrap64; omega

theorem ofR_end {s : Int} {l : List Int} {k : Nat} (h : l.length ≤ k) : ofR s (l.drop k) = (s, 0) := by
  rw [List.drop_of_length_le h, ofR]

set_option maxRecDepth 20000 in
set_option maxHeartbeats 1000000 in
theorem of_any (A : Option Addr) (c : Nat) (l : List Int) (w : World) (hL : Ints w w.heap.size A l) : Calls Tryd.prog 9 #[.slice A l.length c] w fun e w' => e = .returned (.tuple #[.int .i64 (ofR 0 l).1, .int .i64 (ofR 0 l).2]) ∧ w = w' := by
  have hlen := hL.len
  obtain ⟨R, hR⟩ : ∃ R, ofR 0 l = R := ⟨_, rfl⟩
  rw [hR]
  go_enter Tryd.func9, Tryd.ntmps9
  go_wp2
  go_loop [4, 6, 9] (fun t _ i => ∃ k s : Nat, k ≤ l.length ∧ s < 9223372036854775808 ∧ i = .int .i64 k ∧ t = .int .i64 s ∧ ofR s (l.drop k) = R) (fun t _ i => l.length - (intOf i).toNat)
  case atStart => exact ⟨0, 0, by omega, by omega, rfl, rfl, by simpa using hR⟩
  case round =>
    obtain ⟨k, s, hk, hs, rfl, rfl, hr⟩ := hrel
    clear hR
    by_cases hlt : k < l.length
    · obtain ⟨ad, x, rfl, hadb, hx, hcell⟩ := hL.at_ hlt
      rw [ofR_at hx] at hr
      clear hx
      by_cases h1 : x < 0
      · rw [if_pos (.inl h1)] at hr
        subst hr
        go_wp2
        all_goals refine bodyPost_ret (v := .tuple #[.int .i64 0, .int .i64 2]) (by simp [results, Tryd.results9, go_sem]) rfl ⟨rfl, rfl⟩
      by_cases h2 : 62 < x
      · rw [if_pos (.inr h2)] at hr
        subst hr
        go_wp2
        all_goals refine bodyPost_ret (v := .tuple #[.int .i64 0, .int .i64 2]) (by simp [results, Tryd.results9, go_sem]) rfl ⟨rfl, rfl⟩
      obtain ⟨j, rfl⟩ := Int.eq_ofNat_of_zero_le (show 0 ≤ x by omega)
      rw [if_neg (by omega)] at hr
      cases hb : hasB (s : Int) (j : Int)
      · rw [if_neg (by rw [hb]; decide)] at hr
        have hbit : s.testBit j = false := by
          rw [hasB_nat (by omega), hasN_nat] at hb; exact hb
        have ho := or_pow s j hs (by omega) hbit
        have hl := add_pow_lt s j hs (by omega) hbit
        have hp0 := pow2_pos j
        have hp1 := pow2_le (j := j) (by omega)
        obtain ⟨s', hs'⟩ : ∃ s' : Nat, (s : Int) + pow2 j = s' := ⟨((s : Int) + pow2 j).toNat, by omega⟩
        have hss : s' < 9223372036854775808 := by omega
        rw [hs'] at hl ho
        rw [show (j : Int).toNat = j from rfl, hs'] at hr
        have hpw : wrap64 (2 ^ j) = pow2 j := by
          have e : ((2 : Int) ^ j) = pow2 j := by unfold pow2; simp
          rw [e]; unfold wrap64; omega
        have HR := Lib.hid (And.intro hr (And.intro hs' (And.intro hss (And.intro ho hpw))))
        have h2' : (j : Int) ≤ 62 := by omega
        clear hr hbit h1 h2 hs' ho hl hss hpw

        go_wp2_with (first
          | (go_at_call 17; refine (has_any _ _ _).mono ?_; rintro e w1 ⟨rfl, rfl⟩))
        go_round
        case rel => exact ⟨k + 1, s', by omega, HR.out.2.2.1, by go_num, by simp only [HR.out.2.2.2.2, HR.out.2.2.2.1], HR.out.1⟩
        case measure => simp [intOf]; omega
      · rw [if_pos hb] at hr
        subst hr
        have h2' : (j : Int) ≤ 62 := by omega
        clear h1 h2
        go_wp2_with (go_at_call 17; refine (has_any _ _ _).mono ?_; rintro e w1 ⟨rfl, rfl⟩)
        all_goals refine bodyPost_ret (v := .tuple #[.int .i64 0, .int .i64 6]) (by simp [results, Tryd.results9, go_sem]) rfl ⟨rfl, rfl⟩
    · rw [ofR_end (by omega)] at hr
      subst hr
      go_wp2
      all_goals refine bodyPost_ret (v := .tuple #[.int .i64 s, .int .i64 0]) (by simp [results, Tryd.results9, go_sem]) rfl ⟨rfl, rfl⟩
set_option maxRecDepth 20000 in
set_option maxHeartbeats 1000000 in
theorem rof_any (A : Option Addr) (c : Nat) (l : List Int) (w : World) (hL : Ints w w.heap.size A l) : Calls Tryd.prog 11 #[.slice A l.length c] w fun e w' => e = .returned (.tuple #[.int .i64 (ofR 0 l).1, .int .i64 (ofR 0 l).2]) ∧ w = w' := by
  have hlen := hL.len
  obtain ⟨R, hR⟩ : ∃ R, ofR 0 l = R := ⟨_, rfl⟩
  rw [hR]
  go_enter Tryd.func11, Tryd.ntmps11
  go_wp2
  go_loop [4, 5] (fun t i => ∃ k s : Nat, k ≤ l.length ∧ s < 9223372036854775808 ∧ i = .int .i64 k ∧ t = .int .i64 s ∧ ofR s (l.drop k) = R) (fun t i => l.length - (intOf i).toNat)
  case atStart => exact ⟨0, 0, by omega, by omega, rfl, rfl, by simpa using hR⟩
  case round =>
    obtain ⟨k, s, hk, hs, rfl, rfl, hr⟩ := hrel
    clear hR
    by_cases hlt : k < l.length
    · obtain ⟨ad, x, rfl, hadb, hx, hcell⟩ := hL.at_ hlt
      rw [ofR_at hx] at hr
      clear hx
      by_cases h1 : x < 0
      · rw [if_pos (.inl h1)] at hr
        subst hr
        go_wp2
        all_goals refine bodyPost_ret (v := .tuple #[.int .i64 0, .int .i64 2]) (by simp [results, Tryd.results11, go_sem]) rfl ⟨rfl, rfl⟩
      by_cases h2 : 62 < x
      · rw [if_pos (.inr h2)] at hr
        subst hr
        go_wp2
        all_goals refine bodyPost_ret (v := .tuple #[.int .i64 0, .int .i64 2]) (by simp [results, Tryd.results11, go_sem]) rfl ⟨rfl, rfl⟩
      obtain ⟨j, rfl⟩ := Int.eq_ofNat_of_zero_le (show 0 ≤ x by omega)
      rw [if_neg (by omega)] at hr
      cases hb : hasB (s : Int) (j : Int)
      · rw [if_neg (by rw [hb]; decide)] at hr
        have hbit : s.testBit j = false := by
          rw [hasB_nat (by omega), hasN_nat] at hb; exact hb
        have ho := or_pow s j hs (by omega) hbit
        have hl := add_pow_lt s j hs (by omega) hbit
        have hp0 := pow2_pos j
        have hp1 := pow2_le (j := j) (by omega)
        obtain ⟨s', hs'⟩ : ∃ s' : Nat, (s : Int) + pow2 j = s' := ⟨((s : Int) + pow2 j).toNat, by omega⟩
        have hss : s' < 9223372036854775808 := by omega
        rw [hs'] at hl ho
        rw [show (j : Int).toNat = j from rfl, hs'] at hr
        have hpw : wrap64 (2 ^ j) = pow2 j := by
          have e : ((2 : Int) ^ j) = pow2 j := by unfold pow2; simp
          rw [e]; unfold wrap64; omega
        have HR := Lib.hid (And.intro hr (And.intro hs' (And.intro hss (And.intro ho hpw))))
        have h2' : (j : Int) ≤ 62 := by omega
        clear hr hbit h1 h2 hs' ho hl hss hpw

        go_wp2_with (first
          | (go_at_call 18; refine (rhas_any _ _ (by omega) (by omega) _).mono ?_; rintro e w1 ⟨rfl, rfl⟩)| (go_at_call 26; refine (bit_any _ (by omega) _).mono ?_; rintro e w1 ⟨rfl, rfl⟩))
        go_round
        case rel => exact ⟨k + 1, s', by omega, HR.out.2.2.1, by go_num, by simp only [HR.out.2.1]; exact congrArg _ (wrap64_id HR.out.2.2.1), HR.out.1⟩
        case measure => simp [intOf]; omega
      · rw [if_pos hb] at hr
        subst hr
        have h2' : (j : Int) ≤ 62 := by omega
        clear h1 h2
        go_wp2_with (go_at_call 18; refine (rhas_any _ _ (by omega) (by omega) _).mono ?_; rintro e w1 ⟨rfl, rfl⟩)
        all_goals refine bodyPost_ret (v := .tuple #[.int .i64 0, .int .i64 6]) (by simp [results, Tryd.results11, go_sem]) rfl ⟨rfl, rfl⟩
    · rw [ofR_end (by omega)] at hr
      subst hr
      go_wp2
      all_goals refine bodyPost_ret (v := .tuple #[.int .i64 s, .int .i64 0]) (by simp [results, Tryd.results11, go_sem]) rfl ⟨rfl, rfl⟩
end Go.Proofs.YtdmedphpddhjcaaDoor.sets

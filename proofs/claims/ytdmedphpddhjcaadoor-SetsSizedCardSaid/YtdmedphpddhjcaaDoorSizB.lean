/- How many ways there are to choose. -/
import Derived.Test.YtdmedphpddhjcaaDoorSizA
namespace Go.Proofs.YtdmedphpddhjcaaDoor.sets
open Go.RowKit Go.Shelf
open Go.Proofs.YtdmedphpddhjcaaDoor.lib
set_option linter.unusedVariables false

/-- How many ways there are to choose, as the reference says it: at most 100000. -/
def choR (n : Nat) (k : Int) : Nat := if k < 0 ∨ n < k then 0 else cap5 (chN n k.toNat)

set_option maxHeartbeats 1000000 in
theorem choose_any (n : Nat) (k : Int) (hn : n ≤ 63) (w : World) :
    Calls Tryd.prog 31 #[.int .i64 n, .int .i64 k] w fun e w' => e = .returned (.int .i64 (choR n k)) ∧ w = w' := by
  obtain ⟨R, hR⟩ : ∃ R, choR n k = R := ⟨_, rfl⟩
  rw [hR]
  by_cases h1 : k < 0
  · have : R = 0 := by rw [← hR]; unfold choR; rw [if_pos (.inl h1)]
    subst this
    clear hR
    go_enter Tryd.func31, Tryd.ntmps31
    go_wp2
    go_ret
    exact ⟨rfl, rfl⟩
  by_cases h2 : (n : Int) < k
  · have : R = 0 := by rw [← hR]; unfold choR; rw [if_pos (.inr h2)]
    subst this
    clear hR
    go_enter Tryd.func31, Tryd.ntmps31
    go_wp2
    go_ret
    exact ⟨rfl, rfl⟩
  obtain ⟨k, rfl⟩ := Int.eq_ofNat_of_zero_le (show 0 ≤ k by omega)
  have hR' : cap5 (chN n k) = R := by rw [← hR]; unfold choR; rw [if_neg (by omega)]; rfl
  clear hR h1
  by_cases h3 : k = 0
  · subst h3
    rw [chN_zero] at hR'
    subst hR'
    go_enter Tryd.func31, Tryd.ntmps31
    go_wp2
    go_ret
    exact ⟨rfl, rfl⟩
  by_cases h4 : k = n
  · subst h4
    rw [chN_self] at hR'
    subst hR'
    go_enter Tryd.func31, Tryd.ntmps31
    go_wp2
    all_goals go_ret
    all_goals exact ⟨rfl, rfl⟩
  have k0 : 1 ≤ k := by omega
  have k1 : k < n := by omega
  have g1 : ((k : Int) == 0) = false := by simp; omega
  have g2 : ((k : Int) == (n : Int)) = false := by simp; omega
  have g3 : (0 : Int) ≤ (n : Int) - (k : Int) := by omega
  clear h2 h3 h4
  -- the lesser of k and n - k
  obtain ⟨q, m, hq, hm, hqm, hs⟩ : ∃ q m : Nat, (q = k ∧ m = n - k ∧ k ≤ n - k ∨ q = n - k ∧ m = k ∧ n - k < k) ∧ q + m = n ∧ 1 ≤ q ∧ Hid (cap5 (chN n q) = R) := by
    by_cases h : k ≤ n - k
    · exact ⟨k, n - k, .inl ⟨rfl, rfl, h⟩, by omega, by omega, Lib.hid hR'⟩
    · refine ⟨n - k, k, .inr ⟨rfl, rfl, by omega⟩, by omega, by omega, Lib.hid ?_⟩
      have := chN_symm (n - k) k
      rw [show n - k + k = n by omega] at this
      rw [this, hR']
  have hnq : (n : Int) - (q : Int) = (m : Int) := by omega
  clear hR'
  go_enter Tryd.func31, Tryd.ntmps31
  rcases hq with ⟨rfl, hmk, hle⟩ | ⟨hqk, rfl, hle⟩
  · have hf : decide (m < q) = false := by simp; omega
    clear hmk hle
    go_wp2
    go_loop [5, 6] (fun o i => ∃ ii j c : Nat, Hid (ii = j + 1) ∧ 1 ≤ ii ∧ ii ≤ q + 1 ∧ i = .int .i64 ii ∧ o = .int .i64 c ∧ Hid (c = chN (m + j) j) ∧ c ≤ 100000) (fun _ i => q + 1 - (intOf i).toNat)
    case atStart => exact ⟨1, 0, 1, Lib.hid rfl, by omega, by omega, rfl, rfl, Lib.hid (by rw [chN_zero]), by omega⟩
    case round =>
      obtain ⟨ii, j, c, hij, hi1, hi2, rfl, rfl, hc, hcl⟩ := hrel
      by_cases hle : ii ≤ q
      · obtain ⟨N, hN, hN1, hN2⟩ : ∃ N : Nat, (m : Int) + (ii : Int) = (N : Int) ∧ Hid (N = m + j + 1) ∧ N ≤ 63 := ⟨m + ii, by omega, Lib.hid (by have := hij.out; omega), by omega⟩
        obtain ⟨T, hT, hT1, hT2⟩ : ∃ T : Nat, (c : Int) * (N : Int) = (T : Int) ∧ Hid (T = c * N) ∧ T ≤ 6300000 := ⟨c * N, by simp, Lib.hid rfl, Nat.le_trans (Nat.mul_le_mul hcl hN2) (by omega)⟩
        obtain ⟨D, hD, hD1, hD2⟩ : ∃ D : Nat, (T : Int) / (ii : Int) = (D : Int) ∧ Hid (D = chN (m + (j + 1)) (j + 1)) ∧ D ≤ 6300000 := by
          refine ⟨T / ii, by simp, Lib.hid ?_, Nat.le_trans (Nat.div_le_self _ _) hT2⟩
          rw [hT1.out, hN1.out, hc.out, hij.out, chN_div]; rfl
        have hT0 : (0 : Int) ≤ (T : Int) := by omega
        have hi3 : (1 : Int) ≤ (ii : Int) := by omega
        have hD0 : (0 : Int) ≤ (D : Int) := by omega
        by_cases hbig : 100000 < D
        · have hR : R = 100000 := by
            have hup := chN_up (m + (j + 1)) (j + 1) (q - (j + 1))
            have hj := hij.out
            rw [show m + (j + 1) + (q - (j + 1)) = n by omega, show j + 1 + (q - (j + 1)) = q by omega, ← hD1.out] at hup
            rw [← hs.out]
            unfold cap5
            rw [if_pos (by omega)]
          have HZ := Lib.hid hR
          have hbi : decide ((100000 : Int) < (D : Int)) = true := by simp; omega
          clear hR hbig
          go_wp2
          go_ret
          exact ⟨ret_int (by rw [HZ.out]; rfl), rfl⟩
        · have hbi : decide ((100000 : Int) < (D : Int)) = false := by simp; omega
          have hD3 : D ≤ 100000 := by omega
          clear hbig
          go_wp2
          go_round
          case rel => exact ⟨ii + 1, j + 1, D, Lib.hid (by rw [hij.out]), by omega, by omega, by go_num, rfl, hD1, hD3⟩
          case measure => simp [intOf]; omega
      · have hR : R = c := by
          have hj := hij.out
          rw [← hs.out, hc.out, show m + j = n by omega, show j = q by omega]
          unfold cap5
          rw [if_neg]
          have := hc.out
          rw [show m + j = n by omega, show j = q by omega] at this
          omega
        have HZ := Lib.hid hR
        clear hR
        go_wp2
        go_ret
        exact ⟨ret_int (by rw [HZ.out]), rfl⟩
  · have hf : decide (q < m) = true := by simp; omega
    have hnm : (n : Int) - (m : Int) = (q : Int) := by omega
    clear hqk hle
    go_wp2
    go_loop [5, 6] (fun o i => ∃ ii j c : Nat, Hid (ii = j + 1) ∧ 1 ≤ ii ∧ ii ≤ q + 1 ∧ i = .int .i64 ii ∧ o = .int .i64 c ∧ Hid (c = chN (m + j) j) ∧ c ≤ 100000) (fun _ i => q + 1 - (intOf i).toNat)
    case atStart => exact ⟨1, 0, 1, Lib.hid rfl, by omega, by omega, rfl, rfl, Lib.hid (by rw [chN_zero]), by omega⟩
    case round =>
      obtain ⟨ii, j, c, hij, hi1, hi2, rfl, rfl, hc, hcl⟩ := hrel
      by_cases hle : ii ≤ q
      · obtain ⟨N, hN, hN1, hN2⟩ : ∃ N : Nat, (m : Int) + (ii : Int) = (N : Int) ∧ Hid (N = m + j + 1) ∧ N ≤ 63 := ⟨m + ii, by omega, Lib.hid (by have := hij.out; omega), by omega⟩
        obtain ⟨T, hT, hT1, hT2⟩ : ∃ T : Nat, (c : Int) * (N : Int) = (T : Int) ∧ Hid (T = c * N) ∧ T ≤ 6300000 := ⟨c * N, by simp, Lib.hid rfl, Nat.le_trans (Nat.mul_le_mul hcl hN2) (by omega)⟩
        obtain ⟨D, hD, hD1, hD2⟩ : ∃ D : Nat, (T : Int) / (ii : Int) = (D : Int) ∧ Hid (D = chN (m + (j + 1)) (j + 1)) ∧ D ≤ 6300000 := by
          refine ⟨T / ii, by simp, Lib.hid ?_, Nat.le_trans (Nat.div_le_self _ _) hT2⟩
          rw [hT1.out, hN1.out, hc.out, hij.out, chN_div]; rfl
        have hT0 : (0 : Int) ≤ (T : Int) := by omega
        have hi3 : (1 : Int) ≤ (ii : Int) := by omega
        have hD0 : (0 : Int) ≤ (D : Int) := by omega
        by_cases hbig : 100000 < D
        · have hR : R = 100000 := by
            have hup := chN_up (m + (j + 1)) (j + 1) (q - (j + 1))
            have hj := hij.out
            rw [show m + (j + 1) + (q - (j + 1)) = n by omega, show j + 1 + (q - (j + 1)) = q by omega, ← hD1.out] at hup
            rw [← hs.out]
            unfold cap5
            rw [if_pos (by omega)]
          have HZ := Lib.hid hR
          have hbi : decide ((100000 : Int) < (D : Int)) = true := by simp; omega
          clear hR hbig
          go_wp2
          go_ret
          exact ⟨ret_int (by rw [HZ.out]; rfl), rfl⟩
        · have hbi : decide ((100000 : Int) < (D : Int)) = false := by simp; omega
          have hD3 : D ≤ 100000 := by omega
          clear hbig
          go_wp2
          go_round
          case rel => exact ⟨ii + 1, j + 1, D, Lib.hid (by rw [hij.out]), by omega, by omega, by go_num, rfl, hD1, hD3⟩
          case measure => simp [intOf]; omega
      · have hR : R = c := by
          have hj := hij.out
          rw [← hs.out, hc.out, show m + j = n by omega, show j = q by omega]
          unfold cap5
          rw [if_neg]
          have := hc.out
          rw [show m + j = n by omega, show j = q by omega] at this
          omega
        have HZ := Lib.hid hR
        clear hR
        go_wp2
        go_ret
        exact ⟨ret_int (by rw [HZ.out]), rfl⟩
end Go.Proofs.YtdmedphpddhjcaaDoor.sets

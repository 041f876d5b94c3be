/- Contracts of sets: Bit, Has, Members, of the program and of the reference. -/
import Derived.Test.YthkbfmbohoclaaaDoorLib
import Derived.Test.YthkbfmbohoclaaaDoorSetP
namespace Go.Proofs.YthkbfmbohoclaaaDoor.sets
open Go.RowKit
open Go.Proofs.YthkbfmbohoclaaaDoor.lib
set_option linter.unusedVariables false

theorem bit_any (k : Nat) (hk : k ≤ 62) (w : World) : Calls Tryd.prog 78 #[.int .i64 k] w fun e w' => e = .returned (.int .i64 (pow2 k)) ∧ w = w' := by
  go_enter Tryd.func78, Tryd.ntmps78
  go_wp2
  go_loop [3, 4] (fun n i => ∃ j : Nat, j ≤ k ∧ i = .int .i64 j ∧ n = .int .i64 (pow2 j)) (fun _ i => k - (intOf i).toNat)
  case atStart => exact ⟨0, by omega, rfl, rfl⟩
  case round =>
    obtain ⟨j, hj, rfl, rfl⟩ := hrel
    have h1 := pow2_pos j
    have h2 := pow2_le (j := j) (by omega)
    by_cases hlt : j < k
    · have h3 := pow2_le (j := j + 1) (by omega)
      have h4 := Lib.hid (pow2_succ j)
      have h5 : 2 * pow2 j ≤ 4611686018427387904 := by have := h4.out; omega
      clear h3
      go_wp2
      go_round
      case rel => exact ⟨j + 1, by omega, by go_num, by rw [h4.out]⟩
      case measure => simp [intOf]; omega
    · go_wp2
      go_ret
      obtain rfl : j = k := by omega
      exact ⟨rfl, rfl⟩

theorem has_any (s : Int) (i : Int) (w : World) : Calls Tryd.prog 61 #[.int .i64 s, .int .i64 i] w fun e w' => e = .returned (.bool (hasB s i)) ∧ w = w' := by
  by_cases h0 : i < 0
  · go_enter Tryd.func61, Tryd.ntmps61
    go_wp2
    go_ret
    exact ⟨ret_bool (by unfold hasB; simp; omega), rfl⟩
  by_cases h1 : 62 < i
  · go_enter Tryd.func61, Tryd.ntmps61
    go_wp2
    go_ret
    exact ⟨ret_bool (by unfold hasB; simp; omega), rfl⟩
  · obtain ⟨k, rfl⟩ := Int.eq_ofNat_of_zero_le (show 0 ≤ i by omega)
    have hk : (k : Int) ≤ 62 := by omega
    clear h0 h1
    go_enter Tryd.func61, Tryd.ntmps61
    go_wp2
    go_ret
    refine ⟨ret_bool ?_, rfl⟩
    rw [hasB_nat (by omega), i64_and1]
    unfold hasN pow2
    rw [Bool.eq_iff_iff]
    simp

theorem rhas_any (s : Int) (i : Int) (hs : 0 ≤ s) (hs2 : s ≤ 9223372036854775807) (w : World) : Calls Tryd.prog 62 #[.int .i64 s, .int .i64 i] w fun e w' => e = .returned (.bool (hasB s i)) ∧ w = w' := by
  by_cases h0 : i < 0
  · go_enter Tryd.func62, Tryd.ntmps62
    go_wp2
    go_ret
    exact ⟨ret_bool (by unfold hasB; simp; omega), rfl⟩
  by_cases h1 : 62 < i
  · go_enter Tryd.func62, Tryd.ntmps62
    go_wp2
    go_ret
    exact ⟨ret_bool (by unfold hasB; simp; omega), rfl⟩
  · obtain ⟨k, rfl⟩ := Int.eq_ofNat_of_zero_le (show 0 ≤ i by omega)
    have hk : (k : Int) ≤ 62 := by omega
    have hp := pow2_pos k
    have hq : 0 ≤ s / pow2 k := Int.ediv_nonneg hs (by omega)
    clear h0 h1
    go_enter Tryd.func62, Tryd.ntmps62
    go_wp2_with (go_at_call 78; refine (bit_any _ (by omega) _).mono ?_; rintro e w' ⟨rfl, rfl⟩)
    go_ret
    refine ⟨ret_bool ?_, rfl⟩
    rw [hasB_nat (by omega)]
    unfold hasN
    rw [Bool.eq_iff_iff]
    simp

/-- What Members hands back. -/
def OutInts (w : World) (l : List Int) (e : Ending) (w' : World) : Prop :=
  ∃ A c, e = .returned (.slice A l.length c) ∧ w'.ownsRow w.heap.size 3 1 (.slice A l.length c) l.length (l.map (.int .i64)) ∧ Below w.heap.size w w'

set_option maxHeartbeats 1000000 in
theorem members_any (s : Int) (w : World) : Calls Tryd.prog 45 #[.int .i64 s] w (OutInts w (memL s)) := by
  go_enter Tryd.func45, Tryd.ntmps45
  go_wp2
  go_loopw [3, 4, 5] (fun v _ i wr => ∃ k : Nat, k ≤ 63 ∧ i = .int .i64 k ∧ (∃ A c, v = .slice A (memTo s k).length c) ∧ wr.ownsRow w.heap.size 3 1 v (memTo s k).length ((memTo s k).map (.int .i64)) ∧ Below w.heap.size w wr) (fun _ _ i _ => 63 - (intOf i).toNat)
  case atStart => exact ⟨0, by omega, rfl, ⟨none, 0, rfl⟩, World.ownsRow_nil _ _ _ _, Below.refl _ _⟩
  case round =>
    obtain ⟨k, hk, rfl, ⟨A, c, rfl⟩, hown, hb⟩ := hrel
    have hz := hb.size
    have hlen := memTo_len s k
    by_cases hlt : k < 63
    · have hB := Lib.hid (hasB_nat (s := s) (i := k) (by omega))
      cases hh : hasN s k
      · have HN := Lib.hid (memTo_no (s := s) (k := k) (by rw [hh]; decide))
        have hbf : hasB s k = false := by rw [hB.out, hh]
        clear hh
        go_wp2_with (go_at_call 61; refine (has_any _ _ _).mono ?_; rintro e w' ⟨rfl, rfl⟩)
        go_roundw
        case rel => exact ⟨k + 1, by omega, by go_num, ⟨A, c, by rw [HN.out]⟩, by rw [HN.out]; exact hown, hb⟩
        case measure => simp [intOf]; omega
      · have HN := Lib.hid (memTo_yes hh)
        have hbf : hasB s k = true := by rw [hB.out, hh]
        clear hh
        go_wp2_with (first
          | (go_at_call 61; refine (has_any _ _ _).mono ?_; rintro e w' ⟨rfl, rfl⟩)
          | (at_builtin; refine push_int rfl _ _ rfl w.heap.size _ (memTo s k).length (memTo s k) rfl hown k rfl (by omega) hb.size ?_; intro A1 c1 w1 hown1 hb1 hz1))
        go_roundw
        case rel => exact ⟨k + 1, by omega, by go_num, ⟨A1, c1, by rw [HN.out]; simp⟩, by rw [HN.out]; simpa using hown1, hb.trans hb1⟩
        case measure => simp [intOf]; omega
    · have hkn : k = 63 := by omega
      subst hkn
      clear hlt
      go_wp2
      go_ret
      exact ⟨A, c, rfl, hown, hb⟩

set_option maxHeartbeats 1000000 in
theorem rmembers_any (s : Int) (hs : 0 ≤ s) (hs2 : s ≤ 9223372036854775807) (w : World) : Calls Tryd.prog 48 #[.int .i64 s] w (OutInts w (memL s)) := by
  go_enter Tryd.func48, Tryd.ntmps48
  go_wp2
  go_loopw [3, 4] (fun v i wr => ∃ k : Nat, k ≤ 63 ∧ i = .int .i64 k ∧ (∃ A c, v = .slice A (memTo s k).length c) ∧ wr.ownsRow w.heap.size 3 1 v (memTo s k).length ((memTo s k).map (.int .i64)) ∧ Below w.heap.size w wr) (fun _ i _ => 63 - (intOf i).toNat)
  case atStart => exact ⟨0, by omega, rfl, ⟨none, 0, rfl⟩, World.ownsRow_nil _ _ _ _, Below.refl _ _⟩
  case round =>
    obtain ⟨k, hk, rfl, ⟨A, c, rfl⟩, hown, hb⟩ := hrel
    have hz := hb.size
    have hlen := memTo_len s k
    by_cases hlt : k < 63
    · have hB := Lib.hid (hasB_nat (s := s) (i := k) (by omega))
      cases hh : hasN s k
      · have HN := Lib.hid (memTo_no (s := s) (k := k) (by rw [hh]; decide))
        have hbf : hasB s k = false := by rw [hB.out, hh]
        clear hh
        go_wp2_with (go_at_call 62; refine (rhas_any _ _ hs hs2 _).mono ?_; rintro e w' ⟨rfl, rfl⟩)
        go_roundw
        case rel => exact ⟨k + 1, by omega, by go_num, ⟨A, c, by rw [HN.out]⟩, by rw [HN.out]; exact hown, hb⟩
        case measure => simp [intOf]; omega
      · have HN := Lib.hid (memTo_yes hh)
        have hbf : hasB s k = true := by rw [hB.out, hh]
        clear hh
        go_wp2_with (first
          | (go_at_call 62; refine (rhas_any _ _ hs hs2 _).mono ?_; rintro e w' ⟨rfl, rfl⟩)
          | (at_builtin; refine push_int rfl _ _ rfl w.heap.size _ (memTo s k).length (memTo s k) rfl hown k rfl (by omega) hb.size ?_; intro A1 c1 w1 hown1 hb1 hz1))
        go_roundw
        case rel => exact ⟨k + 1, by omega, by go_num, ⟨A1, c1, by rw [HN.out]; simp⟩, by rw [HN.out]; simpa using hown1, hb.trans hb1⟩
        case measure => simp [intOf]; omega
    · have hkn : k = 63 := by omega
      subst hkn
      clear hlt
      go_wp2
      go_ret
      exact ⟨A, c, rfl, hown, hb⟩
end Go.Proofs.YthkbfmbohoclaaaDoor.sets

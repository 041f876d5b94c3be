/- Contracts of Shift, of the program and of the reference: portable part of WinB. -/
import Derived.Test.YtofabhenmplkoaaGreatDoorBase
import Derived.Deep.RegionHeld3
namespace Go.Proofs.YtofabhenmplkoaaGreatDoor.win
open Go.RowKit
set_option linter.unusedVariables false

/-- What Shift says: the error, and the stop. -/
def shiftB (p o c n : Int) : Bool := decide (p = -1 ∨ (-4096 ≤ n ∧ n ≤ 4096 ∧ 0 ≤ o + n ∧ c + n ≤ 4096))
def shiftE (p o c n : Int) : Int := if shiftB p o c n = true then 0 else 2
def shiftV (p o c v n : Int) : Value := if shiftB p o c n = true then (if p = -1 then stop p o c v else stop p (o + n) (c + n) v) else stop 0 0 0 0

theorem shift_stay (o c v n : Int) : shiftV (-1) o c v n = stop (-1) o c v ∧ shiftE (-1) o c n = 0 := by
  have e1 : shiftB (-1) o c n = true := by unfold shiftB; simp
  unfold shiftV shiftE
  rw [if_pos e1, if_pos e1, if_pos rfl]
  exact ⟨rfl, rfl⟩
theorem shift_yes {p o c v n : Int} (hp : ¬ p = -1) (h : -4096 ≤ n ∧ n ≤ 4096 ∧ 0 ≤ o + n ∧ c + n ≤ 4096) : shiftV p o c v n = stop p (o + n) (c + n) v ∧ shiftE p o c n = 0 := by
  have e1 : shiftB p o c n = true := by unfold shiftB; simpa [hp] using h
  unfold shiftV shiftE
  rw [if_pos e1, if_pos e1, if_neg hp]
  exact ⟨rfl, rfl⟩
theorem shift_no {p o c v n : Int} (hp : ¬ p = -1) (h : ¬ (-4096 ≤ n ∧ n ≤ 4096 ∧ 0 ≤ o + n ∧ c + n ≤ 4096)) : shiftV p o c v n = stop 0 0 0 0 ∧ shiftE p o c n = 2 := by
  have e1 : ¬ shiftB p o c n = true := by
    unfold shiftB
    intro h1
    simp only [decide_eq_true_eq] at h1
    omega
  unfold shiftV shiftE
  rw [if_neg e1, if_neg e1]
  exact ⟨rfl, rfl⟩

set_option maxHeartbeats 1000000 in
theorem shift_any (p o c v n : Int) (hg : (p = -1 ∧ o = 0 ∧ c = 0 ∧ v = 0) ∨ Good p o c v) (hn : -9223372036854775808 ≤ n ∧ n ≤ 9223372036854775807) (w : World) : Calls Tryz.prog 207 #[stop p o c v, .int .i64 n] w fun e w' => e = .returned (.tuple #[shiftV p o c v n, .int .i64 (shiftE p o c n)]) ∧ Below w.heap.size w w' := by
  by_cases hp : p = -1
  · clear hg
    subst hp
    go_enter Tryz.func207, Tryz.ntmps207
    go_wp2
    (have e := shift_stay o c v n; refine bodyPost_ret (v := .tuple #[shiftV (-1) o c v n, .int .i64 (shiftE (-1) o c n)]) (by rw [e.1, e.2]; simp [results, Tryz.results207, go_sem]) rfl ⟨rfl, by repeat (first | exact Below.refl _ _ | refine Below.drew ?_ | refine Below.alloc ?_ (by simp <;> omega) _ | refine Below.setCell ?_ (by simp <;> omega) _)⟩)
  · have hg : Good p o c v := by
      rcases hg with h | h
      · exact absurd h.1 hp
      · exact h
    obtain ⟨g1, g2, g3, g4, g5, g6⟩ := hg
    by_cases h1 : n < -4096
    · go_enter Tryz.func207, Tryz.ntmps207
      go_wp2
      all_goals (have e := shift_no (o := o) (c := c) (v := v) (n := n) hp (by omega); refine bodyPost_ret (v := .tuple #[shiftV p o c v n, .int .i64 (shiftE p o c n)]) (by rw [e.1, e.2]; simp [results, Tryz.results207, go_sem]) rfl ⟨rfl, by repeat (first | exact Below.refl _ _ | refine Below.drew ?_ | refine Below.alloc ?_ (by simp <;> omega) _ | refine Below.setCell ?_ (by simp <;> omega) _)⟩)
    by_cases h2 : 4096 < n
    · go_enter Tryz.func207, Tryz.ntmps207
      go_wp2
      all_goals (have e := shift_no (o := o) (c := c) (v := v) (n := n) hp (by omega); refine bodyPost_ret (v := .tuple #[shiftV p o c v n, .int .i64 (shiftE p o c n)]) (by rw [e.1, e.2]; simp [results, Tryz.results207, go_sem]) rfl ⟨rfl, by repeat (first | exact Below.refl _ _ | refine Below.drew ?_ | refine Below.alloc ?_ (by simp <;> omega) _ | refine Below.setCell ?_ (by simp <;> omega) _)⟩)
    · go_enter Tryz.func207, Tryz.ntmps207
      go_wp2_with (go_at_call 240; refine (tick_any _ _).mono ?_; rintro e w' ⟨rfl, rfl⟩)
      · have q1 := tick_t (n := o + n) (by assumption)
        have q2 := tick_f (n := c + n) (by simpa using ‹(!tickB (c + n)) = true›)
        (have e := shift_no (o := o) (c := c) (v := v) (n := n) hp (by omega); refine bodyPost_ret (v := .tuple #[shiftV p o c v n, .int .i64 (shiftE p o c n)]) (by rw [e.1, e.2]; simp [results, Tryz.results207, go_sem]) rfl ⟨rfl, by repeat (first | exact Below.refl _ _ | refine Below.drew ?_ | refine Below.alloc ?_ (by simp <;> omega) _ | refine Below.setCell ?_ (by simp <;> omega) _)⟩)
      · have q1 := tick_t (n := o + n) (by assumption)
        have q2 := tick_t (n := c + n) (by simpa using ‹(!tickB (c + n)) = false›)
        (have e := shift_yes (o := o) (c := c) (v := v) (n := n) hp (by omega); refine bodyPost_ret (v := .tuple #[shiftV p o c v n, .int .i64 (shiftE p o c n)]) (by rw [e.1, e.2]; simp [results, Tryz.results207, go_sem]) rfl ⟨rfl, by repeat (first | exact Below.refl _ _ | refine Below.drew ?_ | refine Below.alloc ?_ (by simp <;> omega) _ | refine Below.setCell ?_ (by simp <;> omega) _)⟩)
      · have q1 := tick_f (n := o + n) (by assumption)
        (have e := shift_no (o := o) (c := c) (v := v) (n := n) hp (by omega); refine bodyPost_ret (v := .tuple #[shiftV p o c v n, .int .i64 (shiftE p o c n)]) (by rw [e.1, e.2]; simp [results, Tryz.results207, go_sem]) rfl ⟨rfl, by repeat (first | exact Below.refl _ _ | refine Below.drew ?_ | refine Below.alloc ?_ (by simp <;> omega) _ | refine Below.setCell ?_ (by simp <;> omega) _)⟩)

set_option maxHeartbeats 1000000 in
theorem rshift_any (p o c v n : Int) (hg : (p = -1 ∧ o = 0 ∧ c = 0 ∧ v = 0) ∨ Good p o c v) (hn : -9223372036854775808 ≤ n ∧ n ≤ 9223372036854775807) (w : World) : Calls Tryz.prog 111 #[stop p o c v, .int .i64 n] w fun e w' => e = .returned (.tuple #[shiftV p o c v n, .int .i64 (shiftE p o c n)]) ∧ Below w.heap.size w w' := by
  by_cases hp : p = -1
  · clear hg
    subst hp
    go_enter Tryz.func111, Tryz.ntmps111
    go_wp2
    (have e := shift_stay o c v n; refine bodyPost_ret (v := .tuple #[shiftV (-1) o c v n, .int .i64 (shiftE (-1) o c n)]) (by rw [e.1, e.2]; simp [results, Tryz.results111, go_sem]) rfl ⟨rfl, by repeat (first | exact Below.refl _ _ | refine Below.drew ?_ | refine Below.alloc ?_ (by simp <;> omega) _ | refine Below.setCell ?_ (by simp <;> omega) _)⟩)
  · have hg : Good p o c v := by
      rcases hg with h | h
      · exact absurd h.1 hp
      · exact h
    obtain ⟨g1, g2, g3, g4, g5, g6⟩ := hg
    by_cases h1 : n < -4096
    · go_enter Tryz.func111, Tryz.ntmps111
      go_wp2
      all_goals (have e := shift_no (o := o) (c := c) (v := v) (n := n) hp (by omega); refine bodyPost_ret (v := .tuple #[shiftV p o c v n, .int .i64 (shiftE p o c n)]) (by rw [e.1, e.2]; simp [results, Tryz.results111, go_sem]) rfl ⟨rfl, by repeat (first | exact Below.refl _ _ | refine Below.drew ?_ | refine Below.alloc ?_ (by simp <;> omega) _ | refine Below.setCell ?_ (by simp <;> omega) _)⟩)
    by_cases h2 : 4096 < n
    · go_enter Tryz.func111, Tryz.ntmps111
      go_wp2
      all_goals (have e := shift_no (o := o) (c := c) (v := v) (n := n) hp (by omega); refine bodyPost_ret (v := .tuple #[shiftV p o c v n, .int .i64 (shiftE p o c n)]) (by rw [e.1, e.2]; simp [results, Tryz.results111, go_sem]) rfl ⟨rfl, by repeat (first | exact Below.refl _ _ | refine Below.drew ?_ | refine Below.alloc ?_ (by simp <;> omega) _ | refine Below.setCell ?_ (by simp <;> omega) _)⟩)
    · go_enter Tryz.func111, Tryz.ntmps111
      go_wp2
      all_goals first
        | (have e := shift_yes (o := o) (c := c) (v := v) (n := n) hp (by omega); refine bodyPost_ret (v := .tuple #[shiftV p o c v n, .int .i64 (shiftE p o c n)]) (by rw [e.1, e.2]; simp [results, Tryz.results111, go_sem]) rfl ⟨rfl, by repeat (first | exact Below.refl _ _ | refine Below.drew ?_ | refine Below.alloc ?_ (by simp <;> omega) _ | refine Below.setCell ?_ (by simp <;> omega) _)⟩)
        | (have e := shift_no (o := o) (c := c) (v := v) (n := n) hp (by omega); refine bodyPost_ret (v := .tuple #[shiftV p o c v n, .int .i64 (shiftE p o c n)]) (by rw [e.1, e.2]; simp [results, Tryz.results111, go_sem]) rfl ⟨rfl, by repeat (first | exact Below.refl _ _ | refine Below.drew ?_ | refine Below.alloc ?_ (by simp <;> omega) _ | refine Below.setCell ?_ (by simp <;> omega) _)⟩)

end Go.Proofs.YtofabhenmplkoaaGreatDoor.win

/- The laws of Trips and Fits. -/
import Derived.Test.YtdmedphpddhjcaaLoadG
namespace Go.Proofs.Ytdmedphpddhjcaa.loads
open Go.RowKit
open Go.Proofs.Ytdmedphpddhjcaa.lib
set_option linter.unusedVariables false

theorem within_t {l : List Int} {m : Int} (h : withinB l m = true) : InM m l := by
  intro x hx
  unfold withinB at h
  rw [List.all_eq_true] at h
  have := h x hx
  simpa using this
theorem fits_self (a : List Int) : fitsB a a = true := by
  unfold fitsB
  have h : ∀ l : List Int, fitsGo l l = true := by
    intro l
    induction l with
    | nil => rfl
    | cons x xs ih => rw [fitsGo, ih]; simp
  rw [h]
  simp

theorem law_trips (A : Option Addr) (c : Nat) (a : List Int) (A' : Option Addr) (c' : Nat) (b : List Int) (w : World) (ha : Ints w w.heap.size A a) (hb : Ints w w.heap.size A' b) :
    Calls Try.prog 3 #[.slice A a.length c, .slice A' b.length c'] w fun e w' => e = .returned (.bool true) ∧ Below w.heap.size w w' := by
  cases h1 : withinB a 1073741824
  · go_enter Try.func3, Try.ntmps3
    go_wp2_with (first
      | (go_at_call 9; refine (within_any _ _ _ _ (by omega) (by omega) _ _ ha).mono ?_; rintro e w' ⟨rfl, rfl⟩)
      | (go_at_call 10; refine (examples_any _).mono ?_; rintro e w1 ⟨rfl, hb1⟩))
    go_ret
    exact ⟨rfl, hb1⟩
  cases h2 : withinB b 1073741824
  · go_enter Try.func3, Try.ntmps3
    go_wp2_with fail
    refine (within_any _ _ _ _ (by omega) (by omega) _ _ ha).mono ?_
    rintro e w' ⟨rfl, rfl⟩
    go_wp2_with fail
    refine (within_any _ _ _ _ (by omega) (by omega) _ _ hb).mono ?_
    rintro e w' ⟨rfl, rfl⟩
    go_wp2_with (go_at_call 10; refine (examples_any _).mono ?_; rintro e w1 ⟨rfl, hb1⟩)
    go_ret
    exact ⟨rfl, hb1⟩
  · have i1 := Lib.hid (within_t h1)
    have i2 := Lib.hid (within_t h2)
    go_enter Try.func3, Try.ntmps3
    go_wp2_with fail
    refine (within_any _ _ _ _ (by omega) (by omega) _ _ ha).mono ?_
    rintro e w' ⟨rfl, rfl⟩
    go_wp2_with fail
    refine (within_any _ _ _ _ (by omega) (by omega) _ _ hb).mono ?_
    rintro e w' ⟨rfl, rfl⟩
    go_wp2_with (first
      | (go_at_call 11; refine (trips_any _ _ _ _ rfl _ _ _ _ rfl _ _ _ ha hb i1.out i2.out).mono ?_; rintro e w' ⟨rfl, rfl⟩)
      | (go_at_call 12; refine (rtrips_any _ _ _ _ rfl _ _ _ _ rfl _ _ _ (Nat.le_refl _) (Nat.le_refl _) ha hb i1.out i2.out).mono ?_; rintro e w1 ⟨rfl, hb1⟩)
      | (go_at_call 10; refine (examples_any _).mono ?_; rintro e w2 ⟨rfl, hb2⟩))
    go_ret
    exact ⟨rfl, hb1.trans (hb2.mono hb1.size)⟩

theorem law_fit (A : Option Addr) (c : Nat) (a : List Int) (A' : Option Addr) (c' : Nat) (b : List Int) (d : Int) (w : World) (ha : Ints w w.heap.size A a) (hb : Ints w w.heap.size A' b) :
    Calls Try.prog 6 #[.slice A a.length c, .slice A' b.length c', .int .i64 d] w fun e w' => e = .returned (.bool true) ∧ Below w.heap.size w w' := by
  have q1 : (rightB a d == rightB a d) = true := by simp
  have q2 : (fitsB a b == fitsB a b) = true := by simp
  have hs := fits_self a
  go_enter Try.func6, Try.ntmps6
  go_wp2_with (first
    | (go_at_call 23; refine (right_any _ _ _ _ _ _ ha).mono ?_; rintro e w' ⟨rfl, rfl⟩)
    | (go_at_call 24; refine (rright_any _ _ _ _ _ _ ha).mono ?_; rintro e w' ⟨rfl, rfl⟩)
    | (go_at_call 25; ((with_reducible refine (fits_any _ _ a _ rfl _ _ b _ rfl _ _ _ ha hb).mono ?_)); rintro e w' ⟨rfl, rfl⟩)
    | (go_at_call 26; refine (rfits_any _ _ _ _ rfl _ _ _ _ rfl _ _ _ (Nat.le_refl _) (Nat.le_refl _) ha hb).mono ?_; rintro e w1 ⟨rfl, hb1⟩)
    | (go_at_call 25; ((with_reducible refine (fits_any _ _ a _ rfl _ _ a _ rfl _ _ _ (ha.below hb1) (ha.below hb1)).mono ?_)); rintro e w' ⟨rfl, rfl⟩)
    | (go_at_call 10; refine (examples_any _).mono ?_; rintro e w2 ⟨rfl, hb2⟩))
  go_ret
  exact ⟨rfl, hb1.trans (hb2.mono hb1.size)⟩
end Go.Proofs.Ytdmedphpddhjcaa.loads

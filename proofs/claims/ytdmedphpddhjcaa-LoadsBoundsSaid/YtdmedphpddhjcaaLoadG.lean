/- The chapter's examples hold. -/
import Derived.Test.YtdmedphpddhjcaaLoadE
namespace Go.Proofs.Ytdmedphpddhjcaa.loads
open Go.RowKit
open Go.Proofs.Ytdmedphpddhjcaa.lib
set_option linter.unusedVariables false

theorem lit_at (w : World) (l : List Int) (H : Nat) (hH : w.heap.size = H) (hl : l.length ≤ 17592186043904) : Ints (w.alloc (.cells (l.map (.int .i64)).toArray 3)) (H + 1) (some ⟨H, 0, none⟩) l := by
  subst hH
  exact Ints.lit w l hl
theorem lit_under (w : World) (l : List Int) (H : Nat) (hH : w.heap.size = H) (hl : l.length ≤ 17592186043904) (o : Obj) : Ints ((w.alloc (.cells (l.map (.int .i64)).toArray 3)).alloc o) (H + 1) (some ⟨H, 0, none⟩) l :=
  (lit_at w l H hH hl).alloc (by simp [hH]) o

set_option maxHeartbeats 2000000 in
theorem examples_any (w : World) : Calls Try.prog 10 #[] w fun e w' => e = .returned (.bool true) ∧ Below w.heap.size w w' := by
  go_enter Try.func10, Try.ntmps10
  go_wp2_with fail
  refine (sub_eq _ _ [5, 3] 2 rfl _ _ [2, 4] rfl _ (w.heap.size + 1) (w.heap.size + 2) (by simp) (by simp) (by exact lit_under w [5, 3] _ rfl (by decide) _) (by exact lit_at _ [2, 4] _ (by simp) (by decide)) (by intro x hx; simp at hx; omega) (by intro x hx; simp at hx; omega)).mono ?_
  rintro e w1 ⟨A1, c1, rfl, hown1, hb1⟩
  have B1 : Below w.heap.size w w1 := (((Below.refl w.heap.size w).alloc (Nat.le_refl _) _).alloc (by simp) _).trans (hb1.mono (by simp; omega))
  have I1 : Ints w1 w1.heap.size A1 [3, -1] := Ints.of_own (c := c1) hown1 (by simp)
  have s1 := hb1.size
  clear hown1
  go_wp2_with fail
  refine (trips_any _ _ [25, 10] 2 rfl _ _ [10, 10] 2 rfl _ (w1.heap.size + 1) (w1.heap.size + 2) (by exact lit_under w1 [25, 10] _ rfl (by decide) _) (by exact lit_at _ [10, 10] _ (by simp) (by decide)) (by intro x hx; simp at hx; omega) (by intro x hx; simp at hx; omega)).mono ?_
  rintro e w2 ⟨rfl, rfl⟩
  rw [show trips [25, 10] [10, 10] = (3, 0) by decide]
  go_wp2_with fail
  refine (trips_any _ _ [1] 1 rfl _ _ [0] 1 rfl _ (w1.heap.size + 3) (w1.heap.size + 4) (by exact lit_under _ [1] _ (by simp) (by decide) _) (by exact lit_at _ [0] _ (by simp) (by decide)) (by intro x hx; simp at hx; omega) (by intro x hx; simp at hx; omega)).mono ?_
  rintro e w2 ⟨rfl, rfl⟩
  rw [show trips [1] [0] = (0, 24) by decide]
  go_wp2_with fail
  refine (wmost_any _ _ [] 2 (by simp) _ 0 (by simp) Rows2.nil (by simp)).mono ?_
  have hR : foldR (fun x y => max x y) [] 2 = some [0, 0] := by decide
  rintro e w2 (⟨l, hl, A2, c2, rfl, hown2, hb2⟩ | ⟨hl, rfl, hb2⟩)
  · rw [hR] at hl
    injection hl with hl
    subst hl
    have s2 := hb2.size
    simp at s2
    have I2 : Ints w2 w2.heap.size A2 [0, 0] := Ints.of_own (c := c2) hown2 (by simp)
    have I1' : Ints w2 w1.heap.size A1 [3, -1] := ((((I1.alloc (Nat.le_refl _) _).alloc (by simp) _).alloc (by simp; omega) _).alloc (by simp; omega) _).below (hb2.mono (by simp; omega))
    go_wp2_with fail
    refine (lsame_any A1 c1 [3, -1] 2 rfl _ _ [3, -1] 2 rfl _ w1.heap.size (w2.heap.size + 1) (by simp; omega) (by simp) (by exact I1'.alloc (by omega) _) (by exact lit_at _ [3, -1] _ rfl (by decide))).mono ?_
    rintro e w3 ⟨rfl, hb3⟩
    rw [show sameB [3, -1] [3, -1] = true by decide]
    have s3 := hb3.size
    simp at s3
    have I2' : Ints w3 w2.heap.size A2 [0, 0] := (I2.alloc (Nat.le_refl _) _).below (hb3.mono (by simp))
    go_wp2_with fail
    refine (lsame_any A2 c2 [0, 0] 2 rfl _ _ [0, 0] 2 rfl _ w2.heap.size (w3.heap.size + 1) (by simp; omega) (by simp) (by exact I2'.alloc (by omega) _) (by exact lit_at _ [0, 0] _ rfl (by decide))).mono ?_
    rintro e w4 ⟨rfl, hb4⟩
    rw [show sameB [0, 0] [0, 0] = true by decide]
    have s4 := hb4.size
    simp at s4
    go_wp2_with fail
    refine (right_any _ _ [0, 1000] 2 _ (w4.heap.size + 1) (by exact lit_at _ [0, 1000] _ rfl (by decide))).mono ?_
    rintro e w5 ⟨rfl, rfl⟩
    rw [show rightB [0, 1000] 2 = true by decide]
    go_wp2_with fail
    refine (right_any _ _ [1001] 1 _ (w4.heap.size + 2) (by exact lit_at _ [1001] _ (by simp) (by decide))).mono ?_
    rintro e w5 ⟨rfl, rfl⟩
    rw [show rightB [1001] 1 = false by decide]
    go_wp2
    go_ret
    refine ⟨rfl, ?_⟩
    have B2 : Below w.heap.size w w2 := ((((B1.alloc (by have := B1.size; omega) _).alloc (by have := B1.size; simp; omega) _).alloc (by have := B1.size; simp; omega) _).alloc (by have := B1.size; simp; omega) _).trans (hb2.mono (by have := B1.size; simp; omega))
    have B3 : Below w.heap.size w w3 := (B2.alloc (by have := B2.size; omega) _).trans (hb3.mono (by have := B2.size; simp; omega))
    have B4 : Below w.heap.size w w4 := (B3.alloc (by have := B3.size; omega) _).trans (hb4.mono (by have := B3.size; simp; omega))
    exact (B4.alloc (by have := B4.size; omega) _).alloc (by have := B4.size; simp; omega) _
  · rw [hR] at hl
    cases hl
end Go.Proofs.Ytdmedphpddhjcaa.loads

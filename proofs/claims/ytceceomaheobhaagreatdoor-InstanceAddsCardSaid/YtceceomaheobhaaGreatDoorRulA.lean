/- rules: decimal, the tests of pairs. -/
import Derived.Test.YtceceomaheobhaaGreatDoorBase
import Derived.RangeFuncBox
namespace Go.Proofs.YtceceomaheobhaaGreatDoor.rul
open Go.RowKit
open Go.Proofs.YtceceomaheobhaaGreatDoor.lib Go.Proofs.YtceceomaheobhaaGreatDoor.rd Go.Proofs.YtceceomaheobhaaGreatDoor.eqg Go.Proofs.YtceceomaheobhaaGreatDoor.txt
set_option linter.unusedVariables false
set_option linter.unusedSimpArgs false

set_option maxHeartbeats 2000000 in
theorem dec1_any (n : Nat) (hn : n < 10) (w : World) : Calls Tryz.prog 107 #[.int .i64 n] w fun e w' => e = .returned (.string (decS n)) ∧ w = w' := by
  have : n = 0 ∨ n = 1 ∨ n = 2 ∨ n = 3 ∨ n = 4 ∨ n = 5 ∨ n = 6 ∨ n = 7 ∨ n = 8 ∨ n = 9 := by omega
  rcases this with rfl | rfl | rfl | rfl | rfl | rfl | rfl | rfl | rfl | rfl
  all_goals
    go_enter Tryz.func107, Tryz.ntmps107
    go_wp2
    go_ret
    exact ⟨rfl, rfl⟩
theorem dec_1 (w : World) : Calls Tryz.prog 107 #[.int .i64 1] w fun e w' => e = .returned (.string ⟨#[49]⟩) ∧ w = w' := dec1_any 1 (by decide) w
theorem dec_2 (w : World) : Calls Tryz.prog 107 #[.int .i64 2] w fun e w' => e = .returned (.string ⟨#[50]⟩) ∧ w = w' := dec1_any 2 (by decide) w
set_option maxHeartbeats 4000000 in
theorem decTens_any (n : Nat) (h0 : 10 ≤ n) (hn : n < 20) (w : World) : Calls Tryz.prog 107 #[.int .i64 n] w fun e w' => e = .returned (.string (decS n)) ∧ w = w' := by
  have : n = 10 ∨ n = 11 ∨ n = 12 ∨ n = 13 ∨ n = 14 ∨ n = 15 ∨ n = 16 ∨ n = 17 ∨ n = 18 ∨ n = 19 := by omega
  rcases this with rfl | rfl | rfl | rfl | rfl | rfl | rfl | rfl | rfl | rfl
  all_goals
    go_enter Tryz.func107, Tryz.ntmps107
    go_wp2_with fail
    refine (dec_1 _).mono ?_
    rintro e w1 ⟨rfl, rfl⟩
    go_wp2
    go_ret
    exact ⟨rfl, rfl⟩
set_option maxHeartbeats 4000000 in
theorem decTwen_any (n : Nat) (h0 : 20 ≤ n) (hn : n < 24) (w : World) : Calls Tryz.prog 107 #[.int .i64 n] w fun e w' => e = .returned (.string (decS n)) ∧ w = w' := by
  have : n = 20 ∨ n = 21 ∨ n = 22 ∨ n = 23 := by omega
  rcases this with rfl | rfl | rfl | rfl
  all_goals
    go_enter Tryz.func107, Tryz.ntmps107
    go_wp2_with fail
    refine (dec_2 _).mono ?_
    rintro e w1 ⟨rfl, rfl⟩
    go_wp2
    go_ret
    exact ⟨rfl, rfl⟩
theorem dec_any (n : Nat) (hn : n < 24) (w : World) : Calls Tryz.prog 107 #[.int .i64 n] w fun e w' => e = .returned (.string (decS n)) ∧ w = w' := by
  by_cases h : n < 10
  · exact dec1_any n h w
  · by_cases h2 : n < 20
    · exact decTens_any n (by omega) h2 w
    · exact decTwen_any n (by omega) hn w
def looseB (x y : Int × Int) : Bool := twoEq x y || (x.1 == y.2 && x.2 == y.1)
theorem two_run (x y : Int × Int) (w : World) : (Op.equalIn 10000 88 (.agg #[.int .i64 x.1, .int .i64 x.2]) (.agg #[.int .i64 y.1, .int .i64 y.2])).run Tryz.prog w = .ok (twoEq x y) w := by
  obtain ⟨i0, hi, _⟩ := info_parts int_info
  have h := arr.run_eq_ints (t := 88) w 9998 Tryz.underlying88 hi [x.1, x.2] [y.1, y.2] rfl rfl
  have e : decide ([x.1, x.2] = [y.1, y.2]) = twoEq x y := by
    unfold twoEq
    rw [Bool.eq_iff_iff]
    simp
  rw [e] at h
  exact h
theorem exact_any (x y : Int × Int) (w : World) : Calls Tryz.prog 70 #[.agg #[.int .i64 x.1, .int .i64 x.2], .agg #[.int .i64 y.1, .int .i64 y.2]] w fun e w' => e = .returned (.bool (twoEq x y)) ∧ Below w.heap.size w w' := by
  have heq := two_run x y
  obtain ⟨q, hq⟩ : ∃ q, twoEq x y = q := ⟨_, rfl⟩
  rw [hq] at heq ⊢
  clear hq
  go_enter Tryz.func70, Tryz.ntmps70
  go_wp2
  go_ret
  exact ⟨rfl, by repeat (first | assumption | exact Below.refl _ _ | refine Below.drew ?_ | refine Below.alloc ?_ (by first | omega | (simp <;> omega)) _ | refine Below.setCell ?_ (by first | omega | (simp <;> omega)) _)⟩
theorem loose_any (x y : Int × Int) (w : World) : Calls Tryz.prog 69 #[.agg #[.int .i64 x.1, .int .i64 x.2], .agg #[.int .i64 y.1, .int .i64 y.2]] w fun e w' => e = .returned (.bool (looseB x y)) ∧ Below w.heap.size w w' := by
  have heq := two_run x y
  have HR : Hid (looseB x y = (twoEq x y || (x.1 == y.2 && x.2 == y.1))) := Lib.hid rfl
  obtain ⟨q, hq⟩ : ∃ q, twoEq x y = q := ⟨_, rfl⟩
  rw [hq] at heq HR
  clear hq
  cases q
  · cases h1 : (x.1 == y.2)
    case true =>
      have HT : Hid (looseB x y = (x.2 == y.1)) := Lib.hid (by rw [HR.out, h1]; rfl)
      go_enter Tryz.func69, Tryz.ntmps69
      go_wp2
      go_ret
      exact ⟨ret_bool HT.out.symm, by repeat (first | assumption | exact Below.refl _ _ | refine Below.drew ?_ | refine Below.alloc ?_ (by first | omega | (simp <;> omega)) _ | refine Below.setCell ?_ (by first | omega | (simp <;> omega)) _)⟩
    case false =>
      have HT : Hid (looseB x y = false) := Lib.hid (by rw [HR.out, h1]; rfl)
      go_enter Tryz.func69, Tryz.ntmps69
      go_wp2
      go_ret
      exact ⟨ret_bool HT.out.symm, by repeat (first | assumption | exact Below.refl _ _ | refine Below.drew ?_ | refine Below.alloc ?_ (by first | omega | (simp <;> omega)) _ | refine Below.setCell ?_ (by first | omega | (simp <;> omega)) _)⟩
  · have HT : Hid (looseB x y = true) := Lib.hid (by rw [HR.out]; rfl)
    go_enter Tryz.func69, Tryz.ntmps69
    go_wp2
    go_ret
    exact ⟨ret_bool HT.out.symm, by repeat (first | assumption | exact Below.refl _ _ | refine Below.drew ?_ | refine Below.alloc ?_ (by first | omega | (simp <;> omega)) _ | refine Below.setCell ?_ (by first | omega | (simp <;> omega)) _)⟩
def rightB (n orders : Int) : Bool := decide (0 ≤ n) && decide (n < orders)
theorem right_any (n orders : Int) (b : Nat) (w : World) (hb : b < w.heap.size) (hc : w.cell? ⟨b, 0, none⟩ = some (.int .i64 orders)) : Calls Tryz.prog 106 #[.int .i64 n, .pointer (some ⟨b, 0, none⟩)] w fun e w' => e = .returned (.bool (rightB n orders)) ∧ w = w' := by
  by_cases h : 0 ≤ n
  all_goals
    go_enter Tryz.func106, Tryz.ntmps106
    go_wp2
    go_ret
    exact ⟨ret_bool (by unfold rightB; first | (simp [h]; done) | (simp; omega)), rfl⟩
end Go.Proofs.YtceceomaheobhaaGreatDoor.rul

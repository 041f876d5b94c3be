/- whole: Compare, Div. -/
import Derived.Test.YthcmopgdjibojaaGreatDoorWhoE
namespace Go.Proofs.YthcmopgdjibojaaGreatDoor.wh
open Go.RowKit
open Go.Lib (decDigits nDigits itoa decDigits_length nDigits_pos)
open Go.Proofs.YthcmopgdjibojaaGreatDoor.lib Go.Proofs.YthcmopgdjibojaaGreatDoor.app Go.Proofs.YthcmopgdjibojaaGreatDoor.nt Go.Proofs.YthcmopgdjibojaaGreatDoor.rd
set_option linter.unusedVariables false
set_option linter.unusedSimpArgs false

theorem wcompare_any (x y : Int) (hx : nDigits x.natAbs ≤ 1000000) (hy : nDigits y.natAbs ≤ 1000000) (w : World) :
    Calls Tryz.prog 120 #[.string (intS x), .string (intS y)] w fun e w' => e = .returned (.int .i64 (ordN x y)) ∧ w = w' := by
  have HX := Lib.hid (fun w => parts_any x hx w)
  have HY := Lib.hid (fun w => parts_any y hy w)
  rcases Int.lt_or_le x 0 with h | h <;> rcases Int.lt_or_le y 0 with h' | h'
  · have HC : Hid (∀ w, Calls Tryz.prog 153 #[.string (natS y.natAbs), .string (natS x.natAbs)] w fun e w' => e = .returned (.int .i64 (ordN x y)) ∧ w = w') := Lib.hid (fun w => by
      have h1 := wcmp_any y.natAbs x.natAbs hy hx w
      have e : ordN (y.natAbs : Int) (x.natAbs : Int) = ordN x y := by
        rcases Int.lt_trichotomy x y with h2 | h2 | h2
        · rw [ordN_lt h2, ordN_lt (by omega)]
        · rw [ordN_eq h2, ordN_eq (by omega)]
        · rw [ordN_gt h2, ordN_gt (by omega)]
      rw [e] at h1
      exact h1)
    rw [decide_eq_true h] at HX
    rw [decide_eq_true h'] at HY
    generalize ordN x y = v at HC ⊢
    generalize intS x = S at HX ⊢
    generalize intS y = T at HY ⊢
    generalize natS x.natAbs = D at HX HC
    generalize natS y.natAbs = E at HY HC
    clear h h' hx hy
    go_enter Tryz.func120, Tryz.ntmps120
    go_wp2_with (first | (go_at_call 113; (with_reducible refine (HX.out _).mono ?_); rintro e w1 ⟨rfl, rfl⟩) | (go_at_call 113; (with_reducible refine (HY.out _).mono ?_); rintro e w1 ⟨rfl, rfl⟩) | (go_at_call 153; (with_reducible refine (HC.out _).mono ?_); rintro e w1 ⟨rfl, rfl⟩))
    go_ret
    exact ⟨rfl, rfl⟩
  · have e : ordN x y = -1 := ordN_lt (by omega)
    rw [e]
    rw [decide_eq_true h] at HX
    rw [decide_eq_false (by omega)] at HY
    have HC := HX
    clear e
    generalize intS x = S at HX HC ⊢
    generalize intS y = T at HY ⊢
    generalize natS x.natAbs = D at HX HC
    generalize natS y.natAbs = E at HY
    clear h h' hx hy
    go_enter Tryz.func120, Tryz.ntmps120
    go_wp2_with (first | (go_at_call 113; (with_reducible refine (HX.out _).mono ?_); rintro e w1 ⟨rfl, rfl⟩) | (go_at_call 113; (with_reducible refine (HY.out _).mono ?_); rintro e w1 ⟨rfl, rfl⟩) | (go_at_call 153; (with_reducible refine (HC.out _).mono ?_); rintro e w1 ⟨rfl, rfl⟩))
    go_ret
    exact ⟨rfl, rfl⟩
  · have e : ordN x y = 1 := ordN_gt (by omega)
    rw [e]
    rw [decide_eq_false (by omega)] at HX
    rw [decide_eq_true h'] at HY
    have HC := HX
    clear e
    generalize intS x = S at HX HC ⊢
    generalize intS y = T at HY ⊢
    generalize natS x.natAbs = D at HX HC
    generalize natS y.natAbs = E at HY
    clear h h' hx hy
    go_enter Tryz.func120, Tryz.ntmps120
    go_wp2_with (first | (go_at_call 113; (with_reducible refine (HX.out _).mono ?_); rintro e w1 ⟨rfl, rfl⟩) | (go_at_call 113; (with_reducible refine (HY.out _).mono ?_); rintro e w1 ⟨rfl, rfl⟩) | (go_at_call 153; (with_reducible refine (HC.out _).mono ?_); rintro e w1 ⟨rfl, rfl⟩))
    go_ret
    exact ⟨rfl, rfl⟩
  · have HC : Hid (∀ w, Calls Tryz.prog 153 #[.string (natS x.natAbs), .string (natS y.natAbs)] w fun e w' => e = .returned (.int .i64 (ordN x y)) ∧ w = w') := Lib.hid (fun w => by
      have h1 := wcmp_any x.natAbs y.natAbs hx hy w
      have e : ordN (x.natAbs : Int) (y.natAbs : Int) = ordN x y := by
        rcases Int.lt_trichotomy x y with h2 | h2 | h2
        · rw [ordN_lt h2, ordN_lt (by omega)]
        · rw [ordN_eq h2, ordN_eq (by omega)]
        · rw [ordN_gt h2, ordN_gt (by omega)]
      rw [e] at h1
      exact h1)
    rw [decide_eq_false (by omega)] at HX
    rw [decide_eq_false (by omega)] at HY
    generalize ordN x y = v at HC ⊢
    generalize intS x = S at HX ⊢
    generalize intS y = T at HY ⊢
    generalize natS x.natAbs = D at HX HC
    generalize natS y.natAbs = E at HY HC
    clear h h' hx hy
    go_enter Tryz.func120, Tryz.ntmps120
    go_wp2_with (first | (go_at_call 113; (with_reducible refine (HX.out _).mono ?_); rintro e w1 ⟨rfl, rfl⟩) | (go_at_call 113; (with_reducible refine (HY.out _).mono ?_); rintro e w1 ⟨rfl, rfl⟩) | (go_at_call 153; (with_reducible refine (HC.out _).mono ?_); rintro e w1 ⟨rfl, rfl⟩))
    go_ret
    exact ⟨rfl, rfl⟩

/-! Div, by a number above 0. -/
theorem div_pos_ {x : Int} {n : Nat} (h : 0 ≤ x) : ((x.natAbs / n : Nat) : Int) = x / (n : Int) ∧ ((x.natAbs % n : Nat) : Int) = x % (n : Int) := by
  obtain ⟨m, rfl⟩ : ∃ m : Nat, x = m := ⟨x.toNat, by omega⟩
  simp
theorem div_neg0 {x : Int} {n : Nat} (hn : 0 < n) (h : x < 0) (hr : x.natAbs % n = 0) : -((x.natAbs / n : Nat) : Int) = x / (n : Int) ∧ (0 : Int) = x % (n : Int) := by
  obtain ⟨m, rfl⟩ : ∃ m : Nat, x = -(m : Int) := ⟨x.natAbs, by omega⟩
  rw [Int.natAbs_neg, Int.natAbs_natCast] at hr ⊢
  have hd := Nat.div_add_mod m n
  rw [hr, Nat.add_zero] at hd
  have e : -(m : Int) = (n : Int) * -((m / n : Nat) : Int) := by rw [← hd, Nat.mul_div_cancel_left _ hn, Int.natCast_mul, Int.mul_neg]
  rw [e]
  exact ⟨by rw [Int.mul_ediv_cancel_left _ (by omega)], by rw [Int.mul_emod_right]⟩
theorem div_neg1 {x : Int} {n : Nat} (hn : 0 < n) (h : x < 0) (hr : x.natAbs % n ≠ 0) : -((x.natAbs / n + 1 : Nat) : Int) = x / (n : Int) ∧ ((n - x.natAbs % n : Nat) : Int) = x % (n : Int) := by
  obtain ⟨m, rfl⟩ : ∃ m : Nat, x = -(m : Int) := ⟨x.natAbs, by omega⟩
  rw [Int.natAbs_neg, Int.natAbs_natCast] at hr ⊢
  have hd := Nat.div_add_mod m n
  have hlt := Nat.mod_lt m hn
  have e : -(m : Int) = ((n - m % n : Nat) : Int) + (n : Int) * -((m / n + 1 : Nat) : Int) := by
    have : (m : Int) = (n : Int) * ((m / n : Nat) : Int) + ((m % n : Nat) : Int) := by exact_mod_cast hd.symm
    rw [this, Int.natCast_sub (by omega), Int.natCast_add]
    grind
  rw [e, Int.add_mul_ediv_left _ _ (by omega), Int.add_mul_emod_self_left]
  refine ⟨?_, ?_⟩
  · rw [Int.ediv_eq_zero_of_lt (by omega) (by omega)]; omega
  · rw [Int.emod_eq_of_lt (by omega) (by omega)]
end Go.Proofs.YthcmopgdjibojaaGreatDoor.wh

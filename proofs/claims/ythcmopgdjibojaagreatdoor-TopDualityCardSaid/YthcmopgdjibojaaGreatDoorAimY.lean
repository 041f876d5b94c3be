import Derived.Test.YthcmopgdjibojaaGreatDoorAimX
import Derived.Test.YthcmopgdjibojaaGreatDoorC2
import Derived.Deep.RegionWith
/- price: split, join, foreign, Weight. -/
namespace Go.Proofs.YthcmopgdjibojaaGreatDoor.aim
open Go.RowKit
open Go.Proofs.YthcmopgdjibojaaGreatDoor.lib Go.Proofs.YthcmopgdjibojaaGreatDoor.rd Go.Proofs.YthcmopgdjibojaaGreatDoor.typ Go.Proofs.YthcmopgdjibojaaGreatDoor.app Go.Proofs.YthcmopgdjibojaaGreatDoor.note
set_option linter.unusedVariables false
set_option linter.unusedSimpArgs false

theorem split_any (s : Sco) (w : World) : Calls Tryz.prog 55 #[.agg #[.int .i64 s.cost, .int .i64 s.moved, .int .i64 s.other, .int .i64 s.work]] w fun e w' => e = .returned (.agg #[.int .i64 s.cost, .int .i64 s.moved, .int .i64 s.other, .int .i64 s.work]) ∧ Below w.heap.size w w' := by
  go_enter Tryz.func55, Tryz.ntmps55
  go_wp2
  exact bodyPost_ret (v := .agg #[.int .i64 s.cost, .int .i64 s.moved, .int .i64 s.other, .int .i64 s.work]) (by simp [results, Tryz.results55, go_sem]) rfl ⟨rfl, by repeat (first | assumption | exact Below.refl _ _ | refine Below.drew ?_ | refine Below.alloc ?_ (by first | omega | (simp <;> omega)) _ | refine Below.setCell ?_ (by first | omega | (simp <;> omega)) _)⟩
end Go.Proofs.YthcmopgdjibojaaGreatDoor.aim

/- price.Add and price.Compare. -/
namespace Go.Proofs.YthcmopgdjibojaaGreatDoor.aim
open Go.RowKit
open Go.Proofs.YthcmopgdjibojaaGreatDoor.lib Go.Proofs.YthcmopgdjibojaaGreatDoor.rd Go.Proofs.YthcmopgdjibojaaGreatDoor.typ Go.Proofs.YthcmopgdjibojaaGreatDoor.app Go.Proofs.YthcmopgdjibojaaGreatDoor.note
set_option linter.unusedVariables false
set_option linter.unusedSimpArgs false

theorem nan_any (a : Int) (w : World) : Calls Tryz.prog 99 #[.int .i64 a] w fun e w' => e = .returned (.bool false) ∧ w = w' := by
  go_enter Tryz.func99, Tryz.ntmps99
  go_wp2
  go_ret
  exact ⟨ret_bool (by simp), rfl⟩
set_option maxHeartbeats 2000000 in
theorem cmpI_any (a b : Int) (w : World) : Calls Tryz.prog 56 #[.int .i64 a, .int .i64 b] w fun e w' => e = .returned (.int .i64 (ordF a b)) ∧ w = w' := by
  rcases Int.lt_trichotomy a b with h | h | h
  · have h2 : ¬ b < a := by omega
    have HR : Hid (ordF a b = -1) := Lib.hid (by unfold ordF; rw [if_pos h])
    go_enter Tryz.func56, Tryz.ntmps56
    go_wp2_with (go_at_call 99; refine (nan_any _ _).mono ?_; rintro e w1 ⟨rfl, rfl⟩)
    go_ret
    exact ⟨by rw [HR.out]; rfl, rfl⟩
  · subst h
    have h2 : ¬ a < a := by omega
    have HR : Hid (ordF a a = 0) := Lib.hid (by unfold ordF; rw [if_neg h2, if_neg h2])
    go_enter Tryz.func56, Tryz.ntmps56
    go_wp2_with (go_at_call 99; refine (nan_any _ _).mono ?_; rintro e w1 ⟨rfl, rfl⟩)
    go_ret
    exact ⟨by rw [HR.out]; rfl, rfl⟩
  · have h2 : ¬ a < b := by omega
    have HR : Hid (ordF a b = 1) := Lib.hid (by unfold ordF; rw [if_neg h2, if_pos h])
    go_enter Tryz.func56, Tryz.ntmps56
    go_wp2_with (go_at_call 99; refine (nan_any _ _).mono ?_; rintro e w1 ⟨rfl, rfl⟩)
    go_ret
    exact ⟨by rw [HR.out]; rfl, rfl⟩
end Go.Proofs.YthcmopgdjibojaaGreatDoor.aim

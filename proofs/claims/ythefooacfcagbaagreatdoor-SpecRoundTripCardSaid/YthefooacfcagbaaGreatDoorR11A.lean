/- Small functions of the references: ranges, right loads, windows. -/
import Derived.Test.YthefooacfcagbaaGreatDoorBase
namespace Go.Proofs.YthefooacfcagbaaGreatDoor.loads
open Go.RowKit
open lib
set_option linter.unusedVariables false
set_option linter.unusedSimpArgs false
theorem right6_any (A : Option Addr) (c : Nat) (l : List Int) (d : Int) (w : World) (B : Nat) (hl : Ints w B A l) :
  Calls Tryz.prog 138 #[.slice A l.length c, .int .i64 d] w fun e w' => e = .returned (.bool (rightB l d)) ∧ w = w' := by
 have hlen := hl.len
 by_cases hd : (l.length : Int) = d
 ·subst hd
  go_enter Tryz.func138, Tryz.ntmps138
  go_wp2
  go_loop [5] (fun i => ∃ k : Nat, k ≤ l.length ∧ i = .int .i64 k ∧ Hid ((l.all fun x => decide (0 ≤ x ∧ x ≤ 1000)) = ((l.drop k).all fun x => decide (0 ≤ x ∧ x ≤ 1000)))) (fun i => l.length - (intOf i).toNat)
  case atStart => exact ⟨0, by omega, rfl, Lib.hid rfl⟩
  case round =>
   obtain ⟨k, hk, rfl, hr⟩ := hrel
   by_cases hlt : k < l.length
   ·obtain ⟨ad, x, rfl, hadb, hx, hcx⟩ := hl.at_ hlt
    have HX := Lib.hid (all_take (p := fun x => decide (0 ≤ x ∧ x ≤ 1000)) hx)
    clear hx
    go_wp2
    ·go_ret
     exact ⟨ret_bool (by unfold rightB; rw [hr.out, HX.out, decide_eq_false (by omega)]; rfl), rfl⟩
    ·go_round
     case rel => exact ⟨k + 1, by omega, by go_num, Lib.hid (by rw [hr.out, HX.out, decide_eq_true (by omega)]; rfl)⟩
     case measure => simp [intOf]; omega
    ·go_ret
     exact ⟨ret_bool (by unfold rightB; rw [hr.out, HX.out, decide_eq_false (by omega)]; rfl), rfl⟩
   ·have hkn : k = l.length := by omega
    subst hkn
    clear hlt
    go_wp2
    go_ret
    exact ⟨ret_bool (by unfold rightB; rw [hr.out, List.drop_length]; simp), rfl⟩
 ·have hd2 : ((l.length : Int) == d) = false := by simp [hd]
  have hd3 : ((l.length : Int) != d) = true := by simp [hd]
  have HD : Hid (decide ((l.length : Int) = d) = false) := Lib.hid (by simp [hd])
  clear hd
  go_enter Tryz.func138, Tryz.ntmps138
  go_wp2
  go_ret
  exact ⟨ret_bool (by unfold rightB; rw [HD.out, Bool.and_false]), rfl⟩
end Go.Proofs.YthefooacfcagbaaGreatDoor.loads
namespace Go.Proofs.YthefooacfcagbaaGreatDoor.win
open Go.RowKit
set_option linter.unusedVariables false
set_option linter.unusedSimpArgs false
set_option maxHeartbeats 1000000 in
theorem rcheck_any (p o c v : Int) (w : World) : Calls Tryz.prog 140 #[stop p o c v] w fun e w' => e = .returned (.int .i64 (chk p o c v)) ∧ Below w.heap.size w w' := by
 go_enter Tryz.func140, Tryz.ntmps140
 go_wp2
 all_goals go_ret
 all_goals refine ⟨ret_int ?_, by repeat (first | exact Below.refl _ _ | refine Below.alloc ?_ (by simp) _ | refine Below.setCell ?_ (by simp) _)⟩
 all_goals unfold chk Good
 all_goals try simp only [beq_iff_eq, beq_eq_false_iff_ne, ne_eq] at *
 all_goals (split <;> first | rfl | omega)
end Go.Proofs.YthefooacfcagbaaGreatDoor.win
namespace Go.Proofs.YthefooacfcagbaaGreatDoor.rord
open Go.RowKit
open lib note
set_option linter.unusedVariables false
set_option linter.unusedSimpArgs false
theorem rin_any (a b c : Int) (w : World) : Calls Tryz.prog 139 #[.int .i64 a, .int .i64 b, .int .i64 c] w fun e w' => e = .returned (.bool (inB a b c)) ∧ w = w' := by
 by_cases h : b ≤ a
 all_goals
  go_enter Tryz.func139, Tryz.ntmps139
  go_wp2
  go_ret
  exact ⟨lib.ret_bool (by unfold inB; first | (simp [h]; done) | (simp; omega)), rfl⟩
end Go.Proofs.YthefooacfcagbaaGreatDoor.rord

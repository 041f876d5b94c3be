/- loads.Right: portable part of LoadA. -/
import Derived.Test.YtceceomaheobhaaDoorLib
import Derived.Test.YtceceomaheobhaaDoorLoadP
import Derived.Deep.QuietTactic
import Derived.BigQuiet
namespace Go.Proofs.YtceceomaheobhaaDoor.loads
open Go.RowKit
open Go.Proofs.YtceceomaheobhaaDoor.lib
set_option linter.unusedVariables false

theorem right_any (A : Option Addr) (c : Nat) (l : List Int) (d : Int) (w : World) (B : Nat) (hl : Ints w B A l) :
    Calls Tryd.prog 69 #[.slice A l.length c, .int .i64 d] w fun e w' => e = .returned (.bool (rightB l d)) ∧ w = w' := by
  have hlen := hl.len
  go_enter Tryd.func69, Tryd.ntmps69
  go_wp2
  go_loop [6, 9] (fun _ i => ∃ k : Nat, k ≤ l.length ∧ i = .int .i64 k ∧ Hid ((l.all fun x => decide (0 ≤ x ∧ x ≤ 1000)) = ((l.drop k).all fun x => decide (0 ≤ x ∧ x ≤ 1000)))) (fun _ i => l.length - (intOf i).toNat)
  case atStart => exact ⟨0, by omega, rfl, Lib.hid rfl⟩
  case round =>
    obtain ⟨k, hk, rfl, hr⟩ := hrel
    by_cases hlt : k < l.length
    · obtain ⟨ad, x, rfl, hadb, hx, hcx⟩ := hl.at_ hlt
      have HX := Lib.hid (all_take (p := fun x => decide (0 ≤ x ∧ x ≤ 1000)) hx)
      clear hx
      go_wp2
      · go_ret
        exact ⟨ret_bool (by unfold rightB; rw [hr.out, HX.out, decide_eq_false (by omega)]; rfl), rfl⟩
      · go_round
        case rel => exact ⟨k + 1, by omega, by go_num, Lib.hid (by rw [hr.out, HX.out, decide_eq_true (by omega)]; rfl)⟩
        case measure => simp [intOf]; omega
      · go_ret
        exact ⟨ret_bool (by unfold rightB; rw [hr.out, HX.out, decide_eq_false (by omega)]; rfl), rfl⟩
    · have hkn : k = l.length := by omega
      subst hkn
      clear hlt
      go_wp2
      go_ret
      exact ⟨ret_bool (by unfold rightB; rw [hr.out, List.drop_length, Bool.eq_iff_iff]; simp), rfl⟩
end Go.Proofs.YtceceomaheobhaaDoor.loads

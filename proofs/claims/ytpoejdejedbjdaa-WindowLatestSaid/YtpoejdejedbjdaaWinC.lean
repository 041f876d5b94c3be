/- The small laws of the window: awake and stop return what they should; which stops are right. -/
import Derived.Test.YtpoejdejedbjdaaWinA
import Derived.Deep.RegionHeld3
import Derived.Deep.DrawnRows
namespace Go.Proofs.Ytpoejdejedbjdaa.win
open Go.RowKit
set_option linter.unusedVariables false
attribute [local go_sem ↓] Go.wp_at_zero Go.wp_at_succ

theorem awake_any (w : World) : Calls Try.prog 13 #[] w fun e w' => e = .returned (.bool true) ∧ Below w.heap.size w w' := by
  go_enter Try.func13, Try.ntmps13
  go_wp2
  go_ret
  exact ⟨rfl, by repeat (first | exact Below.refl _ _ | refine Below.drew ?_ | refine Below.alloc ?_ (by simp <;> omega) _ | refine Below.setCell ?_ (by simp <;> omega) _)⟩

def stopB (p o c v : Int) : Bool := decide (Good p o c v)
theorem stop_any (p o c v : Int) (w : World) : Calls Try.prog 14 #[stop p o c v] w fun e w' => e = .returned (.bool (stopB p o c v)) ∧ Below w.heap.size w w' := by
  go_enter Try.func14, Try.ntmps14
  go_wp2_with (go_at_call 12; refine (rcheck_any _ _ _ _ _).mono ?_; rintro e w1 ⟨rfl, hb⟩; have hz := hb.size; have hc := fun b o h => hb.cell (p := ⟨b, o, none⟩) h; (try simp at hz); have hy : w.heap.size < w1.heap.size := by omega)
  all_goals go_ret
  all_goals refine ⟨ret_bool ?_, by repeat (first | exact Below.refl _ _ | refine Below.trans ?_ (hb.mono (by simp)) | refine Below.drew ?_ | refine Below.alloc ?_ (by simp <;> omega) _ | refine Below.setCell ?_ (by simp <;> omega) _)⟩
  · have h : chk p o c v = 0 := by assumption
    unfold chk at h
    unfold stopB
    split at h
    · rename_i h1
      rcases h1 with h1 | h1
      · simp [Good, h1.1]
      · simp [h1, h1.1]
    · cases h
  · have h : ¬ chk p o c v = 0 := by assumption
    unfold chk at h
    unfold stopB
    split at h
    · exact absurd rfl h
    · rename_i h1
      simp at h1
      simp [h1]

theorem law_checks (p o c v : Int) (w : World) : Calls Try.prog 3 #[stop p o c v] w fun e w' => e = .returned (.bool true) ∧ Below w.heap.size w w' := by
  have hq : (chk p o c v == chk p o c v) = true := by simp
  go_enter Try.func3, Try.ntmps3
  go_wp2
  go_region_held3 (fun w' => w'.cell? ⟨w.heap.size, 0, none⟩ = some (.int .i64 p) ∧ w'.cell? ⟨w.heap.size, 1, none⟩ = some (.int .i64 o) ∧ w'.cell? ⟨w.heap.size, 2, none⟩ = some (.int .i64 c) ∧ w'.cell? ⟨w.heap.size, 3, none⟩ = some (.int .i64 v)) (go_keep)
    (first
      | (go_at_call 11; refine (check_any p o c v _).mono ?_; rintro e w1 ⟨rfl, hb⟩; have hz := hb.size; have hc := fun b o h => hb.cell (p := ⟨b, o, none⟩) h; (try simp at hz); have hy : w.heap.size < w1.heap.size := by omega)
      | (go_at_call 12; refine (rcheck_any p o c v _).mono ?_; rintro e w2 ⟨rfl, hb2⟩; have hz2 := hb2.size; have hc2 := fun b o h => hb2.cell (p := ⟨b, o, none⟩) h; (try simp at hz2); have hy2 : w.heap.size < w2.heap.size := by omega)
      | (go_at_call 13; refine (awake_any _).mono ?_; rintro e w3 ⟨rfl, hb3⟩; have hc3 := fun b o h => hb3.cell (p := ⟨b, o, none⟩) h))
  go_wp2
  go_ret
  exact ⟨rfl, by
    refine Below.trans (b := w1) ?_ (Below.trans (b := w2) (hb2.mono (by omega)) (hb3.mono (by omega)))
    exact (((Below.refl _ _).alloc (Nat.le_refl _) _).drew).trans (hb.mono (by simp))⟩

end Go.Proofs.Ytpoejdejedbjdaa.win

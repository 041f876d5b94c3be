/- Names: of the program and of the reference. -/
import Derived.Test.YtceceomaheobhaaDoorLib
namespace Go.Proofs.YtceceomaheobhaaDoor.txt
open Go.RowKit
open Go.Proofs.YtceceomaheobhaaDoor.lib
set_option linter.unusedVariables false

def digB (c : Int) : Bool := decide (48 ≤ c ∧ c ≤ 57)
def letB (c : Int) : Bool := decide ((97 ≤ c ∧ c ≤ 122) ∨ (65 ≤ c ∧ c ≤ 90) ∨ c = 95)
def chrB (c : UInt8) : Bool := letB (c.toNat : Int) || digB (c.toNat : Int)
/-- A name. -/
def nameB (s : ByteArray) : Bool := decide (1 ≤ s.size ∧ s.size ≤ 16) && !digB ((s.data.toList.headD 0).toNat : Int) && s.data.toList.all chrB

theorem digit_any (c : Int) (w : World) : Calls Tryd.prog 57 #[.int .u8 c] w fun e w' => e = .returned (.bool (digB c)) ∧ w = w' := by
  by_cases h1 : 48 ≤ c
  · by_cases h2 : c ≤ 57
    · have h : digB c = true := by unfold digB; rw [decide_eq_true ⟨h1, h2⟩]
      rw [h]
      go_enter Tryd.func57, Tryd.ntmps57
      go_wp2
      go_ret
      exact ⟨ret_bool (by simp <;> omega), rfl⟩
    · have h : digB c = false := by unfold digB; rw [decide_eq_false (by omega)]
      rw [h]
      go_enter Tryd.func57, Tryd.ntmps57
      go_wp2
      go_ret
      exact ⟨ret_bool (by simp <;> omega), rfl⟩
  · have h : digB c = false := by unfold digB; rw [decide_eq_false (by omega)]
    rw [h]
    go_enter Tryd.func57, Tryd.ntmps57
    go_wp2
    go_ret
    exact ⟨ret_bool (by simp <;> omega), rfl⟩
theorem letter_any (c : Int) (w : World) : Calls Tryd.prog 58 #[.int .u8 c] w fun e w' => e = .returned (.bool (letB c)) ∧ w = w' := by
  obtain ⟨R, hR⟩ : ∃ R, letB c = R := ⟨_, rfl⟩
  rw [hR]
  have HR : Hid (letB c = R) := Lib.hid hR
  clear hR
  by_cases h1 : 97 ≤ c
  · by_cases h2 : c ≤ 122
    all_goals
      go_enter Tryd.func58, Tryd.ntmps58
      go_wp2
      all_goals go_ret
      all_goals exact ⟨ret_bool (by rw [← HR.out]; unfold letB; rw [Bool.eq_iff_iff]; simp; omega), rfl⟩
  · by_cases h3 : 65 ≤ c
    · by_cases h4 : c ≤ 90
      all_goals
        go_enter Tryd.func58, Tryd.ntmps58
        go_wp2
        all_goals go_ret
        all_goals exact ⟨ret_bool (by rw [← HR.out]; unfold letB; rw [Bool.eq_iff_iff]; simp; omega), rfl⟩
    · go_enter Tryd.func58, Tryd.ntmps58
      go_wp2
      all_goals go_ret
      all_goals exact ⟨ret_bool (by rw [← HR.out]; unfold letB; rw [Bool.eq_iff_iff]; simp; omega), rfl⟩

theorem loop_len (s : ByteArray) : ∀ (m i : Nat) (r : List UInt8), s.size - i = m → (ByteArray.toList.loop s i r).length = r.length + m
  | 0, i, r, h => by
    rw [ByteArray.toList.loop, if_neg (by omega)]
    simp
  | m + 1, i, r, h => by
    rw [ByteArray.toList.loop, if_pos (by omega), loop_len s m (i + 1) _ (by omega)]
    simp; omega
theorem isEmpty_eq (s : ByteArray) : s.toList.isEmpty = decide (s.size = 0) := by
  have h := loop_len s s.size 0 [] (by omega)
  have e : s.toList.length = s.size := by simpa [ByteArray.toList] using h
  rw [Bool.eq_iff_iff, List.isEmpty_iff_length_eq_zero, e, decide_eq_true_eq]

end Go.Proofs.YtceceomaheobhaaDoor.txt

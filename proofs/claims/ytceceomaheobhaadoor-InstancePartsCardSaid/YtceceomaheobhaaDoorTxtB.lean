/- Names: Name of the program and of the reference, walked. -/
import Derived.Test.YtceceomaheobhaaDoorTxtA
namespace Go.Proofs.YtceceomaheobhaaDoor.txt
open Go.RowKit
open Go.Proofs.YtceceomaheobhaaDoor.lib
set_option linter.unusedVariables false

theorem all_step (s : ByteArray) (k : Nat) (h : k < s.size) : (s.data.toList.drop k).all chrB = (chrB s[k] && (s.data.toList.drop (k + 1)).all chrB) := by
  have hl : k < s.data.toList.length := by simpa using h
  rw [List.drop_eq_getElem_cons hl, List.all_cons]
  congr 1
theorem head_at (s : ByteArray) (h : 0 < s.size) : s.data.toList.headD 0 = s[0] := by
  have hl : 0 < s.data.toList.length := by simpa using h
  rw [List.headD_eq_head?_getD, List.head?_eq_getElem?, List.getElem?_eq_getElem hl]
  rfl

set_option maxHeartbeats 1000000 in
theorem name_any (s : ByteArray) (hm : s.size ≤ 140737488351232) (w : World) : Calls Tryd.prog 46 #[.string s] w fun e w' => e = .returned (.bool (nameB s)) ∧ w = w' := by
  obtain ⟨R, hR⟩ : ∃ R, nameB s = R := ⟨_, rfl⟩
  rw [hR]
  have HR : Hid (nameB s = R) := Lib.hid hR
  clear hR
  have hE := isEmpty_eq s
  by_cases h0 : 1 ≤ s.size
  · rw [decide_eq_false (by omega)] at hE
    have hE2 : ¬ s.toList = [] := by intro e; rw [e] at hE; cases hE
    have g3 : (0 : Int) < (s.size : Int) := by omega
    have g4 : (1 : Int) ≤ (s.size : Int) := by omega
    by_cases h1 : s.size ≤ 16
    · have g2 : ¬ (16 : Int) < (s.size : Int) := by omega
      have hlt0 : 0 < s.size := by omega
      cases hd : digB (s[0].toNat : Int)
      · have HN : Hid (R = s.data.toList.all chrB) := Lib.hid (by
          rw [← HR.out]
          unfold nameB
          rw [decide_eq_true ⟨h0, h1⟩, head_at s hlt0, hd]
          rfl)
        clear h0 h1
        go_enter Tryd.func46, Tryd.ntmps46
        go_wp2_with (go_at_call 57; refine (digit_any _ _).mono ?_; rintro e w1 ⟨rfl, rfl⟩)
        go_loop [3, 18] (fun _ i => ∃ k : Nat, k ≤ s.size ∧ i = .int .i64 k ∧ Hid (R = (s.data.toList.drop k).all chrB)) (fun _ i => s.size - (intOf i).toNat)
        case atStart => exact ⟨0, by omega, rfl, HN⟩
        case round =>
          obtain ⟨k, hk, rfl, hr⟩ := hrel
          by_cases hlt : k < s.size
          · have hst := Lib.hid (all_step s k hlt)
            cases hl : letB (s[k].toNat : Int)
            · cases hg : digB (s[k].toNat : Int)
              · have HF : Hid (R = false) := Lib.hid (by rw [hr.out, hst.out]; unfold chrB; rw [hl, hg]; rfl)
                go_wp2_with (first | (go_at_call 58; refine (letter_any _ _).mono ?_; rintro e w1 ⟨rfl, rfl⟩) | (go_at_call 57; refine (digit_any _ _).mono ?_; rintro e w1 ⟨rfl, rfl⟩))
                go_ret
                exact ⟨ret_bool HF.out.symm, rfl⟩
              · have HF : Hid (R = (s.data.toList.drop (k + 1)).all chrB) := Lib.hid (by rw [hr.out, hst.out]; unfold chrB; rw [hl, hg]; rfl)
                go_wp2_with (first | (go_at_call 58; refine (letter_any _ _).mono ?_; rintro e w1 ⟨rfl, rfl⟩) | (go_at_call 57; refine (digit_any _ _).mono ?_; rintro e w1 ⟨rfl, rfl⟩))
                go_round
                case rel => exact ⟨k + 1, by omega, by go_num, HF⟩
                case measure => simp [intOf]; omega
            · have HF : Hid (R = (s.data.toList.drop (k + 1)).all chrB) := Lib.hid (by rw [hr.out, hst.out]; unfold chrB; rw [hl]; rfl)
              go_wp2_with (first | (go_at_call 58; refine (letter_any _ _).mono ?_; rintro e w1 ⟨rfl, rfl⟩) | (go_at_call 57; refine (digit_any _ _).mono ?_; rintro e w1 ⟨rfl, rfl⟩))
              go_round
              case rel => exact ⟨k + 1, by omega, by go_num, HF⟩
              case measure => simp [intOf]; omega
          · have HF : Hid (R = true) := Lib.hid (by rw [hr.out, List.drop_of_length_le (by simp; omega)]; rfl)
            go_wp2
            go_ret
            exact ⟨ret_bool HF.out.symm, rfl⟩
      · have HN : Hid (R = false) := Lib.hid (by
          rw [← HR.out]
          unfold nameB
          rw [head_at s hlt0, hd]
          simp)
        clear h0 h1
        go_enter Tryd.func46, Tryd.ntmps46
        go_wp2_with (go_at_call 57; refine (digit_any _ _).mono ?_; rintro e w1 ⟨rfl, rfl⟩)
        go_ret
        exact ⟨ret_bool HN.out.symm, rfl⟩
    · have HN : Hid (R = false) := Lib.hid (by
        rw [← HR.out]
        unfold nameB
        rw [decide_eq_false (by omega)]
        rfl)
      have g2 : (16 : Int) < (s.size : Int) := by omega
      clear h0 h1
      go_enter Tryd.func46, Tryd.ntmps46
      go_wp2
      go_ret
      exact ⟨ret_bool HN.out.symm, rfl⟩
  · have HN : Hid (R = false) := Lib.hid (by
      rw [← HR.out]
      unfold nameB
      rw [decide_eq_false (by omega)]
      rfl)
    rw [decide_eq_true (by omega)] at hE
    have hE2 : s.toList = [] := List.isEmpty_iff.1 hE
    have hz : (s.size : Int) < 1 := by omega
    clear h0 hE
    go_enter Tryd.func46, Tryd.ntmps46
    go_wp2
    go_ret
    exact ⟨ret_bool HN.out.symm, rfl⟩
end Go.Proofs.YtceceomaheobhaaDoor.txt

/- The parts of a line: text.quoted, text.word, text.escaped, text.Unquote, text.part. -/
import Derived.Test.YthefooacfcagbaaGreatDoorStrA
import Derived.Test.YthefooacfcagbaaGreatDoorStrW
import Derived.Test.YthefooacfcagbaaGreatDoorBase
import Derived.Deep.QuietTactic
import Derived.BigQuiet
import Derived.OwnWalk
import Derived.Lib.IndexLaws
namespace Go.Proofs.YthefooacfcagbaaGreatDoor.txt
open Go.RowKit
open Go.Proofs.YthefooacfcagbaaGreatDoor.lib Go.Proofs.YthefooacfcagbaaGreatDoor.app
set_option linter.unusedVariables false

/-- The length of what stands in quotation marks: not more than the text. -/
theorem quoted_any (s : ByteArray) (hm : s.size ≤ 140737488351232) (w : World) : Calls Tryz.prog 146 #[.string s] w fun e w' => ∃ n : Nat, e = .returned (.int .i64 n) ∧ n ≤ s.size ∧ w = w' := by
  go_enter Tryz.func146, Tryz.ntmps146
  go_upto_region 2 with fail
  go_loop [3] (fun i => ∃ k : Nat, 1 ≤ k ∧ k ≤ s.size + 1 ∧ i = .int .i64 k) (fun i => s.size + 2 - (intOf i).toNat)
  case atStart => exact ⟨1, by omega, by omega, rfl⟩
  case round =>
    obtain ⟨k, hk1, hk, rfl⟩ := hrel
    by_cases hlt : k < s.size
    · by_cases h1 : (s[k].toNat : Int) = 92
      · go_wp2
        go_round
        case rel => exact ⟨k + 2, by omega, by omega, by go_num⟩
        case measure => simp [intOf]; omega
      · by_cases h2 : (s[k].toNat : Int) = 34
        · go_wp2
          go_ret
          exact ⟨k + 1, by go_num, by omega, rfl⟩
        · go_wp2
          go_round
          case rel => exact ⟨k + 1, by omega, by omega, by go_num⟩
          case measure => simp [intOf]; omega
    · go_wp2
      go_ret
      exact ⟨0, rfl, by omega, rfl⟩

theorem isW_int (c : UInt8) : isW c = decide (33 ≤ (c.toNat : Int) ∧ (c.toNat : Int) ≤ 126 ∧ (c.toNat : Int) ≠ 34) := by
  unfold isW
  rw [Bool.eq_iff_iff, decide_eq_true_eq, decide_eq_true_eq]
  omega
theorem isW_no {c : UInt8} (h : isW c = false) : (c.toNat : Int) ≤ 32 ∨ 126 < (c.toNat : Int) ∨ (c.toNat : Int) = 34 := by
  rw [isW_int, decide_eq_false_iff_not] at h
  omega
theorem isW_yes {c : UInt8} (h : isW c = true) : ¬ (c.toNat : Int) ≤ 32 ∧ ¬ 126 < (c.toNat : Int) ∧ ¬ (c.toNat : Int) = 34 := by
  rw [isW_int, decide_eq_true_eq] at h
  omega
theorem at_data (s : ByteArray) (k : Nat) (hk : k < s.size) : s.data.toList[k]? = some s[k] := at_list (toList_data s) k hk
/-- text.word. -/
theorem word_any (s : ByteArray) (hm : s.size ≤ 140737488351232) (w : World) : Calls Tryz.prog 149 #[.string s] w fun e w' => e = .returned (.bool (wordB s.data.toList)) ∧ w = w' := by
  have hsl := toList_data s
  obtain ⟨R, hR⟩ : ∃ R, wordB s.data.toList = R := ⟨_, rfl⟩
  rw [hR]
  have HR := Lib.hid hR
  clear hR
  go_enter Tryz.func149, Tryz.ntmps149
  go_upto_region 2 with fail
  go_loop [3, 6] (fun _ i => ∃ k : Nat, k ≤ s.size ∧ i = .int .i64 k ∧ Hid (s.data.toList.all isW = (s.data.toList.drop k).all isW)) (fun _ i => s.size - (intOf i).toNat)
  case atStart => exact ⟨0, by omega, rfl, Lib.hid rfl⟩
  case round =>
    obtain ⟨k, hk, rfl, hr⟩ := hrel
    by_cases hlt : k < s.size
    · have hst : Hid ((s.data.toList.drop k).all isW = (isW s[k] && (s.data.toList.drop (k + 1)).all isW)) := Lib.hid (by
        rw [drop_at' (at_data s k hlt), List.all_cons])
      cases hg : isW s[k]
      · have HF : Hid (R = false) := Lib.hid (by rw [← HR.out]; unfold wordB; rw [hr.out, hst.out, hg]; simp)
        have hno := isW_no hg
        clear hg hsl
        rcases hno with h | h | h
        · go_wp2
          go_ret
          exact ⟨ret_bool HF.out.symm, rfl⟩
        · have h2 : ¬ (s[k].toNat : Int) ≤ 32 := by omega
          go_wp2
          go_ret
          exact ⟨ret_bool HF.out.symm, rfl⟩
        · go_wp2
          go_ret
          exact ⟨ret_bool HF.out.symm, rfl⟩
      · have HF : Hid (s.data.toList.all isW = (s.data.toList.drop (k + 1)).all isW) := Lib.hid (by rw [hr.out, hst.out, hg]; rfl)
        obtain ⟨h1, h2, h3⟩ := isW_yes hg
        clear hg hsl
        go_wp2
        go_round
        case rel => exact ⟨k + 1, by omega, by go_num, HF⟩
        case measure => simp [intOf]; omega
    · have HF : Hid (R = !s.toList.isEmpty) := Lib.hid (by
        rw [← HR.out]
        unfold wordB
        rw [hr.out, List.drop_of_length_le (by simp; omega), hsl]
        cases s.data.toList <;> rfl)
      clear hsl
      go_wp2
      go_ret
      exact ⟨ret_bool HF.out.symm, rfl⟩

def hexL : By := [48, 49, 50, 51, 52, 53, 54, 55, 56, 57, 97, 98, 99, 100, 101, 102]
theorem index_lt : ∀ (l : By) (c : UInt8), Lib.indexByte l c < l.length
  | [], _ => by unfold Lib.indexByte; decide
  | b :: l, c => by
    have h := index_lt l c
    unfold Lib.indexByte
    rw [List.length_cons]
    split
    · omega
    · split
      · omega
      · omega
theorem hex_any (c : UInt8) : ∃ i : Int, -1 ≤ i ∧ i ≤ 15 ∧ ∀ w, Calls Tryz.prog 148 #[.string ⟨#[48, 49, 50, 51, 52, 53, 54, 55, 56, 57, 97, 98, 99, 100, 101, 102]⟩, .int .u8 (c.toNat : Int)] w fun e w' => e = .returned (.int .i64 i) ∧ w' = w :=
  ⟨Lib.indexByte hexL _, Lib.indexByte_ge _ _, by have := index_lt hexL ((c.toNat : Int).toNat.toUInt8); have h : hexL.length = 16 := rfl; omega, fun w => Tryz.strings_IndexByte _ _ w⟩

theorem escaped_any (s : ByteArray) (hm : s.size ≤ 140737488351232) (w : World) : Calls Tryz.prog 171 #[.string s] w fun e w' => ∃ (b : UInt8) (n : Nat), e = .returned (.tuple #[.int .u8 (b.toNat : Int), .int .i64 n]) ∧ n ≤ s.size ∧ Below w.heap.size w w' := by
  have hsl := toList_data s
  by_cases h0 : s.size = 0
  · have hE : s.toList = [] := by rw [hsl]; apply List.eq_nil_of_length_eq_zero; simp [h0]
    clear hsl
    go_enter Tryz.func171, Tryz.ntmps171
    go_wp2
    refine bodyPost_ret (v := .tuple #[.int .u8 0, .int .i64 0]) (by simp [results, Tryz.results171, go_sem]) rfl ?_
    exact ⟨0, 0, rfl, by omega, Below.refl _ _⟩
  · have hE : ¬ s.toList = [] := by rw [hsl]; intro e; have := congrArg List.length e; rw [← size_list hsl] at this; exact h0 this
    have hE2 : s.toList.isEmpty = false := by rw [List.isEmpty_eq_false_iff]; exact hE
    have hz : 0 < s.size := by omega
    clear hsl
    by_cases h1 : (s[0].toNat : Int) = 34 ∨ (s[0].toNat : Int) = 92
    · obtain ⟨b, hb⟩ : ∃ b, s[0] = b := ⟨_, rfl⟩
      rw [hb] at h1
      rcases h1 with h1 | h1
      · go_enter Tryz.func171, Tryz.ntmps171
        go_wp2
        refine bodyPost_ret (v := .tuple #[.int .u8 (b.toNat : Int), .int .i64 1]) (by rw [h1]; simp [results, Tryz.results171, go_sem]) rfl ?_
        exact ⟨b, 1, rfl, by omega, Below.refl _ _⟩
      · go_enter Tryz.func171, Tryz.ntmps171
        go_wp2
        refine bodyPost_ret (v := .tuple #[.int .u8 (b.toNat : Int), .int .i64 1]) (by rw [h1]; simp [results, Tryz.results171, go_sem]) rfl ?_
        exact ⟨b, 1, rfl, by omega, Below.refl _ _⟩
    · rw [not_or] at h1
      obtain ⟨h1, h2⟩ := h1
      by_cases h3 : (s[0].toNat : Int) = 110
      · go_enter Tryz.func171, Tryz.ntmps171
        go_wp2
        refine bodyPost_ret (v := .tuple #[.int .u8 10, .int .i64 1]) (by simp [results, Tryz.results171, go_sem]) rfl ?_
        exact ⟨10, 1, rfl, by omega, Below.refl _ _⟩
      · by_cases h4 : (s[0].toNat : Int) = 120
        · by_cases h5 : s.size < 3
          · go_enter Tryz.func171, Tryz.ntmps171
            go_wp2
            refine bodyPost_ret (v := .tuple #[.int .u8 0, .int .i64 0]) (by simp [results, Tryz.results171, go_sem]) rfl ?_
            exact ⟨0, 0, rfl, by omega, Below.refl _ _⟩
          · have k1 : 1 < s.size := by omega
            have k2 : 2 < s.size := by omega
            have k3 : (1 : Int) < (s.size : Int) := by omega
            have k4 : (2 : Int) < (s.size : Int) := by omega
            obtain ⟨c1, hc1⟩ : ∃ c, s[1] = c := ⟨_, rfl⟩
            obtain ⟨c2, hc2⟩ : ∃ c, s[2] = c := ⟨_, rfl⟩
            obtain ⟨hi, a1, a2, hI⟩ := hex_any c1
            obtain ⟨lo, b1, b2, hJ⟩ := hex_any c2
            go_enter Tryz.func171, Tryz.ntmps171
            go_upto_region 12 with fail
            go_cut [4, 5] (fun a b wx => a = .int .i64 hi ∧ b = .int .i64 lo ∧ ∃ nq, wx = w.drewN nq)
            case first =>
              go_quiet (((with_reducible first | refine (hI _).mono ?_ | refine (hJ _).mono ?_); rintro e w2 ⟨rfl, rfl⟩; exact ⟨rfl, _, rfl⟩))
              go_wp2
              go_meet
              exact ⟨rfl, rfl, _, rfl⟩
            obtain ⟨rfl, rfl, nq, rfl⟩ := hcut
            go_upto_region 14 with fail
            obtain ⟨X, hX⟩ : ∃ X, bits BinOp.or IntKind.i64 (hi * 16) lo % 256 = X := ⟨_, rfl⟩
            rw [hX]
            obtain ⟨b, hb⟩ : ∃ b : UInt8, (b.toNat : Int) = X := ⟨UInt8.ofNat X.toNat, by rw [UInt8.toNat_ofNat']; omega⟩
            rw [← hb]
            clear hX hb X hI hJ
            go_wp2
            all_goals first
              | (refine bodyPost_ret (v := .tuple #[.int .u8 0, .int .i64 0]) ?_ rfl ⟨0, 0, rfl, by omega, bel_drewN (Below.refl _ _) _⟩; simp [results, Tryz.results171, go_sem]; done)
              | (refine bodyPost_ret (v := .tuple #[.int .u8 (b.toNat : Int), .int .i64 3]) ?_ rfl ⟨b, 3, rfl, by omega, bel_drewN (Below.refl _ _) _⟩; simp [results, Tryz.results171, go_sem]; done)
        · go_enter Tryz.func171, Tryz.ntmps171
          go_wp2
          refine bodyPost_ret (v := .tuple #[.int .u8 0, .int .i64 0]) (by simp [results, Tryz.results171, go_sem]) rfl ?_
          exact ⟨0, 0, rfl, by omega, Below.refl _ _⟩
end Go.Proofs.YthefooacfcagbaaGreatDoor.txt

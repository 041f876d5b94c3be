/- text.part and text.Words of the program. -/
import Derived.Test.YthefooacfcagbaaGreatDoorStrD
namespace Go.Proofs.YthefooacfcagbaaGreatDoor.txt
open Go.RowKit
open Go.Proofs.YthefooacfcagbaaGreatDoor.lib Go.Proofs.YthefooacfcagbaaGreatDoor.app
set_option linter.unusedVariables false

theorem ext_data (s : ByteArray) (a b : Nat) : (s.extract a b).data.toList = (s.data.toList.drop a).take (b - a) := by
  exact Lib.extract_data s a b
theorem index_fst : ∀ (l : By) (i : Int), Lib.indexByte l 32 = i → (i < 0 → fstW l = l) ∧ ∀ o : Nat, i = o → fstW l = l.take o ∧ o ≤ l.length
  | [], i, h => by
    unfold Lib.indexByte at h
    refine ⟨fun _ => rfl, fun o ho => ?_⟩
    omega
  | b :: l, i, h => by
    have ih := index_fst l _ rfl
    unfold Lib.indexByte at h
    by_cases hb : b = 32
    · subst hb
      rw [if_pos (by rfl)] at h
      refine ⟨fun h2 => by omega, fun o ho => ?_⟩
      obtain rfl : o = 0 := by omega
      exact ⟨rfl, Nat.zero_le _⟩
    · rw [if_neg (by simpa using hb)] at h
      have hf : fstW (b :: l) = b :: fstW l := by
        unfold fstW
        rw [List.takeWhile_cons, show notSp b = true from decide_eq_true hb]
        rfl
      rw [hf]
      have hge := Lib.indexByte_ge l 32
      by_cases hm : Lib.indexByte l 32 = -1
      · rw [if_pos (by simpa using hm)] at h
        refine ⟨fun _ => by rw [ih.1 (by omega)], fun o ho => by omega⟩
      · rw [if_neg (by simpa using hm)] at h
        refine ⟨fun h2 => by omega, fun o ho => ?_⟩
        obtain ⟨h3, h4⟩ := ih.2 (o - 1) (by omega)
        obtain ⟨o', rfl⟩ : ∃ o', o = o' + 1 := ⟨o - 1, by omega⟩
        rw [show o' + 1 - 1 = o' by omega] at h3 h4
        rw [h3]
        exact ⟨rfl, by rw [List.length_cons]; omega⟩
/-- What part answers. -/
def PtOut (s : ByteArray) (w : World) (e : Ending) (w' : World) : Prop := ∃ n : Nat, e = .returned (.int .i64 n) ∧ PartOk s.data.toList n ∧ Below w.heap.size w w'
theorem part_any (s : ByteArray) (hm : s.size ≤ 100000) (hz : 0 < s.size) (w : World) : Calls Tryz.prog 97 #[.string s] w (PtOut s w) := by
  have hsl := toList_data s
  have hE : ¬ s.toList = [] := by rw [hsl]; intro e; have := congrArg List.length e; rw [← size_list hsl] at this; rw [List.length_nil] at this; omega
  have hE2 : s.toList.isEmpty = false := by rw [List.isEmpty_eq_false_iff]; exact hE
  obtain ⟨c0, hc0⟩ : ∃ c, s[0] = c := ⟨_, rfl⟩
  have hhead : s.data.toList.head? = some c0 := by rw [List.head?_eq_getElem?, at_data s 0 hz, hc0]
  have hB0 := Below.refl w.heap.size w
  clear hsl
  by_cases h1 : (c0.toNat : Int) = 34
  · have hq : s.data.toList.head? = some 34 := by rw [hhead]; congr 1; apply UInt8.toNat_inj.1; have : (34 : UInt8).toNat = 34 := rfl; omega
    have HP : Hid (∀ n, n ≤ s.size → PartOk s.data.toList n) := Lib.hid (fun n hn => part_quot hq (by simpa using hn))
    clear hhead hq
    go_enter Tryz.func97, Tryz.ntmps97
    go_upto_region 3 with (go_at_call 146; refine (quoted_any _ (by omega) _).mono ?_; rintro e w2 ⟨n, rfl, hn, rfl⟩)
    have hsz : (s.extract 0 n).size ≤ 100000 := by rw [ByteArray.size_extract]; omega
    go_upto_region 4 with (go_at_call 147; refine (unquote_any _ hsz _).mono ?_; rintro e w3 ⟨t, m, rfl, hb3⟩)
    by_cases hm0 : m = 0
    · subst hm0
      go_wp2
      go_ret
      exact ⟨n, rfl, HP.out n hn, hb3⟩
    · have hm1 : (m == 0) = false := by simpa using hm0
      go_wp2
      go_ret
      exact ⟨0, rfl, HP.out 0 (by omega), hb3⟩
  · have hq : s.data.toList.head? ≠ some 34 := by rw [hhead]; intro e; apply h1; rw [Option.some.inj e]; rfl
    have HP := Lib.hid (part_word hq)
    clear hhead hq
    obtain ⟨i, hi⟩ : ∃ i, Lib.indexByte s.data.toList 32 = i := ⟨_, rfl⟩
    obtain ⟨hneg, hpos⟩ := index_fst _ _ hi
    have hge := Lib.indexByte_ge s.data.toList 32
    rw [hi] at hge
    have hI : ∀ w, Calls Tryz.prog 148 #[.string s, .int .u8 32] w fun e w' => e = .returned (.int .i64 i) ∧ w' = w := fun w => (Tryz.strings_IndexByte s 32 w).mono fun e w' ⟨h1, h2⟩ => ⟨by rw [h1]; show Ending.returned (.int .i64 (Lib.indexByte s.data.toList 32)) = _; rw [hi], h2⟩
    have hfin : ∀ n : Nat, n ≤ s.size → s.data.toList.take n = fstW s.data.toList → Hid (PartOk s.data.toList (if wordB (s.extract 0 n).data.toList = true then n else 0)) := fun n hn hf => Lib.hid (by
      have h := HP.out
      rw [ext_data, List.drop_zero, Nat.sub_zero, hf]
      have hl : (fstW s.data.toList).length = n := by rw [← hf, List.length_take]; simp; omega
      rw [hl] at h
      exact h)
    by_cases hin : i < 0
    · have hx : s.extract 0 s.size = s := by rw [Lib.extract_eq, List.drop_zero, Nat.sub_zero, List.take_of_length_le (by simp), Lib.mk_data]
      have HF := hfin s.size (Nat.le_refl _) (by rw [hneg hin, List.take_of_length_le (by simp)])
      rw [hx] at HF
      have hsz : s.size ≤ 140737488351232 := by omega
      clear hneg hpos hi HP hfin hge hx
      cases hw : wordB s.data.toList
      · have HF2 : Hid (PartOk s.data.toList 0) := Lib.hid (by have := HF.out; rw [hw] at this; simpa using this)
        have HW := Lib.hid hw
        clear hw
        go_enter Tryz.func97, Tryz.ntmps97
        go_wp2_with (first | (go_at_call 148; refine (hI _).mono ?_; rintro e w2 ⟨rfl, rfl⟩) | (go_at_call 149; refine (word_any _ hsz _).mono ?_; rintro e w3 ⟨rfl, rfl⟩; rw [HW.out]))
        go_ret
        exact ⟨0, rfl, HF2.out, Below.refl _ _⟩
      · have HF2 : Hid (PartOk s.data.toList s.size) := Lib.hid (by have := HF.out; rw [hw] at this; simpa using this)
        have HW := Lib.hid hw
        clear hw
        go_enter Tryz.func97, Tryz.ntmps97
        go_wp2_with (first | (go_at_call 148; refine (hI _).mono ?_; rintro e w2 ⟨rfl, rfl⟩) | (go_at_call 149; refine (word_any _ hsz _).mono ?_; rintro e w3 ⟨rfl, rfl⟩; rw [HW.out]))
        go_ret
        exact ⟨s.size, rfl, HF2.out, Below.refl _ _⟩
    · obtain ⟨o, rfl⟩ : ∃ o : Nat, i = o := ⟨i.toNat, by omega⟩
      obtain ⟨hp1, hp2⟩ := hpos o rfl
      have ho : o ≤ s.size := by simpa using hp2
      have HF := hfin o ho hp1.symm
      have hsz : (s.extract 0 o).size ≤ 140737488351232 := by rw [ByteArray.size_extract]; omega
      have ho0 : ¬ (o : Int) < 0 := by omega
      clear hneg hpos hi HP hfin hge hp1 hp2 hin
      cases hw : wordB (s.extract 0 o).data.toList
      · have HF2 : Hid (PartOk s.data.toList 0) := Lib.hid (by have := HF.out; rw [hw] at this; simpa using this)
        have HW := Lib.hid hw
        clear hw
        go_enter Tryz.func97, Tryz.ntmps97
        go_wp2_with (first | (go_at_call 148; refine (hI _).mono ?_; rintro e w2 ⟨rfl, rfl⟩) | (go_at_call 149; refine (word_any _ hsz _).mono ?_; rintro e w3 ⟨rfl, rfl⟩; rw [HW.out]))
        go_ret
        exact ⟨0, rfl, HF2.out, Below.refl _ _⟩
      · have HF2 : Hid (PartOk s.data.toList o) := Lib.hid (by have := HF.out; rw [hw] at this; simpa using this)
        have HW := Lib.hid hw
        clear hw
        go_enter Tryz.func97, Tryz.ntmps97
        go_wp2_with (first | (go_at_call 148; refine (hI _).mono ?_; rintro e w2 ⟨rfl, rfl⟩) | (go_at_call 149; refine (word_any _ hsz _).mono ?_; rintro e w3 ⟨rfl, rfl⟩; rw [HW.out]))
        go_ret
        exact ⟨o, rfl, HF2.out, Below.refl _ _⟩
end Go.Proofs.YthefooacfcagbaaGreatDoor.txt

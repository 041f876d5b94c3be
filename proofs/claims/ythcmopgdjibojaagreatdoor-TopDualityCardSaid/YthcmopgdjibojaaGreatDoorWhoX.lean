import Derived.Test.YthcmopgdjibojaaGreatDoorNatV
import Derived.Test.YthcmopgdjibojaaGreatDoorC2
import Derived.Test.YthcmopgdjibojaaGreatDoorFltX
/- whole: parts, Right, Of, Sign, text, signed. -/
namespace Go.Proofs.YthcmopgdjibojaaGreatDoor.wh
open Go.RowKit
open Go.Lib (decDigits nDigits itoa decDigits_length nDigits_pos)
open Go.Proofs.YthcmopgdjibojaaGreatDoor.lib Go.Proofs.YthcmopgdjibojaaGreatDoor.app Go.Proofs.YthcmopgdjibojaaGreatDoor.nt
set_option linter.unusedVariables false
set_option linter.unusedSimpArgs false

/-- An integer's text. -/
def intS (z : Int) : ByteArray := ⟨(itoa z).toArray⟩
theorem itoa_neg {z : Int} (h : z < 0) : itoa z = 45 :: decDigits z.natAbs := by unfold itoa; rw [if_pos h]
theorem itoa_nn {z : Int} (h : ¬ z < 0) : itoa z = decDigits z.natAbs := by
  unfold itoa
  rw [if_neg h, show z.toNat = z.natAbs by omega]
theorem dec_no45 (n : Nat) : ∃ c r, decDigits n = c :: r ∧ c ≠ 45 := by
  obtain ⟨c, r, h1, _⟩ := dec_head n
  refine ⟨c, r, h1, fun e => ?_⟩
  have := dec_digs n c (by rw [h1]; exact List.mem_cons_self ..)
  rw [e] at this
  have : (45 : UInt8).toNat = 45 := rfl
  omega
theorem trim_int (z : Int) : Lib.trimPrefix (itoa z) [45] = decDigits z.natAbs ∧ Lib.hasPrefix (itoa z) [45] = decide (z < 0) := by
  by_cases h : z < 0
  · rw [itoa_neg h, decide_eq_true h]
    exact ⟨by simp [Lib.trimPrefix, Lib.hasPrefix], by simp [Lib.hasPrefix]⟩
  · rw [itoa_nn h, decide_eq_false h]
    obtain ⟨c, r, h1, h2⟩ := dec_no45 z.natAbs
    rw [h1]
    have h3 : Lib.hasPrefix (c :: r) [45] = false := by
      have h4 : (45 == c) = false := by rw [beq_eq_false_iff_ne]; exact fun e => h2 e.symm
      simp [Lib.hasPrefix, List.isPrefixOf, h4]
    exact ⟨by unfold Lib.trimPrefix; rw [h3]; rfl, h3⟩
theorem natS_zero : natS 0 = ⟨#[48]⟩ := by unfold natS; rw [dec_small (by decide)]; rfl
theorem natS_one : natS 1 = ⟨#[49]⟩ := by unfold natS; rw [dec_small (by decide)]; rfl
theorem natS_is (n m : Nat) (hm : m < 10) : ((natS n).toList == [UInt8.ofNat (48 + m)]) = decide (n = m) := by
  rw [toList_data, Bool.eq_iff_iff, beq_iff_eq, decide_eq_true_eq, natS_list, ← dec_small hm]
  exact ⟨dec_inj, fun h => by rw [h]⟩
theorem cut_any (z : Int) (w : World) : Calls Tryz.prog 159 #[.string (intS z), .string ⟨#[45]⟩] w fun e w' => e = .returned (.tuple #[.string (natS z.natAbs), .bool (decide (z < 0))]) ∧ w = w' := by
  have h := Tryz.strings_CutPrefix (intS z) ⟨#[45]⟩ w
  have e1 : (intS z).data.toList = itoa z := rfl
  have e2 : (⟨#[45]⟩ : ByteArray).data.toList = [45] := rfl
  rw [e1, e2, (trim_int z).1, (trim_int z).2] at h
  exact h.mono fun _ _ h => ⟨h.1, h.2.symm⟩
theorem trim45_any (z : Int) (w : World) : Calls Tryz.prog 74 #[.string (intS z), .string ⟨#[45]⟩] w fun e w' => e = .returned (.string (natS z.natAbs)) ∧ w = w' := by
  have h := Tryz.strings_TrimPrefix (intS z) ⟨#[45]⟩ w
  have e1 : (intS z).data.toList = itoa z := rfl
  have e2 : (⟨#[45]⟩ : ByteArray).data.toList = [45] := rfl
  rw [e1, e2, (trim_int z).1] at h
  exact h.mono fun _ _ h => ⟨h.1, h.2.symm⟩
theorem parts_any (z : Int) (hz : nDigits z.natAbs ≤ 1000000) (w : World) :
    Calls Tryz.prog 113 #[.string (intS z)] w fun e w' => e = .returned (.tuple #[.bool (decide (z < 0)), .string (natS z.natAbs), .bool true]) ∧ w = w' := by
  have HC := Lib.hid (fun w => cut_any z w)
  have HR := Lib.hid (fun w => right_any z.natAbs hz w)
  have h0 : ((natS z.natAbs).toList == [48]) = decide (z.natAbs = 0) := natS_is _ 0 (by decide)
  generalize intS z = S at HC ⊢
  by_cases h : z < 0
  · rw [decide_eq_false (by omega)] at h0
    rw [decide_eq_true h] at HC ⊢
    generalize natS z.natAbs = D at HC HR h0 ⊢
    have h0' : (!D.toList == [48]) = true := by rw [h0]; rfl
    clear h hz
    go_enter Tryz.func113, Tryz.ntmps113
    go_wp2_with (first | (go_at_call 159; (with_reducible refine (HC.out _).mono ?_); rintro e w1 ⟨rfl, rfl⟩) | (go_at_call 72; (with_reducible refine (HR.out _).mono ?_); rintro e w1 ⟨rfl, rfl⟩))
    go_ret3
    exact ⟨rfl, rfl⟩
  · clear h0
    rw [decide_eq_false h] at HC ⊢
    generalize natS z.natAbs = D at HC HR ⊢
    clear h hz
    go_enter Tryz.func113, Tryz.ntmps113
    go_wp2_with (first | (go_at_call 159; (with_reducible refine (HC.out _).mono ?_); rintro e w1 ⟨rfl, rfl⟩) | (go_at_call 72; (with_reducible refine (HR.out _).mono ?_); rintro e w1 ⟨rfl, rfl⟩))
    go_ret3
    exact ⟨rfl, rfl⟩
theorem wright_any (z : Int) (hz : nDigits z.natAbs ≤ 1000000) (w : World) :
    Calls Tryz.prog 69 #[.string (intS z)] w fun e w' => e = .returned (.bool true) ∧ w = w' := by
  have HC := Lib.hid (fun w => parts_any z hz w)
  go_enter Tryz.func69, Tryz.ntmps69
  go_wp2_with (go_at_call 113; (with_reducible refine (HC.out _).mono ?_); rintro e w1 ⟨rfl, rfl⟩)
  go_ret
  exact ⟨rfl, rfl⟩
theorem wof_any (z : Int) (h0 : -9223372036854775808 ≤ z) (h1 : z ≤ 9223372036854775807) (w : World) (ht : TabT w) :
    Calls Tryz.prog 78 #[.int .i64 z] w fun e w' => e = .returned (.string (intS z)) ∧ Below w.heap.size w w' := by
  have HC := Lib.hid (itoa_any z h0 h1 w ht)
  clear h0 h1 ht
  go_enter Tryz.func78, Tryz.ntmps78
  go_wp2_with (go_at_call 108; (with_reducible refine HC.out.mono ?_); rintro e w1 ⟨rfl, hb1⟩)
  go_ret
  exact ⟨rfl, hb1⟩
/-- The sign of an integer. -/
def sgnI (z : Int) : Int := if z < 0 then -1 else if z = 0 then 0 else 1
theorem wsign_any (z : Int) (hz : nDigits z.natAbs ≤ 1000000) (w : World) :
    Calls Tryz.prog 77 #[.string (intS z)] w fun e w' => e = .returned (.int .i64 (sgnI z)) ∧ w = w' := by
  have HC := Lib.hid (fun w => parts_any z hz w)
  have h0 : ((natS z.natAbs).toList == [48]) = decide (z.natAbs = 0) := natS_is _ 0 (by decide)
  have hs : sgnI z = if z < 0 then -1 else if z = 0 then 0 else 1 := rfl
  generalize intS z = S at HC ⊢
  generalize natS z.natAbs = D at HC h0 ⊢
  rcases Int.lt_trichotomy z 0 with h | h | h
  · rw [if_pos h] at hs
    rw [hs]
    rw [decide_eq_false (by omega)] at h0
    have h0' : (!D.toList == [48]) = true := by rw [h0]; rfl
    rw [decide_eq_true h] at HC
    clear h hz hs
    go_enter Tryz.func77, Tryz.ntmps77
    go_wp2_with (go_at_call 113; (with_reducible refine (HC.out _).mono ?_); rintro e w1 ⟨rfl, rfl⟩)
    go_ret
    exact ⟨rfl, rfl⟩
  · rw [if_neg (by omega), if_pos h] at hs
    rw [hs]
    rw [decide_eq_true (by omega)] at h0
    have h0' : (!D.toList == [48]) = false := by rw [h0]; rfl
    rw [decide_eq_false (by omega)] at HC
    clear h hz hs
    go_enter Tryz.func77, Tryz.ntmps77
    go_wp2_with (go_at_call 113; (with_reducible refine (HC.out _).mono ?_); rintro e w1 ⟨rfl, rfl⟩)
    go_ret
    exact ⟨rfl, rfl⟩
  · rw [if_neg (by omega), if_neg (by omega)] at hs
    rw [hs]
    rw [decide_eq_false (by omega)] at h0
    have h0' : (!D.toList == [48]) = true := by rw [h0]; rfl
    rw [decide_eq_false (by omega)] at HC
    clear h hz hs
    go_enter Tryz.func77, Tryz.ntmps77
    go_wp2_with (go_at_call 113; (with_reducible refine (HC.out _).mono ?_); rintro e w1 ⟨rfl, rfl⟩)
    go_ret
    exact ⟨rfl, rfl⟩
end Go.Proofs.YthcmopgdjibojaaGreatDoor.wh

/- whole: numbers: text, signed, compare, sum. -/
namespace Go.Proofs.YthcmopgdjibojaaGreatDoor.wh
open Go.RowKit
open Go.Lib (decDigits nDigits itoa decDigits_length nDigits_pos)
open Go.Proofs.YthcmopgdjibojaaGreatDoor.lib Go.Proofs.YthcmopgdjibojaaGreatDoor.app Go.Proofs.YthcmopgdjibojaaGreatDoor.nt
set_option linter.unusedVariables false
set_option linter.unusedSimpArgs false

def sgnZ (b : Bool) (n : Nat) : Int := if b then -(n : Int) else n
theorem sgnZ_self (z : Int) : sgnZ (decide (z < 0)) z.natAbs = z := by
  unfold sgnZ
  by_cases h : z < 0
  · rw [decide_eq_true h]; simp; omega
  · rw [decide_eq_false h]; simp; omega
theorem sgnZ_neg (z : Int) : sgnZ (!decide (z < 0)) z.natAbs = -z := by
  unfold sgnZ
  by_cases h : z < 0
  · rw [decide_eq_true h]; simp; omega
  · rw [decide_eq_false h]; simp; omega
theorem cat_int {n : Nat} (h : n ≠ 0) : (⟨#[45]⟩ : ByteArray) ++ natS n = intS (-(n : Int)) := by
  unfold intS
  rw [itoa_neg (by omega), show (-(n : Int)).natAbs = n by omega]
  unfold natS
  apply ByteArray.ext
  apply Array.toList_inj.1
  simp
theorem intS_nat (n : Nat) : intS (n : Int) = natS n := by
  unfold intS natS
  rw [itoa_nn (by omega), Int.natAbs_natCast]
theorem text_any (b : Bool) (n : Nat) (hn : nDigits n ≤ 1000000) (w : World) :
    Calls Tryz.prog 170 #[.agg #[.bool b, .string (natS n)]] w fun e w' => e = .returned (.string (intS (sgnZ b n))) ∧ Below w.heap.size w w' := by
  have h0 : ((natS n).toList == [48]) = decide (n = 0) := natS_is _ 0 (by decide)
  have hz : (natS n).size ≤ 1000000 := by rw [natS_size]; exact hn
  have HI : Hid (n ≠ 0 → (⟨#[45]⟩ : ByteArray) ++ natS n = intS (-(n : Int))) := Lib.hid (fun h => cat_int h)
  have HN : Hid (intS (n : Int) = natS n) := Lib.hid (intS_nat n)
  generalize natS n = D at h0 hz HI HN ⊢
  clear hn
  cases b
  · have e : sgnZ false n = n := rfl
    rw [e, HN.out]
    clear h0 HI e
    go_enter Tryz.func170, Tryz.ntmps170
    go_wp2
    go_ret
    exact ⟨rfl, by repeat (first | assumption | exact Below.refl _ _ | refine Below.drew ?_ | refine Below.alloc ?_ (by first | omega | (simp <;> omega)) _ | refine Below.setCell ?_ (by first | omega | (simp <;> omega)) _)⟩
  · have e : sgnZ true n = -(n : Int) := rfl
    rw [e]
    by_cases hn : n = 0
    · subst hn
      rw [decide_eq_true rfl] at h0
      have h0' : (!D.toList == [48]) = false := by rw [h0]; rfl
      have e2 : -((0 : Nat) : Int) = ((0 : Nat) : Int) := rfl
      rw [e2, HN.out]
      clear HI e e2
      go_enter Tryz.func170, Tryz.ntmps170
      go_wp2
      go_ret
      exact ⟨rfl, by repeat (first | assumption | exact Below.refl _ _ | refine Below.drew ?_ | refine Below.alloc ?_ (by first | omega | (simp <;> omega)) _ | refine Below.setCell ?_ (by first | omega | (simp <;> omega)) _)⟩
    · rw [decide_eq_false hn] at h0
      have h0' : (!D.toList == [48]) = true := by rw [h0]; rfl
      rw [← HI.out hn]
      clear HI HN e hn
      go_enter Tryz.func170, Tryz.ntmps170
      go_wp2
      go_ret
      exact ⟨rfl, by repeat (first | assumption | exact Below.refl _ _ | refine Below.drew ?_ | refine Below.alloc ?_ (by first | omega | (simp <;> omega)) _ | refine Below.setCell ?_ (by first | omega | (simp <;> omega)) _)⟩
/-- An integer's text handed back, without an error. -/
def IntOut (w : World) (z : Int) (e : Ending) (w' : World) : Prop := e = .returned (.tuple #[.string (intS z), .int .i64 0]) ∧ Below w.heap.size w w'
theorem signed_any (b : Bool) (n : Nat) (hn : nDigits n ≤ 1000000) (w : World) :
    Calls Tryz.prog 152 #[.agg #[.bool b, .string (natS n)], .int .i64 0] w (IntOut w (sgnZ b n)) := by
  have HC := Lib.hid (fun w => text_any b n hn w)
  unfold IntOut
  generalize natS n = D at HC ⊢
  generalize intS (sgnZ b n) = R at HC ⊢
  clear hn
  go_enter Tryz.func152, Tryz.ntmps152
  go_wp2_with (go_at_call 170; (with_reducible refine (HC.out _).mono ?_); rintro e w1 ⟨rfl, hb1⟩)
  go_ret2
  exact ⟨rfl, ((Below.refl _ _).alloc (Nat.le_refl _) _).trans (hb1.mono (by simp))⟩
/-! compare: natural numbers by their texts. -/
theorem valD_cons (c : UInt8) (l : List UInt8) : valD (c :: l) = (c.toNat - 48) * ten l.length + valD l := by
  have h := valD_app [c] l
  rw [valD_one] at h
  exact h
theorem cmp_bytes : ∀ (l m : List UInt8), DigS l → DigS m → l.length = m.length → Lib.compareBytes l m = ordN (valD l : Int) (valD m : Int)
  | [], [], _, _, _ => rfl
  | [], _ :: _, _, _, h => by simp at h
  | _ :: _, [], _, _, h => by simp at h
  | c :: l, d :: m, hl, hm, h => by
    have hlen : l.length = m.length := by simpa using h
    have hl' : DigS l := fun x hx => hl x (List.mem_cons_of_mem _ hx)
    have hm' : DigS m := fun x hx => hm x (List.mem_cons_of_mem _ hx)
    have hc := hl c (List.mem_cons_self ..)
    have hd := hm d (List.mem_cons_self ..)
    have h1 := valD_lt hl'
    have h2 := valD_lt hm'
    have ih := cmp_bytes l m hl' hm' hlen
    rw [hlen] at h1
    rw [Lib.compareBytes, valD_cons, valD_cons, hlen]
    generalize ten m.length = t at h1 h2 ⊢
    by_cases hlt : c < d
    · have hlt' : c.toNat < d.toNat := UInt8.lt_iff_toNat_lt.1 hlt
      rw [if_pos hlt, ordN_lt]
      have h3 : (c.toNat - 48 + 1) * t ≤ (d.toNat - 48) * t := Nat.mul_le_mul_right _ (by omega)
      rw [Nat.add_mul, Nat.one_mul] at h3
      omega
    · rw [if_neg hlt]
      by_cases hgt : d < c
      · have hgt' : d.toNat < c.toNat := UInt8.lt_iff_toNat_lt.1 hgt
        rw [if_pos hgt, ordN_gt]
        have h3 : (d.toNat - 48 + 1) * t ≤ (c.toNat - 48) * t := Nat.mul_le_mul_right _ (by omega)
        rw [Nat.add_mul, Nat.one_mul] at h3
        omega
      · have e : c = d := UInt8.toNat_inj.1 (by
          have h3 : ¬ c.toNat < d.toNat := fun h => hlt (UInt8.lt_iff_toNat_lt.2 h)
          have h4 : ¬ d.toNat < c.toNat := fun h => hgt (UInt8.lt_iff_toNat_lt.2 h)
          omega)
        subst e
        rw [if_neg hgt, ih]
        rcases Int.lt_trichotomy (valD l : Int) (valD m : Int) with h5 | h5 | h5
        · rw [ordN_lt h5, ordN_lt]; omega
        · rw [ordN_eq h5, ordN_eq]; omega
        · rw [ordN_gt h5, ordN_gt]; omega
theorem wcmp_any (a b : Nat) (ha : nDigits a ≤ 1000000) (hb : nDigits b ≤ 1000000) (w : World) :
    Calls Tryz.prog 153 #[.string (natS a), .string (natS b)] w fun e w' => e = .returned (.int .i64 (ordN a b)) ∧ w = w' := by
  have hz : (natS a).size = nDigits a := natS_size a
  have hz' : (natS b).size = nDigits b := natS_size b
  have HC : Hid (nDigits a = nDigits b → ∀ w, Calls Tryz.prog 209 #[.string (natS a), .string (natS b)] w fun e w' => e = .returned (.int .i64 (ordN a b)) ∧ w = w') := Lib.hid (fun h w => by
    have h1 := Tryz.strings_Compare (natS a) (natS b) w
    rw [natS_list, natS_list, cmp_bytes _ _ (dec_digs a) (dec_digs b) (by rw [decDigits_length, decDigits_length, h]), valD_dec, valD_dec] at h1
    exact h1.mono fun _ _ h => ⟨h.1, h.2.symm⟩)
  obtain ⟨v, hv⟩ : ∃ v, ordN a b = v := ⟨_, rfl⟩
  have HV := Lib.hid hv
  rw [hv] at HC ⊢
  clear hv
  generalize natS a = S at HC hz ⊢
  generalize natS b = T at HC hz' ⊢
  rcases Nat.lt_trichotomy (nDigits a) (nDigits b) with h | h | h
  · have hlt := lt_of_digits h
    obtain rfl : v = -1 := by rw [← HV.out]; exact ordN_lt (by omega)
    have h1 : S.size < T.size := by omega
    have h2 : ((S.size : Int) == (T.size : Int)) = false := by simp; omega
    have h3 : ((S.size : Int) != (T.size : Int)) = true := by simp; omega
    clear HC HV hz hz' ha hb h hlt
    go_enter Tryz.func153, Tryz.ntmps153
    go_wp2
    go_ret
    exact ⟨rfl, rfl⟩
  · have HC' := Lib.hid (HC.out h)
    have h1 : S.size = T.size := by omega
    have h2 : ((S.size : Int) == (T.size : Int)) = true := by simp; omega
    have h3 : ((S.size : Int) != (T.size : Int)) = false := by simp; omega
    clear HC HV hz hz' ha hb h h1
    go_enter Tryz.func153, Tryz.ntmps153
    go_wp2_with (go_at_call 209; (with_reducible refine (HC'.out _).mono ?_); rintro e w1 ⟨rfl, rfl⟩)
    go_ret
    exact ⟨rfl, rfl⟩
  · have hlt := lt_of_digits h
    obtain rfl : v = 1 := by rw [← HV.out]; exact ordN_gt (by omega)
    have h1 : ¬ S.size < T.size := by omega
    have h2 : ((S.size : Int) == (T.size : Int)) = false := by simp; omega
    have h3 : ((S.size : Int) != (T.size : Int)) = true := by simp; omega
    clear HC HV hz hz' ha hb h hlt
    go_enter Tryz.func153, Tryz.ntmps153
    go_wp2
    go_ret
    exact ⟨rfl, rfl⟩
end Go.Proofs.YthcmopgdjibojaaGreatDoor.wh

/- whole: sum. -/
namespace Go.Proofs.YthcmopgdjibojaaGreatDoor.wh
open Go.RowKit
open Go.Lib (decDigits nDigits itoa decDigits_length nDigits_pos)
open Go.Proofs.YthcmopgdjibojaaGreatDoor.lib Go.Proofs.YthcmopgdjibojaaGreatDoor.app Go.Proofs.YthcmopgdjibojaaGreatDoor.nt
set_option linter.unusedVariables false
set_option linter.unusedSimpArgs false

theorem sum_same (b : Bool) (m n : Nat) : sgnZ b (m + n) = sgnZ b m + sgnZ b n := by
  cases b <;> simp [sgnZ] <;> omega
theorem sum_ge (b c : Bool) (h : b ≠ c) (m n : Nat) (hn : n ≤ m) : sgnZ b (m - n) = sgnZ b m + sgnZ c n := by
  cases b <;> cases c <;> simp [sgnZ] at h ⊢ <;> omega
theorem sum_lt (b c : Bool) (h : b ≠ c) (m n : Nat) (hn : m ≤ n) : sgnZ c (n - m) = sgnZ b m + sgnZ c n := by
  cases b <;> cases c <;> simp [sgnZ] at h ⊢ <;> omega
set_option maxHeartbeats 1000000 in
theorem sum_any (ba bb : Bool) (na nb : Nat) (ha : nDigits na ≤ 4096) (hb : nDigits nb ≤ 4096) (hab : nDigits (na + nb) ≤ 4096) (w : World) (ht : TabT w) :
    Calls Tryz.prog 104 #[.agg #[.bool ba, .string (natS na)], .agg #[.bool bb, .string (natS nb)]] w (IntOut w (sgnZ ba na + sgnZ bb nb)) := by
  by_cases h : ba = bb
  · subst h
    have HA : Hid (∀ w', Below w.heap.size w w' → Calls Tryz.prog 151 #[.string (natS na), .string (natS nb)] w' (StrOut w' (na + nb))) := Lib.hid (fun w' h => nadd_any na nb ha hb hab w' (ht.below h))
    have HS : Hid (∀ w', Calls Tryz.prog 152 #[.agg #[.bool ba, .string (natS (na + nb))], .int .i64 0] w' (IntOut w' (sgnZ ba na + sgnZ ba nb))) := Lib.hid (fun w' => by rw [← sum_same]; exact signed_any ba (na + nb) (by omega) w')
    generalize sgnZ ba na + sgnZ ba nb = Z at HS ⊢
    unfold IntOut at HS ⊢
    unfold StrOut at HA
    generalize natS na = S at HA ⊢
    generalize natS nb = T at HA ⊢
    generalize natS (na + nb) = U at HA HS
    clear ha hb hab ht
    have hbel : Below w.heap.size w ((w.alloc (.cells #[.bool ba, .string S] 169)).alloc (.cells #[.bool ba, .string T] 169)) := ((Below.refl _ _).alloc (Nat.le_refl _) _).alloc (by simp) _
    go_enter Tryz.func104, Tryz.ntmps104
    go_wp2_with (first | (go_at_call 151; (with_reducible refine (HA.out _ hbel).mono ?_); rintro e w3 ⟨rfl, hb3⟩; have c0 : w3.cell? ⟨w.heap.size, 0, none⟩ = some (.bool ba) := (hb3.cell (p := ⟨w.heap.size, 0, none⟩) (by simp; omega)).trans (by simp)) | (go_at_call 152; (with_reducible refine (HS.out _).mono ?_); rintro e w5 ⟨rfl, hb5⟩))
    go_ret2
    exact ⟨rfl, (hbel.trans (hb3.mono (by simp; omega))).trans (hb5.mono (by have := hb3.size; simp at this; omega))⟩
  · have hba : (ba == bb) = false := by simp [h]
    have HCM := Lib.hid (fun w => wcmp_any na nb (by omega) (by omega) w)
    by_cases hle : nb ≤ na
    · have HA : Hid (∀ w', Below w.heap.size w w' → Calls Tryz.prog 154 #[.string (natS na), .string (natS nb)] w' (StrOut w' (na - nb))) := Lib.hid (fun w' h => sub_any na nb hle ha w' (ht.below h))
      have hd : nDigits (na - nb) ≤ 1000000 := Nat.le_trans (nDigits_mono (Nat.sub_le _ _)) (by omega)
      have HS : Hid (∀ w', Calls Tryz.prog 152 #[.agg #[.bool ba, .string (natS (na - nb))], .int .i64 0] w' (IntOut w' (sgnZ ba na + sgnZ bb nb))) := Lib.hid (fun w' => by rw [← sum_ge ba bb h na nb hle]; exact signed_any ba (na - nb) hd w')
      have hv : ¬ ordN na nb < 0 := by
        rcases Nat.lt_or_eq_of_le hle with h3 | h3
        · rw [ordN_gt (by omega)]; omega
        · rw [ordN_eq (by omega)]; omega
      generalize ordN na nb = v at HCM hv
      generalize sgnZ ba na + sgnZ bb nb = Z at HS ⊢
      unfold IntOut at HS ⊢
      unfold StrOut at HA
      generalize natS na = S at HA HCM ⊢
      generalize natS nb = T at HA HCM ⊢
      generalize natS (na - nb) = U at HA HS
      clear ha hb hab ht hle hd h
      have hbel : Below w.heap.size w ((w.alloc (.cells #[.bool ba, .string S] 169)).alloc (.cells #[.bool bb, .string T] 169)) := ((Below.refl _ _).alloc (Nat.le_refl _) _).alloc (by simp) _
      go_enter Tryz.func104, Tryz.ntmps104
      go_wp2_with (first | (go_at_call 153; (with_reducible refine (HCM.out _).mono ?_); rintro e w2 ⟨rfl, rfl⟩) | (go_at_call 154; (with_reducible refine (HA.out _ hbel).mono ?_); rintro e w3 ⟨rfl, hb3⟩; have c0 : w3.cell? ⟨w.heap.size, 0, none⟩ = some (.bool ba) := (hb3.cell (p := ⟨w.heap.size, 0, none⟩) (by simp; omega)).trans (by simp)) | (go_at_call 152; (with_reducible refine (HS.out _).mono ?_); rintro e w5 ⟨rfl, hb5⟩))
      go_ret2
      exact ⟨rfl, (hbel.trans (hb3.mono (by simp; omega))).trans (hb5.mono (by have := hb3.size; simp at this; omega))⟩
    · have HA : Hid (∀ w', Below w.heap.size w w' → Calls Tryz.prog 154 #[.string (natS nb), .string (natS na)] w' (StrOut w' (nb - na))) := Lib.hid (fun w' h => sub_any nb na (by omega) hb w' (ht.below h))
      have hd : nDigits (nb - na) ≤ 1000000 := Nat.le_trans (nDigits_mono (Nat.sub_le _ _)) (by omega)
      have HS : Hid (∀ w', Calls Tryz.prog 152 #[.agg #[.bool bb, .string (natS (nb - na))], .int .i64 0] w' (IntOut w' (sgnZ ba na + sgnZ bb nb))) := Lib.hid (fun w' => by rw [← sum_lt ba bb h na nb (by omega)]; exact signed_any bb (nb - na) hd w')
      have hv : ordN na nb < 0 := by rw [ordN_lt (by omega)]; omega
      generalize ordN na nb = v at HCM hv
      generalize sgnZ ba na + sgnZ bb nb = Z at HS ⊢
      unfold IntOut at HS ⊢
      unfold StrOut at HA
      generalize natS na = S at HA HCM ⊢
      generalize natS nb = T at HA HCM ⊢
      generalize natS (nb - na) = U at HA HS
      clear ha hb hab ht hle hd h
      have hbel : Below w.heap.size w ((w.alloc (.cells #[.bool bb, .string T] 169)).alloc (.cells #[.bool ba, .string S] 169)) := ((Below.refl _ _).alloc (Nat.le_refl _) _).alloc (by simp) _
      go_enter Tryz.func104, Tryz.ntmps104
      go_wp2_with (first | (go_at_call 153; (with_reducible refine (HCM.out _).mono ?_); rintro e w2 ⟨rfl, rfl⟩) | (go_at_call 154; (with_reducible refine (HA.out _ hbel).mono ?_); rintro e w3 ⟨rfl, hb3⟩; have c0 : w3.cell? ⟨w.heap.size, 0, none⟩ = some (.bool bb) := (hb3.cell (p := ⟨w.heap.size, 0, none⟩) (by simp; omega)).trans (by simp)) | (go_at_call 152; (with_reducible refine (HS.out _).mono ?_); rintro e w5 ⟨rfl, hb5⟩))
      go_ret2
      exact ⟨rfl, (hbel.trans (hb3.mono (by simp; omega))).trans (hb5.mono (by have := hb3.size; simp at this; omega))⟩
end Go.Proofs.YthcmopgdjibojaaGreatDoor.wh

/- whole: read. -/
namespace Go.Proofs.YthcmopgdjibojaaGreatDoor.wh
open Go.RowKit
open Go.Lib (decDigits nDigits itoa decDigits_length nDigits_pos)
open Go.Proofs.YthcmopgdjibojaaGreatDoor.lib Go.Proofs.YthcmopgdjibojaaGreatDoor.app Go.Proofs.YthcmopgdjibojaaGreatDoor.nt Go.Proofs.YthcmopgdjibojaaGreatDoor.rd
set_option linter.unusedVariables false
set_option linter.unusedSimpArgs false

theorem num_elem : ElemOf 164 169 (.agg #[.bool false, .string ⟨#[]⟩]) 2 24 := ⟨Tryz.underlying164, by kernel_rfl, rfl, by decide, by decide⟩
/-- The cells of numbers. -/
def ncs : List Int → List Value
  | [] => []
  | z :: l => .bool (decide (z < 0)) :: .string (natS z.natAbs) :: ncs l
theorem ncs_app (l m : List Int) : ncs (l ++ m) = ncs l ++ ncs m := by
  induction l with
  | nil => rfl
  | cons z l ih => simp [ncs, ih]
theorem ncs_at {l : List Int} {k : Nat} {z : Int} (h : l[k]? = some z) : (ncs l)[k * 2]? = some (.bool (decide (z < 0))) ∧ (ncs l)[k * 2 + 1]? = some (.string (natS z.natAbs)) := by
  induction l generalizing k with
  | nil => simp at h
  | cons y l ih =>
    cases k with
    | zero =>
      simp at h
      subst h
      exact ⟨rfl, rfl⟩
    | succ k =>
      have h1 := ih (k := k) (by simpa using h)
      rw [show (k + 1) * 2 = k * 2 + 1 + 1 by omega]
      simpa [ncs] using h1
theorem ncs_take {l : List Int} {k : Nat} {z : Int} (h : l[k]? = some z) : ncs (l.take (k + 1)) = ncs (l.take k) ++ [.bool (decide (z < 0)), .string (natS z.natAbs)] := by
  obtain ⟨hk, rfl⟩ := List.getElem?_eq_some_iff.1 h
  rw [List.take_succ_eq_append_getElem hk, ncs_app]
  rfl
/-- Numbers handed back. -/
def ReadOut (w : World) (l : List Int) (e : Ending) (w' : World) : Prop := ∃ g c, e = .returned (.tuple #[.slice (some ⟨g, 0, none⟩) l.length c, .int .i64 0]) ∧ w'.ownsRow w.heap.size 169 2 (.slice (some ⟨g, 0, none⟩) l.length c) l.length (ncs l) ∧ Below w.heap.size w w'
set_option maxRecDepth 20000 in
set_option maxHeartbeats 2000000 in
theorem wread_any (A : Option Addr) (c : Nat) (l : List Int) (hl0 : 0 < l.length) (hl : l.length ≤ 2) (hz : ∀ z ∈ l, nDigits z.natAbs ≤ 4096) (w : World) (B : Nat) (hB : B ≤ w.heap.size) (hr : Reads w B 1 A l.length (l.map fun z => .string (intS z))) :
    Calls Tryz.prog 103 #[.slice A l.length c] w (ReadOut w l) := by
  have HZ := Lib.hid hz
  obtain ⟨n, hn⟩ : ∃ n, l.length = n := ⟨_, rfl⟩
  have HN := Lib.hid hn
  unfold ReadOut
  rw [hn] at hr hl hl0 ⊢
  clear hz hn
  go_enter Tryz.func103, Tryz.ntmps103
  go_wp2
  go_loopw [4, 14] (fun v i wr => ∃ (k : Nat), k ≤ n ∧ i = .int .i64 k ∧ (∃ A c, v = .slice A k c) ∧ wr.ownsRow w.heap.size 169 2 v k (ncs (l.take k)) ∧ Below w.heap.size w wr) (fun _ i _ => n - (intOf i).toNat)
  case atStart => exact ⟨0, by omega, rfl, ⟨_, _, rfl⟩, World.ownsRow_nil _ _ _ _, Below.refl _ _⟩
  case round =>
    obtain ⟨k, hk, rfl, ⟨A1, c1, rfl⟩, hown, hbel⟩ := hrel
    have hsz := hbel.size
    by_cases hlt : k < n
    · obtain ⟨ad, u, rfl, hadb, hx, hcx⟩ := (hr.below (hbel.mono hB)).at_ hlt
      obtain ⟨z, hzk⟩ : ∃ z, l[k]? = some z := ⟨_, List.getElem?_eq_getElem (by rw [HN.out]; exact hlt)⟩
      rw [List.getElem?_map, hzk] at hx
      obtain rfl : .string (intS z) = u := Option.some.inj hx
      have HP := Lib.hid (fun w => parts_any z (by have := HZ.out z (List.mem_of_getElem? hzk); omega) w)
      have HT := Lib.hid (ncs_take hzk)
      clear hx hzk
      generalize intS z = S at HP hcx
      generalize natS z.natAbs = D at HP HT
      generalize decide (z < 0) = b at HP HT
      go_wp2_with (first | (go_at_call 113; (with_reducible refine (HP.out _).mono ?_); rintro e w1 ⟨rfl, rfl⟩) | (at_builtin; refine wpList_app num_elem _ _ rfl w.heap.size A1 k c1 (ncs (l.take k)) rfl (hown.alloc _) ⟨wr.heap.size, 0, none⟩ 1 [.bool b, .string D] rfl rfl (two_new _ _ _ _) (by simp [Value.oneCell']) (by omega) (by simp; omega) rfl ?_; intro g3 c3 w3 hown3 hg3 hd3))
      go_roundw
      case rel =>
        refine ⟨k + 1, by omega, by go_num, ⟨_, c3, rfl⟩, by rw [HT.out]; exact hown3, hbel.trans ?_⟩
        exact ((Below.refl _ _).alloc (by omega) _).grown hg3 (by simp; omega) (fun k hk => own_base hown k hk)
      case measure => simp [intOf]; omega
    · have hkn : k = n := by omega
      subst hkn
      have hlt' : l.take k = l := List.take_of_length_le (by rw [HN.out]; exact Nat.le_refl _)
      rw [hlt'] at hown
      have hk0 : 0 < k := hl0
      obtain ⟨g, cap, hv, hg, hgl⟩ := hown.form hk0
      injection hv with hv _ hc
      subst hv
      subst hc
      obtain ⟨wo, hwo⟩ : ∃ wo : World, wo = wr := ⟨_, rfl⟩
      subst hwo
      clear hlt hlt'
      go_wp2
      go_loopw [35] (fun i wr => ∃ (j : Nat), j ≤ k ∧ i = .int .i64 j ∧ wr.ownsRow w.heap.size 169 2 (.slice (some ⟨g, 0, none⟩) k c1) k (ncs l) ∧ Below w.heap.size w wr) (fun i _ => k - (intOf i).toNat)
      case atStart => exact ⟨0, by omega, rfl, hown, hbel⟩
      case round =>
        obtain ⟨j, hj, rfl, hown', hbel'⟩ := hrel
        have hsz' := hbel'.size
        by_cases hlt : j < k
        · obtain ⟨z, hzk⟩ : ∃ z, l[j]? = some z := ⟨_, List.getElem?_eq_getElem (by rw [HN.out]; exact hlt)⟩
          obtain ⟨h1, h2⟩ := ncs_at hzk
          have d0 : wr.cell? ⟨g, j * 2, none⟩ = some (.bool (decide (z < 0))) := by rw [hown'.cellAt _ (by omega), h1]
          have d1 : wr.cell? ⟨g, j * 2 + 1, none⟩ = some (.string (natS z.natAbs)) := by rw [hown'.cellAt _ (by omega), h2]
          have hsize : (natS z.natAbs).size ≤ 4096 := by rw [natS_size]; exact HZ.out z (List.mem_of_getElem? hzk)
          clear h1 h2 hzk
          generalize natS z.natAbs = D at d1 hsize
          generalize decide (z < 0) = b at d0
          go_wp2
          go_roundw
          case rel => exact ⟨j + 1, by omega, by go_num, hown'.alloc _, hbel'.alloc (by omega) _⟩
          case measure => simp [intOf]; omega
        · have hjn : j = k := by omega
          subst hjn
          clear hlt
          go_wp2
          go_ret2
          exact ⟨g, _, rfl, hown', hbel'⟩
end Go.Proofs.YthcmopgdjibojaaGreatDoor.wh

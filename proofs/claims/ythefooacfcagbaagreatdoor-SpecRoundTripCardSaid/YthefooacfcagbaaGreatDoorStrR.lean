import Derived.Test.YthefooacfcagbaaGreatDoorStrX
/- The reference's Decimal and Number. -/
namespace Go.Proofs.YthefooacfcagbaaGreatDoor.txt
open Go.RowKit
open lib
set_option linter.unusedVariables false
set_option linter.unusedSimpArgs false
theorem dig_byte {b : UInt8} {r : Nat} (h : (b.toNat : Int) = 48 + (r : Int)) (hr : r < 10) : b = UInt8.ofNat (48 + r) := by
 apply UInt8.toNat_inj.1
 rw [UInt8.toNat_ofNat']
 omega
theorem dig_step {N u : Nat} {t : By} {b : UInt8} (h : Lib.decDigits N = Lib.decDigits u ++ t) (hb : (b.toNat : Int) = 48 + ((u % 10 : Nat) : Int)) (h10 : ¬ u < 10) : Lib.decDigits N = Lib.decDigits (u / 10) ++ (b :: t) := by
 have e : Lib.decDigits u = Lib.decDigits (u / 10) ++ [UInt8.ofNat (48 + u % 10)] := by rw [Lib.decDigits, dif_neg h10]
 rw [h, e, dig_byte hb (by omega), List.append_assoc]
 rfl
theorem dig_last {N u : Nat} {t : By} {b : UInt8} (h : Lib.decDigits N = Lib.decDigits u ++ t) (hb : (b.toNat : Int) = 48 + ((u % 10 : Nat) : Int)) (h10 : u < 10) : Lib.decDigits N = b :: t := by
 rw [h, Lib.decDigits_one h10, dig_byte hb (by omega), Nat.mod_eq_of_lt h10]
 rfl
theorem dig_len {N : Nat} (h : N ≤ 9223372036854775808) : (Lib.decDigits N).length ≤ 19 := by
 rw [Lib.decDigits_length]
 have : ∀ (k n : Nat), n < 10 ^ (k + 1) → Lib.nDigits n ≤ k + 1 := by
  intro k
  induction k with
  | zero => intro n hn; rw [Lib.nDigits_small (by simpa using hn)]; exact Nat.le_refl _
  | succ k ih =>
   intro n hn
   by_cases h : n < 10
   ·rw [Lib.nDigits_small h]; omega
   ·rw [Lib.nDigits_big h]
    have := ih (n / 10) (by rw [Nat.pow_succ] at hn; omega)
    omega
 exact this 18 N (by omega)
theorem byte_at (z : Int) (h : 48 ≤ z ∧ z ≤ 57) : ∃ b : UInt8, (b.toNat : Int) = z := ⟨UInt8.ofNat z.toNat, by rw [UInt8.toNat_ofNat']; omega⟩
theorem mk_cons (b : UInt8) (t : By) : (⟨#[b]⟩ ++ ⟨t.toArray⟩ : ByteArray) = ⟨(b :: t).toArray⟩ := by
 apply ByteArray.ext
 rw [ByteArray.data_append]
 apply Array.toList_inj.1
 simp
theorem size_cons (t : By) : (⟨t.toArray⟩ : ByteArray).size = t.length := by simp [ByteArray.size]
def agn2 : Value → Nat
 | .bool true => 1
 | _ => 0
set_option maxRecDepth 100000 in
theorem rdecP_any (n : Int) (h0 : 0 ≤ n) (h1 : n ≤ 9223372036854775807) (w : World) : Calls Tryz.prog 18 #[.int .i64 n] w fun e w' => e = .returned (.string (decW n)) ∧ Below w.heap.size w w' := by
 obtain ⟨D, hD⟩ : ∃ D, Lib.decDigits n.natAbs = D := ⟨_, rfl⟩
 have hl : D.length ≤ 19 := by rw [← hD]; exact dig_len (by omega)
 have HW : Hid (decW n = ⟨D.toArray⟩) := Lib.hid (by unfold decW Lib.itoa; rw [if_neg (by omega), ← hD, show n.toNat = n.natAbs by omega])
 have H0 : Hid (D = Lib.decDigits n.natAbs ++ []) := Lib.hid (by rw [List.append_nil, hD])
 have HD := Lib.hid hD
 clear hD
 go_enter Tryz.func18, Tryz.ntmps18
 go_wp2
 go_loopw [3, 4, 5, 6] (fun s l g _ wr => Below w.heap.size w wr ∧ ∃ M : Int, l = .int .i64 M ∧ 0 ≤ M ∧ M ≤ 9223372036854775807 ∧ ((g = .bool true ∧ ∃ (t : By), Hid (D = Lib.decDigits M.natAbs ++ t) ∧ t.length ≤ 19 ∧ s = .string ⟨t.toArray⟩) ∨ (g = .bool false ∧ M = 0 ∧ s = .string ⟨D.toArray⟩))) (fun _ l g _ _ => 2 * (intOf l).natAbs + agn2 g)
 case atStart => exact ⟨Below.refl _ _, n, rfl, h0, h1, .inl ⟨rfl, [], H0, by simp, rfl⟩⟩
 case round =>
  obtain ⟨hb, M, rfl, hM0, hM1, hc⟩ := hrel
  have hbw := hb.size
  rcases hc with ⟨rfl, t, ht, htl, rfl⟩ | ⟨rfl, rfl, rfl⟩
  ·obtain ⟨b, hbz⟩ := byte_at (48 + M % 10) (by omega)
   have kc := conv_one wr (48 + M % 10) b hbz
   have HB : Hid ((b.toNat : Int) = 48 + ((M.natAbs % 10 : Nat) : Int)) := Lib.hid (by omega)
   have hneg : ¬ (M % 10 < 0) := by omega
   have hsz := size_cons t
   clear hbz
   by_cases h10 : M < 10
   ·have hz : M / 10 = 0 := by omega
    have hd : Hid (D = b :: t) := Lib.hid (dig_last ((HD.out.trans ht.out)) HB.out (by omega) ▸ HD.out.symm)
    go_wp2
    go_roundw
    case rel => exact ⟨hb.alloc hbw _, 0, by go_num, by omega, by omega, .inr ⟨rfl, rfl, by rw [mk_cons, hd.out]⟩⟩
    case measure => simp [intOf, agn2]; omega
   ·have hd : Hid (D = Lib.decDigits (M.natAbs / 10) ++ (b :: t)) := Lib.hid (HD.out.symm.trans (dig_step (HD.out.trans ht.out) HB.out (by omega)))
    have hq : Hid (M.natAbs / 10 = (M / 10).natAbs) := Lib.hid (by omega)
    obtain ⟨q, hqq⟩ : ∃ q, M / 10 = q := ⟨_, rfl⟩
    have hq1 : 0 ≤ q := by omega
    have hq2 : q ≤ 9223372036854775807 := by omega
    have hq3 : (q != 0) = true := by simp; omega
    have hq4 : (q == 0) = false := by simp; omega
    have hq5 : q ≠ 0 := by omega
    have hlen : Hid ((b :: t).length ≤ 19) := Lib.hid (by
     have := congrArg List.length hd.out
     rw [List.length_append] at this
     omega)
    have HQ : Hid (10 * q ≤ M) := Lib.hid (by omega)
    go_wp2
    go_roundw
    case rel => exact ⟨hb.alloc hbw _, q, by go_num, hq1, hq2, .inl ⟨rfl, b :: t, Lib.hid (by rw [← hqq, ← hq.out]; exact hd.out), hlen.out, by rw [mk_cons]⟩⟩
    case measure => have := HQ.out; simp [intOf, agn2]; omega
  ·have hn : ¬ n < 0 := by omega
   go_wp2
   go_ret
   exact ⟨ret_str HW.out.symm, hb⟩
theorem neg_parts {M : Int} (h : M ≤ 0) : M.tmod 10 = -((M.natAbs % 10 : Nat) : Int) ∧ M.tdiv 10 = -((M.natAbs / 10 : Nat) : Int) := by
 obtain ⟨u, hu⟩ : ∃ u : Nat, M.natAbs = u := ⟨_, rfl⟩
 have e : M = -(u : Int) := by omega
 subst e
 have e2 : (-(u : Int)).natAbs = u := by omega
 rw [e2, Int.neg_tmod, Int.neg_tdiv, Int.tmod_eq_emod_of_nonneg (by omega), Int.tdiv_eq_ediv_of_nonneg (by omega)]
 exact ⟨rfl, rfl⟩
set_option maxRecDepth 100000 in
theorem rdecN_any (n : Int) (h0 : n < 0) (h1 : -9223372036854775808 ≤ n) (w : World) : Calls Tryz.prog 18 #[.int .i64 n] w fun e w' => e = .returned (.string (decW n)) ∧ Below w.heap.size w w' := by
 obtain ⟨D, hD⟩ : ∃ D, Lib.decDigits n.natAbs = D := ⟨_, rfl⟩
 have hl : D.length ≤ 19 := by rw [← hD]; exact dig_len (by omega)
 have hl2 := size_cons D
 have HW : Hid (decW n = ⟨#[45]⟩ ++ ⟨D.toArray⟩) := Lib.hid (by unfold decW Lib.itoa; rw [if_pos h0, ← hD, mk_cons])
 have H0 : Hid (D = Lib.decDigits n.natAbs ++ []) := Lib.hid (by rw [List.append_nil, hD])
 have HD := Lib.hid hD
 clear hD
 go_enter Tryz.func18, Tryz.ntmps18
 go_wp2
 go_loopw [3, 4, 5, 6] (fun s l g _ wr => Below w.heap.size w wr ∧ ∃ M : Int, l = .int .i64 M ∧ M ≤ 0 ∧ -9223372036854775808 ≤ M ∧ ((g = .bool true ∧ ∃ (t : By), Hid (D = Lib.decDigits M.natAbs ++ t) ∧ t.length ≤ 19 ∧ s = .string ⟨t.toArray⟩) ∨ (g = .bool false ∧ M = 0 ∧ s = .string ⟨D.toArray⟩))) (fun _ l g _ _ => 2 * (intOf l).natAbs + agn2 g)
 case atStart => exact ⟨Below.refl _ _, n, rfl, by omega, h1, .inl ⟨rfl, [], H0, by simp, rfl⟩⟩
 case round =>
  obtain ⟨hb, M, rfl, hM0, hM1, hc⟩ := hrel
  have hbw := hb.size
  rcases hc with ⟨rfl, t, ht, htl, rfl⟩ | ⟨rfl, rfl, rfl⟩
  ·obtain ⟨hr, hq⟩ := neg_parts hM0
   obtain ⟨R, hR⟩ : ∃ R : Int, -((M.natAbs % 10 : Nat) : Int) = R := ⟨_, rfl⟩
   obtain ⟨q, hQ⟩ : ∃ q : Int, -((M.natAbs / 10 : Nat) : Int) = q := ⟨_, rfl⟩
   rw [hR] at hr
   rw [hQ] at hq
   have hr0 : R ≤ 0 := by omega
   have hr1 : -9 ≤ R := by omega
   have hq1 : q ≤ 0 := by omega
   have hq2 : -9223372036854775808 ≤ q := by omega
   have HR := Lib.hid hR
   have HQ := Lib.hid hQ
   clear hR hQ
   obtain ⟨b, hbz⟩ := byte_at (48 + -R) (by omega)
   have kc := conv_one wr (48 + -R) b hbz
   have HB : Hid ((b.toNat : Int) = 48 + ((M.natAbs % 10 : Nat) : Int)) := Lib.hid (by have := HR.out; omega)
   have hsz := size_cons t
   have HZ : Hid (R = 0 → (b.toNat : Int) = 48) := Lib.hid (by omega)
   clear hbz
   by_cases h10 : M.natAbs < 10
   ·have hz : q = 0 := by have := HQ.out; omega
    have hd : Hid (D = b :: t) := Lib.hid (dig_last ((HD.out.trans ht.out)) HB.out h10 ▸ HD.out.symm)
    subst hz
    by_cases hR0 : R = 0
    ·subst hR0
     have kc2 := conv_one wr 48 b (HZ.out rfl)
     clear kc
     go_wp2
     go_roundw
     case rel => exact ⟨hb.alloc hbw _, 0, by go_num, by omega, by omega, .inr ⟨rfl, rfl, by rw [mk_cons, hd.out]⟩⟩
     case measure => simp [intOf, agn2]
    ·have hR1 : R < 0 := by omega
     go_wp2
     go_roundw
     case rel => exact ⟨hb.alloc hbw _, 0, by go_num, by omega, by omega, .inr ⟨rfl, rfl, by rw [mk_cons, hd.out]⟩⟩
     case measure => simp [intOf, agn2]
   ·have hd : Hid (D = Lib.decDigits (M.natAbs / 10) ++ (b :: t)) := Lib.hid (HD.out.symm.trans (dig_step (HD.out.trans ht.out) HB.out h10))
    have hqq : Hid (M.natAbs / 10 = q.natAbs) := Lib.hid (by have := HQ.out; omega)
    have hq5 : q ≠ 0 := by have := HQ.out; omega
    have hq3 : (q != 0) = true := by simp; omega
    have hq4 : (q == 0) = false := by simp; omega
    have hlen : Hid ((b :: t).length ≤ 19) := Lib.hid (by
     have := congrArg List.length hd.out
     rw [List.length_append] at this
     omega)
    have HQ2 : Hid (10 * q.natAbs ≤ M.natAbs) := Lib.hid (by have := HQ.out; omega)
    by_cases hR0 : R = 0
    ·subst hR0
     have kc2 := conv_one wr 48 b (HZ.out rfl)
     clear kc
     go_wp2
     go_roundw
     case rel => exact ⟨hb.alloc hbw _, q, by go_num, hq1, hq2, .inl ⟨rfl, b :: t, Lib.hid (by rw [← hqq.out]; exact hd.out), hlen.out, by rw [mk_cons]⟩⟩
     case measure => have := HQ2.out; simp [intOf, agn2]; omega
    ·have hR1 : R < 0 := by omega
     go_wp2
     go_roundw
     case rel => exact ⟨hb.alloc hbw _, q, by go_num, hq1, hq2, .inl ⟨rfl, b :: t, Lib.hid (by rw [← hqq.out]; exact hd.out), hlen.out, by rw [mk_cons]⟩⟩
     case measure => have := HQ2.out; simp [intOf, agn2]; omega
  ·go_wp2
   go_ret
   exact ⟨ret_str HW.out.symm, hb⟩
theorem rdecW_any (n : Int) (h : in64 n) (w : World) : Calls Tryz.prog 18 #[.int .i64 n] w fun e w' => e = .returned (.string (decW n)) ∧ Below w.heap.size w w' := by
 by_cases h0 : 0 ≤ n
 ·exact rdecP_any n h0 h.2 w
 ·exact rdecN_any n (by omega) h.1 w
end Go.Proofs.YthefooacfcagbaaGreatDoor.txt

import Derived.Test.YthefooacfcagbaaGreatDoorStrX
import Derived.Laws.BytesArg
/- The reference's Decimal and Number. -/
namespace Go.Proofs.YthefooacfcagbaaGreatDoor.txt
open Go.RowKit
open lib
set_option linter.unusedVariables false
set_option linter.unusedSimpArgs false
theorem dig_byte {b : UInt8} {r : Nat} (h : (b.toNat : Int) = 48 + (r : Int)) (hr : r < 10) : b = UInt8.ofNat (48 + r) := by
 apply UInt8.toNat_inj.1
 rw [UInt8.toNat_ofNat']
 omega
theorem dig_step {N u : Nat} {t : By} {b : UInt8} (h : Lib.decDigits N = Lib.decDigits u ++ t) (hb : (b.toNat : Int) = 48 + ((u % 10 : Nat) : Int)) (h10 : ¬ u < 10) : Lib.decDigits N = Lib.decDigits (u / 10) ++ (b :: t) := by
 have e : Lib.decDigits u = Lib.decDigits (u / 10) ++ [UInt8.ofNat (48 + u % 10)] := by rw [Lib.decDigits, dif_neg h10]
 rw [h, e, dig_byte hb (by omega), List.append_assoc]
 rfl
theorem dig_last {N u : Nat} {t : By} {b : UInt8} (h : Lib.decDigits N = Lib.decDigits u ++ t) (hb : (b.toNat : Int) = 48 + ((u % 10 : Nat) : Int)) (h10 : u < 10) : Lib.decDigits N = b :: t := by
 rw [h, Lib.decDigits_one h10, dig_byte hb (by omega), Nat.mod_eq_of_lt h10]
 rfl
theorem dig_len {N : Nat} (h : N ≤ 9223372036854775808) : (Lib.decDigits N).length ≤ 19 := by
 rw [Lib.decDigits_length]
 have : ∀ (k n : Nat), n < 10 ^ (k + 1) → Lib.nDigits n ≤ k + 1 := by
  intro k
  induction k with
  | zero => intro n hn; rw [Lib.nDigits_small (by simpa using hn)]; exact Nat.le_refl _
  | succ k ih =>
   intro n hn
   by_cases h : n < 10
   ·rw [Lib.nDigits_small h]; omega
   ·rw [Lib.nDigits_big h]
    have := ih (n / 10) (by rw [Nat.pow_succ] at hn; omega)
    omega
 exact this 18 N (by omega)
theorem byte_at (z : Int) (h : 48 ≤ z ∧ z ≤ 57) : ∃ b : UInt8, (b.toNat : Int) = z := ⟨UInt8.ofNat z.toNat, by rw [UInt8.toNat_ofNat']; omega⟩
theorem mk_cons (b : UInt8) (t : By) : (⟨#[b]⟩ ++ ⟨t.toArray⟩ : ByteArray) = ⟨(b :: t).toArray⟩ := by
 apply ByteArray.ext
 rw [ByteArray.data_append]
 apply Array.toList_inj.1
 simp
theorem size_cons (t : By) : (⟨t.toArray⟩ : ByteArray).size = t.length := by simp [ByteArray.size]
def agn2 : Value → Nat
 | .bool true => 1
 | _ => 0
set_option maxRecDepth 100000 in
theorem rdecP_any (n : Int) (h0 : 0 ≤ n) (h1 : n ≤ 9223372036854775807) (w : World) : Calls Tryz.prog 18 #[.int .i64 n] w fun e w' => e = .returned (.string (decW n)) ∧ Below w.heap.size w w' := by
 obtain ⟨D, hD⟩ : ∃ D, Lib.decDigits n.natAbs = D := ⟨_, rfl⟩
 have hl : D.length ≤ 19 := by rw [← hD]; exact dig_len (by omega)
 have HW : Hid (decW n = ⟨D.toArray⟩) := Lib.hid (by unfold decW Lib.itoa; rw [if_neg (by omega), ← hD, show n.toNat = n.natAbs by omega])
 have H0 : Hid (D = Lib.decDigits n.natAbs ++ []) := Lib.hid (by rw [List.append_nil, hD])
 have HD := Lib.hid hD
 clear hD
 go_enter Tryz.func18, Tryz.ntmps18
 go_wp2
 go_loopw [3, 4, 5, 6] (fun s l g _ wr => Below w.heap.size w wr ∧ ∃ M : Int, l = .int .i64 M ∧ 0 ≤ M ∧ M ≤ 9223372036854775807 ∧ ((g = .bool true ∧ ∃ (t : By), Hid (D = Lib.decDigits M.natAbs ++ t) ∧ t.length ≤ 19 ∧ s = .string ⟨t.toArray⟩) ∨ (g = .bool false ∧ M = 0 ∧ s = .string ⟨D.toArray⟩))) (fun _ l g _ _ => 2 * (intOf l).natAbs + agn2 g)
 case atStart => exact ⟨Below.refl _ _, n, rfl, h0, h1, .inl ⟨rfl, [], H0, by simp, rfl⟩⟩
 case round =>
  obtain ⟨hb, M, rfl, hM0, hM1, hc⟩ := hrel
  have hbw := hb.size
  rcases hc with ⟨rfl, t, ht, htl, rfl⟩ | ⟨rfl, rfl, rfl⟩
  ·obtain ⟨b, hbz⟩ := byte_at (48 + M % 10) (by omega)
   have kc := conv_one wr (48 + M % 10) b hbz
   have HB : Hid ((b.toNat : Int) = 48 + ((M.natAbs % 10 : Nat) : Int)) := Lib.hid (by omega)
   have hneg : ¬ (M % 10 < 0) := by omega
   have hsz := size_cons t
   clear hbz
   by_cases h10 : M < 10
   ·have hz : M / 10 = 0 := by omega
    have hd : Hid (D = b :: t) := Lib.hid (dig_last ((HD.out.trans ht.out)) HB.out (by omega) ▸ HD.out.symm)
    go_wp2
    go_roundw
    case rel => exact ⟨hb.alloc hbw _, 0, by go_num, by omega, by omega, .inr ⟨rfl, rfl, by rw [mk_cons, hd.out]⟩⟩
    case measure => simp [intOf, agn2]; omega
   ·have hd : Hid (D = Lib.decDigits (M.natAbs / 10) ++ (b :: t)) := Lib.hid (HD.out.symm.trans (dig_step (HD.out.trans ht.out) HB.out (by omega)))
    have hq : Hid (M.natAbs / 10 = (M / 10).natAbs) := Lib.hid (by omega)
    obtain ⟨q, hqq⟩ : ∃ q, M / 10 = q := ⟨_, rfl⟩
    have hq1 : 0 ≤ q := by omega
    have hq2 : q ≤ 9223372036854775807 := by omega
    have hq3 : (q != 0) = true := by simp; omega
    have hq4 : (q == 0) = false := by simp; omega
    have hq5 : q ≠ 0 := by omega
    have hlen : Hid ((b :: t).length ≤ 19) := Lib.hid (by
     have := congrArg List.length hd.out
     rw [List.length_append] at this
     omega)
    have HQ : Hid (10 * q ≤ M) := Lib.hid (by omega)
    go_wp2
    go_roundw
    case rel => exact ⟨hb.alloc hbw _, q, by go_num, hq1, hq2, .inl ⟨rfl, b :: t, Lib.hid (by rw [← hqq, ← hq.out]; exact hd.out), hlen.out, by rw [mk_cons]⟩⟩
    case measure => have := HQ.out; simp [intOf, agn2]; omega
  ·have hn : ¬ n < 0 := by omega
   go_wp2
   go_ret
   exact ⟨ret_str HW.out.symm, hb⟩
theorem neg_parts {M : Int} (h : M ≤ 0) : M.tmod 10 = -((M.natAbs % 10 : Nat) : Int) ∧ M.tdiv 10 = -((M.natAbs / 10 : Nat) : Int) := by
 obtain ⟨u, hu⟩ : ∃ u : Nat, M.natAbs = u := ⟨_, rfl⟩
 have e : M = -(u : Int) := by omega
 subst e
 have e2 : (-(u : Int)).natAbs = u := by omega
 rw [e2, Int.neg_tmod, Int.neg_tdiv, Int.tmod_eq_emod_of_nonneg (by omega), Int.tdiv_eq_ediv_of_nonneg (by omega)]
 exact ⟨rfl, rfl⟩
set_option maxRecDepth 100000 in
theorem rdecN_any (n : Int) (h0 : n < 0) (h1 : -9223372036854775808 ≤ n) (w : World) : Calls Tryz.prog 18 #[.int .i64 n] w fun e w' => e = .returned (.string (decW n)) ∧ Below w.heap.size w w' := by
 obtain ⟨D, hD⟩ : ∃ D, Lib.decDigits n.natAbs = D := ⟨_, rfl⟩
 have hl : D.length ≤ 19 := by rw [← hD]; exact dig_len (by omega)
 have hl2 := size_cons D
 have HW : Hid (decW n = ⟨#[45]⟩ ++ ⟨D.toArray⟩) := Lib.hid (by unfold decW Lib.itoa; rw [if_pos h0, ← hD, mk_cons])
 have H0 : Hid (D = Lib.decDigits n.natAbs ++ []) := Lib.hid (by rw [List.append_nil, hD])
 have HD := Lib.hid hD
 clear hD
 go_enter Tryz.func18, Tryz.ntmps18
 go_wp2
 go_loopw [3, 4, 5, 6] (fun s l g _ wr => Below w.heap.size w wr ∧ ∃ M : Int, l = .int .i64 M ∧ M ≤ 0 ∧ -9223372036854775808 ≤ M ∧ ((g = .bool true ∧ ∃ (t : By), Hid (D = Lib.decDigits M.natAbs ++ t) ∧ t.length ≤ 19 ∧ s = .string ⟨t.toArray⟩) ∨ (g = .bool false ∧ M = 0 ∧ s = .string ⟨D.toArray⟩))) (fun _ l g _ _ => 2 * (intOf l).natAbs + agn2 g)
 case atStart => exact ⟨Below.refl _ _, n, rfl, by omega, h1, .inl ⟨rfl, [], H0, by simp, rfl⟩⟩
 case round =>
  obtain ⟨hb, M, rfl, hM0, hM1, hc⟩ := hrel
  have hbw := hb.size
  rcases hc with ⟨rfl, t, ht, htl, rfl⟩ | ⟨rfl, rfl, rfl⟩
  ·obtain ⟨hr, hq⟩ := neg_parts hM0
   obtain ⟨R, hR⟩ : ∃ R : Int, -((M.natAbs % 10 : Nat) : Int) = R := ⟨_, rfl⟩
   obtain ⟨q, hQ⟩ : ∃ q : Int, -((M.natAbs / 10 : Nat) : Int) = q := ⟨_, rfl⟩
   rw [hR] at hr
   rw [hQ] at hq
   have hr0 : R ≤ 0 := by omega
   have hr1 : -9 ≤ R := by omega
   have hq1 : q ≤ 0 := by omega
   have hq2 : -9223372036854775808 ≤ q := by omega
   have HR := Lib.hid hR
   have HQ := Lib.hid hQ
   clear hR hQ
   obtain ⟨b, hbz⟩ := byte_at (48 + -R) (by omega)
   have kc := conv_one wr (48 + -R) b hbz
   have HB : Hid ((b.toNat : Int) = 48 + ((M.natAbs % 10 : Nat) : Int)) := Lib.hid (by have := HR.out; omega)
   have hsz := size_cons t
   have HZ : Hid (R = 0 → (b.toNat : Int) = 48) := Lib.hid (by omega)
   clear hbz
   by_cases h10 : M.natAbs < 10
   ·have hz : q = 0 := by have := HQ.out; omega
    have hd : Hid (D = b :: t) := Lib.hid (dig_last ((HD.out.trans ht.out)) HB.out h10 ▸ HD.out.symm)
    subst hz
    by_cases hR0 : R = 0
    ·subst hR0
     have kc2 := conv_one wr 48 b (HZ.out rfl)
     clear kc
     go_wp2
     go_roundw
     case rel => exact ⟨hb.alloc hbw _, 0, by go_num, by omega, by omega, .inr ⟨rfl, rfl, by rw [mk_cons, hd.out]⟩⟩
     case measure => simp [intOf, agn2]
    ·have hR1 : R < 0 := by omega
     go_wp2
     go_roundw
     case rel => exact ⟨hb.alloc hbw _, 0, by go_num, by omega, by omega, .inr ⟨rfl, rfl, by rw [mk_cons, hd.out]⟩⟩
     case measure => simp [intOf, agn2]
   ·have hd : Hid (D = Lib.decDigits (M.natAbs / 10) ++ (b :: t)) := Lib.hid (HD.out.symm.trans (dig_step (HD.out.trans ht.out) HB.out h10))
    have hqq : Hid (M.natAbs / 10 = q.natAbs) := Lib.hid (by have := HQ.out; omega)
    have hq5 : q ≠ 0 := by have := HQ.out; omega
    have hq3 : (q != 0) = true := by simp; omega
    have hq4 : (q == 0) = false := by simp; omega
    have hlen : Hid ((b :: t).length ≤ 19) := Lib.hid (by
     have := congrArg List.length hd.out
     rw [List.length_append] at this
     omega)
    have HQ2 : Hid (10 * q.natAbs ≤ M.natAbs) := Lib.hid (by have := HQ.out; omega)
    by_cases hR0 : R = 0
    ·subst hR0
     have kc2 := conv_one wr 48 b (HZ.out rfl)
     clear kc
     go_wp2
     go_roundw
     case rel => exact ⟨hb.alloc hbw _, q, by go_num, hq1, hq2, .inl ⟨rfl, b :: t, Lib.hid (by rw [← hqq.out]; exact hd.out), hlen.out, by rw [mk_cons]⟩⟩
     case measure => have := HQ2.out; simp [intOf, agn2]; omega
    ·have hR1 : R < 0 := by omega
     go_wp2
     go_roundw
     case rel => exact ⟨hb.alloc hbw _, q, by go_num, hq1, hq2, .inl ⟨rfl, b :: t, Lib.hid (by rw [← hqq.out]; exact hd.out), hlen.out, by rw [mk_cons]⟩⟩
     case measure => have := HQ2.out; simp [intOf, agn2]; omega
  ·go_wp2
   go_ret
   exact ⟨ret_str HW.out.symm, hb⟩
theorem rdecW_any (n : Int) (h : in64 n) (w : World) : Calls Tryz.prog 18 #[.int .i64 n] w fun e w' => e = .returned (.string (decW n)) ∧ Below w.heap.size w w' := by
 by_cases h0 : 0 ≤ n
 ·exact rdecP_any n h0 h.2 w
 ·exact rdecN_any n (by omega) h.1 w
end Go.Proofs.YthefooacfcagbaaGreatDoor.txt

/- The reference's Number. -/
namespace Go.Proofs.YthefooacfcagbaaGreatDoor.txt
open Go.RowKit
open lib
set_option linter.unusedVariables false
set_option linter.unusedSimpArgs false
theorem lim_step {v d : Nat} {M T : Int} (hM : M = -(v : Int)) (hT : T = (-9223372036854775808 + (d : Int)).tdiv 10) (hd : d ≤ 9) : (M < T ↔ 9223372036854775808 < v * 10 + d) ∧ -922337203685477580 ≤ T ∧ T ≤ -922337203685477579 := by
 obtain ⟨X, hX⟩ : ∃ X : Int, 9223372036854775808 - (d : Int) = X := ⟨_, rfl⟩
 rw [show -9223372036854775808 + (d : Int) = -X by omega, Int.neg_tdiv, Int.tdiv_eq_ediv_of_nonneg (by omega)] at hT
 omega
theorem numL_sgn {l : By} (h : badH l = false) (h1 : (dgs l).all isD = true) (hs : sgn l = true) : numL l = if valD 0 (dgs l) ≤ 9223372036854775808 then (-(valD 0 (dgs l) : Int), 0) else (0, 4) := by
 unfold numL
 rw [if_neg (badH_no h), if_neg (by rw [h1]; decide), if_pos hs]
theorem numL_pos {l : By} (h : badH l = false) (h1 : (dgs l).all isD = true) (hs : sgn l = false) : numL l = if valD 0 (dgs l) ≤ 9223372036854775807 then ((valD 0 (dgs l) : Int), 0) else (0, 4) := by
 unfold numL
 rw [if_neg (badH_no h), if_neg (by rw [h1]; decide), if_neg (by rw [hs]; decide)]
theorem head_of (s : ByteArray) (h : 0 < s.size) : s.data.toList.head? = some s[0] := by rw [List.head?_eq_getElem?, at_data s 0 h]
theorem isD_get {l : By} {k : Nat} {c : UInt8} (h : (l.drop k).all isD = true) (hc : l[k]? = some c) : isD c = true := by
 rw [drop_at' hc, List.all_cons, Bool.and_eq_true] at h
 exact h.1
set_option maxRecDepth 100000 in
set_option maxHeartbeats 8000000 in
theorem rnumber_any (s : ByteArray) (hm : s.size ≤ 140737488351232) (w : World) : Calls Tryz.prog 154 #[.string s] w fun e w' => e = .returned (.tuple #[.int .i64 (numL s.data.toList).1, .int .i64 (numL s.data.toList).2]) ∧ w = w' := by
 obtain ⟨l, hl⟩ : ∃ l, s.data.toList = l := ⟨_, rfl⟩
 have HL := Lib.hid hl
 have hlen : l.length = s.size := by rw [← hl]; simp
 rw [hl]
 have HLen := Lib.hid hlen
 by_cases h0 : s.size = 0
 ·have hn : numL l = (0, 3) := by
   have e : l = [] := List.eq_nil_of_length_eq_zero (by omega)
   subst e; rfl
  have HN := Lib.hid hn
  clear hlen hl hn
  go_enter Tryz.func154, Tryz.ntmps154
  go_wp2
  refine bodyPost_ret (v := .tuple #[.int .i64 0, .int .i64 3]) (by simp [results, Tryz.results154, go_sem]) rfl ?_
  exact ⟨by rw [HN.out], rfl⟩
 have hz : 0 < s.size := by omega
 obtain ⟨c0, hc0⟩ : ∃ c, s[0] = c := ⟨_, rfl⟩
 have hh := head_of s hz
 rw [hl, hc0] at hh
 clear hlen hl
 by_cases h45 : (c0.toNat : Int) = 45
 case pos =>
  have hs : sgn l = true := decide_eq_true (by rw [hh]; congr 1; apply UInt8.toNat_inj.1; have : (45 : UInt8).toNat = 45 := rfl; omega)
  have HS := Lib.hid hs
  have HH := Lib.hid hh
  clear hs hh
  go_enter Tryz.func154, Tryz.ntmps154
  go_upto_region 4 with fail
  have HD : Hid (dgs l = l.drop 1) := Lib.hid (by unfold dgs; rw [if_pos HS.out])
  clear hc0 h45
  by_cases hA : s.size = 1
  ·have HN : Hid (numL l = (0, 3)) := Lib.hid (numL_bad (decide_eq_true (.inl (by rw [HD.out, List.drop_of_length_le (by rw [HLen.out]; omega)]))))
   go_wp2
   refine bodyPost_ret (v := .tuple #[.int .i64 0, .int .i64 3]) (by simp [results, Tryz.results154, go_sem]) rfl ?_
   exact ⟨by rw [HN.out], rfl⟩
  have hlt : 1 < s.size := by omega
  obtain ⟨c, hc⟩ : ∃ c, s[1] = c := ⟨_, rfl⟩
  have hx : l[1]? = some c := by rw [← HL.out, at_data s 1 hlt, hc]
  have hdr : dgs l = c :: l.drop (1 + 1) := HD.out.trans (drop_at' hx)
  have HX := Lib.hid hx
  have HDR := Lib.hid hdr
  clear hx hdr
  by_cases hB : (c.toNat : Int) = 48 ∧ 1 < s.size
  ·have HN : Hid (numL l = (0, 3)) := Lib.hid (numL_bad (decide_eq_true (.inr ⟨by rw [HDR.out]; show some c = some 48; congr 1; apply UInt8.toNat_inj.1; have : (48 : UInt8).toNat = 48 := rfl; omega, by intro e; have := congrArg List.length e; rw [HLen.out] at this; simp at this; omega⟩)))
   obtain ⟨hB1, hB2⟩ := hB
   go_wp2
   refine bodyPost_ret (v := .tuple #[.int .i64 0, .int .i64 3]) (by simp [results, Tryz.results154, go_sem]) rfl ?_
   exact ⟨by rw [HN.out], rfl⟩
  have HBD : Hid (badH l = false) := Lib.hid (decide_eq_false (by
   rintro (h | ⟨h1, h2⟩)
   ·rw [HDR.out] at h; cases h
   ·rw [HDR.out] at h1
    have e48 : c = 48 := Option.some.inj h1
    have hc48 : (c.toNat : Int) = 48 := by rw [e48]; rfl
    have h1' : s.size = 1 := by
     by_cases h3 : 1 < s.size
     ·exact absurd ⟨hc48, h3⟩ hB
     ·omega
    first
     | omega
     | (apply h2; have hl1 := HLen.out; rw [h1'] at hl1; obtain ⟨x, rfl⟩ := List.length_eq_one_iff.1 hl1; have := HX.out; rw [e48] at this; exact congrArg (fun z => [z]) (Option.some.inj this))))
  go_cut [31] (fun v wx => v = .bool false ∧ w = wx)
  case first => as_aux_lemma =>
   by_cases h48 : (c.toNat : Int) = 48
   ·have h3 : s.size = 1 := by
     by_cases h3 : 1 < s.size
     ·exact absurd ⟨h48, h3⟩ hB
     ·omega
    first
     | omega
     | (go_wp2; go_meet; exact ⟨by first | rfl | exact congrArg Value.bool (beq_eq_false_iff_ne.2 (by omega)) | exact congrArg Value.bool (by simp <;> omega), rfl⟩)
   ·go_wp2
    go_meet
    exact ⟨by first | rfl | exact congrArg Value.bool (beq_eq_false_iff_ne.2 (by omega)) | exact congrArg Value.bool (by simp <;> omega), rfl⟩
  obtain ⟨rfl, rfl⟩ := hcut
  clear hB
  go_upto_region 7 with fail
  go_loop [5] (fun i => ∃ k : Nat, 1 ≤ k ∧ k ≤ s.size ∧ i = .int .i64 k ∧ Hid ((dgs l).all isD = (l.drop k).all isD)) (fun i => s.size - (intOf i).toNat)
  case atStart => exact ⟨1, Nat.le_refl _, by omega, rfl, Lib.hid (by rw [HD.out])⟩
  case round =>
   obtain ⟨k, hk0, hk, rfl, hr⟩ := hrel
   by_cases hlt2 : k < s.size
   ·obtain ⟨x, hxx⟩ : ∃ x, s[k] = x := ⟨_, rfl⟩
    have hxl : Hid (l[k]? = some x) := Lib.hid (by rw [← HL.out, at_data s k hlt2, hxx])
    have hst : Hid ((l.drop k).all isD = (digB (x.toNat : Int) && (l.drop (k + 1)).all isD)) := Lib.hid (by rw [drop_at' hxl.out, List.all_cons, isD_digB])
    cases hg : digB (x.toNat : Int)
    ·have HN : Hid (numL l = (0, 3)) := Lib.hid (numL_dig HBD.out (by rw [hr.out, hst.out, hg]; rfl))
     go_wp2_with (go_at_call 167; refine (rdigit_any _ _).mono ?_; rintro e w1 ⟨rfl, rfl⟩)
     refine bodyPost_ret (v := .tuple #[.int .i64 0, .int .i64 3]) (by simp [results, Tryz.results154, go_sem]) rfl ?_
     exact ⟨by rw [HN.out], rfl⟩
    ·have HF : Hid ((dgs l).all isD = (l.drop (k + 1)).all isD) := Lib.hid (by rw [hr.out, hst.out, hg]; rfl)
     go_wp2_with (go_at_call 167; refine (rdigit_any _ _).mono ?_; rintro e w1 ⟨rfl, rfl⟩)
     go_round
     case rel => exact ⟨k + 1, by omega, by omega, by go_num, HF⟩
     case measure => simp [intOf]; omega
   have HAll : Hid ((dgs l).all isD = true) := Lib.hid (by rw [hr.out, List.drop_of_length_le (by rw [HLen.out]; omega)]; rfl)
   clear hr
   go_upto_region 13 with fail
   go_loop [6, 7, 8] (fun n i d => ∃ (k v : Nat) (M : Int), 1 ≤ k ∧ k ≤ s.size ∧ i = .int .i64 k ∧ n = .int .i64 M ∧ Hid (M = -(v : Int)) ∧ M ≤ 0 ∧ -9223372036854775808 ≤ M ∧ Hid (valD 0 (dgs l) = valD v (l.drop k)) ∧ Hid ((l.drop k).all isD = true)) (fun _ i _ => s.size - (intOf i).toNat)
   case atStart => exact ⟨1, 0, 0, Nat.le_refl _, by omega, rfl, rfl, Lib.hid rfl, by omega, by omega, Lib.hid (by rw [HD.out]), Lib.hid (by rw [← HD.out]; exact HAll.out)⟩
   case round =>
    obtain ⟨k2, v, M, hk20, hk2, rfl, rfl, hMv, hM0, hM1, hv, hal⟩ := hrel
    clear hlt2 hk0 hk
    by_cases hlt3 : k2 < s.size
    ·obtain ⟨x, hxx⟩ : ∃ x, s[k2] = x := ⟨_, rfl⟩
     have hxl : Hid (l[k2]? = some x) := Lib.hid (by rw [← HL.out, at_data s k2 hlt3, hxx])
     have hD : Hid (isD x = true) := Lib.hid (isD_get hal.out hxl.out)
     have hD2 : 48 ≤ x.toNat ∧ x.toNat ≤ 57 := of_decide_eq_true hD.out
     obtain ⟨hx1, hx2⟩ := hD2
     have hx3 : (48 : Int) ≤ (x.toNat : Int) := by omega
     have hx4 : (x.toNat : Int) ≤ 57 := by omega
     obtain ⟨T, hT⟩ : ∃ T : Int, (-9223372036854775808 + ((x.toNat : Int) - 48)).tdiv 10 = T := ⟨_, rfl⟩
     obtain ⟨ht1, ht2, ht3⟩ := lim_step (T := T) hMv.out (d := x.toNat - 48) (by rw [← hT]; congr 1; omega) (by omega)
     have HT := Lib.hid ht1
     clear ht1
     have hst : Hid (valD 0 (dgs l) = valD (v * 10 + (x.toNat - 48)) (l.drop (k2 + 1))) := Lib.hid (by rw [hv.out, drop_at' hxl.out]; rfl)
     have hal2 : Hid ((l.drop (k2 + 1)).all isD = true) := Lib.hid (by have := hal.out; rw [drop_at' hxl.out, List.all_cons, Bool.and_eq_true] at this; exact this.2)
     by_cases hMT : M < T
     ·have HN : Hid (numL l = (0, 4)) := Lib.hid (by
       have h1 := HT.out.1 hMT
       have h2 := valD_ge (v * 10 + (x.toNat - 48)) (l.drop (k2 + 1))
       rw [← hst.out] at h2
       cases hs : sgn l
       ·rw [numL_pos HBD.out HAll.out hs, if_neg (by omega)]
       ·rw [numL_sgn HBD.out HAll.out hs, if_neg (by omega)])
      go_wp2
      refine bodyPost_ret (v := .tuple #[.int .i64 0, .int .i64 4]) (by simp [results, Tryz.results154, go_sem]) rfl ?_
      exact ⟨by rw [HN.out], rfl⟩
     ·have hM2 : Hid (10 * M - ((x.toNat : Int) - 48) = -((v * 10 + (x.toNat - 48) : Nat) : Int)) := Lib.hid (by rw [hMv.out]; omega)
      have hb1 : 10 * M - ((x.toNat : Int) - 48) ≤ 0 := by omega
      have hb2 : -9223372036854775808 ≤ 10 * M - ((x.toNat : Int) - 48) := by
       have h1 := mt HT.out.2 hMT
       rw [hM2.out]; omega
      have hb3 : -9223372036854775808 ≤ 10 * M := by omega
      go_wp2
      go_round
      case rel => exact ⟨k2 + 1, v * 10 + (x.toNat - 48), 10 * M - ((x.toNat : Int) - 48), by omega, by omega, by go_num, by go_num, hM2, hb1, hb2, hst, hal2⟩
      case measure => simp [intOf]; omega
    ·have HV : Hid (valD 0 (dgs l) = v) := Lib.hid (by rw [hv.out, List.drop_of_length_le (by rw [HLen.out]; omega)]; rfl)
     clear hv hal
     have HN : Hid (numL l = (M, 0)) := Lib.hid (by rw [numL_sgn HBD.out HAll.out HS.out, HV.out, if_pos (by have := hMv.out; omega), hMv.out])
     go_wp2
     refine bodyPost_ret (v := .tuple #[.int .i64 M, .int .i64 0]) (by simp [results, Tryz.results154, go_sem]) rfl ?_
     exact ⟨by rw [HN.out], rfl⟩
 case neg =>
  have hs : sgn l = false := decide_eq_false (by rw [hh]; intro e; apply h45; rw [Option.some.inj e]; rfl)
  have HS := Lib.hid hs
  clear hs hh
  have HD : Hid (dgs l = l.drop 0) := Lib.hid (by unfold dgs; rw [if_neg (by rw [HS.out]; decide)]; rfl)
  go_enter Tryz.func154, Tryz.ntmps154
  go_upto_region 4 with fail
  clear hc0 h45
  by_cases hA : s.size = 0
  ·have HN : Hid (numL l = (0, 3)) := Lib.hid (numL_bad (decide_eq_true (.inl (by rw [HD.out, List.drop_of_length_le (by rw [HLen.out]; omega)]))))
   go_wp2
   refine bodyPost_ret (v := .tuple #[.int .i64 0, .int .i64 3]) (by simp [results, Tryz.results154, go_sem]) rfl ?_
   exact ⟨by rw [HN.out], rfl⟩
  have hlt : 0 < s.size := by omega
  obtain ⟨c, hc⟩ : ∃ c, s[0] = c := ⟨_, rfl⟩
  have hx : l[0]? = some c := by rw [← HL.out, at_data s 0 hlt, hc]
  have hdr : dgs l = c :: l.drop (0 + 1) := HD.out.trans (drop_at' hx)
  have HX := Lib.hid hx
  have HDR := Lib.hid hdr
  clear hx hdr
  by_cases hB : (c.toNat : Int) = 48 ∧ 1 < s.size
  ·have HN : Hid (numL l = (0, 3)) := Lib.hid (numL_bad (decide_eq_true (.inr ⟨by rw [HDR.out]; show some c = some 48; congr 1; apply UInt8.toNat_inj.1; have : (48 : UInt8).toNat = 48 := rfl; omega, by intro e; have := congrArg List.length e; rw [HLen.out] at this; simp at this; omega⟩)))
   obtain ⟨hB1, hB2⟩ := hB
   go_wp2
   refine bodyPost_ret (v := .tuple #[.int .i64 0, .int .i64 3]) (by simp [results, Tryz.results154, go_sem]) rfl ?_
   exact ⟨by rw [HN.out], rfl⟩
  have HBD : Hid (badH l = false) := Lib.hid (decide_eq_false (by
   rintro (h | ⟨h1, h2⟩)
   ·rw [HDR.out] at h; cases h
   ·rw [HDR.out] at h1
    have e48 : c = 48 := Option.some.inj h1
    have hc48 : (c.toNat : Int) = 48 := by rw [e48]; rfl
    have h1' : s.size = 1 := by
     by_cases h3 : 1 < s.size
     ·exact absurd ⟨hc48, h3⟩ hB
     ·omega
    first
     | omega
     | (apply h2; have hl1 := HLen.out; rw [h1'] at hl1; obtain ⟨x, rfl⟩ := List.length_eq_one_iff.1 hl1; have := HX.out; rw [e48] at this; exact congrArg (fun z => [z]) (Option.some.inj this))))
  go_cut [31] (fun v wx => v = .bool false ∧ w = wx)
  case first => as_aux_lemma =>
   by_cases h48 : (c.toNat : Int) = 48
   ·have h3 : s.size = 1 := by
     by_cases h3 : 1 < s.size
     ·exact absurd ⟨h48, h3⟩ hB
     ·omega
    first
     | omega
     | (go_wp2; go_meet; exact ⟨by first | rfl | exact congrArg Value.bool (beq_eq_false_iff_ne.2 (by omega)) | exact congrArg Value.bool (by simp <;> omega), rfl⟩)
   ·go_wp2
    go_meet
    exact ⟨by first | rfl | exact congrArg Value.bool (beq_eq_false_iff_ne.2 (by omega)) | exact congrArg Value.bool (by simp <;> omega), rfl⟩
  obtain ⟨rfl, rfl⟩ := hcut
  clear hB
  go_upto_region 7 with fail
  go_loop [5] (fun i => ∃ k : Nat, 0 ≤ k ∧ k ≤ s.size ∧ i = .int .i64 k ∧ Hid ((dgs l).all isD = (l.drop k).all isD)) (fun i => s.size - (intOf i).toNat)
  case atStart => exact ⟨0, Nat.le_refl _, by omega, rfl, Lib.hid (by rw [HD.out])⟩
  case round =>
   obtain ⟨k, hk0, hk, rfl, hr⟩ := hrel
   by_cases hlt2 : k < s.size
   ·obtain ⟨x, hxx⟩ : ∃ x, s[k] = x := ⟨_, rfl⟩
    have hxl : Hid (l[k]? = some x) := Lib.hid (by rw [← HL.out, at_data s k hlt2, hxx])
    have hst : Hid ((l.drop k).all isD = (digB (x.toNat : Int) && (l.drop (k + 1)).all isD)) := Lib.hid (by rw [drop_at' hxl.out, List.all_cons, isD_digB])
    cases hg : digB (x.toNat : Int)
    ·have HN : Hid (numL l = (0, 3)) := Lib.hid (numL_dig HBD.out (by rw [hr.out, hst.out, hg]; rfl))
     go_wp2_with (go_at_call 167; refine (rdigit_any _ _).mono ?_; rintro e w1 ⟨rfl, rfl⟩)
     refine bodyPost_ret (v := .tuple #[.int .i64 0, .int .i64 3]) (by simp [results, Tryz.results154, go_sem]) rfl ?_
     exact ⟨by rw [HN.out], rfl⟩
    ·have HF : Hid ((dgs l).all isD = (l.drop (k + 1)).all isD) := Lib.hid (by rw [hr.out, hst.out, hg]; rfl)
     go_wp2_with (go_at_call 167; refine (rdigit_any _ _).mono ?_; rintro e w1 ⟨rfl, rfl⟩)
     go_round
     case rel => exact ⟨k + 1, by omega, by omega, by go_num, HF⟩
     case measure => simp [intOf]; omega
   have HAll : Hid ((dgs l).all isD = true) := Lib.hid (by rw [hr.out, List.drop_of_length_le (by rw [HLen.out]; omega)]; rfl)
   clear hr
   go_upto_region 13 with fail
   go_loop [6, 7, 8] (fun n i d => ∃ (k v : Nat) (M : Int), 0 ≤ k ∧ k ≤ s.size ∧ i = .int .i64 k ∧ n = .int .i64 M ∧ Hid (M = -(v : Int)) ∧ M ≤ 0 ∧ -9223372036854775808 ≤ M ∧ Hid (valD 0 (dgs l) = valD v (l.drop k)) ∧ Hid ((l.drop k).all isD = true)) (fun _ i _ => s.size - (intOf i).toNat)
   case atStart => exact ⟨0, 0, 0, Nat.le_refl _, by omega, rfl, rfl, Lib.hid rfl, by omega, by omega, Lib.hid (by rw [HD.out]), Lib.hid (by rw [← HD.out]; exact HAll.out)⟩
   case round =>
    obtain ⟨k2, v, M, hk20, hk2, rfl, rfl, hMv, hM0, hM1, hv, hal⟩ := hrel
    clear hlt2 hk0 hk
    by_cases hlt3 : k2 < s.size
    ·obtain ⟨x, hxx⟩ : ∃ x, s[k2] = x := ⟨_, rfl⟩
     have hxl : Hid (l[k2]? = some x) := Lib.hid (by rw [← HL.out, at_data s k2 hlt3, hxx])
     have hD : Hid (isD x = true) := Lib.hid (isD_get hal.out hxl.out)
     have hD2 : 48 ≤ x.toNat ∧ x.toNat ≤ 57 := of_decide_eq_true hD.out
     obtain ⟨hx1, hx2⟩ := hD2
     have hx3 : (48 : Int) ≤ (x.toNat : Int) := by omega
     have hx4 : (x.toNat : Int) ≤ 57 := by omega
     obtain ⟨T, hT⟩ : ∃ T : Int, (-9223372036854775808 + ((x.toNat : Int) - 48)).tdiv 10 = T := ⟨_, rfl⟩
     obtain ⟨ht1, ht2, ht3⟩ := lim_step (T := T) hMv.out (d := x.toNat - 48) (by rw [← hT]; congr 1; omega) (by omega)
     have HT := Lib.hid ht1
     clear ht1
     have hst : Hid (valD 0 (dgs l) = valD (v * 10 + (x.toNat - 48)) (l.drop (k2 + 1))) := Lib.hid (by rw [hv.out, drop_at' hxl.out]; rfl)
     have hal2 : Hid ((l.drop (k2 + 1)).all isD = true) := Lib.hid (by have := hal.out; rw [drop_at' hxl.out, List.all_cons, Bool.and_eq_true] at this; exact this.2)
     by_cases hMT : M < T
     ·have HN : Hid (numL l = (0, 4)) := Lib.hid (by
       have h1 := HT.out.1 hMT
       have h2 := valD_ge (v * 10 + (x.toNat - 48)) (l.drop (k2 + 1))
       rw [← hst.out] at h2
       cases hs : sgn l
       ·rw [numL_pos HBD.out HAll.out hs, if_neg (by omega)]
       ·rw [numL_sgn HBD.out HAll.out hs, if_neg (by omega)])
      go_wp2
      refine bodyPost_ret (v := .tuple #[.int .i64 0, .int .i64 4]) (by simp [results, Tryz.results154, go_sem]) rfl ?_
      exact ⟨by rw [HN.out], rfl⟩
     ·have hM2 : Hid (10 * M - ((x.toNat : Int) - 48) = -((v * 10 + (x.toNat - 48) : Nat) : Int)) := Lib.hid (by rw [hMv.out]; omega)
      have hb1 : 10 * M - ((x.toNat : Int) - 48) ≤ 0 := by omega
      have hb2 : -9223372036854775808 ≤ 10 * M - ((x.toNat : Int) - 48) := by
       have h1 := mt HT.out.2 hMT
       rw [hM2.out]; omega
      have hb3 : -9223372036854775808 ≤ 10 * M := by omega
      go_wp2
      go_round
      case rel => exact ⟨k2 + 1, v * 10 + (x.toNat - 48), 10 * M - ((x.toNat : Int) - 48), by omega, by omega, by go_num, by go_num, hM2, hb1, hb2, hst, hal2⟩
      case measure => simp [intOf]; omega
    ·have HV : Hid (valD 0 (dgs l) = v) := Lib.hid (by rw [hv.out, List.drop_of_length_le (by rw [HLen.out]; omega)]; rfl)
     clear hv hal
     by_cases hml : M = -9223372036854775808
     ·have HN : Hid (numL l = (0, 4)) := Lib.hid (by rw [numL_pos HBD.out HAll.out HS.out, HV.out, if_neg (by have := hMv.out; omega)])
      go_wp2
      refine bodyPost_ret (v := .tuple #[.int .i64 0, .int .i64 4]) (by simp [results, Tryz.results154, go_sem]) rfl ?_
      exact ⟨by rw [HN.out], rfl⟩
     ·have HN : Hid (numL l = (-M, 0)) := Lib.hid (by rw [numL_pos HBD.out HAll.out HS.out, HV.out, if_pos (by have := hMv.out; omega), hMv.out]; simp)
      go_wp2
      refine bodyPost_ret (v := .tuple #[.int .i64 (-M), .int .i64 0]) (by simp [results, Tryz.results154, go_sem]) rfl ?_
      exact ⟨by rw [HN.out], rfl⟩
end Go.Proofs.YthefooacfcagbaaGreatDoor.txt

/- The reference's Words and what it calls. -/
namespace Go.Proofs.YthefooacfcagbaaGreatDoor.txt
open Go.RowKit
open lib app
set_option linter.unusedVariables false
set_option linter.unusedSimpArgs false
set_option maxRecDepth 100000 in
theorem conv_own {w : World} {base n c : Nat} {A : Option Addr} {l : By} (hl : l.length = n) (h : w.ownsRow base 5 1 (.slice A n c) n (u8s l)) : (convert 55 9 (.slice A n c)).run Tryz.prog w = .ok (.string ⟨l.toArray⟩) w := by
 rcases h.2 with ⟨h1, hz⟩ | ⟨g0, cap0, cur, h1, _, hg, hnc, _⟩
 ·injection h1 with e1 e2 e3
  subst e1
  have hl0 : l = [] := List.eq_nil_of_length_eq_zero (by omega)
  subst hl0
  exact run_convert_bytes_nil w 55 5 Tryz.underlying55 Tryz.underlying5 n c 9 Tryz.underlying9
 ·injection h1 with e1 e2 e3
  subst e1
  exact conv_u8 hl h
set_option maxRecDepth 100000 in
theorem rword_any (s : ByteArray) (hm : s.size ≤ 140737488351232) (k : Nat) (hk : k ≤ s.size) (w : World) : Calls Tryz.prog 70 #[.string s, .int .i64 k] w fun e w' => e = .returned (.int .i64 (k + ((s.data.toList.drop k).takeWhile isW).length : Nat)) ∧ w = w' := by
 obtain ⟨l, hl⟩ : ∃ l, s.data.toList = l := ⟨_, rfl⟩
 have HL := Lib.hid hl
 have HLen : Hid (l.length = s.size) := Lib.hid (by rw [← hl]; simp)
 rw [hl]
 obtain ⟨R, hR⟩ : ∃ R, k + ((l.drop k).takeWhile isW).length = R := ⟨_, rfl⟩
 rw [hR]
 have HR := Lib.hid hR
 clear hR hl
 go_enter Tryz.func70, Tryz.ntmps70
 go_upto_region 1 with fail
 go_loop [1] (fun i => ∃ j : Nat, j ≤ s.size ∧ i = .int .i64 j ∧ Hid (R = j + ((l.drop j).takeWhile isW).length)) (fun i => s.size - (intOf i).toNat)
 case atStart => exact ⟨k, hk, rfl, Lib.hid HR.out.symm⟩
 case round =>
  obtain ⟨j, hj, rfl, hr⟩ := hrel
  clear HR hk
  by_cases hlt : j < s.size
  ·obtain ⟨x, hxx⟩ : ∃ x, s[j] = x := ⟨_, rfl⟩
   have hxl : Hid (l[j]? = some x) := Lib.hid (by rw [← HL.out, at_data s j hlt, hxx])
   cases hg : isW x
   ·have HF : Hid (j = R) := Lib.hid (by rw [hr.out, drop_at' hxl.out, List.takeWhile_cons, hg]; simp)
    have hno := isW_no hg
    clear hg
    rcases hno with h | h | h
    ·go_wp2
     go_ret
     exact ⟨congrArg (fun z : Nat => Ending.returned (.int .i64 (z : Int))) HF.out, rfl⟩
    ·have h2 : ¬ (x.toNat : Int) ≤ 32 := by omega
     go_wp2
     go_ret
     exact ⟨congrArg (fun z : Nat => Ending.returned (.int .i64 (z : Int))) HF.out, rfl⟩
    ·go_wp2
     go_ret
     exact ⟨congrArg (fun z : Nat => Ending.returned (.int .i64 (z : Int))) HF.out, rfl⟩
   ·have HF : Hid (R = (j + 1) + ((l.drop (j + 1)).takeWhile isW).length) := Lib.hid (by rw [hr.out, drop_at' hxl.out, List.takeWhile_cons, hg]; simp; omega)
    obtain ⟨h1, h2, h3⟩ := isW_yes hg
    clear hg
    go_wp2
    go_round
    case rel => exact ⟨j + 1, by omega, by go_num, HF⟩
    case measure => simp [intOf]; omega
  ·have HF : Hid (j = R) := Lib.hid (by rw [hr.out, List.drop_of_length_le (by rw [HLen.out]; omega)]; simp)
   go_wp2
   go_ret
   exact ⟨congrArg (fun z : Nat => Ending.returned (.int .i64 (z : Int))) HF.out, rfl⟩
theorem hex_size (a b c d : Nat) (h : b ≤ a + 1) (h' : d ≤ c + 1) : 1 ≤ ((⟨#[92, 120]⟩ : ByteArray) ++ (⟨#[48, 49, 50, 51, 52, 53, 54, 55, 56, 57, 97, 98, 99, 100, 101, 102]⟩ : ByteArray).extract a b ++ (⟨#[48, 49, 50, 51, 52, 53, 54, 55, 56, 57, 97, 98, 99, 100, 101, 102]⟩ : ByteArray).extract c d).size ∧ ((⟨#[92, 120]⟩ : ByteArray) ++ (⟨#[48, 49, 50, 51, 52, 53, 54, 55, 56, 57, 97, 98, 99, 100, 101, 102]⟩ : ByteArray).extract a b ++ (⟨#[48, 49, 50, 51, 52, 53, 54, 55, 56, 57, 97, 98, 99, 100, 101, 102]⟩ : ByteArray).extract c d).size ≤ 4 := by
 rw [ByteArray.size_append, ByteArray.size_append, ByteArray.size_extract, ByteArray.size_extract, show (⟨#[92, 120]⟩ : ByteArray).size = 2 from rfl]
 omega
def FmOut (w : World) (e : Ending) (w' : World) : Prop := ∃ t : ByteArray, e = .returned (.string t) ∧ 1 ≤ t.size ∧ t.size ≤ 4 ∧ Below w.heap.size w w'
set_option maxRecDepth 100000 in
theorem rform_any (c : UInt8) (w : World) : Calls Tryz.prog 153 #[.int .u8 (c.toNat : Int)] w (FmOut w) := by
 have kc := conv_one w (c.toNat : Int) c rfl
 have hc : c.toNat < 256 := c.toNat_lt
 obtain ⟨x, hx⟩ : ∃ x : Int, (c.toNat : Int) = x := ⟨_, rfl⟩
 have hx0 : 0 ≤ x := by omega
 have hx1 : x ≤ 255 := by omega
 rw [hx] at kc ⊢
 clear hx hc
 have hlit : ∀ (t : ByteArray) (w' : World), 1 ≤ t.size → t.size ≤ 4 → Below w.heap.size w w' → FmOut w (.returned (.string t)) w' := fun t w' h1 h2 h3 => ⟨t, rfl, h1, h2, h3⟩
 have HLit := Lib.hid hlit
 clear hlit
 by_cases h1 : x = 34
 ·go_enter Tryz.func153, Tryz.ntmps153
  go_wp2
  go_ret
  exact HLit.out _ _ (by decide) (by decide) (Below.refl _ _)
 by_cases h2 : x = 92
 ·go_enter Tryz.func153, Tryz.ntmps153
  go_wp2
  go_ret
  exact HLit.out _ _ (by decide) (by decide) (Below.refl _ _)
 by_cases h3 : x = 10
 ·go_enter Tryz.func153, Tryz.ntmps153
  go_wp2
  go_ret
  exact HLit.out _ _ (by decide) (by decide) (Below.refl _ _)
 have k1 : (x == 34) = false := beq_eq_false_iff_ne.2 h1
 have k2 : (x == 92) = false := beq_eq_false_iff_ne.2 h2
 have k3 : (x == 10) = false := beq_eq_false_iff_ne.2 h3
 by_cases h4 : x < 32 ∨ 126 < x
 ·have a0 : 0 ≤ x / 16 := by omega
  have a1 : x / 16 ≤ 15 := by omega
  have b0 : 0 ≤ x % 16 := by omega
  have b1 : x % 16 ≤ 15 := by omega
  go_enter Tryz.func153, Tryz.ntmps153
  go_upto_region 7 with fail
  go_cut [12] (fun v wx => v = .bool true ∧ w = wx)
  case first =>
   rcases h4 with h4 | h4
   ·go_wp2
    go_meet
    exact ⟨rfl, rfl⟩
   ·have h5 : ¬ x < 32 := by omega
    go_wp2
    go_meet
    exact ⟨rfl, rfl⟩
  obtain ⟨rfl, rfl⟩ := hcut
  clear h4
  go_upto_region 8 with fail
  go_quiet (fail)
  go_wp2
  go_ret
  obtain ⟨z1, z2⟩ := hex_size (x / 16).toNat (x / 16 + 1).toNat (x % 16).toNat (x % 16 + 1).toNat (by omega) (by omega)
  exact HLit.out _ _ z1 z2 (bel_drewN (Below.refl _ _) _)
 ·rw [not_or] at h4
  obtain ⟨h5, h6⟩ := h4
  go_enter Tryz.func153, Tryz.ntmps153
  go_wp2
  go_ret
  exact HLit.out _ _ (Nat.le_refl 1) (show 1 ≤ 4 by omega) ((Below.refl _ _).alloc (Nat.le_refl _) _)
def SsOut (s : ByteArray) (k : Nat) (w : World) (e : Ending) (w' : World) : Prop := ∃ (b : UInt8) (n : Nat) (ok : Bool), e = .returned (.tuple #[.int .u8 (b.toNat : Int), .int .i64 n, .bool ok]) ∧ (ok = true → k < n ∧ n ≤ s.size) ∧ Below w.heap.size w w'
set_option maxRecDepth 100000 in
theorem rstarts_any (s : ByteArray) (hm : s.size ≤ 1000000) (k : Nat) (hk : k ≤ s.size) (w : World) : Calls Tryz.prog 104 #[.string s, .int .i64 k] w (SsOut s k w) := by
 go_enter Tryz.func104, Tryz.ntmps104
 go_upto_region 2 with fail
 go_loopw [7, 8] (fun i _ wr => Below w.heap.size w wr ∧ ∃ j : Nat, j ≤ 256 ∧ i = .int .i64 j) (fun i _ _ => 256 - (intOf i).toNat)
 case atStart => exact ⟨Below.refl _ _, 0, by omega, rfl⟩
 case round =>
  obtain ⟨hb, j, hj, rfl⟩ := hrel
  have hbz := hb.size
  by_cases hlt : j < 256
  ·obtain ⟨c, hc⟩ : ∃ c : UInt8, (c.toNat : Int) = j := ⟨UInt8.ofNat j, by rw [UInt8.toNat_ofNat']; omega⟩
   have hf := rform_any c wr
   rw [hc] at hf
   go_upto_region 5 with (go_at_call 153; refine hf.mono ?_; rintro e1 w1 ⟨t, rfl, ht1, ht2, hb1⟩)
   have hb3 := Lib.hid (hb.trans (hb1.mono hbz))
   clear hf hb hb1 hbz
   by_cases hfit : k + t.size ≤ s.size
   ·obtain ⟨g, hg⟩ : ∃ g, ((s.extract k (k + t.size)).toList == t.toList) = g := ⟨_, rfl⟩
    cases g
    ·go_wp2
     go_roundw
     case rel => exact ⟨hb3.out, j + 1, by omega, by go_num⟩
     case measure => simp [intOf]; omega
    ·go_wp2
     refine bodyPost_ret (v := .tuple #[.int .u8 j, .int .i64 ((k : Int) + (t.size : Int)), .bool true]) (by simp [results, Tryz.results104, go_sem]) rfl ?_
     exact ⟨c, k + t.size, true, by rw [hc]; rfl, fun _ => by omega, hb3.out⟩
   ·go_wp2
    go_roundw
    case rel => exact ⟨hb3.out, j + 1, by omega, by go_num⟩
    case measure => simp [intOf]; omega
  ·go_wp2
   refine bodyPost_ret (v := .tuple #[.int .u8 0, .int .i64 k, .bool false]) (by simp [results, Tryz.results104, go_sem]) rfl ?_
   exact ⟨0, k, false, rfl, fun h => (nomatch h), hb⟩
def QtOut (l : By) (k : Nat) (w : World) (e : Ending) (w' : World) : Prop := ∃ (t : ByteArray) (n : Nat) (ok : Bool), e = .returned (.tuple #[.string t, .int .i64 n, .bool ok]) ∧ (ok = true → k < n ∧ n ≤ l.length ∧ l[n - 1]? = some 34 ∧ l[k]? = some 34) ∧ Below w.heap.size w w'
theorem byte34 {x : UInt8} (h : (x.toNat : Int) = 34) : x = 34 := by apply UInt8.toNat_inj.1; have : (34 : UInt8).toNat = 34 := rfl; omega
set_option maxRecDepth 100000 in
theorem rquoted_any (s : ByteArray) (hm : s.size ≤ 100000) (k : Nat) (hk : k ≤ s.size) (w : World) : Calls Tryz.prog 71 #[.string s, .int .i64 k] w (QtOut s.data.toList k w) := by
 have hno : ∀ (n : Nat) w', Below w.heap.size w w' → QtOut s.data.toList k w (.returned (.tuple #[.string ⟨#[]⟩, .int .i64 n, .bool false])) w' := fun n w' h => ⟨_, n, false, rfl, fun h => (nomatch h), h⟩
 have HNo := Lib.hid hno
 clear hno
 by_cases hlt : k < s.size
 case neg =>
  go_enter Tryz.func71, Tryz.ntmps71
  go_wp2
  refine bodyPost_ret (v := .tuple #[.string ⟨#[]⟩, .int .i64 k, .bool false]) (by simp [results, Tryz.results71, go_sem]) rfl ?_
  exact HNo.out _ _ (Below.refl _ _)
 obtain ⟨c, hc⟩ : ∃ c, s[k] = c := ⟨_, rfl⟩
 by_cases h34 : (c.toNat : Int) = 34
 case neg =>
  have h34b : ((c.toNat : Int) != 34) = true := by simpa using h34
  go_enter Tryz.func71, Tryz.ntmps71
  go_wp2
  refine bodyPost_ret (v := .tuple #[.string ⟨#[]⟩, .int .i64 k, .bool false]) (by simp [results, Tryz.results71, go_sem]) rfl ?_
  exact HNo.out _ _ (Below.refl _ _)
 have h34b : ((c.toNat : Int) != 34) = false := by simpa using h34
 have HK : Hid (s.data.toList[k]? = some 34) := Lib.hid (by rw [at_data s k hlt, hc, byte34 h34])
 go_enter Tryz.func71, Tryz.ntmps71
 go_upto_region 5 with fail
 clear hc h34 h34b
 go_loopw [1, 7, 8, 9, 10] (fun i o _ _ _ wr => Below w.heap.size w wr ∧ ∃ (j m c : Nat) (A : Option Addr) (bs : By), k < j ∧ j ≤ s.size ∧ i = .int .i64 j ∧ bs.length = m ∧ m ≤ j ∧ o = .slice A m c ∧ Hid (wr.ownsRow w.heap.size 5 1 (.slice A m c) m (u8s bs))) (fun i _ _ _ _ _ => s.size - (intOf i).toNat)
 case atStart => exact ⟨Below.refl _ _, k + 1, 0, 0, none, [], by omega, by omega, by go_num, rfl, by omega, rfl, Lib.hid (World.ownsRow_nil _ _ _ _)⟩
 case round =>
  obtain ⟨hb, j, m, cp, A, bs, hkj, hj, rfl, hbl, hmj, rfl, hrow⟩ := hrel
  have hbz := hb.size
  by_cases hlt2 : j < s.size
  case neg =>
   go_wp2
   refine bodyPost_ret (v := .tuple #[.string ⟨#[]⟩, .int .i64 j, .bool false]) (by simp [results, Tryz.results71, go_sem]) rfl ?_
   exact HNo.out _ _ hb
  obtain ⟨x, hx⟩ : ∃ x, s[j] = x := ⟨_, rfl⟩
  by_cases hx34 : (x.toNat : Int) = 34
  ·have kc := conv_own hbl hrow.out
   have HX : Hid (s.data.toList[j]? = some 34) := Lib.hid (by rw [at_data s j hlt2, hx, byte34 hx34])
   have hx34b : ((x.toNat : Int) != 34) = false := by simpa using hx34
   go_wp2
   refine bodyPost_ret (v := .tuple #[.string ⟨bs.toArray⟩, .int .i64 ((j : Int) + 1), .bool true]) (by simp [results, Tryz.results71, go_sem]) rfl ?_
   exact ⟨_, j + 1, true, rfl, fun _ => ⟨by omega, by rw [← Lib.size_eq]; omega, HX.out, HK.out⟩, hb⟩
  have hx34b : ((x.toNat : Int) != 34) = true := by simpa using hx34
  go_upto_region 7 with (go_at_call 104; refine (rstarts_any s (by omega) j hj wr).mono ?_; rintro e1 w1 ⟨b, n, ok, rfl, hok, hb1⟩)
  have HOk := Lib.hid hok
  have hrow2 := own_below hrow.out hb1
  have hbz2 := hb1.size
  have hb3 : Below w.heap.size w w1 := hb.trans (hb1.mono hbz)
  clear hrow hb hb1 hok hx hx34 hx34b
  cases ok
  ·go_wp2
   refine bodyPost_ret (v := .tuple #[.string ⟨#[]⟩, .int .i64 j, .bool false]) (by simp [results, Tryz.results71, go_sem]) rfl ?_
   exact HNo.out _ _ hb3
  ·obtain ⟨hn1, hn2⟩ := HOk.out rfl
   go_wp2_with (at_builtin; refine push_one elem_u8 rfl _ _ rfl w.heap.size _ m (u8s bs) rfl hrow2 _ rfl rfl (by omega) (by omega) ?_; intro g' c' w3 hown3 hb4)
   go_roundw
   case rel => exact ⟨_, _, _, _, _, ⟨hb3.trans hb4, n, by omega, by omega, rfl, m + 1, c', some ⟨g', 0, none⟩, bs ++ [b], by simp [hbl], by omega, rfl, Lib.hid (by unfold u8s; rw [List.map_append]; exact hown3)⟩, rfl, rfl, rfl, rfl, rfl⟩
   case measure => simp [intOf]; omega
end Go.Proofs.YthefooacfcagbaaGreatDoor.txt

/- The reference's Words. -/
namespace Go.Proofs.YthefooacfcagbaaGreatDoor.txt
open Go.RowKit
open lib app
set_option linter.unusedVariables false
set_option linter.unusedSimpArgs false
theorem take_last {l : By} {k : Nat} (h : (l.drop k).takeWhile isW ≠ []) : ∃ y, l[k + ((l.drop k).takeWhile isW).length - 1]? = some y ∧ y ≠ 32 := by
 obtain ⟨T, hT⟩ : ∃ T, (l.drop k).takeWhile isW = T := ⟨_, rfl⟩
 rw [hT] at h ⊢
 have hp : T <+: l.drop k := by rw [← hT]; exact List.takeWhile_prefix _
 have h0 : 0 < T.length := List.length_pos_iff.2 h
 obtain ⟨y, hy⟩ : ∃ y, T[T.length - 1]? = some y := ⟨_, List.getElem?_eq_getElem (by omega)⟩
 have hm : y ∈ T := List.mem_of_getElem? hy
 have hw : isW y = true := by
  rw [← hT] at hm
  exact List.all_eq_true.1 (List.all_takeWhile) y hm
 refine ⟨y, ?_, ?_⟩
 ·obtain ⟨r, hr⟩ := hp
  have e : (l.drop k)[T.length - 1]? = some y := by rw [← hr, List.getElem?_append_left (by omega)]; exact hy
  rw [List.getElem?_drop] at e
  rw [show k + T.length - 1 = k + (T.length - 1) by omega]
  exact e
 ·intro e
  rw [e] at hw
  exact absurd hw (by decide)
def WdOwn (s : By) (w : World) (e : Ending) (w' : World) : Prop := Below w.heap.size w w' ∧ ((e = .returned (.tuple #[.slice none 0 0, .int .i64 3]) ∧ WordsOk s none) ∨ ∃ L A c, e = .returned (.tuple #[.slice A L.length c, .int .i64 0]) ∧ WordsOk s (some L) ∧ L.length ≤ c ∧ w'.ownsRow w.heap.size 9 1 (.slice A L.length c) L.length (L.map strV) ∧ L.length ≤ 1000000)
def WdSt (S : By) (l : By) (L : List By) (j : Nat) : Prop := (j < l.length ∧ WInv S L (l.drop j)) ∨ (j = l.length ∧ 0 < l.length ∧ l[j - 1]? = some 32 ∧ L ≠ [] ∧ WordsOk S none) ∨ (j = l.length ∧ WordsOk S (some L) ∧ (L = [] ∨ (0 < l.length ∧ ∃ y, l[j - 1]? = some y ∧ y ≠ 32)))
set_option maxRecDepth 100000 in
set_option maxHeartbeats 4000000 in
theorem rwordsO_any (s : ByteArray) (hm : s.size ≤ 100000) (w : World) : Calls Tryz.prog 36 #[.string s] w (WdOwn s.data.toList w) := by
 obtain ⟨S, hS⟩ : ∃ S, s.data.toList = S := ⟨_, rfl⟩
 obtain ⟨l, hl⟩ : ∃ l, S = l := ⟨_, rfl⟩
 have HL : Hid (s.data.toList = l) := Lib.hid (by rw [hS, hl])
 have HLen : Hid (l.length = s.size) := Lib.hid (by rw [← hl, ← hS]; simp)
 have H0 : Hid (WdSt S l [] 0) := Lib.hid (by
  by_cases h : l.length = 0
  ·have e : l = [] := List.eq_nil_of_length_eq_zero h
   exact .inr (.inr ⟨h.symm, by rw [hl, e]; exact WordsOk.nil, .inl rfl⟩)
  ·exact .inl ⟨by omega, by rw [List.drop_zero, ← hl]; exact WInv.start S⟩)
 rw [hS]
 clear hS hl
 go_enter Tryz.func36, Tryz.ntmps36
 go_upto_region 3 with fail
 go_loopw [4, 5, 6, 7, 8, 9] (fun o i _ _ _ _ wr => Below w.heap.size w wr ∧ ∃ (j : Nat) (L : List By) (A : Option Addr) (n c : Nat), j ≤ s.size ∧ i = .int .i64 j ∧ o = .slice A n c ∧ Hid (n = L.length) ∧ n ≤ j ∧ Hid (WdSt S l L j) ∧ Hid (wr.ownsRow w.heap.size 9 1 (.slice A n c) n (L.map strV))) (fun _ i _ _ _ _ _ => s.size - (intOf i).toNat)
 case atStart => exact ⟨Below.refl _ _, 0, [], none, 0, 0, by omega, rfl, rfl, Lib.hid rfl, by omega, H0, Lib.hid (World.ownsRow_nil _ _ _ _)⟩
 case round =>
  obtain ⟨hb, j, L, A, n, c, hj, rfl, rfl, hn, hnj, HS, hrow⟩ := hrel
  clear H0
  have hbz := hb.size
  have hll := HLen.out
  rcases HS.out with ⟨hjl, hW⟩ | ⟨hjl, hl0, hy, hL, hO⟩ | ⟨hjl, hO, hq⟩
  ·have HW := Lib.hid hW
   clear hW HS
   have hjs : j < s.size := by omega
   clear hll hjl
   by_cases htw : (l.drop j).takeWhile isW = []
   ·have hw := rword_any s (by omega) j hj wr
    rw [HL.out, htw] at hw
    have hP : ∀ m, m ≤ (l.drop j).length → (m ≠ 0 → l[j]? = some 34) → PartOk (l.drop j) m := fun m hm hq => part_no htw hm fun h0 => by rw [List.head?_drop]; exact hq h0
    have HPq := Lib.hid hP
    clear htw hP
    have hw : Calls Tryz.prog 70 #[.string s, .int .i64 j] wr fun e w' => e = .returned (.int .i64 (j : Int)) ∧ wr = w' := hw
    have hqq := rquoted_any s hm j hj wr
    rw [HL.out] at hqq
    go_upto_region 7 with (first | (go_at_call 70; refine hw.mono ?_; rintro e1 w1 ⟨rfl, rfl⟩) | (go_at_call 71; refine hqq.mono ?_; rintro e1 w1 ⟨t, e, ok, rfl, hok, hb1⟩))
    have HOk := Lib.hid hok
    have hrow2 := own_below hrow.out hb1
    have hbz2 := hb1.size
    have hb3 : Below w.heap.size w w1 := hb.trans (hb1.mono hbz)
    clear hrow hb hb1 hok hw hqq
    cases ok
    ·have HO : Hid (WordsOk S none) := Lib.hid (HW.out.none_ (HPq.out 0 (Nat.zero_le _) (fun h => absurd rfl h)))
     go_wp2
     refine bodyPost_ret (v := .tuple #[.slice none 0 0, .int .i64 3]) (by simp [results, Tryz.results36, go_sem]) rfl ?_
     exact ⟨hb3, .inl ⟨rfl, HO.out⟩⟩
    obtain ⟨he1, he2, he3, he4⟩ := HOk.out rfl
    have he2 : e ≤ s.size := by rw [← HLen.out]; exact he2
    have HP : Hid (PartOk (l.drop j) (e - j)) := Lib.hid (HPq.out _ (by rw [List.length_drop, HLen.out]; omega) (fun _ => he4))
    have HE : Hid (∃ y, l[e - 1]? = some y ∧ y ≠ 32) := Lib.hid ⟨34, he3, by decide⟩
    clear he3 he4 HOk HPq
    by_cases hes : e < s.size
    ·obtain ⟨x, hx⟩ : ∃ x, s[e] = x := ⟨_, rfl⟩
     have HX : Hid ((l.drop j)[e - j]? = some x) := Lib.hid (by rw [List.getElem?_drop, show j + (e - j) = e by omega, ← HL.out, at_data s e hes, hx])
     by_cases hx32 : (x.toNat : Int) = 32
     case neg =>
      have hx32b : ((x.toNat : Int) != 32) = true := by simpa using hx32
      have HO : Hid (WordsOk S none) := Lib.hid (HW.out.bad HP.out HX.out (by intro h; apply hx32; rw [h]; rfl))
      go_wp2_with (at_builtin; refine push_one elem_str rfl _ _ rfl w.heap.size _ n (L.map strV) rfl hrow2 _ rfl rfl (by omega) (by omega) ?_; intro g' c' w3 hown3 hb4)
      refine bodyPost_ret (v := .tuple #[.slice none 0 0, .int .i64 3]) (by simp [results, Tryz.results36, go_sem]) rfl ?_
      exact ⟨hb3.trans hb4, .inl ⟨rfl, HO.out⟩⟩
     have hx32b : ((x.toNat : Int) != 32) = false := by simpa using hx32
     have HX2 : Hid ((l.drop j)[e - j]? = some 32) := Lib.hid (by rw [HX.out]; congr 1; apply UInt8.toNat_inj.1; have : (32 : UInt8).toNat = 32 := rfl; omega)
     have HX3 : Hid (l[e]? = some 32) := Lib.hid (by have := HX2.out; rw [List.getElem?_drop, show j + (e - j) = e by omega] at this; exact this)
     have HS2 : Hid (WdSt S l (L ++ [(l.drop j).take (e - j)]) (e + 1)) := Lib.hid (by
      have hll := HLen.out
      by_cases h2 : e + 1 = s.size
      ·exact .inr (.inl ⟨by omega, by omega, by rw [show e + 1 - 1 = e by omega]; exact HX3.out, by simp, HW.out.ends HP.out (by rw [List.length_drop]; omega) (by omega) HX2.out⟩)
      ·have h3 := HW.out.next HP.out (by omega) HX2.out (by rw [List.length_drop]; omega)
       rw [List.drop_drop, show j + (e - j + 1) = e + 1 by omega] at h3
       exact .inl ⟨by omega, h3⟩)
     go_wp2_with (at_builtin; refine push_one elem_str rfl _ _ rfl w.heap.size _ n (L.map strV) rfl hrow2 _ rfl rfl (by omega) (by omega) ?_; intro g' c' w3 hown3 hb4)
     go_roundw
     case rel =>
      refine ⟨hb3.trans hb4, e + 1, L ++ [(l.drop j).take (e - j)], some ⟨g', 0, none⟩, n + 1, c', by omega, by go_num, rfl, Lib.hid (by rw [hn.out]; simp), by omega, HS2, ?_⟩
      refine Lib.hid ?_
      rw [List.map_append]
      have ee := strV_of (s.extract j e)
      rw [ext_data, HL.out] at ee
      show w3.ownsRow _ _ 1 _ (n + 1) (L.map strV ++ [strV ((l.drop j).take (e - j))])
      rw [← ee]
      exact hown3
     case measure => simp [intOf]; omega
    ·have hes2 : e = s.size := by omega
     have HS2 : Hid (WdSt S l (L ++ [(l.drop j).take (e - j)]) e) := Lib.hid (by
      have hll := HLen.out
      have hr : (l.drop j).length = e - j := by rw [List.length_drop]; omega
      rw [← hr, List.take_length]
      exact .inr (.inr ⟨by omega, HW.out.last (by rw [hr]; exact HP.out) (by intro h; rw [h] at hr; simp at hr; omega), .inr ⟨by omega, HE.out⟩⟩))
     go_wp2_with (at_builtin; refine push_one elem_str rfl _ _ rfl w.heap.size _ n (L.map strV) rfl hrow2 _ rfl rfl (by omega) (by omega) ?_; intro g' c' w3 hown3 hb4)
     go_roundw
     case rel =>
      refine ⟨hb3.trans hb4, e, L ++ [(l.drop j).take (e - j)], some ⟨g', 0, none⟩, n + 1, c', by omega, by go_num, rfl, Lib.hid (by rw [hn.out]; simp), by omega, HS2, ?_⟩
      refine Lib.hid ?_
      rw [List.map_append]
      have ee := strV_of (s.extract j e)
      rw [ext_data, HL.out] at ee
      show w3.ownsRow _ _ 1 _ (n + 1) (L.map strV ++ [strV ((l.drop j).take (e - j))])
      rw [← ee, hes2]
      exact hown3
     case measure => simp [intOf]; omega
   ·have hw := rword_any s (by omega) j hj wr
    rw [HL.out] at hw
    have hla := take_last htw
    have hpo := part_isW htw
    have hpl : ((l.drop j).takeWhile isW).length ≤ (l.drop j).length := List.IsPrefix.length_le (List.takeWhile_prefix _)
    have hp0 := List.length_pos_iff.2 htw
    obtain ⟨m, hm2⟩ : ∃ m, ((l.drop j).takeWhile isW).length = m := ⟨_, rfl⟩
    rw [hm2] at hw hla hpo hpl hp0
    clear hm2 htw
    obtain ⟨e, he⟩ : ∃ e, j + m = e := ⟨_, rfl⟩
    rw [he] at hw hla
    have HE := Lib.hid hla
    have HP : Hid (PartOk (l.drop j) (e - j)) := Lib.hid (by rw [show e - j = m by omega]; exact hpo)
    have he1 : j < e := by omega
    have he2 : e ≤ s.size := by rw [List.length_drop, HLen.out] at hpl; omega
    have hej : ¬ (e : Int) = (j : Int) := by omega
    clear hla hpo hpl hp0 he
    go_upto_region 10 with (go_at_call 70; refine hw.mono ?_; rintro e1 w1 ⟨rfl, rfl⟩)
    have hrow2 := hrow.out
    have hb3 := hb
    have hbz2 := hbz
    clear hw hrow hb
    by_cases hes : e < s.size
    ·obtain ⟨x, hx⟩ : ∃ x, s[e] = x := ⟨_, rfl⟩
     have HX : Hid ((l.drop j)[e - j]? = some x) := Lib.hid (by rw [List.getElem?_drop, show j + (e - j) = e by omega, ← HL.out, at_data s e hes, hx])
     by_cases hx32 : (x.toNat : Int) = 32
     case neg =>
      have hx32b : ((x.toNat : Int) != 32) = true := by simpa using hx32
      have HO : Hid (WordsOk S none) := Lib.hid (HW.out.bad HP.out HX.out (by intro h; apply hx32; rw [h]; rfl))
      go_wp2_with (at_builtin; refine push_one elem_str rfl _ _ rfl w.heap.size _ n (L.map strV) rfl hrow2 _ rfl rfl (by omega) (by omega) ?_; intro g' c' w3 hown3 hb4)
      refine bodyPost_ret (v := .tuple #[.slice none 0 0, .int .i64 3]) (by simp [results, Tryz.results36, go_sem]) rfl ?_
      exact ⟨hb3.trans hb4, .inl ⟨rfl, HO.out⟩⟩
     have hx32b : ((x.toNat : Int) != 32) = false := by simpa using hx32
     have HX2 : Hid ((l.drop j)[e - j]? = some 32) := Lib.hid (by rw [HX.out]; congr 1; apply UInt8.toNat_inj.1; have : (32 : UInt8).toNat = 32 := rfl; omega)
     have HX3 : Hid (l[e]? = some 32) := Lib.hid (by have := HX2.out; rw [List.getElem?_drop, show j + (e - j) = e by omega] at this; exact this)
     have HS2 : Hid (WdSt S l (L ++ [(l.drop j).take (e - j)]) (e + 1)) := Lib.hid (by
      have hll := HLen.out
      by_cases h2 : e + 1 = s.size
      ·exact .inr (.inl ⟨by omega, by omega, by rw [show e + 1 - 1 = e by omega]; exact HX3.out, by simp, HW.out.ends HP.out (by rw [List.length_drop]; omega) (by omega) HX2.out⟩)
      ·have h3 := HW.out.next HP.out (by omega) HX2.out (by rw [List.length_drop]; omega)
       rw [List.drop_drop, show j + (e - j + 1) = e + 1 by omega] at h3
       exact .inl ⟨by omega, h3⟩)
     go_wp2_with (at_builtin; refine push_one elem_str rfl _ _ rfl w.heap.size _ n (L.map strV) rfl hrow2 _ rfl rfl (by omega) (by omega) ?_; intro g' c' w3 hown3 hb4)
     go_roundw
     case rel =>
      refine ⟨hb3.trans hb4, e + 1, L ++ [(l.drop j).take (e - j)], some ⟨g', 0, none⟩, n + 1, c', by omega, by go_num, rfl, Lib.hid (by rw [hn.out]; simp), by omega, HS2, ?_⟩
      refine Lib.hid ?_
      rw [List.map_append]
      have ee := strV_of (s.extract j e)
      rw [ext_data, HL.out] at ee
      show w3.ownsRow _ _ 1 _ (n + 1) (L.map strV ++ [strV ((l.drop j).take (e - j))])
      rw [← ee]
      exact hown3
     case measure => simp [intOf]; omega
    ·have hes2 : e = s.size := by omega
     have HS2 : Hid (WdSt S l (L ++ [(l.drop j).take (e - j)]) e) := Lib.hid (by
      have hll := HLen.out
      have hr : (l.drop j).length = e - j := by rw [List.length_drop]; omega
      rw [← hr, List.take_length]
      exact .inr (.inr ⟨by omega, HW.out.last (by rw [hr]; exact HP.out) (by intro h; rw [h] at hr; simp at hr; omega), .inr ⟨by omega, HE.out⟩⟩))
     go_wp2_with (at_builtin; refine push_one elem_str rfl _ _ rfl w.heap.size _ n (L.map strV) rfl hrow2 _ rfl rfl (by omega) (by omega) ?_; intro g' c' w3 hown3 hb4)
     go_roundw
     case rel =>
      refine ⟨hb3.trans hb4, e, L ++ [(l.drop j).take (e - j)], some ⟨g', 0, none⟩, n + 1, c', by omega, by go_num, rfl, Lib.hid (by rw [hn.out]; simp), by omega, HS2, ?_⟩
      refine Lib.hid ?_
      rw [List.map_append]
      have ee := strV_of (s.extract j e)
      rw [ext_data, HL.out] at ee
      show w3.ownsRow _ _ 1 _ (n + 1) (L.map strV ++ [strV ((l.drop j).take (e - j))])
      rw [← ee, hes2]
      exact hown3
     case measure => simp [intOf]; omega
  ·have HO := Lib.hid hO
   have hjs : j = s.size := by omega
   have hn0 : 0 < n := by rw [hn.out]; exact List.length_pos_iff.2 hL
   have hj0 : 0 < s.size := by omega
   have hl1 : s.size - 1 < s.size := by omega
   have hj1 : IntKind.i64.wrap ((s.size : Int) - 1) = ((s.size - 1 : Nat) : Int) := by rw [IntWalk.i64_in _ (by omega)]; omega
   have hx : s[s.size - 1] = 32 := by
    have h1 := at_data s (s.size - 1) hl1
    rw [HL.out] at h1
    have h2 : l[s.size - 1]? = some 32 := by rw [← hjs]; exact hy
    exact Option.some.inj (h1.symm.trans h2)
   have hw := rword_any s (by omega) s.size (Nat.le_refl _) wr
   rw [List.drop_of_length_le (by rw [HL.out, HLen.out]; exact Nat.le_refl _)] at hw
   have hw : Calls Tryz.prog 70 #[.string s, .int .i64 s.size] wr fun e w' => e = .returned (.int .i64 (s.size : Int)) ∧ wr = w' := hw
   have hqq := rquoted_any s hm s.size (Nat.le_refl _) wr
   rw [HL.out] at hqq
   subst hjs
   clear hy hL hO hl0 hll hjl HS
   go_upto_region 7 with (first | (go_at_call 70; refine hw.mono ?_; rintro e1 w1 ⟨rfl, rfl⟩) | (go_at_call 71; refine hqq.mono ?_; rintro e1 w1 ⟨t, e, ok, rfl, hok, hb1⟩))
   have hb3 : Below w.heap.size w w1 := hb.trans (hb1.mono hbz)
   cases ok
   ·go_wp2
    refine bodyPost_ret (v := .tuple #[.slice none 0 0, .int .i64 3]) (by simp [results, Tryz.results36, go_sem]) rfl ?_
    exact ⟨hb3, .inl ⟨rfl, HO.out⟩⟩
   ·have h1 := hok rfl
    rw [HLen.out] at h1
    omega
  ·have HO := Lib.hid hO
   have hjs : j = s.size := by omega
   have hfin : WdOwn S w (.returned (.tuple #[.slice A n c, .int .i64 0])) wr := by
    have h1 := hrow.out
    have h2 := own_cap h1
    rw [hn.out] at h1 h2 ⊢
    exact ⟨hb, .inr ⟨L, A, c, rfl, hO, h2, h1, by rw [← hn.out]; omega⟩⟩
   have HF := Lib.hid hfin
   rcases hq with rfl | ⟨hl0, y, hy, hy32⟩
   ·have hn0 : n = 0 := hn.out
    subst hn0
    clear hn hfin hO HS hll hjl
    go_wp2
    refine bodyPost_ret (v := .tuple #[.slice A 0 c, .int .i64 0]) (by simp [results, Tryz.results36, go_sem]) rfl ?_
    exact HF.out
   ·have hj0 : 0 < s.size := by omega
    have hl1 : s.size - 1 < s.size := by omega
    have hj1 : IntKind.i64.wrap ((s.size : Int) - 1) = ((s.size - 1 : Nat) : Int) := by rw [IntWalk.i64_in _ (by omega)]; omega
    have hx : s[s.size - 1] = y := by
     have h1 := at_data s (s.size - 1) hl1
     rw [HL.out] at h1
     have h2 : l[s.size - 1]? = some y := by rw [← hjs]; exact hy
     exact Option.some.inj (h1.symm.trans h2)
    have hx2 : ((y.toNat : Int) == 32) = false := beq_eq_false_iff_ne.2 (by intro h; apply hy32; apply UInt8.toNat_inj.1; have : (32 : UInt8).toNat = 32 := rfl; omega)
    subst hjs
    clear hfin hO HS hll hjl hy hy32 hl0
    go_wp2
    all_goals
     refine bodyPost_ret (v := .tuple #[.slice A n c, .int .i64 0]) (by simp [results, Tryz.results36, go_sem]) rfl ?_
     exact HF.out
end Go.Proofs.YthefooacfcagbaaGreatDoor.txt

/- whole: Div by a number above 0. -/
import Derived.Test.YthcmopgdjibojaaGreatDoorWhoF
import Derived.RegionTactic
import Derived.BigRegion
import Derived.Deep.DeepCutAuto
namespace Go.Proofs.YthcmopgdjibojaaGreatDoor.wh
open Go.RowKit
open Go.Lib (decDigits nDigits itoa decDigits_length nDigits_pos)
open Go.Proofs.YthcmopgdjibojaaGreatDoor.lib Go.Proofs.YthcmopgdjibojaaGreatDoor.app Go.Proofs.YthcmopgdjibojaaGreatDoor.nt Go.Proofs.YthcmopgdjibojaaGreatDoor.rd
set_option linter.unusedVariables false
set_option linter.unusedSimpArgs false

/-- Two boxed numbers. -/
def Box2 (W wx : World) (p q : Nat) (bx bY : Bool) (D E : ByteArray) : Prop :=
  wx.cell? ⟨p, 0, none⟩ = some (.bool bx) ∧ wx.cell? ⟨p, 1, none⟩ = some (.string D) ∧ wx.cell? ⟨q, 0, none⟩ = some (.bool bY) ∧ wx.cell? ⟨q, 1, none⟩ = some (.string E) ∧ p < wx.heap.size ∧ q < wx.heap.size ∧ Below W.heap.size W wx
theorem Box2.below {W wx wy : World} {p q : Nat} {bx bY : Bool} {D E : ByteArray} (h : Box2 W wx p q bx bY D E) (hb : Below wx.heap.size wx wy) : Box2 W wy p q bx bY D E := by
  obtain ⟨h1, h2, h3, h4, hp, hq, h5⟩ := h
  exact ⟨(hb.cell (p := ⟨p, 0, none⟩) hp).trans h1, (hb.cell (p := ⟨p, 1, none⟩) hp).trans h2, (hb.cell (p := ⟨q, 0, none⟩) hq).trans h3, (hb.cell (p := ⟨q, 1, none⟩) hq).trans h4, Nat.lt_of_lt_of_le hp hb.size, Nat.lt_of_lt_of_le hq hb.size, h5.trans (hb.mono h5.size)⟩
theorem succ_digits {a b k : Nat} (hb : b ≤ a + 1) (h : nDigits a ≤ k) : nDigits b ≤ k + 1 := by
  refine nDigits_le (by omega) ?_
  have h3 := Go.Lib.lt_pow_nDigits a
  have h4 : 10 ^ nDigits a ≤ 10 ^ k := Nat.pow_le_pow_right (by decide) h
  have h6 := ten_pos k
  rw [Nat.pow_succ]
  omega
theorem div_succ_digits {a n : Nat} (h : nDigits a ≤ 4095) : nDigits (a / n + 1) ≤ 4096 :=
  succ_digits (by have := Nat.div_le_self a n; omega) h
set_option maxHeartbeats 1000000 in
theorem wdiv_any (x : Int) (n : Nat) (hn : 0 < n) (hx : nDigits x.natAbs ≤ 4095) (hy : nDigits n ≤ 4096) (w : World) (ht : TabT w) :
    Calls Tryz.prog 119 #[.string (intS x), .string (natS n)] w fun e w' => e = .returned (.tuple #[.string (intS (x / n)), .string (intS (x % n)), .int .i64 0]) ∧ Below w.heap.size w w' := by
  have HRD := Lib.hid (wread2 x n (by omega) (by rw [Int.natAbs_natCast]; exact hy) w)
  rw [intS_nat, Int.natAbs_natCast, decide_eq_false (show ¬ (n : Int) < 0 by omega)] at HRD
  generalize intS x = S at HRD ⊢
  generalize hD : natS x.natAbs = D at HRD
  generalize hE : natS n = E at HRD ⊢
  have HDE := Lib.hid (And.intro hD hE)
  clear hD hE
  obtain ⟨bx, hbx⟩ : ∃ b, decide (x < 0) = b := ⟨_, rfl⟩
  have HBX := Lib.hid hbx
  rw [hbx] at HRD
  clear hbx
  go_enter Tryz.func119, Tryz.ntmps119
  go_upto_region 4 with (go_at_call 103; (with_reducible refine HRD.out.mono ?_); rintro e W ⟨g, c, rfl, c0, c1, c2, c3, hg, hb1, hz1⟩)
  go_cut [9, 10] (fun u v wx => ∃ p q, u = .pointer (some ⟨p, 0, none⟩) ∧ v = .pointer (some ⟨q, 0, none⟩) ∧ Box2 W wx p q bx false D E)
  case first =>
    go_region
    all_goals
      go_wp2
      go_meet
      exact ⟨_, _, rfl, rfl, by simp, by simp, by simp, by simp, by simp; try omega, by simp; try omega, by repeat (first | assumption | exact Below.refl _ _ | refine Below.drew ?_ | refine Below.alloc ?_ (by first | omega | (simp <;> omega)) _ | refine Below.setCell ?_ (by first | omega | (simp <;> omega)) _)⟩
  obtain ⟨p, q, hp, hq, hbox⟩ := hcut
  rw [hp, hq]
  clear hp hq c0 c1 c2 c3
  have hz0 : ((D.toList == [48]) = decide (x.natAbs = 0)) := by rw [← HDE.out.1]; exact natS_is _ 0 (by decide)
  have hzE : (E.toList == [48]) = false := by rw [← HDE.out.2]; rw [show ([48] : List UInt8) = [UInt8.ofNat (48 + 0)] from rfl, natS_is n 0 (by decide)]; exact decide_eq_false (by omega)
  have hzE2 : (!E.toList == [48]) = true := by rw [hzE]; rfl
  have hblW := hb1.trans (hbox.2.2.2.2.2.2.mono (Nat.le_of_lt hz1))
  have HND : Hid (∀ w', Below w.heap.size w w' → Calls Tryz.prog 169 #[.string D, .string E] w' fun e w2 => e = .returned (.tuple #[.string (natS (x.natAbs / n)), .string (natS (x.natAbs % n)), .int .i64 0]) ∧ Below w'.heap.size w' w2) := Lib.hid (fun w' hb => by
    rw [← HDE.out.1, ← HDE.out.2]
    exact ndiv_any _ _ hn (by omega) hy w' (ht.below hb))
  obtain ⟨Q, hQ⟩ : ∃ Q, natS (x.natAbs / n) = Q := ⟨_, rfl⟩
  obtain ⟨R, hR⟩ : ∃ R, natS (x.natAbs % n) = R := ⟨_, rfl⟩
  have HQR := Lib.hid (And.intro hQ hR)
  have hzR : (R.toList == [48]) = decide (x.natAbs % n = 0) := by rw [← hR]; exact natS_is _ 0 (by decide)
  rw [hQ, hR] at HND
  have HB := Lib.hid hbox
  obtain ⟨p0, p1, q0, q1, hps, hqs, hbw⟩ := hbox
  clear hz0 hQ hR
  by_cases hneg : x < 0
  · obtain rfl : bx = true := by rw [← HBX.out]; exact decide_eq_true hneg
    by_cases hr0 : x.natAbs % n = 0
    · have HT1 : Hid (∀ w', Calls Tryz.prog 170 #[.agg #[.bool true, .string Q]] w' fun e w2 => e = .returned (.string (intS (x / n))) ∧ Below w'.heap.size w' w2) := Lib.hid (fun w' => by
        have h := text_any true (x.natAbs / n) (Nat.le_trans (nDigits_mono (Nat.div_le_self _ _)) (by omega)) w'
        rw [HQR.out.1, show sgnZ true (x.natAbs / n) = -((x.natAbs / n : Nat) : Int) from rfl, (div_neg0 hn hneg hr0).1] at h
        exact h)
      have HT2 : Hid (∀ w', Calls Tryz.prog 170 #[.agg #[.bool false, .string R]] w' fun e w2 => e = .returned (.string (intS (x % n))) ∧ Below w'.heap.size w' w2) := Lib.hid (fun w' => by
        have h := text_any false (x.natAbs % n) (Nat.le_trans (nDigits_mono (Nat.mod_le _ _)) (by omega)) w'
        rw [HQR.out.2, show sgnZ false (x.natAbs % n) = ((x.natAbs % n : Nat) : Int) from rfl, hr0] at h
        rw [← (div_neg0 hn hneg hr0).2]
        exact h)
      rw [decide_eq_true hr0] at hzR
      have hzR2 : (!R.toList == [48]) = false := by rw [hzR]; rfl
      clear hneg hr0
      go_upto_region 17 with (go_at_call 169; (with_reducible refine (HND.out _ hblW).mono ?_); rintro e w2 ⟨rfl, hb2⟩; have hbx2 := Lib.hid (HB.out.below hb2); have hblW2 : Below w.heap.size w w2 := hblW.trans (hb2.mono hblW.size); obtain ⟨r0, r1, s0, s1, hps2, hqs2, hbw2⟩ := hbx2.out)
      (refine wp_region_held_drew (S := (fun w' => w'.cell? ⟨p, 0, none⟩ = some (.bool true) ∧ w'.cell? ⟨q, 0, none⟩ = some (.bool false))) (by kernel_rfl) ?_ (fun hHeld => ?_))
      · exact ⟨r0, s0⟩
      (refine wpAnyH_take (i := 0) (v := ?_) rfl (by kernel_rfl) (by kernel_rfl) (by kernel_rfl) (fun _ _ _ h => h) (Or.inl ⟨by kernel_rfl, ?_⟩) (by assumption) ?_; rotate_left; (focus (intro w hSw; (try dsimp only at hSw); go_simp; all_goals with_reducible rfl)); (try simp only [Act.put, List.getElem_toArray, List.getElem_cons_succ, List.getElem_cons_zero, List.setIfInBounds_toArray, List.set_cons_zero, List.set_cons_succ]))
      (refine wpAnyH_take (i := 1) (v := ?_) rfl (by kernel_rfl) (by kernel_rfl) (by kernel_rfl) (fun _ _ _ h => h) (Or.inl ⟨by kernel_rfl, ?_⟩) (by assumption) ?_; rotate_left; (focus (intro w hSw; (try dsimp only at hSw); go_simp; all_goals with_reducible rfl)); (try simp only [Act.put, List.getElem_toArray, List.getElem_cons_succ, List.getElem_cons_zero, List.setIfInBounds_toArray, List.set_cons_zero, List.set_cons_succ]))
      (refine wpAnyH_take (i := 2) (v := ?_) rfl (by kernel_rfl) (by kernel_rfl) (by kernel_rfl) (fun _ _ _ h => h) (Or.inl ⟨by kernel_rfl, ?_⟩) (by assumption) ?_; rotate_left; (focus (intro w hSw; (try dsimp only at hSw); go_simp; all_goals with_reducible rfl)); (try simp only [Act.put, List.getElem_toArray, List.getElem_cons_succ, List.getElem_cons_zero, List.setIfInBounds_toArray, List.set_cons_zero, List.set_cons_succ]))
      (refine wpAnyH_take (i := 3) (v := ?_) rfl (by kernel_rfl) (by kernel_rfl) (by kernel_rfl) (fun _ _ _ h => h) (Or.inl ⟨by kernel_rfl, ?_⟩) (by assumption) ?_; rotate_left; (focus (intro w hSw; (try dsimp only at hSw); go_simp; all_goals with_reducible rfl)); (try simp only [Act.put, List.getElem_toArray, List.getElem_cons_succ, List.getElem_cons_zero, List.setIfInBounds_toArray, List.set_cons_zero, List.set_cons_succ]))
      (refine wpAnyH_take (i := 4) (v := ?_) rfl (by kernel_rfl) (by kernel_rfl) (by kernel_rfl) (fun _ _ _ h => h) (Or.inl ⟨by kernel_rfl, ?_⟩) (by assumption) ?_; rotate_left; (focus (intro w hSw; (try dsimp only at hSw); go_simp; all_goals with_reducible rfl)); (try simp only [Act.put, List.getElem_toArray, List.getElem_cons_succ, List.getElem_cons_zero, List.setIfInBounds_toArray, List.set_cons_zero, List.set_cons_succ]))
      (refine wpAnyH_take (i := 5) (v := ?_) rfl (by kernel_rfl) (by kernel_rfl) (by kernel_rfl) (fun _ _ _ h => h) (Or.inl ⟨by kernel_rfl, ?_⟩) (by assumption) ?_; rotate_left; (focus (intro w hSw; (try dsimp only at hSw); go_simp; all_goals with_reducible rfl)); (try simp only [Act.put, List.getElem_toArray, List.getElem_cons_succ, List.getElem_cons_zero, List.setIfInBounds_toArray, List.set_cons_zero, List.set_cons_succ]))
      (refine wpAnyH_take (i := 6) (v := ?_) rfl (by kernel_rfl) (by kernel_rfl) (by kernel_rfl) (fun _ _ _ h => h) (Or.inl ⟨by kernel_rfl, ?_⟩) (by assumption) ?_; rotate_left; (focus (intro w hSw; (try dsimp only at hSw); go_simp; all_goals with_reducible rfl)); (try simp only [Act.put, List.getElem_toArray, List.getElem_cons_succ, List.getElem_cons_zero, List.setIfInBounds_toArray, List.set_cons_zero, List.set_cons_succ]))
      (refine wpAnyH_take (i := 8) (v := ?_) rfl (by kernel_rfl) (by kernel_rfl) (by kernel_rfl) (fun _ _ _ h => h) (Or.inl ⟨by kernel_rfl, ?_⟩) (by assumption) ?_; rotate_left; (focus (intro w hSw; (try dsimp only at hSw); go_simp; all_goals with_reducible rfl)); (try simp only [Act.put, List.getElem_toArray, List.getElem_cons_succ, List.getElem_cons_zero, List.setIfInBounds_toArray, List.set_cons_zero, List.set_cons_succ]))
      (refine wpAnyH_take (i := 9) (v := ?_) rfl (by kernel_rfl) (by kernel_rfl) (by kernel_rfl) (fun _ _ _ h => h) (Or.inl ⟨by kernel_rfl, ?_⟩) (by assumption) ?_; rotate_left; (focus (intro w hSw; (try dsimp only at hSw); go_simp; all_goals with_reducible rfl)); (try simp only [Act.put, List.getElem_toArray, List.getElem_cons_succ, List.getElem_cons_zero, List.setIfInBounds_toArray, List.set_cons_zero, List.set_cons_succ]))
      (refine wpAnyH_take (i := 10) (v := ?_) rfl (by kernel_rfl) (by kernel_rfl) (by kernel_rfl) (fun _ _ _ h => h) (Or.inl ⟨by kernel_rfl, ?_⟩) (by assumption) ?_; rotate_left; (focus (intro w hSw; (try dsimp only at hSw); go_simp; all_goals with_reducible rfl)); (try simp only [Act.put, List.getElem_toArray, List.getElem_cons_succ, List.getElem_cons_zero, List.setIfInBounds_toArray, List.set_cons_zero, List.set_cons_succ]))
      (refine wpAnyH_take (i := 11) (v := ?_) rfl (by kernel_rfl) (by kernel_rfl) (by kernel_rfl) (fun _ _ _ h => h) (Or.inl ⟨by kernel_rfl, ?_⟩) (by assumption) ?_; rotate_left; (focus (intro w hSw; (try dsimp only at hSw); go_simp; all_goals with_reducible rfl)); (try simp only [Act.put, List.getElem_toArray, List.getElem_cons_succ, List.getElem_cons_zero, List.setIfInBounds_toArray, List.set_cons_zero, List.set_cons_succ]))
      (refine wpAnyH_ready (rs := [7]) (by kernel_rfl) (by simp) ?_; refine AllReadyH.cons rfl (fun K hK => ?_) AllReadyH.nil; go_simp)
      go_at_call 170
      refine (HT1.out _).mono ?_
      rintro e w5 ⟨rfl, hb5⟩
      have k (b : Nat) (h : b < w2.heap.size) : w5.cell? ⟨b, 0, none⟩ = w2.cell? ⟨b, 0, none⟩ := hb5.cell (p := ⟨b, 0, none⟩) h
      have t0 := (k p hps2).trans r0
      have t1 := (k q hqs2).trans s0
      (refine hK.out _ _ ?_ (fun hHeld => ?_))
      · exact ⟨t0, t1⟩
      clear hK K k
      (try simp only [Act.put, List.getElem_toArray, List.getElem_cons_succ, List.getElem_cons_zero, List.setIfInBounds_toArray, List.set_cons_zero, List.set_cons_succ])
      (refine wpAnyH_ready (rs := [12]) (by kernel_rfl) (by simp) ?_; refine AllReadyH.cons rfl (fun K hK => ?_) AllReadyH.nil; go_simp)
      go_at_call 170
      refine (HT2.out _).mono ?_
      rintro e w6 ⟨rfl, hb6⟩
      have k (b : Nat) (h : b < w5.heap.size) : w6.cell? ⟨b, 0, none⟩ = w5.cell? ⟨b, 0, none⟩ := hb6.cell (p := ⟨b, 0, none⟩) h
      have hz5 : w2.heap.size ≤ w5.heap.size := hb5.size
      (refine hK.out _ _ ?_ (fun hHeld => ?_))
      · exact ⟨(k p (by omega)).trans t0, (k q (by omega)).trans t1⟩
      clear hK K k
      (try simp only [Act.put, List.getElem_toArray, List.getElem_cons_succ, List.getElem_cons_zero, List.setIfInBounds_toArray, List.set_cons_zero, List.set_cons_succ])
      (refine wpAnyH_take (i := 13) (v := ?_) rfl (by kernel_rfl) (by kernel_rfl) (by kernel_rfl) (fun _ _ _ h => h) (Or.inl ⟨by kernel_rfl, ?_⟩) (by assumption) ?_; rotate_left; (focus (intro w hSw; (try dsimp only at hSw); go_simp; all_goals with_reducible rfl)); (try simp only [Act.put, List.getElem_toArray, List.getElem_cons_succ, List.getElem_cons_zero, List.setIfInBounds_toArray, List.set_cons_zero, List.set_cons_succ]))
      (refine wpAnyH_take (i := 14) (v := ?_) rfl (by kernel_rfl) (by kernel_rfl) (by kernel_rfl) (fun _ _ _ h => h) (Or.inl ⟨by kernel_rfl, ?_⟩) (by assumption) ?_; rotate_left; (focus (intro w hSw; (try dsimp only at hSw); go_simp; all_goals with_reducible rfl)); (try simp only [Act.put, List.getElem_toArray, List.getElem_cons_succ, List.getElem_cons_zero, List.setIfInBounds_toArray, List.set_cons_zero, List.set_cons_succ]))
      (refine wpAnyH_take (i := 15) (v := ?_) rfl (by kernel_rfl) (by kernel_rfl) (by kernel_rfl) (fun _ _ _ h => h) (Or.inl ⟨by kernel_rfl, ?_⟩) (by assumption) ?_; rotate_left; (focus (intro w hSw; (try dsimp only at hSw); go_simp; all_goals with_reducible rfl)); (try simp only [Act.put, List.getElem_toArray, List.getElem_cons_succ, List.getElem_cons_zero, List.setIfInBounds_toArray, List.set_cons_zero, List.set_cons_succ]))
      (refine wpAnyH_done (by kernel_rfl) ?_ _)
      go_wp2
      go_ret3
      exact ⟨rfl, ((hblW2.drew).trans (hb5.mono hblW2.size)).trans (hb6.mono (by have := hblW2.size; omega))⟩
    · have HT1 : Hid (∀ w', Calls Tryz.prog 170 #[.agg #[.bool true, .string (natS (x.natAbs / n + 1))]] w' fun e w2 => e = .returned (.string (intS (x / n))) ∧ Below w'.heap.size w' w2) := Lib.hid (fun w' => by
        have h := text_any true (x.natAbs / n + 1) (Nat.le_trans (div_succ_digits hx) (by omega)) w'
        rw [show sgnZ true (x.natAbs / n + 1) = -((x.natAbs / n + 1 : Nat) : Int) from rfl, (div_neg1 hn hneg hr0).1] at h
        exact h)
      have HT2 : Hid (∀ w', Calls Tryz.prog 170 #[.agg #[.bool false, .string (natS (n - x.natAbs % n))]] w' fun e w2 => e = .returned (.string (intS (x % n))) ∧ Below w'.heap.size w' w2) := Lib.hid (fun w' => by
        have h := text_any false (n - x.natAbs % n) (Nat.le_trans (nDigits_mono (Nat.sub_le _ _)) (by omega)) w'
        rw [show sgnZ false (n - x.natAbs % n) = ((n - x.natAbs % n : Nat) : Int) from rfl, (div_neg1 hn hneg hr0).2] at h
        exact h)
      have HADD : Hid (∀ w', Below w.heap.size w w' → Calls Tryz.prog 151 #[.string Q, .string ⟨#[49]⟩] w' (StrOut w' (x.natAbs / n + 1))) := Lib.hid (fun w' hb => by
        rw [← HQR.out.1, ← natS_one]
        exact nadd_any _ 1 (Nat.le_trans (nDigits_mono (Nat.div_le_self _ _)) (by omega)) (by decide +kernel) (Nat.le_trans (div_succ_digits hx) (by omega)) w' (ht.below hb))
      have HSUB : Hid (∀ w', Below w.heap.size w w' → Calls Tryz.prog 154 #[.string E, .string R] w' (StrOut w' (n - x.natAbs % n))) := Lib.hid (fun w' hb => by
        rw [← HQR.out.2, ← HDE.out.2]
        exact sub_any _ _ (Nat.le_of_lt (Nat.mod_lt _ hn)) hy w' (ht.below hb))
      rw [decide_eq_false hr0] at hzR
      have hzR2 : (!R.toList == [48]) = true := by rw [hzR]; rfl
      unfold StrOut at HADD HSUB
      generalize natS (x.natAbs / n + 1) = Q2 at HT1 HADD
      generalize natS (n - x.natAbs % n) = R2 at HT2 HSUB
      clear hneg hr0
      go_upto_region 17 with (first | (go_at_call 169; (with_reducible refine (HND.out _ hblW).mono ?_); rintro e w2' ⟨rfl, hb2⟩; have hbx2' := Lib.hid (HB.out.below hb2); have hblW2' : Below w.heap.size w w2' := hblW.trans (hb2.mono hblW.size); obtain ⟨r0', r1', s0', s1', hps2', hqs2', hbw2'⟩ := hbx2'.out) | (go_at_call 151; (with_reducible refine (HADD.out _ hblW2').mono ?_); rintro e w3 ⟨rfl, hb3⟩; have hbx3 := Lib.hid (hbx2'.out.below hb3); have hblW3 : Below w.heap.size w w3 := hblW2'.trans (hb3.mono hblW2'.size); obtain ⟨r0'', r1'', s0'', s1'', hps2'', hqs2'', hbw2''⟩ := hbx3.out) | (go_at_call 154; (with_reducible refine (HSUB.out _ hblW3).mono ?_); rintro e w2 ⟨rfl, hb4⟩; have hbx2 := Lib.hid (hbx3.out.below hb4); have hblW2 : Below w.heap.size w w2 := hblW3.trans (hb4.mono hblW3.size); obtain ⟨r0, r1, s0, s1, hps2, hqs2, hbw2⟩ := hbx2.out))
      clear r0' r1' s0' s1' r0'' r1'' s0'' s1''
      (refine wp_region_held_drew (S := (fun w' => w'.cell? ⟨p, 0, none⟩ = some (.bool true) ∧ w'.cell? ⟨q, 0, none⟩ = some (.bool false))) (by kernel_rfl) ?_ (fun hHeld => ?_))
      · exact ⟨r0, s0⟩
      (refine wpAnyH_take (i := 0) (v := ?_) rfl (by kernel_rfl) (by kernel_rfl) (by kernel_rfl) (fun _ _ _ h => h) (Or.inl ⟨by kernel_rfl, ?_⟩) (by assumption) ?_; rotate_left; (focus (intro w hSw; (try dsimp only at hSw); go_simp; all_goals with_reducible rfl)); (try simp only [Act.put, List.getElem_toArray, List.getElem_cons_succ, List.getElem_cons_zero, List.setIfInBounds_toArray, List.set_cons_zero, List.set_cons_succ]))
      (refine wpAnyH_take (i := 1) (v := ?_) rfl (by kernel_rfl) (by kernel_rfl) (by kernel_rfl) (fun _ _ _ h => h) (Or.inl ⟨by kernel_rfl, ?_⟩) (by assumption) ?_; rotate_left; (focus (intro w hSw; (try dsimp only at hSw); go_simp; all_goals with_reducible rfl)); (try simp only [Act.put, List.getElem_toArray, List.getElem_cons_succ, List.getElem_cons_zero, List.setIfInBounds_toArray, List.set_cons_zero, List.set_cons_succ]))
      (refine wpAnyH_take (i := 2) (v := ?_) rfl (by kernel_rfl) (by kernel_rfl) (by kernel_rfl) (fun _ _ _ h => h) (Or.inl ⟨by kernel_rfl, ?_⟩) (by assumption) ?_; rotate_left; (focus (intro w hSw; (try dsimp only at hSw); go_simp; all_goals with_reducible rfl)); (try simp only [Act.put, List.getElem_toArray, List.getElem_cons_succ, List.getElem_cons_zero, List.setIfInBounds_toArray, List.set_cons_zero, List.set_cons_succ]))
      (refine wpAnyH_take (i := 3) (v := ?_) rfl (by kernel_rfl) (by kernel_rfl) (by kernel_rfl) (fun _ _ _ h => h) (Or.inl ⟨by kernel_rfl, ?_⟩) (by assumption) ?_; rotate_left; (focus (intro w hSw; (try dsimp only at hSw); go_simp; all_goals with_reducible rfl)); (try simp only [Act.put, List.getElem_toArray, List.getElem_cons_succ, List.getElem_cons_zero, List.setIfInBounds_toArray, List.set_cons_zero, List.set_cons_succ]))
      (refine wpAnyH_take (i := 4) (v := ?_) rfl (by kernel_rfl) (by kernel_rfl) (by kernel_rfl) (fun _ _ _ h => h) (Or.inl ⟨by kernel_rfl, ?_⟩) (by assumption) ?_; rotate_left; (focus (intro w hSw; (try dsimp only at hSw); go_simp; all_goals with_reducible rfl)); (try simp only [Act.put, List.getElem_toArray, List.getElem_cons_succ, List.getElem_cons_zero, List.setIfInBounds_toArray, List.set_cons_zero, List.set_cons_succ]))
      (refine wpAnyH_take (i := 5) (v := ?_) rfl (by kernel_rfl) (by kernel_rfl) (by kernel_rfl) (fun _ _ _ h => h) (Or.inl ⟨by kernel_rfl, ?_⟩) (by assumption) ?_; rotate_left; (focus (intro w hSw; (try dsimp only at hSw); go_simp; all_goals with_reducible rfl)); (try simp only [Act.put, List.getElem_toArray, List.getElem_cons_succ, List.getElem_cons_zero, List.setIfInBounds_toArray, List.set_cons_zero, List.set_cons_succ]))
      (refine wpAnyH_take (i := 6) (v := ?_) rfl (by kernel_rfl) (by kernel_rfl) (by kernel_rfl) (fun _ _ _ h => h) (Or.inl ⟨by kernel_rfl, ?_⟩) (by assumption) ?_; rotate_left; (focus (intro w hSw; (try dsimp only at hSw); go_simp; all_goals with_reducible rfl)); (try simp only [Act.put, List.getElem_toArray, List.getElem_cons_succ, List.getElem_cons_zero, List.setIfInBounds_toArray, List.set_cons_zero, List.set_cons_succ]))
      (refine wpAnyH_take (i := 8) (v := ?_) rfl (by kernel_rfl) (by kernel_rfl) (by kernel_rfl) (fun _ _ _ h => h) (Or.inl ⟨by kernel_rfl, ?_⟩) (by assumption) ?_; rotate_left; (focus (intro w hSw; (try dsimp only at hSw); go_simp; all_goals with_reducible rfl)); (try simp only [Act.put, List.getElem_toArray, List.getElem_cons_succ, List.getElem_cons_zero, List.setIfInBounds_toArray, List.set_cons_zero, List.set_cons_succ]))
      (refine wpAnyH_take (i := 9) (v := ?_) rfl (by kernel_rfl) (by kernel_rfl) (by kernel_rfl) (fun _ _ _ h => h) (Or.inl ⟨by kernel_rfl, ?_⟩) (by assumption) ?_; rotate_left; (focus (intro w hSw; (try dsimp only at hSw); go_simp; all_goals with_reducible rfl)); (try simp only [Act.put, List.getElem_toArray, List.getElem_cons_succ, List.getElem_cons_zero, List.setIfInBounds_toArray, List.set_cons_zero, List.set_cons_succ]))
      (refine wpAnyH_take (i := 10) (v := ?_) rfl (by kernel_rfl) (by kernel_rfl) (by kernel_rfl) (fun _ _ _ h => h) (Or.inl ⟨by kernel_rfl, ?_⟩) (by assumption) ?_; rotate_left; (focus (intro w hSw; (try dsimp only at hSw); go_simp; all_goals with_reducible rfl)); (try simp only [Act.put, List.getElem_toArray, List.getElem_cons_succ, List.getElem_cons_zero, List.setIfInBounds_toArray, List.set_cons_zero, List.set_cons_succ]))
      (refine wpAnyH_take (i := 11) (v := ?_) rfl (by kernel_rfl) (by kernel_rfl) (by kernel_rfl) (fun _ _ _ h => h) (Or.inl ⟨by kernel_rfl, ?_⟩) (by assumption) ?_; rotate_left; (focus (intro w hSw; (try dsimp only at hSw); go_simp; all_goals with_reducible rfl)); (try simp only [Act.put, List.getElem_toArray, List.getElem_cons_succ, List.getElem_cons_zero, List.setIfInBounds_toArray, List.set_cons_zero, List.set_cons_succ]))
      (refine wpAnyH_ready (rs := [7]) (by kernel_rfl) (by simp) ?_; refine AllReadyH.cons rfl (fun K hK => ?_) AllReadyH.nil; go_simp)
      go_at_call 170
      refine (HT1.out _).mono ?_
      rintro e w5 ⟨rfl, hb5⟩
      have k (b : Nat) (h : b < w2.heap.size) : w5.cell? ⟨b, 0, none⟩ = w2.cell? ⟨b, 0, none⟩ := hb5.cell (p := ⟨b, 0, none⟩) h
      have t0 := (k p hps2).trans r0
      have t1 := (k q hqs2).trans s0
      (refine hK.out _ _ ?_ (fun hHeld => ?_))
      · exact ⟨t0, t1⟩
      clear hK K k
      (try simp only [Act.put, List.getElem_toArray, List.getElem_cons_succ, List.getElem_cons_zero, List.setIfInBounds_toArray, List.set_cons_zero, List.set_cons_succ])
      (refine wpAnyH_ready (rs := [12]) (by kernel_rfl) (by simp) ?_; refine AllReadyH.cons rfl (fun K hK => ?_) AllReadyH.nil; go_simp)
      go_at_call 170
      refine (HT2.out _).mono ?_
      rintro e w6 ⟨rfl, hb6⟩
      have k (b : Nat) (h : b < w5.heap.size) : w6.cell? ⟨b, 0, none⟩ = w5.cell? ⟨b, 0, none⟩ := hb6.cell (p := ⟨b, 0, none⟩) h
      have hz5 : w2.heap.size ≤ w5.heap.size := hb5.size
      (refine hK.out _ _ ?_ (fun hHeld => ?_))
      · exact ⟨(k p (by omega)).trans t0, (k q (by omega)).trans t1⟩
      clear hK K k
      (try simp only [Act.put, List.getElem_toArray, List.getElem_cons_succ, List.getElem_cons_zero, List.setIfInBounds_toArray, List.set_cons_zero, List.set_cons_succ])
      (refine wpAnyH_take (i := 13) (v := ?_) rfl (by kernel_rfl) (by kernel_rfl) (by kernel_rfl) (fun _ _ _ h => h) (Or.inl ⟨by kernel_rfl, ?_⟩) (by assumption) ?_; rotate_left; (focus (intro w hSw; (try dsimp only at hSw); go_simp; all_goals with_reducible rfl)); (try simp only [Act.put, List.getElem_toArray, List.getElem_cons_succ, List.getElem_cons_zero, List.setIfInBounds_toArray, List.set_cons_zero, List.set_cons_succ]))
      (refine wpAnyH_take (i := 14) (v := ?_) rfl (by kernel_rfl) (by kernel_rfl) (by kernel_rfl) (fun _ _ _ h => h) (Or.inl ⟨by kernel_rfl, ?_⟩) (by assumption) ?_; rotate_left; (focus (intro w hSw; (try dsimp only at hSw); go_simp; all_goals with_reducible rfl)); (try simp only [Act.put, List.getElem_toArray, List.getElem_cons_succ, List.getElem_cons_zero, List.setIfInBounds_toArray, List.set_cons_zero, List.set_cons_succ]))
      (refine wpAnyH_take (i := 15) (v := ?_) rfl (by kernel_rfl) (by kernel_rfl) (by kernel_rfl) (fun _ _ _ h => h) (Or.inl ⟨by kernel_rfl, ?_⟩) (by assumption) ?_; rotate_left; (focus (intro w hSw; (try dsimp only at hSw); go_simp; all_goals with_reducible rfl)); (try simp only [Act.put, List.getElem_toArray, List.getElem_cons_succ, List.getElem_cons_zero, List.setIfInBounds_toArray, List.set_cons_zero, List.set_cons_succ]))
      (refine wpAnyH_done (by kernel_rfl) ?_ _)
      go_wp2
      go_ret3
      exact ⟨rfl, ((hblW2.drew).trans (hb5.mono hblW2.size)).trans (hb6.mono (by have := hblW2.size; omega))⟩
  · obtain rfl : bx = false := by rw [← HBX.out]; exact decide_eq_false hneg
    have HT1 : Hid (∀ w', Calls Tryz.prog 170 #[.agg #[.bool false, .string Q]] w' fun e w2 => e = .returned (.string (intS (x / n))) ∧ Below w'.heap.size w' w2) := Lib.hid (fun w' => by
      have h := text_any false (x.natAbs / n) (Nat.le_trans (nDigits_mono (Nat.div_le_self _ _)) (by omega)) w'
      rw [HQR.out.1, show sgnZ false (x.natAbs / n) = ((x.natAbs / n : Nat) : Int) from rfl, (div_pos_ (by omega)).1] at h
      exact h)
    have HT2 : Hid (∀ w', Calls Tryz.prog 170 #[.agg #[.bool false, .string R]] w' fun e w2 => e = .returned (.string (intS (x % n))) ∧ Below w'.heap.size w' w2) := Lib.hid (fun w' => by
      have h := text_any false (x.natAbs % n) (Nat.le_trans (nDigits_mono (Nat.mod_le _ _)) (by omega)) w'
      rw [HQR.out.2, show sgnZ false (x.natAbs % n) = ((x.natAbs % n : Nat) : Int) from rfl, (div_pos_ (by omega)).2] at h
      exact h)
    clear hzR
    clear hneg
    go_upto_region 17 with (go_at_call 169; (with_reducible refine (HND.out _ hblW).mono ?_); rintro e w2 ⟨rfl, hb2⟩; have hbx2 := Lib.hid (HB.out.below hb2); have hblW2 : Below w.heap.size w w2 := hblW.trans (hb2.mono hblW.size); obtain ⟨r0, r1, s0, s1, hps2, hqs2, hbw2⟩ := hbx2.out)
    (refine wp_region_held_drew (S := (fun w' => w'.cell? ⟨p, 0, none⟩ = some (.bool false) ∧ w'.cell? ⟨q, 0, none⟩ = some (.bool false))) (by kernel_rfl) ?_ (fun hHeld => ?_))
    · exact ⟨r0, s0⟩
    (refine wpAnyH_take (i := 0) (v := ?_) rfl (by kernel_rfl) (by kernel_rfl) (by kernel_rfl) (fun _ _ _ h => h) (Or.inl ⟨by kernel_rfl, ?_⟩) (by assumption) ?_; rotate_left; (focus (intro w hSw; (try dsimp only at hSw); go_simp; all_goals with_reducible rfl)); (try simp only [Act.put, List.getElem_toArray, List.getElem_cons_succ, List.getElem_cons_zero, List.setIfInBounds_toArray, List.set_cons_zero, List.set_cons_succ]))
    (refine wpAnyH_take (i := 1) (v := ?_) rfl (by kernel_rfl) (by kernel_rfl) (by kernel_rfl) (fun _ _ _ h => h) (Or.inl ⟨by kernel_rfl, ?_⟩) (by assumption) ?_; rotate_left; (focus (intro w hSw; (try dsimp only at hSw); go_simp; all_goals with_reducible rfl)); (try simp only [Act.put, List.getElem_toArray, List.getElem_cons_succ, List.getElem_cons_zero, List.setIfInBounds_toArray, List.set_cons_zero, List.set_cons_succ]))
    (refine wpAnyH_take (i := 2) (v := ?_) rfl (by kernel_rfl) (by kernel_rfl) (by kernel_rfl) (fun _ _ _ h => h) (Or.inl ⟨by kernel_rfl, ?_⟩) (by assumption) ?_; rotate_left; (focus (intro w hSw; (try dsimp only at hSw); go_simp; all_goals with_reducible rfl)); (try simp only [Act.put, List.getElem_toArray, List.getElem_cons_succ, List.getElem_cons_zero, List.setIfInBounds_toArray, List.set_cons_zero, List.set_cons_succ]))
    (refine wpAnyH_take (i := 3) (v := ?_) rfl (by kernel_rfl) (by kernel_rfl) (by kernel_rfl) (fun _ _ _ h => h) (Or.inl ⟨by kernel_rfl, ?_⟩) (by assumption) ?_; rotate_left; (focus (intro w hSw; (try dsimp only at hSw); go_simp; all_goals with_reducible rfl)); (try simp only [Act.put, List.getElem_toArray, List.getElem_cons_succ, List.getElem_cons_zero, List.setIfInBounds_toArray, List.set_cons_zero, List.set_cons_succ]))
    (refine wpAnyH_take (i := 4) (v := ?_) rfl (by kernel_rfl) (by kernel_rfl) (by kernel_rfl) (fun _ _ _ h => h) (Or.inl ⟨by kernel_rfl, ?_⟩) (by assumption) ?_; rotate_left; (focus (intro w hSw; (try dsimp only at hSw); go_simp; all_goals with_reducible rfl)); (try simp only [Act.put, List.getElem_toArray, List.getElem_cons_succ, List.getElem_cons_zero, List.setIfInBounds_toArray, List.set_cons_zero, List.set_cons_succ]))
    (refine wpAnyH_take (i := 5) (v := ?_) rfl (by kernel_rfl) (by kernel_rfl) (by kernel_rfl) (fun _ _ _ h => h) (Or.inl ⟨by kernel_rfl, ?_⟩) (by assumption) ?_; rotate_left; (focus (intro w hSw; (try dsimp only at hSw); go_simp; all_goals with_reducible rfl)); (try simp only [Act.put, List.getElem_toArray, List.getElem_cons_succ, List.getElem_cons_zero, List.setIfInBounds_toArray, List.set_cons_zero, List.set_cons_succ]))
    (refine wpAnyH_take (i := 6) (v := ?_) rfl (by kernel_rfl) (by kernel_rfl) (by kernel_rfl) (fun _ _ _ h => h) (Or.inl ⟨by kernel_rfl, ?_⟩) (by assumption) ?_; rotate_left; (focus (intro w hSw; (try dsimp only at hSw); go_simp; all_goals with_reducible rfl)); (try simp only [Act.put, List.getElem_toArray, List.getElem_cons_succ, List.getElem_cons_zero, List.setIfInBounds_toArray, List.set_cons_zero, List.set_cons_succ]))
    (refine wpAnyH_take (i := 8) (v := ?_) rfl (by kernel_rfl) (by kernel_rfl) (by kernel_rfl) (fun _ _ _ h => h) (Or.inl ⟨by kernel_rfl, ?_⟩) (by assumption) ?_; rotate_left; (focus (intro w hSw; (try dsimp only at hSw); go_simp; all_goals with_reducible rfl)); (try simp only [Act.put, List.getElem_toArray, List.getElem_cons_succ, List.getElem_cons_zero, List.setIfInBounds_toArray, List.set_cons_zero, List.set_cons_succ]))
    (refine wpAnyH_take (i := 9) (v := ?_) rfl (by kernel_rfl) (by kernel_rfl) (by kernel_rfl) (fun _ _ _ h => h) (Or.inl ⟨by kernel_rfl, ?_⟩) (by assumption) ?_; rotate_left; (focus (intro w hSw; (try dsimp only at hSw); go_simp; all_goals with_reducible rfl)); (try simp only [Act.put, List.getElem_toArray, List.getElem_cons_succ, List.getElem_cons_zero, List.setIfInBounds_toArray, List.set_cons_zero, List.set_cons_succ]))
    (refine wpAnyH_take (i := 10) (v := ?_) rfl (by kernel_rfl) (by kernel_rfl) (by kernel_rfl) (fun _ _ _ h => h) (Or.inl ⟨by kernel_rfl, ?_⟩) (by assumption) ?_; rotate_left; (focus (intro w hSw; (try dsimp only at hSw); go_simp; all_goals with_reducible rfl)); (try simp only [Act.put, List.getElem_toArray, List.getElem_cons_succ, List.getElem_cons_zero, List.setIfInBounds_toArray, List.set_cons_zero, List.set_cons_succ]))
    (refine wpAnyH_take (i := 11) (v := ?_) rfl (by kernel_rfl) (by kernel_rfl) (by kernel_rfl) (fun _ _ _ h => h) (Or.inl ⟨by kernel_rfl, ?_⟩) (by assumption) ?_; rotate_left; (focus (intro w hSw; (try dsimp only at hSw); go_simp; all_goals with_reducible rfl)); (try simp only [Act.put, List.getElem_toArray, List.getElem_cons_succ, List.getElem_cons_zero, List.setIfInBounds_toArray, List.set_cons_zero, List.set_cons_succ]))
    (refine wpAnyH_ready (rs := [7]) (by kernel_rfl) (by simp) ?_; refine AllReadyH.cons rfl (fun K hK => ?_) AllReadyH.nil; go_simp)
    go_at_call 170
    refine (HT1.out _).mono ?_
    rintro e w5 ⟨rfl, hb5⟩
    have k (b : Nat) (h : b < w2.heap.size) : w5.cell? ⟨b, 0, none⟩ = w2.cell? ⟨b, 0, none⟩ := hb5.cell (p := ⟨b, 0, none⟩) h
    have t0 := (k p hps2).trans r0
    have t1 := (k q hqs2).trans s0
    (refine hK.out _ _ ?_ (fun hHeld => ?_))
    · exact ⟨t0, t1⟩
    clear hK K k
    (try simp only [Act.put, List.getElem_toArray, List.getElem_cons_succ, List.getElem_cons_zero, List.setIfInBounds_toArray, List.set_cons_zero, List.set_cons_succ])
    (refine wpAnyH_ready (rs := [12]) (by kernel_rfl) (by simp) ?_; refine AllReadyH.cons rfl (fun K hK => ?_) AllReadyH.nil; go_simp)
    go_at_call 170
    refine (HT2.out _).mono ?_
    rintro e w6 ⟨rfl, hb6⟩
    have k (b : Nat) (h : b < w5.heap.size) : w6.cell? ⟨b, 0, none⟩ = w5.cell? ⟨b, 0, none⟩ := hb6.cell (p := ⟨b, 0, none⟩) h
    have hz5 : w2.heap.size ≤ w5.heap.size := hb5.size
    (refine hK.out _ _ ?_ (fun hHeld => ?_))
    · exact ⟨(k p (by omega)).trans t0, (k q (by omega)).trans t1⟩
    clear hK K k
    (try simp only [Act.put, List.getElem_toArray, List.getElem_cons_succ, List.getElem_cons_zero, List.setIfInBounds_toArray, List.set_cons_zero, List.set_cons_succ])
    (refine wpAnyH_take (i := 13) (v := ?_) rfl (by kernel_rfl) (by kernel_rfl) (by kernel_rfl) (fun _ _ _ h => h) (Or.inl ⟨by kernel_rfl, ?_⟩) (by assumption) ?_; rotate_left; (focus (intro w hSw; (try dsimp only at hSw); go_simp; all_goals with_reducible rfl)); (try simp only [Act.put, List.getElem_toArray, List.getElem_cons_succ, List.getElem_cons_zero, List.setIfInBounds_toArray, List.set_cons_zero, List.set_cons_succ]))
    (refine wpAnyH_take (i := 14) (v := ?_) rfl (by kernel_rfl) (by kernel_rfl) (by kernel_rfl) (fun _ _ _ h => h) (Or.inl ⟨by kernel_rfl, ?_⟩) (by assumption) ?_; rotate_left; (focus (intro w hSw; (try dsimp only at hSw); go_simp; all_goals with_reducible rfl)); (try simp only [Act.put, List.getElem_toArray, List.getElem_cons_succ, List.getElem_cons_zero, List.setIfInBounds_toArray, List.set_cons_zero, List.set_cons_succ]))
    (refine wpAnyH_take (i := 15) (v := ?_) rfl (by kernel_rfl) (by kernel_rfl) (by kernel_rfl) (fun _ _ _ h => h) (Or.inl ⟨by kernel_rfl, ?_⟩) (by assumption) ?_; rotate_left; (focus (intro w hSw; (try dsimp only at hSw); go_simp; all_goals with_reducible rfl)); (try simp only [Act.put, List.getElem_toArray, List.getElem_cons_succ, List.getElem_cons_zero, List.setIfInBounds_toArray, List.set_cons_zero, List.set_cons_succ]))
    (refine wpAnyH_done (by kernel_rfl) ?_ _)
    go_wp2
    go_ret3
    exact ⟨rfl, ((hblW2.drew).trans (hb5.mono hblW2.size)).trans (hb6.mono (by have := hblW2.size; omega))⟩
end Go.Proofs.YthcmopgdjibojaaGreatDoor.wh

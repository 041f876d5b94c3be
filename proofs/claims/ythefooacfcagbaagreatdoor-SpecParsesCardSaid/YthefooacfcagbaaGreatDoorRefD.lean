import Derived.Test.YthefooacfcagbaaGreatDoorC1
import Derived.Test.YthefooacfcagbaaGreatDoorRefA
import Derived.Deep.DeepCutAuto
/- The reference's check of pairs. -/
namespace Go.Proofs.YthefooacfcagbaaGreatDoor.rrul
open Go.RowKit
open lib rd typ app flts eqg txt note rul
set_option linter.unusedVariables false
set_option linter.unusedSimpArgs false
set_option maxRecDepth 100000 in
theorem rdec_any (n : Nat) (hn : n < 1000000000000000000) (w : World) : Calls Tryz.prog 141 #[.int .i64 n] w fun e w' => e = .returned (.string (decS n)) ∧ Below w.heap.size w w' := by
 have hn' : (n : Int) < 1000000000000000000 := by omega
 have hn0 : (0 : Int) ≤ n := by omega
 rw [decS_F n]
 obtain ⟨R, hR⟩ : ∃ R, decF 20 n = R := ⟨_, rfl⟩
 have hR2 := decF_size 20 n
 rw [hR] at hR2 ⊢
 have H0 : Hid (decF 20 n = decF (19 + 1) n ++ ⟨#[]⟩) := Lib.hid (by show decF 20 n = decF 20 n ++ ByteArray.empty; rw [ByteArray.append_empty])
 have HR := Lib.hid hR
 clear hR
 go_enter Tryz.func141, Tryz.ntmps141
 go_wp2
 go_loopw [0, 3] (fun l s wr => Below w.heap.size w wr ∧ ∃ (m f : Nat) (t : ByteArray), l = .int .i64 m ∧ m < 1000000000000000000 ∧ Hid (decF 20 n = decF (f + 1) m ++ t) ∧ Hid (m < 10 ^ (f + 1)) ∧ t.size + f ≤ 40 ∧ s = .string t) (fun l _ _ => (intOf l).toNat)
 case atStart => exact ⟨Below.refl _ _, n, 19, ⟨#[]⟩, rfl, hn, H0, Lib.hid (by omega), by decide, rfl⟩
 case round =>
  obtain ⟨hb, m, f, t, rfl, hm, hmn, hmf, ht, rfl⟩ := hrel
  obtain ⟨b, hbz⟩ := byte_ex m
  have kc := conv_one wr (48 + (m : Int) % 10) b hbz
  have HB := Lib.hid hbz
  have hbw := hb.size
  have hn2 : (0 : Int) ≤ (m : Int) / 10 := by omega
  have ht2 : t.size ≤ 40 := by omega
  clear hbz
  by_cases h10 : m < 10
  ·have h10' : ¬ (10 : Int) ≤ (m : Int) := by omega
   have hmm : (m : Int) % 10 = (m : Int) := by omega
   have hd : Hid (R = ⟨#[b]⟩ ++ t) := Lib.hid (by rw [← HR.out]; exact dec_last hmn.out HB.out h10)
   rw [hmm] at kc
   clear h10 hmm
   go_wp2
   go_ret
   exact ⟨by rw [hd.out]; rfl, hb.alloc hbw _⟩
  ·have h10' : (10 : Int) ≤ (m : Int) := by omega
   rcases f with _ | f
   ·exact absurd hmf.out (by omega)
   have hd : Hid (decF 20 n = decF (f + 1) (m / 10) ++ (⟨#[b]⟩ ++ t)) := Lib.hid (dec_step hmn.out HB.out h10)
   have hsz : Hid ((⟨#[b]⟩ ++ t : ByteArray).size + f ≤ 40) := Lib.hid (by
    rw [ByteArray.size_append]
    have e1 : (⟨#[b]⟩ : ByteArray).size = 1 := rfl
    omega)
   have hmf2 : Hid (m / 10 < 10 ^ (f + 1)) := Lib.hid (by have := hmf.out; rw [Nat.pow_succ] at this; omega)
   obtain ⟨q, hq⟩ : ∃ q, m / 10 = q := ⟨_, rfl⟩
   have hz : ((m : Int) / 10) = (q : Int) := by omega
   have hq1 : q < 1000000000000000000 := by omega
   rw [hq] at hd hmf2
   have HZ := Lib.hid (show 10 * q ≤ m ∧ q < m by omega)
   clear hq h10
   go_wp2
   go_roundw
   case rel => exact ⟨hb.alloc hbw _, q, f, _, by go_num, hq1, hd, hmf2, hsz.out, rfl⟩
   case measure => have := HZ.out; simp [intOf]; omega
theorem badB_cases (o : Int) (p : Int × Int) : (badB o p = true ∧ p.1 < 0) ∨ (badB o p = true ∧ ¬ p.1 < 0 ∧ o ≤ p.1) ∨ (badB o p = true ∧ ¬ p.1 < 0 ∧ ¬ o ≤ p.1 ∧ p.2 < 0) ∨ (badB o p = true ∧ ¬ p.1 < 0 ∧ ¬ o ≤ p.1 ∧ ¬ p.2 < 0 ∧ o ≤ p.2) ∨ (badB o p = (p.1 == p.2) ∧ ¬ p.1 < 0 ∧ ¬ o ≤ p.1 ∧ ¬ p.2 < 0 ∧ ¬ o ≤ p.2) := by
 unfold badB rightB
 by_cases h1 : p.1 < 0
 ·exact .inl ⟨by simp; omega, h1⟩
 by_cases h2 : o ≤ p.1
 ·exact .inr (.inl ⟨by simp; omega, h1, h2⟩)
 by_cases h3 : p.2 < 0
 ·exact .inr (.inr (.inl ⟨by simp; omega, h1, h2, h3⟩))
 by_cases h4 : o ≤ p.2
 ·exact .inr (.inr (.inr (.inl ⟨by simp; omega, h1, h2, h3, h4⟩)))
 ·refine .inr (.inr (.inr (.inr ⟨?_, h1, h2, h3, h4⟩)))
  have e1 : decide (0 ≤ p.1) = true := decide_eq_true (by omega)
  have e2 : decide (p.1 < o) = true := decide_eq_true (by omega)
  have e3 : decide (0 ≤ p.2) = true := decide_eq_true (by omega)
  have e4 : decide (p.2 < o) = true := decide_eq_true (by omega)
  rw [e1, e2, e3, e4]
  rfl
theorem rul_ne {o : Int} {p : Int × Int} (h : badB o p = false) : p.1 ≠ p.2 := by
 unfold badB rightB at h
 simp at h
 omega
theorem any_step {X : Type} {p : X → Bool} {l : List X} {k : Nat} {x : X} (h : l[k]? = some x) : (l.take (k + 1)).any p = ((l.take k).any p || p x) := by
 rw [take_snoc'' h, List.any_append]
 simp
def eitherB (turned : Bool) (p q : Int × Int) : Bool := twoEq p q || (turned && (p.1 == q.2 && p.2 == q.1))
theorem either_loose : eitherB true = looseB := by
 funext p q
 rfl
theorem either_exact : eitherB false = twoEq := by
 funext p q
 simp [eitherB]
theorem either_cases (t : Bool) (p q : Int × Int) : (eitherB t p q = (t && (p.1 == q.2 && p.2 == q.1)) ∧ (q.1 == p.1) = false) ∨ (eitherB t p q = (t && (p.1 == q.2 && p.2 == q.1)) ∧ q.1 = p.1 ∧ (q.2 == p.2) = false) ∨ (eitherB t p q = true ∧ q.1 = p.1 ∧ q.2 = p.2) := by
 unfold eitherB twoEq
 by_cases h1 : q.1 = p.1
 ·by_cases h2 : q.2 = p.2
  ·exact .inr (.inr ⟨by simp [h1, h2], h1, h2⟩)
  ·refine .inr (.inl ⟨?_, h1, by simp [h2]⟩)
   have e : (p.2 == q.2) = false := by simp; exact fun e => h2 e.symm
   rw [e, Bool.and_false, Bool.false_or]
 ·refine .inl ⟨?_, by simp [h1]⟩
  have e : (p.1 == q.1) = false := by simp; exact fun e => h1 e.symm
  rw [e, Bool.false_and, Bool.false_or]
theorem cross_cases (p q : Int × Int) : ((p.1 == q.2 && p.2 == q.1) = false ∧ (q.1 == p.2) = false) ∨ ((p.1 == q.2 && p.2 == q.1) = false ∧ q.1 = p.2 ∧ (q.2 == p.1) = false) ∨ ((p.1 == q.2 && p.2 == q.1) = true ∧ q.1 = p.2 ∧ q.2 = p.1) := by
 by_cases h1 : q.1 = p.2
 ·by_cases h2 : q.2 = p.1
  ·exact .inr (.inr ⟨by simp [h1, h2], h1, h2⟩)
  ·refine .inr (.inl ⟨?_, h1, by simp [h2]⟩)
   simp
   intro h
   exact absurd h.symm h2
 ·refine .inl ⟨?_, by simp [h1]⟩
  simp
  intro _ h
  exact h1 h.symm
set_option maxRecDepth 20000 in
set_option maxHeartbeats 4000000 in
theorem rfaults_any (orders : Int) (word : ByteArray) (turned : Bool) (A0 : Option Addr) (d0 : Nat) (l : List (Int × Int)) (w : World) (hL : RowAt (rPair rInt rInt) w w.heap.size A0 l) (hl : l.length ≤ 10000000) (hws : word.size ≤ 1000) :
  Calls Tryz.prog 95 #[.int .i64 orders, .slice A0 l.length d0, .string word, .bool turned] w (FltsOut w (pairsTo orders word (eitherB turned) l l.length)) := by
 obtain ⟨n, hn⟩ : ∃ n, l.length = n := ⟨_, rfl⟩
 have HN := Lib.hid hn
 obtain ⟨F, hF⟩ : ∃ F, pairsTo orders word (eitherB turned) l = F := ⟨_, rfl⟩
 have HF := Lib.hid hF
 have hFl : ∀ j, (F j).length ≤ 1 + j := fun j => by rw [← hF]; exact pairsTo_len _ _ _ _ j
 have HF0 : Hid (F 0 = if n ≤ 16 then [] else [⟨4, word⟩]) := Lib.hid (by rw [← hF, ← hn]; rfl)
 rw [hn] at hl ⊢
 rw [hF]
 clear hn hF
 have B0 : Below w.heap.size w w := Below.refl _ _
 go_enter Tryz.func95, Tryz.ntmps95
 go_upto_region 2 with fail
 go_cut [18] (fun v wx => v = .bool (decide (16 < n)) ∧ w = wx)
 case first => as_aux_lemma =>
  have hE : decide ((16 : Int) < (n : Int)) = decide (16 < n) := by rw [Bool.eq_iff_iff]; simp; omega
  have HE := Lib.hid hE
  clear hE
  go_wp2
  go_meet
  exact ⟨by rw [HE.out], rfl⟩
 obtain ⟨h18, hwc⟩ := hcut
 subst h18
 subst hwc
 go_upto_if 18 with fail
 go_cut [9] (fun v wx => ∃ A c, v = .slice A (F 0).length c ∧ Fown wx w.heap.size A c (F 0) ∧ Below w.heap.size w wx)
 case first => as_aux_lemma =>
  cases h16 : decide (16 < n)
  ·have hE : Hid (F 0 = []) := Lib.hid (by rw [HF0.out, if_pos (by have := of_decide_eq_false h16; omega)])
   clear h16
   go_wp2
   go_meet
   exact ⟨none, 0, by rw [hE.out]; rfl, by rw [hE.out]; exact Fown.nil _ _, B0⟩
  ·have hE : Hid (F 0 = [] ++ [⟨4, word⟩]) := Lib.hid (by rw [HF0.out, if_neg (by have := of_decide_eq_true h16; omega)]; rfl)
   clear h16
   have HO := Lib.hid (Fown.nil w w.heap.size)
   go_wp2_with (at_builtin; refine wpList_pushF rfl _ _ rfl w.heap.size none ([]) 0 rfl HO.out (⟨4, word⟩) (F 0) hE.out rfl (by first | omega | decide) (by omega) ?_; intro g3 c3 w3 hown3 hb3 hs3 hk3 hd3)
   go_meet
   exact ⟨_, _, rfl, hown3, hb3⟩
 obtain ⟨A, c, h3, hown, hB⟩ := hcut
 subst h3
 go_upto_region 5 with fail
 go_loopw [9, 10, 11, 12, 13, 14, 15] (fun v i _ _ _ _ _ wr => ∃ (j : Nat) (A : Option Addr) (c : Nat), j ≤ n ∧ i = .int .i64 j ∧ v = .slice A (F j).length c ∧ Fown wr w.heap.size A c (F j) ∧ Below w.heap.size w wr) (fun _ i _ _ _ _ _ _ => n - (intOf i).toNat)
 case atStart => exact ⟨0, A, c, by omega, rfl, rfl, hown, hB⟩
 case round =>
  clear hown hB
  obtain ⟨j, A, c, hj, rfl, rfl, hown, hB⟩ := hrel
  have hz := hB.size
  by_cases hlt : j < n
  ·obtain ⟨p, hp⟩ : ∃ p, l[j]? = some p := ⟨_, List.getElem?_eq_getElem (by rw [HN.out]; exact hlt)⟩
   obtain ⟨ad, hA0, hadb, ⟨m0, m1⟩, hpf1, hpf2⟩ := row_Two (hL.below hB) hp
   subst hA0
   have hj0 : (0 : Int) ≤ (j : Int) := by omega
   have hjn : (j : Int) < (n : Int) := by omega
   have hjd : j < 1000000000000000000 := by omega
   have hFj := hFl j
   have hds := decS_size j
   have hsz : (word ++ ⟨#[32]⟩ : ByteArray).size ≤ 1001 := by rw [ByteArray.size_append]; exact Nat.add_le_add_right hws 1
   have HP : Hid (F (j + 1) = F j ++ pairP orders word (eitherB turned) l j p) := Lib.hid (by rw [← HF.out, pairsTo_succ hp])
   have HLS := Lib.hid hp
   have HO := Lib.hid hown
   have HPF := Lib.hid (And.intro hpf1 hpf2)
   obtain ⟨p1, hp1⟩ : ∃ x, p.1 = x := ⟨_, rfl⟩
   obtain ⟨p2, hp2⟩ : ∃ x, p.2 = x := ⟨_, rfl⟩
   have hbc := badB_cases orders p
   have HPP := Lib.hid (And.intro hp1 hp2)
   rw [hp1, hp2] at hbc
   rw [hp1] at m0
   rw [hp2] at m1
   clear hp hown hpf1 hpf2 hp1 hp2
   go_upto_region 10 with (go_at_call 141; refine (rdec_any j hjd _).mono ?_; rintro e w1 ⟨rfl, hb1⟩)
   have hB1 : Below w.heap.size w w1 := hB.trans (hb1.mono hz)
   have z1 := hB1.size
   have HO1 := Lib.hid (HO.out.below hb1)
   clear HO hB m0 m1
   obtain ⟨bad, hbad⟩ : ∃ q, badB orders p = q := ⟨_, rfl⟩
   rw [hbad] at hbc
   have HBAD := Lib.hid hbad
   clear hbad
   go_cut [65] (fun v wx => v = .bool bad ∧ w1 = wx)
   case first => as_aux_lemma =>
    rcases hbc with ⟨e, g⟩ | ⟨e, g, g2⟩ | ⟨e, g, g2, g3⟩ | ⟨e, g, g2, g3, g4⟩ | ⟨e, g, g2, g3, g4⟩
    case inr.inr.inr.inr =>
     have H := Lib.hid e
     have D := Lib.hid (And.intro (decide_eq_false (show ¬ p1 < 0 by omega)) (And.intro (decide_eq_false (show ¬ orders ≤ p1 by omega)) (And.intro (decide_eq_false (show ¬ p2 < 0 by omega)) (decide_eq_false (show ¬ orders ≤ p2 by omega)))))
     clear e
     go_wp2
     go_meet
     exact ⟨by rw [H.out, D.out.1, D.out.2.1, D.out.2.2.1, D.out.2.2.2]; rfl, rfl⟩
    all_goals
     have H := Lib.hid e
     clear e
     go_wp2
     go_meet
     exact ⟨by rw [H.out], rfl⟩
   obtain ⟨h65, hwc⟩ := hcut
   subst h65
   subst hwc
   clear hbc
   cases bad
   case true =>
    have hE : Hid (F (j + 1) = F j ++ [⟨2, atS word j⟩]) := Lib.hid (by rw [HP.out]; unfold pairP; rw [if_pos HBAD.out])
    go_wp2_with (at_builtin; refine wpList_pushF rfl _ _ rfl w.heap.size A (F j) c rfl HO1.out (⟨2, atS word j⟩) (F (j + 1)) hE.out rfl (by first | omega | decide) (by omega) ?_; intro g3 c3 w3 hown3 hb3 hs3 hk3 hd3)
    go_roundw
    case rel => exact ⟨j + 1, _, _, by omega, by go_num, rfl, hown3, hB1.trans (hb3.mono (Nat.le_refl _))⟩
    case measure => simp [intOf]; omega
   case false =>
    obtain ⟨U, hU⟩ : ∃ U : Nat → Bool, (fun k => (l.take k).any (eitherB turned p)) = U := ⟨_, rfl⟩
    have HU0 : Hid (U 0 = false) := Lib.hid (by rw [← hU]; simp)
    have HUS : Hid (∀ (k : Nat) y, l[k]? = some y → U (k + 1) = (U k || eitherB turned p y)) := Lib.hid fun k y hy => by rw [← hU]; exact any_step hy
    have HP2 : Hid (F (j + 1) = F j ++ (if U j = true then [⟨6, atS word j⟩] else [])) := Lib.hid (by rw [HP.out]; unfold pairP; rw [HBAD.out, if_neg (by decide), ← hU])
    clear hU
    have hne : p1 ≠ p2 := by
     have h := (rul_ne HBAD.out)
     rw [HPP.out.1, HPP.out.2] at h
     exact h
    have hn1 : (p1 == p2) = false := by simp [hne]
    have hn2 : (p2 == p1) = false := by simp; exact fun e => hne e.symm
    have HNE := Lib.hid hne
    clear hne
    go_upto_region 14 with fail
    go_loop [14, 15] (fun t i => ∃ (k : Nat), k ≤ j ∧ i = .int .i64 k ∧ t = .bool (U k)) (fun _ i => j - (intOf i).toNat)
    case atStart => exact ⟨0, by omega, rfl, by rw [HU0.out]⟩
    case round =>
     obtain ⟨k, hk, rfl, rfl⟩ := hrel
     by_cases hkj : k < j
     ·obtain ⟨y, hy⟩ : ∃ y, l[k]? = some y := ⟨_, List.getElem?_eq_getElem (by rw [HN.out]; omega)⟩
      obtain ⟨ad2, hadeq, -, ⟨k0, k1⟩, -, -⟩ := row_Two (hL.below hB1) hy
      obtain rfl : ad = ad2 := Option.some.inj hadeq
      have hk0 : (0 : Int) ≤ (k : Int) := by omega
      have hk1 : (k : Int) < (n : Int) := by omega
      have hk2 : (k : Int) < (j : Int) := by omega
      have HST := Lib.hid (HUS.out k y hy)
      have hec := either_cases turned p y
      have hcc := cross_cases p y
      obtain ⟨q, hq⟩ : ∃ q, eitherB turned p y = q := ⟨_, rfl⟩
      obtain ⟨r, hr⟩ : ∃ r, (p.1 == y.2 && p.2 == y.1) = r := ⟨_, rfl⟩
      rw [hq] at hec
      rw [hr] at hec hcc
      rw [HPP.out.1, HPP.out.2] at hec hcc
      have HQ := Lib.hid hq
      clear hy hadeq hq hr
      cases hh : U k
      ·have HH := Lib.hid hh
       clear hh
       rcases hec with ⟨e, g⟩ | ⟨e, g, g2⟩ | ⟨e, g, g2⟩
       ·cases turned
        ·have H := Lib.hid e
         clear e hcc
         go_wp2
         go_round
         case rel => exact ⟨k + 1, by omega, by go_num, by rw [HST.out, HH.out, HQ.out, H.out]; rfl⟩
         case measure => simp [intOf]; omega
        ·rcases hcc with ⟨e2, g3⟩ | ⟨e2, g3, g4⟩ | ⟨e2, g3, g4⟩
         all_goals
          have H := Lib.hid (And.intro e e2)
          clear e e2
          go_wp2
          go_round
          case rel => exact ⟨k + 1, by omega, by go_num, by rw [HST.out, HH.out, HQ.out, H.out.1, H.out.2]; rfl⟩
          case measure => simp [intOf]; omega
       ·cases turned
        ·have H := Lib.hid e
         clear e hcc
         go_wp2
         go_round
         case rel => exact ⟨k + 1, by omega, by go_num, by rw [HST.out, HH.out, HQ.out, H.out]; rfl⟩
         case measure => simp [intOf]; omega
        ·have hrf : r = false := by
          rcases hcc with ⟨e2, -⟩ | ⟨e2, -, -⟩ | ⟨-, g3, -⟩
          ·exact e2
          ·exact e2
          ·exact absurd (g.symm.trans g3) HNE.out
         have H := Lib.hid (And.intro e hrf)
         clear e hrf hcc
         go_wp2
         go_round
         case rel => exact ⟨k + 1, by omega, by go_num, by rw [HST.out, HH.out, HQ.out, H.out.1, H.out.2]; rfl⟩
         case measure => simp [intOf]; omega
       ·have H := Lib.hid e
        clear e hcc
        go_wp2
        go_round
        case rel => exact ⟨k + 1, by omega, by go_num, by rw [HST.out, HH.out, HQ.out, H.out]; rfl⟩
        case measure => simp [intOf]; omega
      ·have HH := Lib.hid hh
       clear hh hec hcc
       go_wp2
       go_round
       case rel => exact ⟨k + 1, by omega, by go_num, by rw [HST.out, HH.out]; rfl⟩
       case measure => simp [intOf]; omega
     ·have hkj2 : j = k := by omega
      subst hkj2
      clear hkj
      cases hh : U j
      ·have hE : Hid (F (j + 1) = F j) := Lib.hid (by rw [HP2.out, hh]; simp)
       clear hh
       go_wp2
       go_roundw
       case rel => exact ⟨j + 1, A, c, by omega, by go_num, by rw [hE.out], by rw [hE.out]; exact HO1.out, hB1⟩
       case measure => simp [intOf]; omega
      ·have hE : Hid (F (j + 1) = F j ++ [⟨6, atS word j⟩]) := Lib.hid (by rw [HP2.out, hh]; rfl)
       clear hh
       go_wp2_with (at_builtin; refine wpList_pushF rfl _ _ rfl w.heap.size A (F j) c rfl HO1.out (⟨6, atS word j⟩) (F (j + 1)) hE.out rfl (by first | omega | decide) (by omega) ?_; intro g3 c3 w3 hown3 hb3 hs3 hk3 hd3)
       go_roundw
       case rel => exact ⟨j + 1, _, _, by omega, by go_num, rfl, hown3, hB1.trans (hb3.mono (Nat.le_refl _))⟩
       case measure => simp [intOf]; omega
  ·have hjn : j = n := by omega
   subst hjn
   clear hlt
   go_wp2
   go_ret
   exact ⟨A, c, rfl, hown, hB⟩
end Go.Proofs.YthefooacfcagbaaGreatDoor.rrul

/- The reference's check of the rules. -/
namespace Go.Proofs.YthefooacfcagbaaGreatDoor.rrul
open Go.RowKit
open lib rd typ app flts eqg txt note rul
set_option linter.unusedVariables false
set_option linter.unusedSimpArgs false
set_option maxHeartbeats 1000000 in
theorem rrcheck_any (orders : Int) (A : Option Addr) (c : Nat) (a : List (Int × Int)) (A' : Option Addr) (c' : Nat) (b : List (Int × Int)) (w : World) (hA : RowAt (rPair rInt rInt) w w.heap.size A a) (hB : RowAt (rPair rInt rInt) w w.heap.size A' b) (ha : a.length ≤ 10000000) (hb : b.length ≤ 10000000) :
  Calls Tryz.prog 57 #[.int .i64 orders, .slice A a.length c, .slice A' b.length c'] w (FltsOut w (rulesF orders a b)) := by
 obtain ⟨E, hE⟩ : ∃ E, rulesF orders a b = E := ⟨_, rfl⟩
 obtain ⟨E1, hE1⟩ : ∃ E, pairsTo orders apartS looseB a a.length = E := ⟨_, rfl⟩
 obtain ⟨E2, hE2⟩ : ∃ E, pairsTo orders beforeS twoEq b b.length = E := ⟨_, rfl⟩
 have l1 : E1.length ≤ 10000001 := by rw [← hE1]; have := pairsTo_len orders apartS looseB a a.length; omega
 have l2 : E2.length ≤ 10000001 := by rw [← hE2]; have := pairsTo_len orders beforeS twoEq b b.length; omega
 have HE : Hid (E = E1 ++ E2) := Lib.hid (by rw [← hE, ← hE1, ← hE2]; rfl)
 have lE : E.length ≤ 1000000000 := by rw [HE.out, List.length_append]; omega
 have H1 : Hid (Calls Tryz.prog 95 #[.int .i64 orders, .slice A a.length c, .string ⟨#[97, 112, 97, 114, 116]⟩, .bool true] w (FltsOut w E1)) := Lib.hid (by rw [← hE1, ← either_loose]; exact rfaults_any orders apartS true A c a w hA ha (by decide))
 have H2 : Hid (∀ w', Below w.heap.size w w' → Calls Tryz.prog 95 #[.int .i64 orders, .slice A' b.length c', .string ⟨#[98, 101, 102, 111, 114, 101]⟩, .bool false] w' (FltsOut w' E2)) := Lib.hid (fun w' h => by rw [← hE2, ← either_exact]; exact rfaults_any orders beforeS false A' c' b w' ((hB.below h).more h.size) hb (by decide))
 rw [hE]
 clear hE hE1 hE2 hA hB ha hb
 go_enter Tryz.func57, Tryz.ntmps57
 go_wp2_with fail
 refine H1.out.mono ?_
 rintro e w1 ⟨A1, c1, rfl, hown1, hb1⟩
 have HO := Lib.hid hown1
 have z1 := hb1.size
 clear hown1
 go_wp2_with (first
  | (go_at_call 95; refine (H2.out _ hb1).mono ?_; rintro e w2 ⟨A2, c2, rfl, hown2, hb2⟩; have z2 := hb2.size; have HO2 := Lib.hid (And.intro (HO.out.below hb2) (Reads.of_own hown2)); clear hown2)
  | (at_builtin; refine wpList_appF rfl _ _ rfl w.heap.size A1 E1 c1 rfl HO2.out.1 A2 E2 c2 rfl HO2.out.2 E HE.out lE (by omega) ?_; intro A5 c5 w5 hown5 hb5))
 go_ret
 exact ⟨A5, c5, rfl, hown5, (hb1.trans (hb2.mono z1)).trans hb5⟩
end Go.Proofs.YthefooacfcagbaaGreatDoor.rrul

/- The reference's under. -/
namespace Go.Proofs.YthefooacfcagbaaGreatDoor.und
open Go.RowKit
open lib rd typ app flts note
set_option linter.unusedVariables false
set_option linter.unusedSimpArgs false
set_option maxRecDepth 20000 in
set_option maxHeartbeats 4000000 in
theorem runder_any (word : ByteArray) (A0 : Option Addr) (d0 : Nat) (fs : List Flt) (w : World) (hL : RowAt rFlt w w.heap.size A0 fs) (hl : fs.length ≤ 500000000) (hws : word.size ≤ 1000000) (hfs : ∀ f ∈ fs, f.at_.size ≤ 1000000) :
  Calls Tryz.prog 52 #[.string word, .slice A0 fs.length d0] w (FltsOut w (undL word fs)) := by
 obtain ⟨n, hn⟩ : ∃ n, fs.length = n := ⟨_, rfl⟩
 have HN := Lib.hid hn
 obtain ⟨U, hU⟩ : ∃ U : Nat → List Flt, (fun k => undL word (fs.take k)) = U := ⟨_, rfl⟩
 have hUl : ∀ k, k ≤ n → (U k).length ≤ k := fun k hk => by
  rw [← hU]
  show (undL word (fs.take k)).length ≤ k
  unfold undL
  rw [List.length_map, List.length_take]
  omega
 have HU0 : Hid (U 0 = []) := Lib.hid (by rw [← hU]; rfl)
 have HUS : Hid (∀ (k : Nat) f, fs[k]? = some f → U (k + 1) = U k ++ [undP word f]) := Lib.hid fun k f hf => by rw [← hU]; exact undL_take hf
 have HUT : Hid (undL word fs = U n) := Lib.hid (by rw [← hU, ← hn]; show _ = undL word (fs.take fs.length); rw [List.take_length])
 have HFS := Lib.hid hfs
 rw [hn] at hl ⊢
 clear hn hU hfs
 have B0 : Below w.heap.size w w := Below.refl _ _
 go_enter Tryz.func52, Tryz.ntmps52
 go_upto_region 3 with fail
 go_loopw [5, 6, 7] (fun v i _ wr => ∃ (j : Nat) (A : Option Addr) (c : Nat), j ≤ n ∧ i = .int .i64 j ∧ v = .slice A (U j).length c ∧ Fown wr w.heap.size A c (U j) ∧ Below w.heap.size w wr) (fun _ i _ _ => n - (intOf i).toNat)
 case atStart => exact ⟨0, none, 0, by omega, rfl, by rw [HU0.out]; rfl, by rw [HU0.out]; exact Fown.nil _ _, B0⟩
 case round =>
  obtain ⟨j, A, c, hj, rfl, rfl, hown, hB⟩ := hrel
  have hz := hB.size
  by_cases hlt : j < n
  ·obtain ⟨f, hf⟩ : ∃ f, fs[j]? = some f := ⟨_, List.getElem?_eq_getElem (by rw [HN.out]; exact hlt)⟩
   obtain ⟨ad, rfl, hadb, ⟨m0, m1⟩, hff⟩ := row_Flt (hL.below hB) hf
   have hj0 : (0 : Int) ≤ (j : Int) := by omega
   have hjn : (j : Int) < (n : Int) := by omega
   have hUj := hUl j hj
   have hfsz := HFS.out f (List.mem_of_getElem? hf)
   have hwsz : (word ++ ⟨#[32]⟩ : ByteArray).size ≤ 1000001 := by rw [ByteArray.size_append]; exact Nat.add_le_add_right hws 1
   have HS := Lib.hid (HUS.out j f hf)
   have HO := Lib.hid hown
   clear hf hown
   obtain ⟨q, hq⟩ : ∃ q, f.at_.toList.isEmpty = q := ⟨_, rfl⟩
   have HQ := Lib.hid hq
   clear hq
   cases q
   ·have hE : Hid (U (j + 1) = U j ++ [⟨f.err, word ++ ⟨#[32]⟩ ++ f.at_⟩]) := Lib.hid (by rw [HS.out]; unfold undP; rw [HQ.out, if_neg (by decide), ByteArray.append_assoc])
    have hq := HQ.out
    go_wp2_with (at_builtin; refine wpList_pushF rfl _ _ rfl w.heap.size A (U j) c rfl HO.out (⟨f.err, word ++ ⟨#[32]⟩ ++ f.at_⟩) (U (j + 1)) hE.out rfl (by first | omega | decide) (by omega) ?_; intro g3 c3 w3 hown3 hb3 hs3 hk3 hd3)
    go_roundw
    case rel => exact ⟨j + 1, _, _, by omega, by go_num, rfl, hown3, hB.trans (hb3.mono (Nat.le_refl _))⟩
    case measure => simp [intOf]; omega
   ·have hE : Hid (U (j + 1) = U j ++ [⟨f.err, word⟩]) := Lib.hid (by rw [HS.out]; unfold undP; rw [HQ.out, if_pos rfl])
    have hq := HQ.out
    go_wp2_with (at_builtin; refine wpList_pushF rfl _ _ rfl w.heap.size A (U j) c rfl HO.out (⟨f.err, word⟩) (U (j + 1)) hE.out rfl (by first | omega | decide) (by omega) ?_; intro g3 c3 w3 hown3 hb3 hs3 hk3 hd3)
    go_roundw
    case rel => exact ⟨j + 1, _, _, by omega, by go_num, rfl, hown3, hB.trans (hb3.mono (Nat.le_refl _))⟩
    case measure => simp [intOf]; omega
  ·have hjn : j = n := by omega
   subst hjn
   clear hlt
   go_wp2
   go_ret
   rw [HUT.out]
   exact ⟨A, c, rfl, hown, hB⟩
end Go.Proofs.YthefooacfcagbaaGreatDoor.und

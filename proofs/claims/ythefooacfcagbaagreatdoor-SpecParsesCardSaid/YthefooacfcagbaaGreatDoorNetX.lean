import Derived.Test.YthefooacfcagbaaGreatDoorRulX
import Derived.Test.YthefooacfcagbaaGreatDoorC2
/- travel.Check of any travel function. -/
namespace Go.Proofs.YthefooacfcagbaaGreatDoor.trv
open Go.RowKit
open lib rd typ app flts txt note
set_option linter.unusedVariables false
set_option linter.unusedSimpArgs false
set_option maxRecDepth 20000 in
set_option maxHeartbeats 2000000 in
theorem tcheckG_any (A : Option Addr) (c : Nat) (l : List Pt) (w : World) (ht : Tabs w) (hL : RowAt rPt w w.heap.size A l) (hl : l.length ≤ 100000) :
  Calls Tryz.prog 117 #[.slice A l.length c] w (FltsOut w (tvTo l l.length)) := by
 have HTB : Hid (∀ v, Below w.heap.size w v → Tabs v) := Lib.hid fun v hv => ht.below hv
 clear ht
 obtain ⟨m, hm⟩ : ∃ m, l.length = m := ⟨_, rfl⟩
 have HM := Lib.hid hm
 obtain ⟨F, hF⟩ : ∃ F, tvTo l = F := ⟨_, rfl⟩
 have HF := Lib.hid hF
 have hFl : ∀ j, (F j).length ≤ 1 + 2 * j := fun j => by rw [← hF]; exact tvTo_len _ j
 have HF0 : Hid (F 0 = if szB m = true then [⟨4, ⟨#[]⟩⟩] else []) := Lib.hid (by rw [← hF, ← hm]; rfl)
 rw [hm] at hl ⊢
 clear hm hF
 go_enter Tryz.func117, Tryz.ntmps117
 go_upto_region 2 with fail
 go_cut [14] (fun v wx => v = .bool (szB m) ∧ w = wx)
 case first =>
  by_cases h0 : m = 0
  ·subst h0
   go_wp2
   go_meet
   exact ⟨rfl, rfl⟩
  ·have e0 : ((m : Int) == 0) = false := by simp; omega
   by_cases hq : 16 < m
   ·have e1 : (16 : Int) < (m : Int) := by omega
    have HE : Hid (szB m = true) := Lib.hid (by unfold szB; simp [hq])
    clear h0 hq
    go_wp2
    go_meet
    exact ⟨by rw [HE.out], rfl⟩
   ·have e1 : ¬ (16 : Int) < (m : Int) := by omega
    have HE : Hid (szB m = false) := Lib.hid (by unfold szB; simp [hq, h0])
    clear h0 hq
    go_wp2
    go_meet
    exact ⟨by rw [HE.out], rfl⟩
 obtain ⟨h14, rfl⟩ := hcut
 subst h14
 go_upto_if 14 with fail
 go_cut [3] (fun v wx => ∃ A' c', v = .slice A' (F 0).length c' ∧ Fown wx w.heap.size A' c' (F 0) ∧ Below w.heap.size w wx)
 case first =>
  cases hs : szB m
  ·have HE : Hid (F 0 = []) := Lib.hid (by rw [HF0.out, hs]; rfl)
   go_wp2
   go_meet
   exact ⟨none, 0, by rw [HE.out]; rfl, by rw [HE.out]; exact World.ownsRow_nil _ _ _ _, Below.refl _ _⟩
  ·have HE : Hid (F 0 = [⟨4, ⟨#[]⟩⟩]) := Lib.hid (by rw [HF0.out, hs]; rfl)
   go_wp2_with (at_builtin; refine wpList_app fault_elem _ _ rfl w.heap.size none 0 0 [] rfl ((World.ownsRow_nil _ _ _ _).alloc _) ⟨w.heap.size, 0, none⟩ 1 [.int .i64 4, .string ⟨#[]⟩] rfl rfl (two_new _ _ _ _) (by simp [Value.oneCell']) (by omega) (by simp) rfl ?_; intro g1 c1 w2 hown1 hg1 hd1)
   go_meet
   exact ⟨_, _, by rw [HE.out]; rfl, by rw [HE.out]; exact hown1, ((Below.refl _ _).alloc (Nat.le_refl _) _).grown hg1 (by simp) (fun q e => by cases e)⟩
 obtain ⟨A', c', hv, hown, hB⟩ := hcut
 subst hv
 go_upto_region 5 with fail
 go_loopw [3, 21] (fun v k wr => ∃ (j : Nat) (A' : Option Addr) (c' : Nat), j ≤ m ∧ k = .int .i64 j ∧ v = .slice A' (F j).length c' ∧ Fown wr w.heap.size A' c' (F j) ∧ Below w.heap.size w wr) (fun _ k _ => m - (intOf k).toNat)
 case atStart => exact ⟨0, A', c', by omega, rfl, rfl, hown, hB⟩
 case round =>
  clear hown hB
  obtain ⟨j, A', c', hj, rfl, rfl, hown, hB⟩ := hrel
  have hz := hB.size
  by_cases hlt : j < m
  ·obtain ⟨p, hp⟩ : ∃ p, l[j]? = some p := ⟨_, List.getElem?_eq_getElem (by rw [HM.out]; exact hlt)⟩
   obtain ⟨ad, rfl, hadb, ⟨m0, m1⟩, hpf⟩ := row_Pt (hL.below hB) hp
   have hk0 : (0 : Int) ≤ (j : Int) := by omega
   have hkn : (j : Int) < (m : Int) := by omega
   have hFj := hFl j
   have hjn : j < 1000000000000000000 := by omega
   have HP : Hid (F (j + 1) = F j ++ tvP l j p) := Lib.hid (by rw [← HF.out, tvTo_succ hp])
   have HTW := Lib.hid (HTB.out _ (hB.alloc hz (.cells #[.int .i64 p.t, .int .i64 p.a] 89)))
   go_upto_region 8 with (go_at_call 77; refine (itoaG_any j hjn _ HTW.out).mono ?_; rintro e W ⟨rfl, hbW⟩)
   have k0 : W.cell? ⟨wr.heap.size, 0, none⟩ = some (.int .i64 p.t) := (hbW.cell (p := ⟨wr.heap.size, 0, none⟩) (by rw [World.size_alloc]; exact Nat.lt_succ_self _)).trans (two_new wr _ _ _ 0 _ rfl)
   have k1 : W.cell? ⟨wr.heap.size, 1, none⟩ = some (.int .i64 p.a) := (hbW.cell (p := ⟨wr.heap.size, 1, none⟩) (by rw [World.size_alloc]; exact Nat.lt_succ_self _)).trans (two_new wr _ _ _ 1 _ rfl)
   have hownR : W.ownsRow w.heap.size 53 2 (.slice A' (F j).length c') (F j).length (fcs (F j)) := own_below (World.ownsRow.alloc hown _) hbW
   have zp : wr.heap.size < W.heap.size := by have := hbW.size; rw [World.size_alloc] at this; omega
   have BW : Below w.heap.size w W := (hB.alloc hz _).trans (hbW.mono (by rw [World.size_alloc]; omega))
   have HNE : Hid (∀ q, (Value.slice A' (F j).length c').ownBlock = some q → q < wr.heap.size) := Lib.hid fun q e => (World.ownsRow.lt hown q e).2
   clear m0 m1 hown hbW HTW
   obtain ⟨P, hP⟩ : ∃ P, wr.heap.size = P := ⟨_, rfl⟩
   rw [hP] at k0 k1 zp HNE ⊢
   clear hP
   have zW : w.heap.size ≤ W.heap.size := BW.size
   obtain ⟨pt, hpt⟩ : ∃ x, p.t = x := ⟨_, rfl⟩
   obtain ⟨pa, hpa⟩ : ∃ x, p.a = x := ⟨_, rfl⟩
   have HT := Lib.hid hpt
   have HA := Lib.hid hpa
   have hpf' := hpf
   unfold PtFits at hpf'
   rw [hpt, hpa] at hpf'
   rw [hpt] at k0
   rw [hpa] at k1
   obtain ⟨⟨t1, t2⟩, t3, t4⟩ := hpf'
   clear hpt hpa hpf
   obtain ⟨q, hq⟩ : ∃ q, tvBad p = q := ⟨_, rfl⟩
   have HQ : Hid (q = (!inB pt 0 4096 || (decide (pa < pt) || decide (pt + 4096 < pa)))) := Lib.hid (by rw [← hq, ← HT.out, ← HA.out]; rfl)
   obtain ⟨fo, hfo⟩ : ∃ fo, tvFifo l j p = fo := ⟨_, rfl⟩
   have HFO := Lib.hid hfo
   have HP2 : Hid (F (j + 1) = F j ++ ((if q = true then [⟨2, decS j⟩] else []) ++ (if fo = true then [⟨13, decS j⟩] else []))) := Lib.hid (by rw [HP.out]; unfold tvP; rw [hq, hfo])
   have HLP := Lib.hid hp
   clear hq hfo HP hp
   have HOW := Lib.hid hownR
   clear hownR
   obtain ⟨G, hG⟩ : ∃ G : List Flt, F j ++ (if q = true then [⟨2, decS j⟩] else []) = G := ⟨_, rfl⟩
   have HG := Lib.hid hG
   have hGl : G.length ≤ 2 + 2 * j := by rw [← hG, List.length_append]; split <;> simp <;> omega
   have HP3 : Hid (F (j + 1) = G ++ (if fo = true then [⟨13, decS j⟩] else [])) := Lib.hid (by rw [HP2.out, ← hG, List.append_assoc])
   clear hG HP2
   go_cut [46] (fun v wx => v = .bool q ∧ W = wx)
   case first => as_aux_lemma =>
    cases hr1 : inB pt 0 4096
    case false =>
     have HE : Hid (q = true) := Lib.hid (by rw [HQ.out, hr1]; rfl)
     go_wp2_with (go_at_call 160; refine (within_any _ _ _ _).mono ?_; rintro e we ⟨rfl, rfl⟩)
     go_meet
     exact ⟨by rw [HE.out], rfl⟩
    case true =>
     obtain ⟨b1, b2⟩ := inB_bd hr1
     cases hr2 : decide (pa < pt)
     case true =>
      have HE : Hid (q = true) := Lib.hid (by rw [HQ.out, hr1, hr2]; rfl)
      go_wp2_with (go_at_call 160; refine (within_any _ _ _ _).mono ?_; rintro e we ⟨rfl, rfl⟩)
      go_meet
      exact ⟨by rw [HE.out], rfl⟩
     case false =>
      have HE : Hid (q = decide (pt + 4096 < pa)) := Lib.hid (by rw [HQ.out, hr1, hr2]; rfl)
      go_wp2_with (go_at_call 160; refine (within_any _ _ _ _).mono ?_; rintro e we ⟨rfl, rfl⟩)
      go_meet
      exact ⟨by rw [HE.out], rfl⟩
   obtain ⟨h46, hwc⟩ := hcut
   subst h46
   subst hwc
   go_upto_if 46 with fail
   go_cut [3] (fun v wx => ∃ A2 c2, v = .slice A2 G.length c2 ∧ Fown wx w.heap.size A2 c2 G ∧ wx.cell? ⟨P, 0, none⟩ = some (.int .i64 pt) ∧ wx.cell? ⟨P, 1, none⟩ = some (.int .i64 pa) ∧ Below w.heap.size w wx)
   case first => as_aux_lemma =>
    cases q
    ·go_wp2
     go_meet
     have e : F j = G := by rw [← HG.out]; simp
     exact ⟨A', c', by rw [e], by unfold Fown; rw [← e]; exact HOW.out, k0, k1, BW⟩
    ·go_wp2_with (at_builtin; refine wpList_app fault_elem _ _ rfl w.heap.size A' (F j).length c' (fcs (F j)) rfl (World.ownsRow.alloc HOW.out _) ⟨W.heap.size, 0, none⟩ 1 [.int .i64 2, .string (decS j)] rfl rfl (two_new W (.int .i64 2) (.string (decS j)) 53) (by simp [Value.oneCell']) (by omega) (by simp; omega) rfl ?_; intro g3 c3 w3 hown3 hg3 hd3)
     go_meet
     have e : G = F j ++ [⟨2, decS j⟩] := by rw [← HG.out]; simp
     refine ⟨some ⟨g3, 0, none⟩, c3, by rw [e]; simp, ?_, ?_, ?_, ?_⟩
     ·unfold Fown
      rw [e, List.length_append, fcs_snoc]
      exact hown3
     ·exact hg3.cell ((World.cell?_alloc_lt W _ _ zp).trans k0) (fun e => absurd (HNE.out _ e.symm) (Nat.lt_irrefl _))
     ·exact hg3.cell ((World.cell?_alloc_lt W _ _ zp).trans k1) (fun e => absurd (HNE.out _ e.symm) (Nat.lt_irrefl _))
     ·exact (BW.alloc zW _).grown hg3 (by simp; omega) (fun q' e => (World.ownsRow.lt HOW.out _ e).1)
   clear k0 k1
   obtain ⟨A2, c2, rfl, hown2, k0, k1, BC⟩ := hcut
   have zC := BC.size
   have HOC := Lib.hid hown2
   clear hown2
   go_upto_region 10 with fail
   go_cut [75] (fun v wx => v = .bool fo ∧ ∃ n, wx = wc.drewN n)
   case first =>
    rcases j with _ | k
    ·have HE : Hid (fo = false) := Lib.hid (by rw [← HFO.out]; rfl)
     have hj0 : ¬ (0 : Int) < ((0 : Nat) : Int) := by omega
     go_quiet (fail)
     go_wp2
     go_meet
     exact ⟨by rw [HE.out], _, rfl⟩
    ·obtain ⟨x, hx⟩ : ∃ x, l[k]? = some x := ⟨_, List.getElem?_eq_getElem (by rw [HM.out]; omega)⟩
     obtain ⟨ad2, hadeq, hadb2, ⟨n0, n1⟩, hxf⟩ := row_Pt (hL.below BC) hx
     obtain rfl : ad = ad2 := Option.some.inj hadeq
     have HE : Hid (fo = (decide (pt ≤ x.t) || decide (pa < x.a))) := Lib.hid (by rw [← HFO.out]; unfold tvFifo; simp only [hx]; rw [← HT.out, ← HA.out])
     have hj0 : (0 : Int) < ((k + 1 : Nat) : Int) := by omega
     have hj1 : IntKind.i64.wrap (((k + 1 : Nat) : Int) - 1) = (k : Int) := by rw [IntWalk.i64_in _ (by omega)]; omega
     clear hx hadeq
     cases hc1 : decide (pt ≤ x.t)
     ·have HE2 : Hid (fo = decide (pa < x.a)) := Lib.hid (by rw [HE.out, hc1]; rfl)
      go_quiet (fail)
      go_wp2
      go_meet
      exact ⟨by rw [HE2.out], _, rfl⟩
     ·have HE2 : Hid (fo = true) := Lib.hid (by rw [HE.out, hc1]; rfl)
      go_quiet (fail)
      go_wp2
      go_meet
      exact ⟨by rw [HE2.out], _, rfl⟩
   obtain ⟨h75, nq, hw75⟩ := hcut
   subst h75
   have ownD := own_below HOC.out (bel_drewN (Below.refl _ _) nq)
   have BD2 := bel_drewN BC nq
   rw [← hw75] at ownD BD2
   clear k0 k1 hw75
   go_upto_if 75 with fail
   have zD := BD2.size
   cases fo
   ·have HE : Hid (F (j + 1) = G) := Lib.hid (by rw [HP3.out]; simp)
    go_wp2
    go_roundw
    case rel => exact ⟨j + 1, A2, c2, by omega, by go_num, by rw [HE.out], by rw [HE.out]; exact ownD, BD2⟩
    case measure => simp [intOf]; omega
   ·have HE : Hid (F (j + 1) = G ++ [⟨13, decS j⟩]) := Lib.hid (by rw [HP3.out]; simp)
    have HOD := Lib.hid ownD
    clear ownD
    obtain ⟨wd, hwd⟩ : ∃ wd : World, wd = wd := ⟨w, rfl⟩
    clear hwd wd
    go_wp2_with (at_builtin; refine wpList_app fault_elem _ _ rfl w.heap.size A2 G.length c2 (fcs G) rfl (World.ownsRow.alloc HOD.out _) ⟨_, 0, none⟩ 1 [.int .i64 13, .string (decS j)] rfl rfl (two_new _ (.int .i64 13) (.string (decS j)) 53) (by simp [Value.oneCell']) (by omega) (by simp; omega) rfl ?_; intro g3 c3 w3 hown3 hg3 hd3)
    go_roundw
    case rel => exact ⟨j + 1, some ⟨g3, 0, none⟩, c3, by omega, by go_num, by rw [HE.out, List.length_append]; rfl, by unfold Fown; rw [HE.out, List.length_append, fcs_snoc]; exact hown3, (BD2.alloc zD _).grown hg3 (by simp; omega) (fun q' e => (World.ownsRow.lt HOD.out _ e).1)⟩
    case measure => simp [intOf]; omega
  ·have hjm : j = m := by omega
   subst hjm
   go_wp2
   go_ret
   rw [HF.out]
   exact ⟨A', c', rfl, hown, hB⟩
end Go.Proofs.YthefooacfcagbaaGreatDoor.trv

/- network.Check of any network that is not too large. -/
namespace Go.Proofs.YthefooacfcagbaaGreatDoor.net
open Go.RowKit
open lib rd typ app note mrk trv flts txt eqg
set_option linter.unusedVariables false
set_option linter.unusedSimpArgs false
set_option maxRecDepth 20000 in
set_option maxHeartbeats 2000000 in
theorem arcG_any (n : Nat) (A0 : Option Addr) (d0 : Nat) (A1 : Option Addr) (n1 d1 : Nat) (x : Arc) (C : Option Addr) (c : Nat) (D : Option Addr) (d : Nat) (mb mn : Nat) (ks : List (Int × Int × Int)) (w : World)
  (hC : RowAt rPt w w.heap.size C x.travel) (hD : RowAt rPt w w.heap.size D x.slow) (hM : Marks wayE w mb mn ks) (hf : ArcFits x) (hl : x.travel.length ≤ 5000) (hl2 : x.slow.length ≤ 1000000) (ht : Tabs w) :
  Calls Tryz.prog 81 #[.agg #[.slice A0 n d0, .slice A1 n1 d1], .agg #[.int .i64 x.frm, .int .i64 x.to, .int .i64 x.profile, .int .i64 x.miles, .slice C x.travel.length c, .slice D x.slow.length d], .map (some mb)] w (ErrsOut w (arcE n ks x)) := by
 obtain ⟨W0, hW0⟩ : ∃ W0, (w.alloc (.cells #[.slice A0 n d0, .slice A1 n1 d1] 25)).alloc (.cells #[.int .i64 x.frm, .int .i64 x.to, .int .i64 x.profile, .int .i64 x.miles, .slice C x.travel.length c, .slice D x.slow.length d] 49) = W0 := ⟨_, rfl⟩
 have hB0 : Below w.heap.size w W0 := by rw [← hW0]; exact ((Below.refl _ _).alloc (Nat.le_refl _) _).alloc (by simp) _
 have z0 := hB0.size
 have hs0 : w.heap.size + 1 < W0.heap.size := by rw [← hW0]; simp
 have HS : Hid (∀ w', Below W0.heap.size W0 w' → w'.cell? ⟨w.heap.size + 1, 0, none⟩ = some (.int .i64 x.frm) ∧ w'.cell? ⟨w.heap.size + 1, 1, none⟩ = some (.int .i64 x.to) ∧ w'.cell? ⟨w.heap.size + 1, 2, none⟩ = some (.int .i64 x.profile) ∧ w'.cell? ⟨w.heap.size + 1, 3, none⟩ = some (.int .i64 x.miles) ∧ w'.cell? ⟨w.heap.size + 1, 4, none⟩ = some (.slice C x.travel.length c) ∧ w'.cell? ⟨w.heap.size + 1, 5, none⟩ = some (.slice D x.slow.length d) ∧ w'.cell? ⟨w.heap.size, 0, none⟩ = some (.slice A0 n d0) ∧ w'.cell? ⟨w.heap.size, 1, none⟩ = some (.slice A1 n1 d1)) := Lib.hid fun w' h => by
  have hk := fun (o : Nat) => h.cell (p := ⟨w.heap.size, o, none⟩) (show w.heap.size < W0.heap.size by omega)
  have hk1 := fun (o : Nat) => h.cell (p := ⟨w.heap.size + 1, o, none⟩) hs0
  refine ⟨(hk1 _).trans ?_, (hk1 _).trans ?_, (hk1 _).trans ?_, (hk1 _).trans ?_, (hk1 _).trans ?_, (hk1 _).trans ?_, (hk _).trans ?_, (hk _).trans ?_⟩
  all_goals (rw [← hW0]; simp)
 have HR : Hid (∀ w', Below W0.heap.size W0 w' → RowAt rPt w' w'.heap.size C x.travel ∧ RowAt rPt w' w'.heap.size D x.slow ∧ Marks wayE w' mb mn ks) := Lib.hid fun w' h => by
  have hb := hB0.trans (h.mono z0)
  exact ⟨(hC.below hb).more hb.size, (hD.below hb).more hb.size, hM.below hb⟩
 have HTB : Hid (∀ w', Below W0.heap.size W0 w' → Tabs w') := Lib.hid fun w' h => ht.below (hB0.trans (h.mono z0))
 clear ht
 have HF := Lib.hid hf
 have HW0 := Lib.hid hW0
 have B0 : Below W0.heap.size W0 W0 := Below.refl _ _
 obtain ⟨E, hE⟩ : ∃ E, arcE n ks x = E := ⟨_, rfl⟩
 obtain ⟨G1, hG1⟩ : ∃ G, pushIf [] (arcOk n x) 11 = G := ⟨_, rfl⟩
 obtain ⟨G2, hG2⟩ : ∃ G, pushIf G1 (!arcBad x) 2 = G := ⟨_, rfl⟩
 obtain ⟨G3, hG3⟩ : ∃ G, pushIf G2 (!hasB ks (wayK x)) 6 = G := ⟨_, rfl⟩
 have l1 : G1.length ≤ 1 := by rw [← hG1]; exact pushIf_len _ _ _
 have l2 : G2.length ≤ 2 := by rw [← hG2]; exact Nat.le_trans (pushIf_len _ _ _) (by omega)
 have l3 : G3.length ≤ 3 := by rw [← hG3]; exact Nat.le_trans (pushIf_len _ _ _) (by omega)
 have HE : Hid (E = (G3 ++ (tvTo x.travel x.travel.length).map (·.err)) ++ slTo x.slow x.slow.length) := Lib.hid (by rw [← hE, ← hG3, ← hG2, ← hG1]; rfl)
 have HG1 := Lib.hid hG1
 have HG2 := Lib.hid hG2
 have HG3 := Lib.hid hG3
 rw [hE]
 clear hE hG1 hG2 hG3 hC hD hM hf hW0
 go_enter Tryz.func81, Tryz.ntmps81
 go_upto_region 2 with fail
 rw [HW0.out]
 go_cut [21] (fun v wx => v = .bool (!arcOk n x) ∧ Below W0.heap.size W0 wx)
 case first => as_aux_lemma =>
  obtain ⟨m0, m1, m2, m3, m4, m5, n0, n1'⟩ := HS.out _ (B0)
  cases hp1 : placeB n x.frm
  ·have HA : Hid (arcOk n x = false) := Lib.hid (by unfold arcOk; rw [hp1]; rfl)
   go_wp2_with (go_at_call 116; refine (place_any n A0 d0 A1 n1 d1 _ _).mono ?_; rintro e w1 ⟨rfl, hb1⟩)
   go_meet
   exact ⟨by rw [HA.out]; rfl, hb1⟩
  ·have HA : Hid (arcOk n x = placeB n x.to) := Lib.hid (by unfold arcOk; rw [hp1]; rfl)
   go_wp2_with fail
   refine (place_any n A0 d0 A1 n1 d1 _ _).mono ?_
   rintro e w1 ⟨rfl, hb1⟩
   obtain ⟨m0, m1, m2, m3, m4, m5, n0, n1'⟩ := HS.out _ (hb1)
   go_wp2_with (go_at_call 116; refine (place_any n A0 d0 A1 n1 d1 _ _).mono ?_; rintro e w2 ⟨rfl, hb2⟩)
   go_meet
   exact ⟨by rw [HA.out], hb1.trans (hb2.mono hb1.size)⟩
 obtain ⟨h21, BC⟩ := hcut
 subst h21
 go_upto_if 21 with fail
 go_cut [7] (fun v wx => ∃ A' c', v = .slice A' G1.length c' ∧ EOwn wx W0.heap.size A' c' G1 ∧ Below W0.heap.size W0 wx)
 case first => as_aux_lemma =>
  have zc := BC.size
  cases ho : arcOk n x
  ·have HG : Hid (G1 = [11]) := Lib.hid (by rw [← HG1.out, ho]; rfl)
   go_wp2_with (at_builtin; refine push_errno rfl _ _ rfl W0.heap.size _ 0 [] rfl (World.ownsRow_nil _ _ _ _) 11 rfl (by omega) zc ?_; intro A1' c1' w1 hown1 hb1 hz1)
   go_meet
   exact ⟨A1', c1', by rw [HG.out]; rfl, by rw [HG.out]; exact hown1, BC.trans hb1⟩
  ·have HG : Hid (G1 = []) := Lib.hid (by rw [← HG1.out, ho]; rfl)
   go_wp2
   go_meet
   exact ⟨none, 0, by rw [HG.out]; rfl, by rw [HG.out]; exact World.ownsRow_nil _ _ _ _, BC⟩
 clear BC
 obtain ⟨A', c', hv, hown, BC⟩ := hcut
 subst hv
 unfold EOwn at hown
 have HO := Lib.hid hown
 clear hown
 go_upto_region 4 with fail
 go_cut [49] (fun v wx => v = .bool (arcBad x) ∧ wc = wx)
 case first => as_aux_lemma =>
  obtain ⟨m0, m1, m2, m3, m4, m5, n0, n1'⟩ := HS.out _ (BC)
  cases c1 : decide (x.profile < 0)
  case true =>
   have HA : Hid (arcBad x = true) := Lib.hid (by unfold arcBad; rw [c1]; rfl)
   go_wp2
   go_meet
   exact ⟨by rw [HA.out], rfl⟩
  cases c2 : decide (7 < x.profile)
  case true =>
   have HA : Hid (arcBad x = true) := Lib.hid (by unfold arcBad; rw [c1, c2]; rfl)
   go_wp2
   go_meet
   exact ⟨by rw [HA.out], rfl⟩
  cases c3 : decide (x.miles < 0)
  case true =>
   have HA : Hid (arcBad x = true) := Lib.hid (by unfold arcBad; rw [c1, c2, c3]; rfl)
   go_wp2
   go_meet
   exact ⟨by rw [HA.out], rfl⟩
  cases c4 : decide (10000 < x.miles)
  case true =>
   have HA : Hid (arcBad x = true) := Lib.hid (by unfold arcBad; rw [c1, c2, c3, c4]; rfl)
   go_wp2
   go_meet
   exact ⟨by rw [HA.out], rfl⟩
  have HA : Hid (arcBad x = (x.frm == x.to)) := Lib.hid (by unfold arcBad; rw [c1, c2, c3, c4]; rfl)
  go_wp2
  go_meet
  exact ⟨by rw [HA.out], rfl⟩
 obtain ⟨h49, hw49⟩ := hcut
 subst h49
 subst hw49
 go_upto_if 49 with fail
 go_cut [7] (fun v wx => ∃ A' c', v = .slice A' G2.length c' ∧ EOwn wx W0.heap.size A' c' G2 ∧ Below W0.heap.size W0 wx)
 case first => as_aux_lemma =>
  have zc := BC.size
  cases ho : arcBad x
  ·have HG : Hid (G2 = G1) := Lib.hid (by rw [← HG2.out, ho]; rfl)
   go_wp2
   go_meet
   exact ⟨A', c', by rw [HG.out], by rw [HG.out]; exact HO.out, BC⟩
  ·have HG : Hid (G2 = G1 ++ [2]) := Lib.hid (by rw [← HG2.out, ho]; rfl)
   go_wp2_with (at_builtin; refine push_errno rfl _ _ rfl W0.heap.size _ G1.length G1 rfl HO.out 2 rfl (by omega) zc ?_; intro A1' c1' w1 hown1 hb1 hz1)
   go_meet
   exact ⟨A1', c1', by rw [HG.out, List.length_append]; rfl, by unfold EOwn; rw [HG.out, List.length_append]; exact hown1, BC.trans hb1⟩
 clear BC HO
 obtain ⟨A', c', hv, hown, BC⟩ := hcut
 subst hv
 unfold EOwn at hown
 have HO := Lib.hid hown
 clear hown
 go_upto_region 6 with fail
 go_cut [56] (fun v wx => v = .bool (hasB ks (wayK x)) ∧ EOwn wx W0.heap.size A' c' G2 ∧ Below W0.heap.size W0 wx)
 case first => as_aux_lemma =>
  have zc := BC.size
  obtain ⟨m0, m1, m2, m3, m4, m5, n0, n1'⟩ := HS.out _ (BC)
  go_wp2_with (first
   | (go_at_call 82; refine (wayOf_any x C c D d _).mono ?_; rintro e w1 ⟨rfl, hb1⟩)
   | (at_lookup; refine wpList_mark_look wayE rfl _ _ rfl mb mn ks rfl (HR.out _ (BC.trans (hb1.mono zc))).2.2 (wayK x) rfl (wayOk_of HF.out) ?_))
  go_meet
  exact ⟨rfl, own_below HO.out hb1, BC.trans (hb1.mono zc)⟩
 clear BC HO
 obtain ⟨h56, hown, BC⟩ := hcut
 subst h56
 unfold EOwn at hown
 have HO := Lib.hid hown
 clear hown
 go_upto_if 56 with fail
 go_cut [7] (fun v wx => ∃ A' c', v = .slice A' G3.length c' ∧ EOwn wx W0.heap.size A' c' G3 ∧ Below W0.heap.size W0 wx)
 case first => as_aux_lemma =>
  have zc := BC.size
  cases ho : hasB ks (wayK x)
  ·have HG : Hid (G3 = G2) := Lib.hid (by rw [← HG3.out, ho]; rfl)
   go_wp2
   go_meet
   exact ⟨A', c', by rw [HG.out], by rw [HG.out]; exact HO.out, BC⟩
  ·have HG : Hid (G3 = G2 ++ [6]) := Lib.hid (by rw [← HG3.out, ho]; rfl)
   go_wp2_with (at_builtin; refine push_errno rfl _ _ rfl W0.heap.size _ G2.length G2 rfl HO.out 6 rfl (by omega) zc ?_; intro A1' c1' w1 hown1 hb1 hz1)
   go_meet
   exact ⟨A1', c1', by rw [HG.out, List.length_append]; rfl, by unfold EOwn; rw [HG.out, List.length_append]; exact hown1, BC.trans hb1⟩
 clear BC HO A' c'
 obtain ⟨A', c', hv, hown, BC⟩ := hcut
 subst hv
 obtain ⟨FS, hFS⟩ : ∃ FS, tvTo x.travel x.travel.length = FS := ⟨_, rfl⟩
 have hFl : FS.length ≤ 10001 := by rw [← hFS]; have := tvTo_len x.travel x.travel.length; omega
 obtain ⟨SL, hSL⟩ : ∃ SL, slTo x.slow x.slow.length = SL := ⟨_, rfl⟩
 have hSl : SL.length ≤ 1000001 := by rw [← hSL]; have := slTo_len x.slow x.slow.length; omega
 have HT : Hid (∀ w', Below W0.heap.size W0 w' → Calls Tryz.prog 117 #[.slice C x.travel.length c] w' (FltsOut w' FS)) := Lib.hid fun w' h => by rw [← hFS]; exact tcheckG_any C c x.travel _ (HTB.out _ h) (HR.out _ h).1 (by omega)
 have HL : Hid (∀ w', Below W0.heap.size W0 w' → Calls Tryz.prog 118 #[.slice D x.slow.length d] w' (ErrsOut w' SL)) := Lib.hid fun w' h => by rw [← hSL]; exact slow_any D d x.slow _ (HR.out _ h).2.1 hl2
 rw [hFS, hSL] at HE
 clear hFS hSL hl hl2
 obtain ⟨m0, m1, m2, m3, m4, m5, n0, n1'⟩ := HS.out _ (BC)
 have zc := BC.size
 go_wp2_with (go_at_call 117; refine (HT.out _ BC).mono ?_; rintro e w8 ⟨Af, cf, rfl, hownF, hb8⟩)
 obtain ⟨gF, hgF1, hgF2, hgF3⟩ := flt_place hownF
 have s8 := hb8.size
 have hown8 := own_below hown hb8
 have HNE : Hid ((Value.slice A' G3.length c').ownBlock ≠ some gF) := Lib.hid (by
  intro e
  have := (World.ownsRow.lt hown gF e).2
  omega)
 have HG8 := Lib.hid hgF3
 have B8 : Below W0.heap.size W0 w8 := BC.trans (hb8.mono zc)
 have HO8 := Lib.hid hown8
 clear hown hown8 hownF hgF3 m0 m1 m2 m3 m4 m5 n0 n1'
 go_loopw [7, 64] (fun v k wr => ∃ (q : Nat) (A2 : Option Addr) (c2 : Nat), q ≤ FS.length ∧ k = .int .i64 q ∧ v = .slice A2 (G3.length + q) c2 ∧ wr.ownsRow W0.heap.size 33 1 (.slice A2 (G3.length + q) c2) (G3.length + q) ((G3 ++ (FS.take q).map (·.err)).map (.int .i64)) ∧ Hid ((Value.slice A2 (G3.length + q) c2).ownBlock ≠ some gF) ∧
  Hid (∀ (q : Nat) f, FS[q]? = some f → wr.cell? ⟨gF, q * 2, none⟩ = some (.int .i64 f.err) ∧ wr.cell? ⟨gF, q * 2 + 1, none⟩ = some (.string f.at_)) ∧ Below W0.heap.size W0 wr ∧ w8.heap.size ≤ wr.heap.size) (fun _ k _ => FS.length - (intOf k).toNat)
 case atStart => exact ⟨0, A', c', by omega, rfl, rfl, by simpa using HO8.out, HNE, HG8, B8, Nat.le_refl _⟩
 case round =>
  clear HO8 HNE HG8
  obtain ⟨q, A2, c2, hq, rfl, rfl, hown2, hne2, hcs2, hB2, hs2⟩ := hrel
  by_cases hlq : q < FS.length
  ·obtain ⟨rfl, hgw⟩ := hgF2 (by omega)
   obtain ⟨f, hx⟩ : ∃ f, FS[q]? = some f := ⟨_, List.getElem?_eq_getElem hlq⟩
   obtain ⟨hcx, hcx'⟩ := hcs2.out q f hx
   have hq0 : (0 : Int) ≤ (q : Int) := by omega
   have hqn : (q : Int) < (FS.length : Int) := by omega
   have HTK : Hid ((G3 ++ (FS.take (q + 1)).map (·.err)).map (Value.int .i64) = (G3 ++ (FS.take q).map (·.err)).map (Value.int .i64) ++ [.int .i64 f.err]) := Lib.hid (by
    obtain ⟨h1, h2⟩ := List.getElem?_eq_some_iff.1 hx
    rw [List.take_succ_eq_append_getElem h1, h2]
    simp)
   clear hx hgF2
   have HW := Lib.hid hs2
   have zb := hB2.size
   go_wp2_with (at_builtin; refine wpList_app errno_elem _ _ rfl W0.heap.size A2 (G3.length + q) c2 _ rfl ((hown2.alloc _).alloc _) ⟨wr.heap.size + 1, 0, none⟩ 1 [.int .i64 f.err] rfl rfl (fun j u hu => by have h := one_new (wr.alloc (.cells #[.int .i64 f.err, .string f.at_] 53)) (.int .i64 f.err) 33 j u hu; rw [World.size_alloc] at h; exact h) (by simp [Value.oneCell']) (by omega) (by simp; omega) rfl ?_; intro g3 c3 w3 hown3 hg3 hd3)
   go_roundw
   case rel =>
    refine ⟨q + 1, some ⟨g3, 0, none⟩, c3, by omega, by go_num, rfl, by rw [HTK.out]; exact hown3, Lib.hid ?_, Lib.hid ?_, ?_, ?_⟩
    ·rcases hd3 with h | h
     ·intro e; rw [show (Value.slice (some ⟨g3, 0, none⟩) (G3.length + (q + 1)) c3).ownBlock = some g3 from rfl, ← h] at e; exact hne2.out e
     ·intro e; rw [show (Value.slice (some ⟨g3, 0, none⟩) (G3.length + (q + 1)) c3).ownBlock = some g3 from rfl] at e; injection e with e; simp at h; have := HW.out; omega
    ·intro q' f' hq'
     have hg : gF < wr.heap.size := by have := HW.out; omega
     have hc1 := World.cell?_alloc_lt (wr.alloc (.cells #[.int .i64 f.err, .string f.at_] 53)) (.cells #[.int .i64 f.err] 33)
     have hc2 := World.cell?_alloc_lt wr (.cells #[.int .i64 f.err, .string f.at_] 53)
     obtain ⟨a1, a2⟩ := hcs2.out q' f' hq'
     exact ⟨hg3.cell ((hc1 _ (by simp; omega)).trans ((hc2 _ hg).trans a1)) (by intro e; exact hne2.out e.symm), hg3.cell ((hc1 _ (by simp; omega)).trans ((hc2 _ hg).trans a2)) (by intro e; exact hne2.out e.symm)⟩
    ·exact ((hB2.alloc zb _).alloc (by simp; omega) _).grown hg3 (by simp; omega) (fun q' e => (World.ownsRow.lt hown2 _ e).1)
    ·have := hg3.size; have := HW.out; simp at *; omega
   case measure => simp [intOf]; omega
  ·have hqE : q = FS.length := by omega
   subst hqE
   have zb := hB2.size
   rw [List.take_of_length_le (Nat.le_refl _)] at hown2
   have HO2 := Lib.hid hown2
   clear hown2 hne2 hcs2
   obtain ⟨m0, m1, m2, m3, m4, m5, n0, n1'⟩ := HS.out _ (hB2)
   go_wp2_with (first
    | (go_at_call 118; refine (HL.out _ hB2).mono ?_; rintro e w9 ⟨As, cs, rfl, hownS, hb9⟩)
    | (at_builtin; refine wpList_appN errno_elem _ _ rfl W0.heap.size (.slice A2 (G3.length + FS.length) c2) (G3.length + FS.length) _ rfl (own_below HO2.out hb9) w9.heap.size As SL.length cs (SL.map (.int .i64)) rfl (Reads.of_own hownS) (fun u hu => by obtain ⟨y, _, rfl⟩ := List.mem_map.1 hu; rfl) (by omega) (by have := hb9.size; omega) rfl ?_; intro A5 c5 w5 hown5 hg5))
   go_ret
   have hEl : E.length = G3.length + FS.length + SL.length := by rw [HE.out]; simp [Nat.add_assoc]
   have hEm : E.map (Value.int .i64) = (G3 ++ FS.map (·.err)).map (Value.int .i64) ++ SL.map (Value.int .i64) := by rw [HE.out]; simp
   refine ⟨A5, c5, by rw [hEl]; rfl, ?_, ?_⟩
   ·rw [hEl, hEm]
    exact own_less hown5 z0
   ·have B9 : Below W0.heap.size W0 w9 := hB2.trans (hb9.mono zb)
    exact hB0.trans ((B9.grown hg5 B9.size (fun q' e => (World.ownsRow.lt (own_below HO2.out hb9) _ e).1)).mono z0)
theorem arcE_lenG (P : Int) (ks : List (Int × Int × Int)) (x : Arc) (h1 : x.travel.length ≤ 5000) (h2 : x.slow.length ≤ 5000) : (arcE P ks x).length ≤ 15005 := by
 unfold arcE
 rw [List.length_append, List.length_append, List.length_map]
 have := pushIf_le _ (!hasB ks (wayK x)) 6 2 (pushIf_le _ (!arcBad x) 2 1 (pushIf_le [] (arcOk P x) 11 0 (Nat.le_refl _)))
 have := tvTo_len x.travel x.travel.length
 have := slTo_len x.slow x.slow.length
 omega
theorem netTo_lenG (n : Net) (hs : ∀ a ∈ n.arcs, a.travel.length ≤ 5000 ∧ a.slow.length ≤ 5000) : ∀ j, (netTo n j).length ≤ 2 + n.places.length + 15005 * j
 | 0 => by
  have := plTo_len n.places n.places.length
  unfold netTo
  rw [List.length_append]
  split <;> simp <;> omega
 | j + 1 => by
  have ih := netTo_lenG n hs j
  have h : (arAt n.places.length n.arcs j).length ≤ 15005 := by
   unfold arAt
   split
   ·rename_i a ha
    obtain ⟨h1, h2⟩ := hs a (List.mem_of_getElem? ha)
    unfold arFs
    rw [List.length_map]
    exact arcE_lenG _ _ _ h1 h2
   ·exact Nat.zero_le _
  rw [netTo, List.length_append]
  omega
set_option maxRecDepth 20000 in
set_option maxHeartbeats 2000000 in
theorem ncheckG_any (x : Net) (A0 : Option Addr) (d0 : Nat) (A1 : Option Addr) (d1 : Nat) (w : World) (hP : RowAt rStr w w.heap.size A0 x.places) (hA : RowAt rArc w w.heap.size A1 x.arcs)
  (hp : x.places.length ≤ 5000) (ha : x.arcs.length ≤ 5000) (hs : ∀ a ∈ x.arcs, a.travel.length ≤ 5000 ∧ a.slow.length ≤ 5000) (ht : Tabs w) :
  Calls Tryz.prog 45 #[.agg #[.slice A0 x.places.length d0, .slice A1 x.arcs.length d1]] w (FltsOut w (netTo x x.arcs.length)) := by
 have HTB : Hid (∀ v, Below w.heap.size w v → Tabs v) := Lib.hid fun v hv => ht.below hv
 clear ht
 obtain ⟨l, hl⟩ : ∃ l, x.places = l := ⟨_, rfl⟩
 obtain ⟨ar, has⟩ : ∃ ar, x.arcs = ar := ⟨_, rfl⟩
 obtain ⟨n, hn⟩ : ∃ n, l.length = n := ⟨_, rfl⟩
 obtain ⟨m, hm⟩ : ∃ m, ar.length = m := ⟨_, rfl⟩
 obtain ⟨R, hR⟩ : ∃ R, netTo x = R := ⟨_, rfl⟩
 obtain ⟨F, hF⟩ : ∃ F, plTo l = F := ⟨_, rfl⟩
 have hFl : ∀ j, (F j).length ≤ 1 + j := fun j => by rw [← hF]; exact plTo_len _ j
 have HF := Lib.hid hF
 have HF0 : Hid (F 0 = if 24 < n then [⟨4, ⟨#[112, 108, 97, 99, 101, 115]⟩⟩] else []) := Lib.hid (by rw [← hF, ← hn]; rfl)
 have HR0 : Hid (R 0 = F n ++ (if 1024 < m then [⟨4, ⟨#[97, 114, 99, 115]⟩⟩] else [])) := Lib.hid (by rw [← hR, ← hF, ← hn, ← hm, ← hl, ← has]; rfl)
 have HRS : Hid (∀ (j : Nat) a, ar[j]? = some a → R (j + 1) = R j ++ arFs n ar j a) := Lib.hid fun j a h => by rw [← has] at h ⊢; rw [← hR, netTo_succ h, ← hn, ← hl]
 rw [hl] at hP hp
 rw [has] at hA ha hs
 rw [hl, has, hn, hm, hR]
 rw [hn] at hp
 rw [hm] at ha
 have HN := Lib.hid hn
 have HM := Lib.hid hm
 have HS := Lib.hid hs
 have hmm := @run_makeMap Tryz.prog
 have HRL : Hid (∀ j, (R j).length ≤ 2 + n + 15005 * j) := Lib.hid fun j => by rw [← hR, ← hn, ← hl]; exact netTo_lenG x (by rw [has]; exact hs) j
 clear hl has hn hm hR hF hs
 go_enter Tryz.func45, Tryz.ntmps45
 go_upto_if 16 with fail
 go_cut [3] (fun v wx => ∃ A' c', v = .slice A' (F 0).length c' ∧ OutP wx (w.heap.size + 1) [w.heap.size] A' c' (F 0) ∧ (wx.cell? ⟨w.heap.size, 0, none⟩ = some (.slice A0 n d0) ∧ wx.cell? ⟨w.heap.size, 1, none⟩ = some (.slice A1 m d1)) ∧ Below w.heap.size w wx)
 case first => as_aux_lemma =>
  obtain ⟨W1, hW1⟩ : ∃ W1, w.alloc (.cells #[.slice A0 n d0, .slice A1 m d1] 25) = W1 := ⟨_, rfl⟩
  have hc0 : W1.cell? ⟨w.heap.size, 0, none⟩ = some (.slice A0 n d0) := by rw [← hW1]; exact two_new w _ _ _ 0 _ rfl
  have hc1 : W1.cell? ⟨w.heap.size, 1, none⟩ = some (.slice A1 m d1) := by rw [← hW1]; exact two_new w _ _ _ 1 _ rfl
  have hB1 : Below w.heap.size w W1 := by rw [← hW1]; exact (Below.refl _ _).alloc (Nat.le_refl _) _
  have hs1 : w.heap.size < W1.heap.size := by rw [← hW1]; simp
  have hO : OutP W1 (w.heap.size + 1) [w.heap.size] none 0 [] := ⟨World.ownsRow_nil _ _ _ _, fun q hq e => (by cases e), fun q hq => by rw [List.mem_singleton] at hq; omega⟩
  rw [hW1]
  clear hW1
  by_cases hq : 24 < n
  ·have HE : Hid (F 0 = [⟨4, ⟨#[112, 108, 97, 99, 101, 115]⟩⟩]) := Lib.hid (by rw [HF0.out, if_pos hq])
   have hq' : (24 : Int) < (n : Int) := by omega
   clear hq
   go_wp2_with (at_builtin; refine wpList_app fault_elem _ _ rfl (w.heap.size + 1) none 0 0 [] rfl (hO.own.alloc _) ⟨W1.heap.size, 0, none⟩ 1 [.int .i64 4, .string ⟨#[112, 108, 97, 99, 101, 115]⟩] rfl rfl (two_new W1 (.int .i64 4) (.string ⟨#[112, 108, 97, 99, 101, 115]⟩) 53) (by simp [Value.oneCell']) (by omega) (by simp; omega) rfl ?_; intro g1 c1 w2 hown1 hg1 hd1)
   go_meet
   have hp := hO.push (f := ⟨4, ⟨#[112, 108, 97, 99, 101, 115]⟩⟩) ((Below.refl _ _).alloc (Nat.le_refl _) _) hown1 hg1 hd1
   have hk := hp.2 w.heap.size (by simp)
   exact ⟨_, _, by rw [HE.out]; rfl, by rw [HE.out]; exact hp.1, ⟨cell_heap hk hc0, cell_heap hk hc1⟩, (hB1.alloc (by omega) _).grown hg1 (by simp; omega) (fun q e => by cases e)⟩
  ·have HE : Hid (F 0 = []) := Lib.hid (by rw [HF0.out, if_neg hq])
   have hq' : ¬ (24 : Int) < (n : Int) := by omega
   clear hq
   go_wp2
   go_meet
   exact ⟨none, 0, by rw [HE.out]; rfl, by rw [HE.out]; exact hO, ⟨hc0, hc1⟩, hB1⟩
 obtain ⟨A', c', hv, hO, ⟨hc0, hc1⟩, hB⟩ := hcut
 subst hv
 have zc := hB.size
 have hlt0 := hO.lt w.heap.size (by simp)
 go_upto_region 6 with fail
 have hM : Marks nameE (wc.alloc (.map #[] 0)) wc.heap.size 0 [] := Marks.made nameE wc
 have hO1 := hO.more (q := wc.heap.size) ((Below.refl _ _).alloc (Nat.le_refl _) (.map #[] 0)) (Nat.le_refl _) (by simp)
 have hB1 : Below w.heap.size w (wc.alloc (.map #[] 0)) := hB.alloc zc _
 have hd0 := (World.cell?_alloc_lt wc (.map #[] 0) ⟨w.heap.size, 0, none⟩ hlt0).trans hc0
 have hd1 := (World.cell?_alloc_lt wc (.map #[] 0) ⟨w.heap.size, 1, none⟩ hlt0).trans hc1
 obtain ⟨W1, hW1⟩ : ∃ W1, wc.alloc (.map #[] 0) = W1 := ⟨_, rfl⟩
 rw [hW1] at hM hO1 hB1 hd0 hd1 ⊢
 obtain ⟨b1, hb1⟩ : ∃ b, wc.heap.size = b := ⟨_, rfl⟩
 rw [hb1] at hM hO1 zc ⊢
 have hlb : w.heap.size < b1 := by omega
 clear hW1 hc0 hc1 hB hO hb1 hlt0
 go_loopw [3, 25] (fun v k wr => ∃ (j : Nat) (A' : Option Addr) (c' : Nat), j ≤ n ∧ k = .int .i64 j ∧ v = .slice A' (F j).length c' ∧ OutP wr (w.heap.size + 1) [b1, w.heap.size] A' c' (F j) ∧ Marks nameE wr b1 j (l.take j) ∧ (wr.cell? ⟨w.heap.size, 0, none⟩ = some (.slice A0 n d0) ∧ wr.cell? ⟨w.heap.size, 1, none⟩ = some (.slice A1 m d1)) ∧ Below w.heap.size w wr) (fun _ k _ => n - (intOf k).toNat)
 case atStart => exact ⟨0, A', c', by omega, rfl, rfl, hO1, hM, ⟨hd0, hd1⟩, hB1⟩
 case round =>
  clear hM hO1 hB1 hd0 hd1
  obtain ⟨j, A', c', hj, rfl, rfl, hO, hM, hcc, hB⟩ := hrel
  have zb := hB.size
  by_cases hlt : j < n
  ·obtain ⟨s, hs⟩ : ∃ s, l[j]? = some s := ⟨_, List.getElem?_eq_getElem (by rw [HN.out]; exact hlt)⟩
   obtain ⟨ad, rfl, hadb, mx, hsz⟩ := row_Str (hP.below hB) hs
   have hk0 : (0 : Int) ≤ (j : Int) := by omega
   have hkn : (j : Int) < (n : Int) := by omega
   have hFj := hFl j
   have hj100 : j < 1000000000000000000 := by omega
   have HP : Hid (F (j + 1) = F j ++ plP l j s) := Lib.hid (by rw [← HF.out, plTo_succ hs])
   have HTK := Lib.hid (take_snoc' hs)
   have hds := decS_size j
   have t1 : ¬ 9223372036854775807 < 6 + (decS j).size := by omega
   have HTW := Lib.hid (HTB.out _ hB)
   have HOB := Lib.hid (And.intro hO (And.intro hM (And.intro hcc hB)))
   clear hs hcc hO hM hB
   go_upto_region 9 with (go_at_call 41; refine (decG_any j hj100 _ HTW.out).mono ?_; rintro e wr ⟨rfl, hbq⟩)
   obtain ⟨hO0, hM0, hcc0, hB0⟩ := HOB.out
   have hO := hO0.below hbq
   have hM := hM0.below hbq
   have hcc := And.intro ((hbq.cell (p := ⟨w.heap.size, 0, none⟩) (hO0.lt w.heap.size (by simp))).trans hcc0.1) ((hbq.cell (p := ⟨w.heap.size, 1, none⟩) (hO0.lt w.heap.size (by simp))).trans hcc0.2)
   have hB := hB0.trans (hbq.mono hB0.size)
   have zb := hB.size
   clear hO0 hM0 hcc0 hB0 HOB HTW hbq mx
   have HC := Lib.hid hcc
   obtain ⟨hO', hM'⟩ : Hid (OutP wr (w.heap.size + 1) [b1, w.heap.size] A' c' (F j)) ∧ Hid (Marks nameE wr b1 j (l.take j)) := ⟨Lib.hid hO, Lib.hid hM⟩
   have lt1 := hO.lt b1 (by simp)
   have lt0 := hO.lt w.heap.size (by simp)
   clear hcc hO hM
   cases hnb : nameB s
   case false =>
    have HE : Hid (F (j + 1) = F j ++ [⟨5, plcS j⟩]) := Lib.hid (by rw [HP.out]; unfold plP; rw [hnb]; rfl)
    go_wp2_with (first | (go_at_call 80; refine (name_any s hsz _).mono ?_; rw [hnb]; rintro e we ⟨rfl, rfl⟩) | (at_lookup; refine wpList_mark_look nameE rfl _ _ rfl b1 j (l.take j) rfl hM'.out s rfl hsz ?_; rw [hhb]) | (at_builtin; refine wpList_app fault_elem _ _ rfl (w.heap.size + 1) A' (F j).length c' (fcs (F j)) rfl (hO'.out.own.alloc _) ⟨wr.heap.size, 0, none⟩ 1 [.int .i64 5, .string (plcS j)] rfl rfl (two_new wr (.int .i64 5) (.string (plcS j)) 53) (by simp [Value.oneCell']) (by omega) (by simp; omega) rfl ?_; intro g3 c3 w3 hown3 hg3 hd3; have hp3 := hO'.out.push (f := ⟨5, plcS j⟩) ((Below.refl _ _).alloc (Nat.le_refl _) _) hown3 hg3 hd3; have hM3 := marks_heap hM'.out (hp3.2 b1 (by simp))) | (at_mapUpdate; refine wpList_mark_set nameE rfl _ _ _ rfl b1 j (l.take j) rfl hM3 s rfl rfl hsz (by unfold maxLen; omega) ?_; intro w4 hM4 hg4))
    have hk0 := hp3.2 w.heap.size (by simp)
    have s3 := hg3.size
    simp at s3
    have hk4 := hg4.block w.heap.size (by omega) (fun e => by injection e with e; omega)
    go_roundw
    case rel => exact ⟨j + 1, some ⟨g3, 0, none⟩, c3, by omega, by go_num, by rw [HE.out, List.length_append]; rfl, by rw [HE.out]; exact hp3.1.kept (by simp) hg4, by rw [HTK.out]; exact hM4, ⟨cell_heap (hk4.trans hk0) HC.out.1, cell_heap (hk4.trans hk0) HC.out.2⟩, ((hB.alloc zb _).grown hg3 (by simp; omega) (fun k e => by have := (World.ownsRow.lt hO'.out.own _ e).1; omega)).grown hg4 (by omega) (fun k e => by injection e with e; omega)⟩
    case measure => simp [intOf]; omega
   case true =>
    cases hhb : hasB (l.take j) s
    case false =>
     have HE : Hid (F (j + 1) = F j) := Lib.hid (by rw [HP.out]; unfold plP; rw [hnb, hhb]; simp)
     have hM3 := hM'.out
     go_wp2_with (first | (go_at_call 80; refine (name_any s hsz _).mono ?_; rw [hnb]; rintro e we ⟨rfl, rfl⟩) | (at_lookup; refine wpList_mark_look nameE rfl _ _ rfl b1 j (l.take j) rfl hM'.out s rfl hsz ?_; rw [hhb]) | (at_mapUpdate; refine wpList_mark_set nameE rfl _ _ _ rfl b1 j (l.take j) rfl hM3 s rfl rfl hsz (by unfold maxLen; omega) ?_; intro w4 hM4 hg4))
     go_roundw
     case rel => exact ⟨j + 1, A', c', by omega, by go_num, by rw [HE.out], by rw [HE.out]; exact hO'.out.kept (by simp) hg4, by rw [HTK.out]; exact hM4, ⟨cell_heap (hg4.block w.heap.size lt0 (fun e => by injection e with e; omega)) HC.out.1, cell_heap (hg4.block w.heap.size lt0 (fun e => by injection e with e; omega)) HC.out.2⟩, hB.grown hg4 zb (fun k e => by injection e with e; omega)⟩
     case measure => simp [intOf]; omega
    case true =>
     have HE : Hid (F (j + 1) = F j ++ [⟨6, plcS j⟩]) := Lib.hid (by rw [HP.out]; unfold plP; rw [hnb, hhb]; rfl)
     go_wp2_with (first | (go_at_call 80; refine (name_any s hsz _).mono ?_; rw [hnb]; rintro e we ⟨rfl, rfl⟩) | (at_lookup; refine wpList_mark_look nameE rfl _ _ rfl b1 j (l.take j) rfl hM'.out s rfl hsz ?_; rw [hhb]) | (at_builtin; refine wpList_app fault_elem _ _ rfl (w.heap.size + 1) A' (F j).length c' (fcs (F j)) rfl (hO'.out.own.alloc _) ⟨wr.heap.size, 0, none⟩ 1 [.int .i64 6, .string (plcS j)] rfl rfl (two_new wr (.int .i64 6) (.string (plcS j)) 53) (by simp [Value.oneCell']) (by omega) (by simp; omega) rfl ?_; intro g3 c3 w3 hown3 hg3 hd3; have hp3 := hO'.out.push (f := ⟨6, plcS j⟩) ((Below.refl _ _).alloc (Nat.le_refl _) _) hown3 hg3 hd3; have hM3 := marks_heap hM'.out (hp3.2 b1 (by simp))) | (at_mapUpdate; refine wpList_mark_set nameE rfl _ _ _ rfl b1 j (l.take j) rfl hM3 s rfl rfl hsz (by unfold maxLen; omega) ?_; intro w4 hM4 hg4))
     have hk0 := hp3.2 w.heap.size (by simp)
     have s3 := hg3.size
     simp at s3
     have hk4 := hg4.block w.heap.size (by omega) (fun e => by injection e with e; omega)
     go_roundw
     case rel => exact ⟨j + 1, some ⟨g3, 0, none⟩, c3, by omega, by go_num, by rw [HE.out, List.length_append]; rfl, by rw [HE.out]; exact hp3.1.kept (by simp) hg4, by rw [HTK.out]; exact hM4, ⟨cell_heap (hk4.trans hk0) HC.out.1, cell_heap (hk4.trans hk0) HC.out.2⟩, ((hB.alloc zb _).grown hg3 (by simp; omega) (fun k e => by have := (World.ownsRow.lt hO'.out.own _ e).1; omega)).grown hg4 (by omega) (fun k e => by injection e with e; omega)⟩
     case measure => simp [intOf]; omega
  ·have hjn : n = j := by omega
   subst hjn
   have zc := hO.lt w.heap.size (by simp)
   have HO := Lib.hid (OutP.less hO (prot' := [w.heap.size]) (by simp))
   have HNC := Lib.hid hcc
   obtain ⟨hc0, hc1⟩ := hcc
   have hFn := hFl n
   clear hO hM hj hlt
   go_upto_if 57 with fail
   go_cut [3] (fun v wx => ∃ A' c', v = .slice A' (R 0).length c' ∧ OutP wx (w.heap.size + 1) [w.heap.size] A' c' (R 0) ∧ (wx.cell? ⟨w.heap.size, 0, none⟩ = some (.slice A0 n d0) ∧ wx.cell? ⟨w.heap.size, 1, none⟩ = some (.slice A1 m d1)) ∧ Below w.heap.size w wx)
   case first => as_aux_lemma =>
    by_cases hq : 1024 < m
    ·have HE : Hid (R 0 = F n ++ [⟨4, ⟨#[97, 114, 99, 115]⟩⟩]) := Lib.hid (by rw [HR0.out, if_pos hq])
     have hq' : (1024 : Int) < (m : Int) := by omega
     clear hq
     go_wp2_with (at_builtin; refine wpList_app fault_elem _ _ rfl (w.heap.size + 1) A' (F n).length c' (fcs (F n)) rfl (HO.out.own.alloc _) ⟨wr.heap.size, 0, none⟩ 1 [.int .i64 4, .string ⟨#[97, 114, 99, 115]⟩] rfl rfl (two_new wr (.int .i64 4) (.string ⟨#[97, 114, 99, 115]⟩) 53) (by simp [Value.oneCell']) (by omega) (by simp; omega) rfl ?_; intro g1 c1 w2 hown1 hg1 hd1)
     go_meet
     have hp := HO.out.push (f := ⟨4, ⟨#[97, 114, 99, 115]⟩⟩) ((Below.refl _ _).alloc (Nat.le_refl _) _) hown1 hg1 hd1
     have hk := hp.2 w.heap.size (by simp)
     exact ⟨_, _, by rw [HE.out, List.length_append]; rfl, by rw [HE.out]; exact hp.1, ⟨cell_heap hk HNC.out.1, cell_heap hk HNC.out.2⟩, (hB.alloc zb _).grown hg1 (by simp; omega) (fun q e => by have := (World.ownsRow.lt HO.out.own _ e).1; omega)⟩
    ·have HE : Hid (R 0 = F n) := Lib.hid (by rw [HR0.out, if_neg hq, List.append_nil])
     have hq' : ¬ (1024 : Int) < (m : Int) := by omega
     clear hq
     go_wp2
     go_meet
     exact ⟨A', c', by rw [HE.out], by rw [HE.out]; exact HO.out, HNC.out, hB⟩
   clear HO HNC hc0 hc1 hB zb zc hFn
   obtain ⟨A', c', hv, hO, ⟨hc0, hc1⟩, hB⟩ := hcut
   subst hv
   have zc := hB.size
   have hlt0 := hO.lt w.heap.size (by simp)
   go_upto_region 19 with fail
   have hM : Marks wayE (wc.alloc (.map #[] 0)) wc.heap.size 0 [] := Marks.made wayE wc
   have hO1 := hO.more (q := wc.heap.size) ((Below.refl _ _).alloc (Nat.le_refl _) (.map #[] 0)) (Nat.le_refl _) (by simp)
   have hB1 : Below w.heap.size w (wc.alloc (.map #[] 0)) := hB.alloc zc _
   have hd0 := (World.cell?_alloc_lt wc (.map #[] 0) ⟨w.heap.size, 0, none⟩ hlt0).trans hc0
   have hd1 := (World.cell?_alloc_lt wc (.map #[] 0) ⟨w.heap.size, 1, none⟩ hlt0).trans hc1
   obtain ⟨W1, hW1⟩ : ∃ W1, wc.alloc (.map #[] 0) = W1 := ⟨_, rfl⟩
   rw [hW1] at hM hO1 hB1 hd0 hd1 ⊢
   obtain ⟨b2, hb2⟩ : ∃ b, wc.heap.size = b := ⟨_, rfl⟩
   rw [hb2] at hM hO1 zc ⊢
   have hlb2 : w.heap.size < b2 := by omega
   clear hW1 hc0 hc1 hB hO hb2 hlt0
   go_loopw [3, 66] (fun v k wr => ∃ (j : Nat) (A' : Option Addr) (c' : Nat), j ≤ m ∧ k = .int .i64 j ∧ v = .slice A' (R j).length c' ∧ OutP wr (w.heap.size + 1) [b2, w.heap.size] A' c' (R j) ∧ Marks wayE wr b2 j ((ar.take j).map wayK) ∧ (wr.cell? ⟨w.heap.size, 0, none⟩ = some (.slice A0 n d0) ∧ wr.cell? ⟨w.heap.size, 1, none⟩ = some (.slice A1 m d1)) ∧ Below w.heap.size w wr) (fun _ k _ => m - (intOf k).toNat)
   case atStart => exact ⟨0, A', c', by omega, rfl, rfl, hO1, hM, ⟨hd0, hd1⟩, hB1⟩
   case round =>
    clear hM hO1 hB1 hd0 hd1
    obtain ⟨j, A', c', hj, rfl, rfl, hO, hM, ⟨hc0, hc1⟩, hB⟩ := hrel
    have zb := hB.size
    by_cases hlt : j < m
    ·obtain ⟨x, hx⟩ : ∃ x, ar[j]? = some x := ⟨_, List.getElem?_eq_getElem (by rw [HM.out]; exact hlt)⟩
     obtain ⟨ad, C0, c0, C1, c1, rfl, hadb, ⟨m0, m1, m2, m3, m4, m5⟩, hp1, hp2, hfit⟩ := row_Arc (hA.below hB) hx
     have hk0 : (0 : Int) ≤ (j : Int) := by omega
     have hkn : (j : Int) < (m : Int) := by omega
     obtain ⟨ks, hks⟩ : ∃ ks, (ar.take j).map wayK = ks := ⟨_, rfl⟩
     obtain ⟨E, hE⟩ : ∃ E, arcE n ks x = E := ⟨_, rfl⟩
     have HX := Lib.hid (HS.out x (List.mem_of_getElem? hx))
     have hElen : E.length ≤ 15005 := by rw [← hE]; exact arcE_lenG _ _ _ HX.out.1 HX.out.2
     have HT : Hid (R (j + 1) = R j ++ E.map fun e => (⟨e, arcS j⟩ : Flt)) := Lib.hid (by rw [HRS.out j x hx]; unfold arFs; rw [hks, hE])
     have HKS : Hid ((ar.take (j + 1)).map wayK = ks ++ [wayK x]) := Lib.hid (by rw [take_snoc' hx, List.map_append, hks]; rfl)
     have hRj := HRL.out j
     rw [hks] at hM
     have lt0 := hO.lt w.heap.size (by simp)
     have lt2 := hO.lt b2 (by simp)
     clear hx hks
     go_upto_region 21 with fail
     obtain ⟨W, hW⟩ : ∃ W, wr.alloc (.cells #[.int .i64 x.frm, .int .i64 x.to, .int .i64 x.profile, .int .i64 x.miles, .slice C0 x.travel.length c0, .slice C1 x.slow.length c1] 49) = W := ⟨_, rfl⟩
     obtain ⟨P, hP'⟩ : ∃ P, wr.heap.size = P := ⟨_, rfl⟩
     have BW : Below wr.heap.size wr W := by rw [← hW]; exact (Below.refl _ _).alloc (Nat.le_refl _) _
     have hszW : W.heap.size = P + 1 := by rw [← hW, ← hP']; simp
     have hF6 : W.cell? ⟨P, 0, none⟩ = some (.int .i64 x.frm) ∧ W.cell? ⟨P, 1, none⟩ = some (.int .i64 x.to) ∧ W.cell? ⟨P, 2, none⟩ = some (.int .i64 x.profile) ∧ W.cell? ⟨P, 3, none⟩ = some (.int .i64 x.miles) ∧ W.cell? ⟨P, 4, none⟩ = some (.slice C0 x.travel.length c0) ∧ W.cell? ⟨P, 5, none⟩ = some (.slice C1 x.slow.length c1) := by
      rw [← hW, ← hP']
      refine ⟨?_, ?_, ?_, ?_, ?_, ?_⟩ <;> simp
     have hOW : OutP W (w.heap.size + 1) [P, b2, w.heap.size] A' c' (R j) := hO.more BW (by omega) (by omega)
     have hMW := hM.below BW
     have BWw : Below w.heap.size w W := hB.trans (BW.mono zb)
     have hcW : W.cell? ⟨w.heap.size, 0, none⟩ = some (.slice A0 n d0) ∧ W.cell? ⟨w.heap.size, 1, none⟩ = some (.slice (some ad) m d1) := ⟨(BW.cell (p := ⟨w.heap.size, 0, none⟩) lt0).trans hc0, (BW.cell (p := ⟨w.heap.size, 1, none⟩) lt0).trans hc1⟩
     have HA : Hid (Calls Tryz.prog 81 #[.agg #[.slice A0 n d0, .slice (some ad) m d1], .agg #[.int .i64 x.frm, .int .i64 x.to, .int .i64 x.profile, .int .i64 x.miles, .slice C0 x.travel.length c0, .slice C1 x.slow.length c1], .map (some b2)] W (ErrsOut W E)) := Lib.hid (by
      rw [← hE]
      exact arcG_any n A0 d0 (some ad) m d1 x C0 c0 C1 c1 b2 j ks W ((hp1.below (BW.mono zb)).more BWw.size) ((hp2.below (BW.mono zb)).more BWw.size) hMW hfit HX.out.1 (by have := HX.out.2; omega) (HTB.out _ BWw))
     have hPl : w.heap.size < P := by omega
     have hWl : P < W.heap.size := by omega
     rw [hW, hP']
     have HF := Lib.hid (And.intro hfit (And.intro hF6 hcW))
     have HO := Lib.hid hOW
     have HMW := Lib.hid hMW
     clear hW hP' hE hO hM hc0 hc1 m0 m1 m2 m3 m4 m5 hp1 hp2 hfit hF6 hcW hOW hMW hszW
     obtain ⟨hfit, ⟨f0, f1, f2, f3, f4, f5⟩, hc0, hc1⟩ := HF.out
     go_wp2_with (go_at_call 81; refine HA.out.mono ?_; rintro e w1 ⟨Ae, ce, rfl, hownE, hb1⟩)
     have s1 := hb1.size
     obtain ⟨gE, hg1, hg2, hg3, hg4⟩ := row_place' P (by omega) hownE
     have hO1 : OutP w1 (w.heap.size + 1) [gE, P, b2, w.heap.size] A' c' (R j) := by
      rcases hg2 with rfl | hg2
      ·exact (HO.out.below hb1).less (by simp)
      ·exact HO.out.more hb1 hg2 hg1
     have HM1 := Lib.hid (HMW.out.below hb1)
     have hpB : P < W.heap.size := by omega
     have ltW : w.heap.size < W.heap.size := by omega
     have HF1 : Hid ((w1.cell? ⟨P, 0, none⟩ = some (.int .i64 x.frm) ∧ w1.cell? ⟨P, 1, none⟩ = some (.int .i64 x.to) ∧ w1.cell? ⟨P, 2, none⟩ = some (.int .i64 x.profile) ∧ w1.cell? ⟨P, 3, none⟩ = some (.int .i64 x.miles) ∧ w1.cell? ⟨P, 4, none⟩ = some (.slice C0 x.travel.length c0) ∧ w1.cell? ⟨P, 5, none⟩ = some (.slice C1 x.slow.length c1)) ∧ w1.cell? ⟨w.heap.size, 0, none⟩ = some (.slice A0 n d0) ∧ w1.cell? ⟨w.heap.size, 1, none⟩ = some (.slice (some ad) m d1)) := Lib.hid (by
      have hk := fun o => hb1.cell (p := ⟨P, o, none⟩) hpB
      have hk2 := fun o => hb1.cell (p := ⟨w.heap.size, o, none⟩) ltW
      exact ⟨⟨(hk _).trans f0, (hk _).trans f1, (hk _).trans f2, (hk _).trans f3, (hk _).trans f4, (hk _).trans f5⟩, (hk2 _).trans hc0, (hk2 _).trans hc1⟩)
     have HG4 := Lib.hid hg4
     have HO1 := Lib.hid hO1
     have B1 : Below w.heap.size w w1 := BWw.trans (hb1.mono (by omega))
     clear hownE hg4 hO1 f0 f1 f2 f3 f4 f5 hc0 hc1
     go_loopw [3, 76] (fun v k wr => ∃ (q : Nat) (A2 : Option Addr) (c2 : Nat), q ≤ E.length ∧ k = .int .i64 q ∧ v = .slice A2 ((R j).length + q) c2 ∧ Hid (OutP wr (w.heap.size + 1) [gE, P, b2, w.heap.size] A2 c2 (R j ++ (E.take q).map fun e => (⟨e, arcS j⟩ : Flt))) ∧ Hid (∀ p ∈ [gE, P, b2, w.heap.size], wr.heap[p]? = w1.heap[p]?) ∧ Below w.heap.size w wr) (fun _ k _ => E.length - (intOf k).toNat)
     case atStart => exact ⟨0, A', c', by omega, rfl, rfl, Lib.hid (by simpa using HO1.out), Lib.hid (fun p hp => rfl), B1⟩
     case round =>
      clear HO1
      obtain ⟨q, A2, c2, hq, rfl, rfl, hO2, hk2, hB2⟩ := hrel
      have zb2 := hB2.size
      by_cases hlq : q < E.length
      ·obtain rfl := hg3 (by omega)
       obtain ⟨y, hy⟩ : ∃ y, E[q]? = some y := ⟨_, List.getElem?_eq_getElem hlq⟩
       have hcx : wr.cell? ⟨gE, q, none⟩ = some (.int .i64 y) := by have := HG4.out q hlq; rw [hy] at this; exact cell_heap (hk2.out gE (by simp)) this
       have hq0 : (0 : Int) ≤ (q : Int) := by omega
       have hqn : (q : Int) < (E.length : Int) := by omega
       have hj100 : j < 1000000000000000000 := by omega
       have HTW := Lib.hid (HTB.out _ hB2)
       have HL : Hid ((R j ++ (E.take q).map fun e => (⟨e, arcS j⟩ : Flt)).length = (R j).length + q) := Lib.hid (by rw [List.length_append, List.length_map, List.length_take]; omega)
       have HTK : Hid (R j ++ (E.take (q + 1)).map (fun e => (⟨e, arcS j⟩ : Flt)) = (R j ++ (E.take q).map fun e => (⟨e, arcS j⟩ : Flt)) ++ [⟨y, arcS j⟩]) := Lib.hid (by rw [take_snoc' hy, List.map_append, List.append_assoc]; rfl)
       obtain ⟨fs, hfs⟩ : ∃ fs, (R j ++ (E.take q).map fun e => (⟨e, arcS j⟩ : Flt)) = fs := ⟨_, rfl⟩
       rw [hfs] at hO2 HL HTK
       have hds := decS_size j
       have t1 : ¬ 9223372036854775807 < 4 + (decS j).size := by omega
       clear hy hfs
       go_wp2_with (first
        | (go_at_call 41; refine (decG_any j hj100 _ HTW.out).mono ?_; rintro e we ⟨rfl, hbq⟩; have hqz := hbq.size)
        | (at_builtin; refine wpList_app fault_elem _ _ rfl (w.heap.size + 1) A2 ((R j).length + q) c2 (fcs fs) rfl (by have h := (own_below hO2.out.own hbq).alloc (.cells #[.int .i64 y, .string (arcS j)] 53); rw [HL.out] at h; exact h) ⟨we.heap.size, 0, none⟩ 1 [.int .i64 y, .string (arcS j)] rfl rfl (two_new we (.int .i64 y) (.string (arcS j)) 53) (by simp [Value.oneCell']) (by omega) (by simp; omega) rfl ?_; intro g3 c3 w3 hown3 hg3 hd3))
       go_roundw
       case rel =>
        have hp := hO2.out.push (f := ⟨y, arcS j⟩) (w1 := we.alloc (.cells #[.int .i64 y, .string (arcS j)] 53)) (hbq.alloc hqz _) (by rw [HL.out]; exact hown3) (by rw [HL.out]; exact hg3) (by rw [HL.out]; exact hd3)
        exact ⟨q + 1, some ⟨g3, 0, none⟩, c3, by omega, by go_num, rfl, Lib.hid (by rw [HTK.out]; exact hp.1), Lib.hid (fun p hp' => (hp.2 p hp').trans (hk2.out p hp')), ((hB2.trans (hbq.mono zb2)).alloc (by omega) _).grown hg3 (by simp; omega) (fun k e => by have := (World.ownsRow.lt hO2.out.own _ (by rw [HL.out]; exact e)).1; omega)⟩
       case measure => simp [intOf]; omega
      ·have hqE : q = E.length := by omega
       subst hqE
       have HE : Hid (R j ++ (E.take E.length).map (fun e => (⟨e, arcS j⟩ : Flt)) = R (j + 1)) := Lib.hid (by rw [List.take_of_length_le (Nat.le_refl _), HT.out])
       rw [HE.out] at hO2
       have HL : Hid ((R (j + 1)).length = (R j).length + E.length) := Lib.hid (by rw [HT.out, List.length_append, List.length_map])
       have ek := hk2.out P (by simp)
       have ek0 := hk2.out w.heap.size (by simp)
       have HM2 := Lib.hid (marks_heap HM1.out (hk2.out b2 (by simp)))
       obtain ⟨⟨a0, a1, a2, a3, a4, a5⟩, a6, a7⟩ := HF1.out
       have g0 := cell_heap ek a0
       have g1 := cell_heap ek a1
       have g2 := cell_heap ek a2
       have g3 := cell_heap ek a3
       have g4 := cell_heap ek a4
       have g5 := cell_heap ek a5
       have HC := Lib.hid (And.intro (cell_heap ek0 a6) (cell_heap ek0 a7))
       clear a0 a1 a2 a3 a4 a5 a6 a7 ek ek0
       go_wp2_with (first
        | (go_at_call 82; refine (wayOf_any x C0 c0 C1 c1 _).mono ?_; rintro e w9 ⟨rfl, hb9⟩)
        | (at_mapUpdate; refine wpList_mark_set wayE rfl _ _ _ rfl b2 j ks rfl (HM2.out.below hb9) (wayK x) rfl rfl (wayOk_of hfit) (by unfold maxLen; omega) ?_; intro w4 hM4 hg4))
       have hO9 := (hO2.out.below hb9).kept (b := b2) (by simp) hg4
       have lt0 := hO2.out.lt w.heap.size (by simp)
       have s9 := hb9.size
       have ek0 : w4.heap[w.heap.size]? = wr.heap[w.heap.size]? := (hg4.block w.heap.size (by omega) (fun e => by injection e with e; omega)).trans (hb9.block _ lt0)
       go_roundw
       case rel => exact ⟨j + 1, A2, c2, by omega, by go_num, by rw [HL.out], hO9.less (by simp), by rw [HKS.out]; exact hM4, ⟨cell_heap ek0 HC.out.1, cell_heap ek0 HC.out.2⟩, (hB2.trans (hb9.mono zb2)).grown hg4 (by omega) (fun k e => by injection e with e; omega)⟩
       case measure => simp [intOf]; omega
    ·have hjm : m = j := by omega
     subst hjm
     clear hc0 hc1 hlt hM
     go_wp2
     go_ret
     exact ⟨A', c', rfl, own_less hO.own (by omega), hB⟩
end Go.Proofs.YthefooacfcagbaaGreatDoor.net

/- travel.Check: the violations of a travel function. -/
import Derived.Test.YtceceomaheobhaaGreatDoorBase
import Derived.Deep.DeepCutAuto
import Derived.Deep.QuietTactic
import Derived.BigQuiet
import Derived.Outline
import Derived.IntWalk
namespace Go.Proofs.YtceceomaheobhaaGreatDoor.trv
open Go.RowKit
open Go.Proofs.YtceceomaheobhaaGreatDoor.lib Go.Proofs.YtceceomaheobhaaGreatDoor.rd Go.Proofs.YtceceomaheobhaaGreatDoor.typ Go.Proofs.YtceceomaheobhaaGreatDoor.app Go.Proofs.YtceceomaheobhaaGreatDoor.flts Go.Proofs.YtceceomaheobhaaGreatDoor.txt Go.Proofs.YtceceomaheobhaaGreatDoor.note
set_option linter.unusedVariables false
set_option linter.unusedSimpArgs false

theorem within_any (a b c : Int) (w : World) : Calls Tryz.prog 122 #[.int .i64 a, .int .i64 b, .int .i64 c] w fun e w' => e = .returned (.bool (inB a b c)) ∧ w = w' := by
  by_cases h : b ≤ a
  all_goals
    go_enter Tryz.func122, Tryz.ntmps122
    go_wp2
    go_ret
    exact ⟨ret_bool (by unfold inB; first | (simp [h]; done) | (simp; omega)), rfl⟩
def tvBad (p : Pt) : Bool := !inB p.t 0 4096 || (decide (p.a < p.t) || decide (p.t + 4096 < p.a))
def tvFifo (l : List Pt) (i : Nat) (p : Pt) : Bool := match i with
  | 0 => false
  | k + 1 => match l[k]? with
    | some q => decide (p.t ≤ q.t) || decide (p.a < q.a)
    | none => false
def tvP (l : List Pt) (i : Nat) (p : Pt) : List Flt := (if tvBad p = true then [⟨2, decS i⟩] else []) ++ (if tvFifo l i p = true then [⟨13, decS i⟩] else [])
def szB (m : Nat) : Bool := decide (m = 0) || decide (16 < m)
def tvAt (l : List Pt) (i : Nat) : List Flt := match l[i]? with
  | some p => tvP l i p
  | none => []
/-- The violations of the points below j. -/
def tvTo (l : List Pt) : Nat → List Flt
  | 0 => if szB l.length = true then [⟨4, ⟨#[]⟩⟩] else []
  | j + 1 => tvTo l j ++ tvAt l j
theorem tvP_len (l : List Pt) (i : Nat) (p : Pt) : (tvP l i p).length ≤ 2 := by
  unfold tvP
  split <;> split <;> simp
theorem tvTo_len (l : List Pt) : ∀ j, (tvTo l j).length ≤ 1 + 2 * j
  | 0 => by unfold tvTo; split <;> simp
  | j + 1 => by
    have ih := tvTo_len l j
    have h : (tvAt l j).length ≤ 2 := by
      unfold tvAt
      split
      · exact tvP_len _ _ _
      · exact Nat.zero_le _
    rw [tvTo, List.length_append]
    omega
theorem tvTo_succ {l : List Pt} {j : Nat} {p : Pt} (h : l[j]? = some p) : tvTo l (j + 1) = tvTo l j ++ tvP l j p := by
  rw [tvTo]
  unfold tvAt
  rw [h]

set_option maxRecDepth 20000 in
set_option maxHeartbeats 2000000 in
theorem tcheck_any (A : Option Addr) (c : Nat) (l : List Pt) (w : World) (hL : RowAt rPt w w.heap.size A l) (hl : l.length ≤ 100) :
    Calls Tryz.prog 95 #[.slice A l.length c] w (FltsOut w (tvTo l l.length)) := by
  obtain ⟨m, hm⟩ : ∃ m, l.length = m := ⟨_, rfl⟩
  have HM := Lib.hid hm
  obtain ⟨F, hF⟩ : ∃ F, tvTo l = F := ⟨_, rfl⟩
  have HF := Lib.hid hF
  have hFl : ∀ j, (F j).length ≤ 1 + 2 * j := fun j => by rw [← hF]; exact tvTo_len _ j
  have HF0 : Hid (F 0 = if szB m = true then [⟨4, ⟨#[]⟩⟩] else []) := Lib.hid (by rw [← hF, ← hm]; rfl)
  rw [hm] at hl ⊢
  clear hm hF
  go_enter Tryz.func95, Tryz.ntmps95
  go_upto_region 2 with fail
  go_cut [14] (fun v wx => v = .bool (szB m) ∧ w = wx)
  case first =>
    by_cases h0 : m = 0
    · subst h0
      go_wp2
      go_meet
      exact ⟨rfl, rfl⟩
    · have e0 : ((m : Int) == 0) = false := by simp; omega
      by_cases hq : 16 < m
      · have e1 : (16 : Int) < (m : Int) := by omega
        have HE : Hid (szB m = true) := Lib.hid (by unfold szB; simp [hq])
        clear h0 hq
        go_wp2
        go_meet
        exact ⟨by rw [HE.out], rfl⟩
      · have e1 : ¬ (16 : Int) < (m : Int) := by omega
        have HE : Hid (szB m = false) := Lib.hid (by unfold szB; simp [hq, h0])
        clear h0 hq
        go_wp2
        go_meet
        exact ⟨by rw [HE.out], rfl⟩
  obtain ⟨h14, rfl⟩ := hcut
  subst h14
  go_upto_if 14 with fail
  go_cut [3] (fun v wx => ∃ A' c', v = .slice A' (F 0).length c' ∧ Fown wx w.heap.size A' c' (F 0) ∧ Below w.heap.size w wx)
  case first =>
    cases hs : szB m
    · have HE : Hid (F 0 = []) := Lib.hid (by rw [HF0.out, hs]; rfl)
      go_wp2
      go_meet
      exact ⟨none, 0, by rw [HE.out]; rfl, by rw [HE.out]; exact World.ownsRow_nil _ _ _ _, Below.refl _ _⟩
    · have HE : Hid (F 0 = [⟨4, ⟨#[]⟩⟩]) := Lib.hid (by rw [HF0.out, hs]; rfl)
      go_wp2_with (at_builtin; refine wpList_app fault_elem _ _ rfl w.heap.size none 0 0 [] rfl ((World.ownsRow_nil _ _ _ _).alloc _) ⟨w.heap.size, 0, none⟩ 1 [.int .i64 4, .string ⟨#[]⟩] rfl rfl (two_new _ _ _ _) (by simp [Value.oneCell']) (by omega) (by simp) rfl ?_; intro g1 c1 w2 hown1 hg1 hd1)
      go_meet
      exact ⟨_, _, by rw [HE.out]; rfl, by rw [HE.out]; exact hown1, ((Below.refl _ _).alloc (Nat.le_refl _) _).grown hg1 (by simp) (fun q e => by cases e)⟩
  obtain ⟨A', c', hv, hown, hB⟩ := hcut
  subst hv
  go_upto_region 5 with fail
  go_loopw [3, 21] (fun v k wr => ∃ (j : Nat) (A' : Option Addr) (c' : Nat), j ≤ m ∧ k = .int .i64 j ∧ v = .slice A' (F j).length c' ∧ Fown wr w.heap.size A' c' (F j) ∧ Below w.heap.size w wr) (fun _ k _ => m - (intOf k).toNat)
  case atStart => exact ⟨0, A', c', by omega, rfl, rfl, hown, hB⟩
  case round =>
    clear hown hB
    obtain ⟨j, A', c', hj, rfl, rfl, hown, hB⟩ := hrel
    have hz := hB.size
    by_cases hlt : j < m
    · obtain ⟨p, hp⟩ : ∃ p, l[j]? = some p := ⟨_, List.getElem?_eq_getElem (by rw [HM.out]; exact hlt)⟩
      obtain ⟨ad, rfl, hadb, ⟨m0, m1⟩, hpf⟩ := row_Pt (hL.below hB) hp
      have hk0 : (0 : Int) ≤ (j : Int) := by omega
      have hkn : (j : Int) < (m : Int) := by omega
      have hFj := hFl j
      have hjn : j < 100 := by omega
      have HP : Hid (F (j + 1) = F j ++ tvP l j p) := Lib.hid (by rw [← HF.out, tvTo_succ hp])
      go_upto_region 8 with (go_at_call 91; refine (itoa_any j hjn _).mono ?_; rintro e w3 ⟨rfl, rfl⟩)
      have k0 : (wr.alloc (.cells #[.int .i64 p.t, .int .i64 p.a] 131)).cell? ⟨wr.heap.size, 0, none⟩ = some (.int .i64 p.t) := two_new wr _ _ _ 0 _ rfl
      have k1 : (wr.alloc (.cells #[.int .i64 p.t, .int .i64 p.a] 131)).cell? ⟨wr.heap.size, 1, none⟩ = some (.int .i64 p.a) := two_new wr _ _ _ 1 _ rfl
      obtain ⟨W, hW⟩ : ∃ W, wr.alloc (.cells #[.int .i64 p.t, .int .i64 p.a] 131) = W := ⟨_, rfl⟩
      have hownR : W.ownsRow w.heap.size 37 2 (.slice A' (F j).length c') (F j).length (fcs (F j)) := by rw [← hW]; exact World.ownsRow.alloc hown _
      have zp : wr.heap.size < W.heap.size := by rw [← hW]; simp
      have BW : Below w.heap.size w W := by rw [← hW]; exact hB.alloc hz _
      have HZ := Lib.hid (show (wr.alloc (.cells #[.int .i64 p.t, .int .i64 p.a] 131)) = W from hW)
      rw [hW] at k0 k1 ⊢
      have HNE : Hid (∀ q, (Value.slice A' (F j).length c').ownBlock = some q → q < wr.heap.size) := Lib.hid fun q e => (World.ownsRow.lt hown q e).2
      clear hW m0 m1 hown
      obtain ⟨P, hP⟩ : ∃ P, wr.heap.size = P := ⟨_, rfl⟩
      rw [hP] at k0 k1 zp HNE ⊢
      clear hP HZ
      have zW : w.heap.size ≤ W.heap.size := BW.size
      obtain ⟨pt, hpt⟩ : ∃ x, p.t = x := ⟨_, rfl⟩
      obtain ⟨pa, hpa⟩ : ∃ x, p.a = x := ⟨_, rfl⟩
      have HT := Lib.hid hpt
      have HA := Lib.hid hpa
      have hpf' := hpf
      unfold PtFits at hpf'
      rw [hpt, hpa] at hpf'
      rw [hpt] at k0
      rw [hpa] at k1
      obtain ⟨⟨t1, t2⟩, t3, t4⟩ := hpf'
      clear hpt hpa hpf
      obtain ⟨q, hq⟩ : ∃ q, tvBad p = q := ⟨_, rfl⟩
      have HQ : Hid (q = (!inB pt 0 4096 || (decide (pa < pt) || decide (pt + 4096 < pa)))) := Lib.hid (by rw [← hq, ← HT.out, ← HA.out]; rfl)
      obtain ⟨fo, hfo⟩ : ∃ fo, tvFifo l j p = fo := ⟨_, rfl⟩
      have HFO := Lib.hid hfo
      have HP2 : Hid (F (j + 1) = F j ++ ((if q = true then [⟨2, decS j⟩] else []) ++ (if fo = true then [⟨13, decS j⟩] else []))) := Lib.hid (by rw [HP.out]; unfold tvP; rw [hq, hfo])
      have HLP := Lib.hid hp
      clear hq hfo HP hp
      have HOW := Lib.hid hownR
      clear hownR
      obtain ⟨G, hG⟩ : ∃ G : List Flt, F j ++ (if q = true then [⟨2, decS j⟩] else []) = G := ⟨_, rfl⟩
      have HG := Lib.hid hG
      have hGl : G.length ≤ 2 + 2 * j := by rw [← hG, List.length_append]; split <;> simp <;> omega
      have HP3 : Hid (F (j + 1) = G ++ (if fo = true then [⟨13, decS j⟩] else [])) := Lib.hid (by rw [HP2.out, ← hG, List.append_assoc])
      clear hG HP2
      go_cut [46] (fun v wx => v = .bool q ∧ W = wx)
      case first => as_aux_lemma =>
        cases hr1 : inB pt 0 4096
        case false =>
          have HE : Hid (q = true) := Lib.hid (by rw [HQ.out, hr1]; rfl)
          go_wp2_with (go_at_call 122; refine (within_any _ _ _ _).mono ?_; rintro e we ⟨rfl, rfl⟩)
          go_meet
          exact ⟨by rw [HE.out], rfl⟩
        case true =>
          obtain ⟨b1, b2⟩ := inB_bd hr1
          cases hr2 : decide (pa < pt)
          case true =>
            have HE : Hid (q = true) := Lib.hid (by rw [HQ.out, hr1, hr2]; rfl)
            go_wp2_with (go_at_call 122; refine (within_any _ _ _ _).mono ?_; rintro e we ⟨rfl, rfl⟩)
            go_meet
            exact ⟨by rw [HE.out], rfl⟩
          case false =>
            have HE : Hid (q = decide (pt + 4096 < pa)) := Lib.hid (by rw [HQ.out, hr1, hr2]; rfl)
            go_wp2_with (go_at_call 122; refine (within_any _ _ _ _).mono ?_; rintro e we ⟨rfl, rfl⟩)
            go_meet
            exact ⟨by rw [HE.out], rfl⟩
      obtain ⟨h46, hwc⟩ := hcut
      subst h46
      subst hwc
      go_upto_if 46 with fail
      go_cut [3] (fun v wx => ∃ A2 c2, v = .slice A2 G.length c2 ∧ Fown wx w.heap.size A2 c2 G ∧ wx.cell? ⟨P, 0, none⟩ = some (.int .i64 pt) ∧ wx.cell? ⟨P, 1, none⟩ = some (.int .i64 pa) ∧ Below w.heap.size w wx)
      case first => as_aux_lemma =>
        cases q
        · go_wp2
          go_meet
          have e : F j = G := by rw [← HG.out]; simp
          exact ⟨A', c', by rw [e], by unfold Fown; rw [← e]; exact HOW.out, k0, k1, BW⟩
        · go_wp2_with (at_builtin; refine wpList_app fault_elem _ _ rfl w.heap.size A' (F j).length c' (fcs (F j)) rfl (World.ownsRow.alloc HOW.out _) ⟨W.heap.size, 0, none⟩ 1 [.int .i64 2, .string (decS j)] rfl rfl (two_new W (.int .i64 2) (.string (decS j)) 37) (by simp [Value.oneCell']) (by omega) (by simp; omega) rfl ?_; intro g3 c3 w3 hown3 hg3 hd3)
          go_meet
          have e : G = F j ++ [⟨2, decS j⟩] := by rw [← HG.out]; simp
          refine ⟨some ⟨g3, 0, none⟩, c3, by rw [e]; simp, ?_, ?_, ?_, ?_⟩
          · unfold Fown
            rw [e, List.length_append, fcs_snoc]
            exact hown3
          · exact hg3.cell ((World.cell?_alloc_lt W _ _ zp).trans k0) (fun e => absurd (HNE.out _ e.symm) (Nat.lt_irrefl _))
          · exact hg3.cell ((World.cell?_alloc_lt W _ _ zp).trans k1) (fun e => absurd (HNE.out _ e.symm) (Nat.lt_irrefl _))
          · exact (BW.alloc zW _).grown hg3 (by simp; omega) (fun q' e => (World.ownsRow.lt HOW.out _ e).1)
      clear k0 k1
      obtain ⟨A2, c2, rfl, hown2, k0, k1, BC⟩ := hcut
      have zC := BC.size
      have HOC := Lib.hid hown2
      clear hown2
      go_upto_region 10 with fail
      go_cut [75] (fun v wx => v = .bool fo ∧ ∃ n, wx = wc.drewN n)
      case first =>
        rcases j with _ | k
        · have HE : Hid (fo = false) := Lib.hid (by rw [← HFO.out]; rfl)
          have hj0 : ¬ (0 : Int) < ((0 : Nat) : Int) := by omega
          go_quiet (fail)
          go_wp2
          go_meet
          exact ⟨by rw [HE.out], _, rfl⟩
        · obtain ⟨x, hx⟩ : ∃ x, l[k]? = some x := ⟨_, List.getElem?_eq_getElem (by rw [HM.out]; omega)⟩
          obtain ⟨ad2, hadeq, hadb2, ⟨n0, n1⟩, hxf⟩ := row_Pt (hL.below BC) hx
          obtain rfl : ad = ad2 := Option.some.inj hadeq
          have HE : Hid (fo = (decide (pt ≤ x.t) || decide (pa < x.a))) := Lib.hid (by rw [← HFO.out]; unfold tvFifo; simp only [hx]; rw [← HT.out, ← HA.out])
          have hj0 : (0 : Int) < ((k + 1 : Nat) : Int) := by omega
          have hj1 : IntKind.i64.wrap (((k + 1 : Nat) : Int) - 1) = (k : Int) := by rw [IntWalk.i64_in _ (by omega)]; omega
          clear hx hadeq
          cases hc1 : decide (pt ≤ x.t)
          · have HE2 : Hid (fo = decide (pa < x.a)) := Lib.hid (by rw [HE.out, hc1]; rfl)
            go_quiet (fail)
            go_wp2
            go_meet
            exact ⟨by rw [HE2.out], _, rfl⟩
          · have HE2 : Hid (fo = true) := Lib.hid (by rw [HE.out, hc1]; rfl)
            go_quiet (fail)
            go_wp2
            go_meet
            exact ⟨by rw [HE2.out], _, rfl⟩
      obtain ⟨h75, nq, hw75⟩ := hcut
      subst h75
      have ownD := own_below HOC.out (bel_drewN (Below.refl _ _) nq)
      have BD2 := bel_drewN BC nq
      rw [← hw75] at ownD BD2
      clear k0 k1 hw75
      go_upto_if 75 with fail
      have zD := BD2.size
      cases fo
      · have HE : Hid (F (j + 1) = G) := Lib.hid (by rw [HP3.out]; simp)
        go_wp2
        go_roundw
        case rel => exact ⟨j + 1, A2, c2, by omega, by go_num, by rw [HE.out], by rw [HE.out]; exact ownD, BD2⟩
        case measure => simp [intOf]; omega
      · have HE : Hid (F (j + 1) = G ++ [⟨13, decS j⟩]) := Lib.hid (by rw [HP3.out]; simp)
        have HOD := Lib.hid ownD
        clear ownD
        obtain ⟨wd, hwd⟩ : ∃ wd : World, wd = wd := ⟨w, rfl⟩
        clear hwd wd
        go_wp2_with (at_builtin; refine wpList_app fault_elem _ _ rfl w.heap.size A2 G.length c2 (fcs G) rfl (World.ownsRow.alloc HOD.out _) ⟨_, 0, none⟩ 1 [.int .i64 13, .string (decS j)] rfl rfl (two_new _ (.int .i64 13) (.string (decS j)) 37) (by simp [Value.oneCell']) (by omega) (by simp; omega) rfl ?_; intro g3 c3 w3 hown3 hg3 hd3)
        go_roundw
        case rel => exact ⟨j + 1, some ⟨g3, 0, none⟩, c3, by omega, by go_num, by rw [HE.out, List.length_append]; rfl, by unfold Fown; rw [HE.out, List.length_append, fcs_snoc]; exact hown3, (BD2.alloc zD _).grown hg3 (by simp; omega) (fun q' e => (World.ownsRow.lt HOD.out _ e).1)⟩
        case measure => simp [intOf]; omega
    · have hjm : j = m := by omega
      subst hjm
      go_wp2
      go_ret
      rw [HF.out]
      exact ⟨A', c', rfl, hown, hB⟩
end Go.Proofs.YtceceomaheobhaaGreatDoor.trv

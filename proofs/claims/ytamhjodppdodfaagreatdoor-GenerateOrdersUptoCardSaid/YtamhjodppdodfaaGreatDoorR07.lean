/- The reference's check of a travel function. -/
import Derived.Test.YtamhjodppdodfaaGreatDoorZ2
import Derived.Test.YtamhjodppdodfaaGreatDoorPshF
import Derived.Deep.DeepCutAuto
import Derived.Deep.QuietTactic
import Derived.BigQuiet
import Derived.IntWalk
namespace Go.Proofs.YtamhjodppdodfaaGreatDoor.rnet
open Go.RowKit
open Go.Proofs.YtamhjodppdodfaaGreatDoor.lib Go.Proofs.YtamhjodppdodfaaGreatDoor.rd Go.Proofs.YtamhjodppdodfaaGreatDoor.typ Go.Proofs.YtamhjodppdodfaaGreatDoor.app Go.Proofs.YtamhjodppdodfaaGreatDoor.note Go.Proofs.YtamhjodppdodfaaGreatDoor.mrk Go.Proofs.YtamhjodppdodfaaGreatDoor.trv Go.Proofs.YtamhjodppdodfaaGreatDoor.flts Go.Proofs.YtamhjodppdodfaaGreatDoor.txt
set_option linter.unusedVariables false
set_option linter.unusedSimpArgs false

theorem bad_cases (p : Pt) : (tvBad p = true ∧ p.t < 0) ∨ (tvBad p = true ∧ ¬ p.t < 0 ∧ 4096 < p.t) ∨ (tvBad p = decide (p.a < p.t ∨ p.t + 4096 < p.a) ∧ ¬ p.t < 0 ∧ ¬ 4096 < p.t) := by
  unfold tvBad inB
  by_cases h1 : p.t < 0
  · left
    refine ⟨?_, h1⟩
    simp
    omega
  · by_cases h2 : 4096 < p.t
    · right; left
      refine ⟨?_, h1, h2⟩
      simp
      omega
    · right; right
      refine ⟨?_, h1, h2⟩
      rw [Bool.eq_iff_iff]
      simp
      omega
set_option maxRecDepth 20000 in
set_option maxHeartbeats 4000000 in
theorem rtv_any (A0 : Option Addr) (d0 : Nat) (l : List Pt) (w : World) (hL : RowAt rPt w w.heap.size A0 l) (hl : l.length ≤ 10000000) :
    Calls Tryz.prog 71 #[.slice A0 l.length d0] w (FltsOut w (tvTo l l.length)) := by
  obtain ⟨m, hm⟩ : ∃ m, l.length = m := ⟨_, rfl⟩
  have HM := Lib.hid hm
  obtain ⟨F, hF⟩ : ∃ F, tvTo l = F := ⟨_, rfl⟩
  have HF := Lib.hid hF
  have hFl : ∀ j, (F j).length ≤ 1 + 2 * j := fun j => by rw [← hF]; exact tvTo_len _ j
  have HF0 : Hid (F 0 = if szB m = true then [⟨4, ⟨#[]⟩⟩] else []) := Lib.hid (by rw [← hF, ← hm]; rfl)
  rw [hm] at hl ⊢
  rw [hF]
  clear hm hF
  have B0 : Below w.heap.size w w := Below.refl _ _
  go_enter Tryz.func71, Tryz.ntmps71
  go_upto_region 2 with fail
  go_cut [13] (fun v wx => v = .bool (szB m) ∧ w = wx)
  case first =>
    by_cases h0 : m = 0
    · subst h0
      go_wp2
      go_meet
      exact ⟨rfl, rfl⟩
    · have e0 : ¬ (m : Int) < 1 := by omega
      have HE : Hid (szB m = decide (16 < m)) := Lib.hid (by unfold szB; simp [h0])
      by_cases hq : 16 < m
      · have e1 : (16 : Int) < (m : Int) := by omega
        have HQ := Lib.hid (decide_eq_true hq)
        clear h0 hq
        go_wp2
        go_meet
        exact ⟨by rw [HE.out, HQ.out], rfl⟩
      · have e1 : ¬ (16 : Int) < (m : Int) := by omega
        have HQ := Lib.hid (decide_eq_false hq)
        clear h0 hq
        go_wp2
        go_meet
        exact ⟨by rw [HE.out, HQ.out], rfl⟩
  obtain ⟨h13, rfl⟩ := hcut
  subst h13
  go_upto_if 13 with fail
  go_cut [3] (fun v wx => ∃ A c, v = .slice A (F 0).length c ∧ Fown wx w.heap.size A c (F 0) ∧ Below w.heap.size w wx)
  case first => as_aux_lemma =>
    cases hs : szB m
    · have hE : Hid (F 0 = []) := Lib.hid (by rw [HF0.out, hs]; rfl)
      clear hs
      go_wp2
      go_meet
      exact ⟨none, 0, by rw [hE.out]; rfl, by rw [hE.out]; exact Fown.nil _ _, B0⟩
    · have hE : Hid (F 0 = [] ++ [⟨4, ⟨#[]⟩⟩]) := Lib.hid (by rw [HF0.out, hs]; rfl)
      have HO := Lib.hid (Fown.nil w w.heap.size)
      clear hs
      go_wp2_with (at_builtin; refine wpList_pushF rfl _ _ rfl w.heap.size none ([]) 0 rfl HO.out (⟨4, ⟨#[]⟩⟩) (F 0) hE.out rfl (by first | omega | decide) (by omega) ?_; intro g3 c3 w3 hown3 hb3 hs3 hk3 hd3)
      go_meet
      exact ⟨_, _, rfl, hown3, hb3⟩
  obtain ⟨A, c, h3, hown, hB⟩ := hcut
  subst h3
  go_upto_region 5 with fail
  go_loopw [3, 4, 5] (fun v i _ wr => ∃ (j : Nat) (A : Option Addr) (c : Nat), j ≤ m ∧ i = .int .i64 j ∧ v = .slice A (F j).length c ∧ Fown wr w.heap.size A c (F j) ∧ Below w.heap.size w wr) (fun _ i _ _ => m - (intOf i).toNat)
  case atStart => exact ⟨0, A, c, by omega, rfl, rfl, hown, hB⟩
  case round =>
    clear hown hB
    obtain ⟨j, A, c, hj, rfl, rfl, hown, hB⟩ := hrel
    have hz := hB.size
    by_cases hlt : j < m
    · obtain ⟨p, hp⟩ : ∃ p, l[j]? = some p := ⟨_, List.getElem?_eq_getElem (by rw [HM.out]; exact hlt)⟩
      obtain ⟨ad, rfl, hadb, ⟨m0, m1⟩, hpf⟩ := row_Pt (hL.below hB) hp
      have hj0 : (0 : Int) ≤ (j : Int) := by omega
      have hjn : (j : Int) < (m : Int) := by omega
      have hjd : j < 1000000000000000000 := by omega
      have hFj := hFl j
      have HP : Hid (F (j + 1) = F j ++ tvP l j p) := Lib.hid (by rw [← HF.out, tvTo_succ hp])
      have HLS := Lib.hid hp
      have HFO := Lib.hid (Eq.refl (tvFifo l j p))
      have HNE : Hid (∀ q, (Value.slice A (F j).length c).ownBlock = some q → q < wr.heap.size) := Lib.hid fun q e => (World.ownsRow.lt hown q e).2
      obtain ⟨bad, hbad⟩ : ∃ q, tvBad p = q := ⟨_, rfl⟩
      obtain ⟨fo, hfo⟩ : ∃ q, tvFifo l j p = q := ⟨_, rfl⟩
      obtain ⟨G, hG⟩ : ∃ G : List Flt, F j ++ (if bad = true then [⟨2, decS j⟩] else []) = G := ⟨_, rfl⟩
      have hGl : G.length ≤ 2 + 2 * j := by rw [← hG, List.length_append]; split <;> simp <;> omega
      have HG := Lib.hid hG
      have HP2 : Hid (F (j + 1) = G ++ (if fo = true then [⟨13, decS j⟩] else [])) := Lib.hid (by rw [HP.out, ← hG, List.append_assoc]; unfold tvP; rw [hbad, hfo])
      have HBAD := Lib.hid hbad
      have HFF := Lib.hid hfo
      clear hp hbad hfo hG HP
      go_upto_region 8 with fail
      obtain ⟨W, hW⟩ : ∃ W, wr.alloc (.cells #[.int .i64 p.t, .int .i64 p.a] 87) = W := ⟨_, rfl⟩
      have k0 : W.cell? ⟨wr.heap.size, 0, none⟩ = some (.int .i64 p.t) := by rw [← hW]; exact two_new wr _ _ _ 0 _ rfl
      have k1 : W.cell? ⟨wr.heap.size, 1, none⟩ = some (.int .i64 p.a) := by rw [← hW]; exact two_new wr _ _ _ 1 _ rfl
      have HO : Hid (Fown W w.heap.size A c (F j)) := Lib.hid (by rw [← hW]; exact World.ownsRow.alloc hown _)
      have zp : wr.heap.size < W.heap.size := by rw [← hW]; simp
      have BW : Below w.heap.size w W := by rw [← hW]; exact hB.alloc hz _
      rw [hW]
      clear hW m0 m1 hown
      obtain ⟨P, hP⟩ : ∃ P, wr.heap.size = P := ⟨_, rfl⟩
      rw [hP] at k0 k1 zp HNE hz ⊢
      clear hP
      have zW : w.heap.size ≤ W.heap.size := BW.size
      obtain ⟨pt, hpt⟩ : ∃ x, p.t = x := ⟨_, rfl⟩
      obtain ⟨pa, hpa⟩ : ∃ x, p.a = x := ⟨_, rfl⟩
      have hpf' := hpf
      unfold PtFits at hpf'
      have hbc := bad_cases p
      rw [HBAD.out] at hbc
      have HPT := Lib.hid (And.intro hpt hpa)
      rw [hpt, hpa] at hpf' hbc
      rw [hpt] at k0
      rw [hpa] at k1
      obtain ⟨⟨t1, t2⟩, t3, t4⟩ := hpf'
      clear hpt hpa hpf
      go_cut [50] (fun v wx => v = .bool bad ∧ W = wx)
      case first => as_aux_lemma =>
        rcases hbc with ⟨hb, h1⟩ | ⟨hb, h1, h2⟩ | ⟨hb, h1, h2⟩
        · have HE := Lib.hid hb
          clear hb
          go_wp2
          go_meet
          exact ⟨by rw [HE.out], rfl⟩
        · have HE := Lib.hid hb
          clear hb
          go_wp2
          go_meet
          exact ⟨by rw [HE.out], rfl⟩
        · by_cases h3 : pa < pt
          · have HE : Hid (bad = true) := Lib.hid (by rw [hb]; exact decide_eq_true (.inl h3))
            clear hb
            go_wp2
            go_meet
            exact ⟨by rw [HE.out], rfl⟩
          · by_cases h4 : pt + 4096 < pa
            · have HE : Hid (bad = true) := Lib.hid (by rw [hb]; exact decide_eq_true (.inr h4))
              clear hb
              go_wp2
              go_meet
              exact ⟨by rw [HE.out], rfl⟩
            · have HE : Hid (bad = false) := Lib.hid (by rw [hb]; exact decide_eq_false (by omega))
              clear hb
              go_wp2
              go_meet
              exact ⟨by rw [HE.out], rfl⟩
      obtain ⟨h50, hwc⟩ := hcut
      subst h50
      subst hwc
      clear hbc
      go_upto_if 50 with fail
      go_cut [3] (fun v wx => ∃ A2 c2, v = .slice A2 G.length c2 ∧ Fown wx w.heap.size A2 c2 G ∧ wx.cell? ⟨P, 0, none⟩ = some (.int .i64 pt) ∧ wx.cell? ⟨P, 1, none⟩ = some (.int .i64 pa) ∧ Below w.heap.size w wx)
      case first => as_aux_lemma =>
        cases bad
        · go_wp2
          go_meet
          have e : F j = G := by rw [← HG.out]; simp
          exact ⟨A, c, by rw [e], by rw [← e]; exact HO.out, k0, k1, BW⟩
        · have hE : Hid (G = F j ++ [⟨2, decS j⟩]) := Lib.hid (by rw [← HG.out]; simp)
          go_wp2_with (first | (go_at_call 20; refine (rdec_any j hjd _).mono ?_; rintro e w2 ⟨rfl, hdw2⟩; have hz2 := hdw2.size; have HO2 := Lib.hid (HO.out.below hdw2)) | (at_builtin; refine wpList_pushF rfl _ _ rfl w.heap.size A (F j) c rfl HO2.out (⟨2, decS j⟩) (G) hE.out rfl (by first | omega | decide) (by omega) ?_; intro g3 c3 w3 hown3 hb3 hs3 hk3 hd3))
          go_meet
          have hkp := hk3 P (by omega) (fun e => absurd (HNE.out P e) (Nat.lt_irrefl _))
          exact ⟨_, _, rfl, hown3, cell_heap hkp ((hdw2.cell (p := ⟨P, 0, none⟩) zp).trans k0), cell_heap hkp ((hdw2.cell (p := ⟨P, 1, none⟩) zp).trans k1), BW.trans ((hdw2.mono zW).trans (hb3.mono (Nat.le_refl _)))⟩
      clear k0 k1
      obtain ⟨A2, c2, h3, hown2, k0, k1, BC⟩ := hcut
      subst h3
      have zC := BC.size
      have HOC := Lib.hid hown2
      clear hown2
      go_upto_region 10 with fail
      go_cut [80] (fun v wx => v = .bool fo ∧ ∃ n, wx = wc.drewN n)
      case first => as_aux_lemma =>
        rcases j with _ | k
        · have HE : Hid (fo = false) := Lib.hid (by rw [← HFF.out]; rfl)
          have hj0 : ¬ (0 : Int) < ((0 : Nat) : Int) := by omega
          go_quiet (fail)
          go_wp2
          go_meet
          exact ⟨by rw [HE.out], _, rfl⟩
        · obtain ⟨x, hx⟩ : ∃ x, l[k]? = some x := ⟨_, List.getElem?_eq_getElem (by rw [HM.out]; omega)⟩
          obtain ⟨ad2, hadeq, hadb2, ⟨n0, n1⟩, hxf⟩ := row_Pt (hL.below BC) hx
          obtain rfl : ad = ad2 := Option.some.inj hadeq
          have HE : Hid (fo = (decide (pt ≤ x.t) || decide (pa < x.a))) := Lib.hid (by rw [← HFF.out]; unfold tvFifo; simp only [hx]; rw [← HPT.out.1, ← HPT.out.2])
          have hj0 : (0 : Int) < ((k + 1 : Nat) : Int) := by omega
          have hj1 : IntKind.i64.wrap (((k + 1 : Nat) : Int) - 1) = (k : Int) := by rw [IntWalk.i64_in _ (by omega)]; omega
          clear hx hadeq
          cases hc1 : decide (pt ≤ x.t)
          · have HE2 : Hid (fo = decide (pa < x.a)) := Lib.hid (by rw [HE.out, hc1]; rfl)
            go_quiet (fail)
            go_wp2
            go_meet
            exact ⟨by rw [HE2.out], _, rfl⟩
          · have HE2 : Hid (fo = true) := Lib.hid (by rw [HE.out, hc1]; rfl)
            go_quiet (fail)
            go_wp2
            go_meet
            exact ⟨by rw [HE2.out], _, rfl⟩
      obtain ⟨h80, nq, hw80⟩ := hcut
      subst h80
      have ownD := HOC.out.below (bel_drewN (Below.refl _ _) nq)
      have BD2 := bel_drewN BC nq
      rw [← hw80] at ownD BD2
      clear k0 k1 hw80
      go_upto_if 80 with fail
      have zD := BD2.size
      have HOD := Lib.hid ownD
      clear ownD
      cases fo
      · have HE : Hid (F (j + 1) = G) := Lib.hid (by rw [HP2.out]; simp)
        go_wp2
        go_roundw
        case rel => exact ⟨j + 1, A2, c2, by omega, by go_num, by rw [HE.out], by rw [HE.out]; exact HOD.out, BD2⟩
        case measure => simp [intOf]; omega
      · have hE : Hid (F (j + 1) = G ++ [⟨13, decS j⟩]) := Lib.hid (by rw [HP2.out]; simp)
        go_wp2_with (first | (go_at_call 20; refine (rdec_any j hjd _).mono ?_; rintro e w2 ⟨rfl, hdw2⟩; have hz2 := hdw2.size; have HO2 := Lib.hid (HOD.out.below hdw2)) | (at_builtin; refine wpList_pushF rfl _ _ rfl w.heap.size A2 (G) c2 rfl HO2.out (⟨13, decS j⟩) (F (j + 1)) hE.out rfl (by first | omega | decide) (by omega) ?_; intro g3 c3 w3 hown3 hb3 hs3 hk3 hd3))
        go_roundw
        case rel => exact ⟨j + 1, _, _, by omega, by go_num, rfl, hown3, BD2.trans ((hdw2.mono zD).trans (hb3.mono (Nat.le_refl _)))⟩
        case measure => simp [intOf]; omega
    · have hjm : j = m := by omega
      subst hjm
      go_wp2
      go_ret
      exact ⟨A, c, rfl, hown, hB⟩
end Go.Proofs.YtamhjodppdodfaaGreatDoor.rnet

/- The violations of orders: Check of the reference. -/
import Derived.Test.YtamhjodppdodfaaGreatDoorR11B
import Derived.Test.YtamhjodppdodfaaGreatDoorZ1
import Derived.Test.YtamhjodppdodfaaGreatDoorPshF
namespace Go.Proofs.YtamhjodppdodfaaGreatDoor.rord
open Go.RowKit
open Go.Proofs.YtamhjodppdodfaaGreatDoor.lib Go.Proofs.YtamhjodppdodfaaGreatDoor.rd Go.Proofs.YtamhjodppdodfaaGreatDoor.typ Go.Proofs.YtamhjodppdodfaaGreatDoor.txt Go.Proofs.YtamhjodppdodfaaGreatDoor.app Go.Proofs.YtamhjodppdodfaaGreatDoor.flts Go.Proofs.YtamhjodppdodfaaGreatDoor.ord Go.Proofs.YtamhjodppdodfaaGreatDoor.note Go.Proofs.YtamhjodppdodfaaGreatDoor.mrk
set_option linter.unusedVariables false
set_option linter.unusedSimpArgs false

set_option maxRecDepth 20000 in
set_option maxHeartbeats 4000000 in
theorem rocheck_any (n : Nat) (A0 : Option Addr) (d0 : Nat) (A1 : Option Addr) (n1 d1 : Nat) (dims types : Int) (A : Option Addr) (c : Nat) (l : List Ord) (w : World) (hL : RowAt rOrd w w.heap.size A l) (hl : l.length ≤ 10000000) (hn : n ≤ 17592186043904) :
    Calls Tryz.prog 30 #[.agg #[.slice A0 n d0, .slice A1 n1 d1], .int .i64 dims, .int .i64 types, .slice A l.length c] w (FltsOut w (ofltsTo ((n : Int) - 1) dims types l l.length)) := by
  obtain ⟨m, hm⟩ : ∃ m, l.length = m := ⟨_, rfl⟩
  have HM := Lib.hid hm
  obtain ⟨F, hF⟩ : ∃ F, ofltsTo ((n : Int) - 1) dims types l = F := ⟨_, rfl⟩
  have HF := Lib.hid hF
  have hFl : ∀ j, (F j).length ≤ 1 + 8 * j := fun j => by rw [← hF]; exact ofltsTo_len _ _ _ _ j
  have HF0 : Hid (F 0 = if m ≤ 10 then [] else [⟨4, ⟨#[]⟩⟩]) := Lib.hid (by rw [← hF, ← hm]; rfl)
  obtain ⟨W0, hW0⟩ : ∃ W0, w.alloc (.cells #[.slice A0 n d0, .slice A1 n1 d1] 25) = W0 := ⟨_, rfl⟩
  have hB0 : Below w.heap.size w W0 := by rw [← hW0]; exact (Below.refl _ _).alloc (Nat.le_refl _) _
  have z0 := hB0.size
  have hs0 : w.heap.size < W0.heap.size := by rw [← hW0]; simp
  have HS : Hid (∀ w', Below W0.heap.size W0 w' → w'.cell? ⟨w.heap.size, 0, none⟩ = some (.slice A0 n d0)) := Lib.hid fun w' h => by
    have hk := fun (o : Nat) => h.cell (p := ⟨w.heap.size, o, none⟩) hs0
    refine (hk _).trans ?_
    rw [← hW0]; simp
  have HC : Hid (∀ w' (i : Nat) t, Below W0.heap.size W0 w' → l[i]? = some t → Calls Tryz.prog 55 #[.int .i64 n, .int .i64 dims, .int .i64 types, .slice A m c, .int .i64 i] w' (ErrsOut w' (errsO ((n : Int) - 1) dims types l i t))) := Lib.hid fun w' i t h hi => by
    have hb := hB0.trans (h.mono z0)
    have h1 := rrules_any n dims types A c l i t w' ((hL.below hb).more hb.size) hi hn
    rw [hm] at h1
    exact h1
  have B0 : Below W0.heap.size W0 W0 := Below.refl _ _
  have HW0 := Lib.hid hW0
  rw [hm] at hl ⊢
  rw [hF]
  clear hm hF hW0 hL
  go_enter Tryz.func30, Tryz.ntmps30
  go_upto_region 2 with fail
  rw [HW0.out]
  go_cut [15] (fun v wx => v = .bool (decide (10 < m)) ∧ W0 = wx)
  case first => as_aux_lemma =>
    have hE : decide ((10 : Int) < (m : Int)) = decide (10 < m) := by rw [Bool.eq_iff_iff]; simp; omega
    have HE := Lib.hid hE
    clear hE
    go_wp2
    go_meet
    exact ⟨by rw [HE.out], rfl⟩
  obtain ⟨h15, hwc⟩ := hcut
  subst h15
  subst hwc
  go_upto_if 15 with fail
  go_cut [9] (fun v wx => ∃ A' c', v = .slice A' (F 0).length c' ∧ Fown wx W0.heap.size A' c' (F 0) ∧ Below W0.heap.size W0 wx)
  case first => as_aux_lemma =>
    cases hq : decide (10 < m)
    · have hE : Hid (F 0 = []) := Lib.hid (by rw [HF0.out, if_pos (by have := of_decide_eq_false hq; omega)])
      clear hq
      go_wp2
      go_meet
      exact ⟨none, 0, by rw [hE.out]; rfl, by rw [hE.out]; exact Fown.nil _ _, B0⟩
    · have hE : Hid (F 0 = [] ++ [⟨4, ⟨#[]⟩⟩]) := Lib.hid (by rw [HF0.out, if_neg (by have := of_decide_eq_true hq; omega)]; rfl)
      have HO := Lib.hid (Fown.nil W0 W0.heap.size)
      clear hq
      go_wp2_with (at_builtin; refine wpList_pushF rfl _ _ rfl W0.heap.size none ([]) 0 rfl HO.out (⟨4, ⟨#[]⟩⟩) (F 0) hE.out rfl (by first | omega | decide) (by omega) ?_; intro g3 c3 w3 hown3 hb3 hs3 hk3 hd3)
      go_meet
      exact ⟨_, _, rfl, hown3, hb3⟩
  obtain ⟨A', c', hv, hown, hB⟩ := hcut
  subst hv
  go_upto_region 5 with fail
  go_loopw [9, 10, 11, 12] (fun v k _ _ wr => ∃ (j : Nat) (A' : Option Addr) (c' : Nat), j ≤ m ∧ k = .int .i64 j ∧ v = .slice A' (F j).length c' ∧ Fown wr W0.heap.size A' c' (F j) ∧ Below W0.heap.size W0 wr) (fun _ k _ _ _ => m - (intOf k).toNat)
  case atStart => exact ⟨0, A', c', by omega, rfl, rfl, hown, hB⟩
  case round =>
    clear hown hB
    obtain ⟨j, A', c', hj, rfl, rfl, hown, hB⟩ := hrel
    have hz := hB.size
    by_cases hlt : j < m
    · obtain ⟨t, ht⟩ : ∃ t, l[j]? = some t := ⟨_, List.getElem?_eq_getElem (by rw [HM.out]; exact hlt)⟩
      have herr := HC.out _ j t hB ht
      obtain ⟨E, hE⟩ : ∃ E, errsO ((n : Int) - 1) dims types l j t = E := ⟨_, rfl⟩
      have hE8 : E.length ≤ 8 := by rw [← hE]; exact errsO_len _ _ _ _ _ _
      have HFS : Hid (F (j + 1) = F j ++ mkF j E) := Lib.hid (by rw [← HF.out, ofltsTo_succ ht, hE])
      have hFj := hFl j
      rw [hE] at herr
      have HK := Lib.hid herr
      have hj0 : (0 : Int) ≤ (j : Int) := by omega
      have hjn : (j : Int) < (m : Int) := by omega
      have x0 := HS.out _ hB
      clear ht hE herr
      obtain ⟨U, hU⟩ : ∃ U : Nat → List Flt, (fun q => F j ++ mkF j (E.take q)) = U := ⟨_, rfl⟩
      have HU0 : Hid (U 0 = F j) := Lib.hid (by rw [← hU]; simp [mkF])
      have HUT : Hid (F (j + 1) = U E.length) := Lib.hid (by rw [← hU, HFS.out]; simp)
      have HUS : Hid (∀ (q : Nat) x, E[q]? = some x → U (q + 1) = U q ++ [⟨x, decS j⟩]) := Lib.hid fun q x hx => by
        rw [← hU]
        show F j ++ mkF j (E.take (q + 1)) = F j ++ mkF j (E.take q) ++ [⟨x, decS j⟩]
        rw [mkF_take hx, List.append_assoc]
      have hUl : ∀ q, (U q).length ≤ 9 + 8 * j := fun q => by
        rw [← hU]
        show (F j ++ mkF j (E.take q)).length ≤ _
        unfold mkF
        rw [List.length_append, List.length_map, List.length_take]
        omega
      clear hU HFS
      go_upto_region 8 with (go_at_call 55; refine HK.out.mono ?_; rintro e w1 ⟨Ae, ce, rfl, hownE, hb1⟩)
      obtain ⟨gE, hgE1, hgE2, hgE3⟩ := row_place hownE
      have s1 := hb1.size
      have hown1 : Fown w1 W0.heap.size A' c' (U 0) := by rw [HU0.out]; exact hown.below hb1
      have hne : (Value.slice A' (U 0).length c').ownBlock ≠ some gE := by
        intro e
        rw [HU0.out] at e
        have := (World.ownsRow.lt hown gE e).2
        omega
      have hB1 : Below W0.heap.size W0 w1 := hB.trans (hb1.mono hz)
      have z1 := hB1.size
      have HNE := Lib.hid hne
      have HG3 := Lib.hid hgE3
      have hv0 : (F j).length = (U 0).length := by rw [HU0.out]
      have HV0 := Lib.hid hv0
      clear hownE hne hgE3 hown x0 hv0
      go_upto_region 9 with fail
      go_loopw [9, 12] (fun v k wr2 => ∃ (q : Nat) (A2 : Option Addr) (c2 : Nat), q ≤ E.length ∧ k = .int .i64 q ∧ v = .slice A2 (U q).length c2 ∧ Fown wr2 W0.heap.size A2 c2 (U q) ∧ Hid ((Value.slice A2 (U q).length c2).ownBlock ≠ some gE) ∧ Hid (∀ q, q < E.length → wr2.cell? ⟨gE, q, none⟩ = some (.int .i64 (E[q]?.getD 0))) ∧ Below W0.heap.size W0 wr2 ∧ w1.heap.size ≤ wr2.heap.size) (fun _ k _ => E.length - (intOf k).toNat)
      case atStart => exact ⟨0, A', c', by omega, rfl, by rw [HV0.out], hown1, HNE, HG3, hB1, Nat.le_refl _⟩
      case round =>
        clear hown1 HNE HG3
        obtain ⟨q, A2, c2, hq, rfl, rfl, hown2, hne2, hcs2, hB2, hs2⟩ := hrel
        have hz2 := hB2.size
        by_cases hlq : q < E.length
        · obtain ⟨rfl, hgw⟩ := hgE2 (by omega)
          obtain ⟨x, hx⟩ : ∃ x, E[q]? = some x := ⟨_, List.getElem?_eq_getElem hlq⟩
          have hcx : wr.cell? ⟨gE, q, none⟩ = some (.int .i64 x) := by have := hcs2.out q hlq; rw [hx] at this; exact this
          have hq0 : (0 : Int) ≤ (q : Int) := by omega
          have hqn : (q : Int) < (E.length : Int) := by omega
          have HT := Lib.hid (HUS.out q x hx)
          have hUq := hUl q
          clear hx hgE2
          have hgr : gE < wr.heap.size := by omega
          have hjd : j < 1000000000000000000 := by omega
          go_upto_region 11 with fail
          (refine wp_region_held_drew (S := (fun w' => w'.cell? ⟨gE, q, none⟩ = some (.int .i64 x))) (by kernel_rfl) ?_ (fun hHeld => ?_))
          · exact hcx
          (refine wpAnyH_take (i := 0) (v := ?_) rfl (by kernel_rfl) (by kernel_rfl) (by kernel_rfl) (fun _ _ _ h => h) (Or.inl ⟨by kernel_rfl, ?_⟩) (by assumption) ?_; rotate_left; (focus (intro w hSw; (try dsimp only at hSw); go_simp; all_goals with_reducible rfl)); (try simp only [Act.put, List.getElem_toArray, List.getElem_cons_succ, List.getElem_cons_zero, List.setIfInBounds_toArray, List.set_cons_zero, List.set_cons_succ]))
          (refine wpAnyH_take (i := 1) (v := ?_) rfl (by kernel_rfl) (by kernel_rfl) (by kernel_rfl) (fun _ _ _ h => h) (Or.inl ⟨by kernel_rfl, ?_⟩) (by assumption) ?_; rotate_left; (focus (intro w hSw; (try dsimp only at hSw); go_simp; all_goals with_reducible rfl)); (try simp only [Act.put, List.getElem_toArray, List.getElem_cons_succ, List.getElem_cons_zero, List.setIfInBounds_toArray, List.set_cons_zero, List.set_cons_succ]))
          (refine wpAnyH_take (i := 2) (v := ?_) rfl (by kernel_rfl) (by kernel_rfl) (by kernel_rfl) (fun _ _ _ h => h) (Or.inl ⟨by kernel_rfl, ?_⟩) (by assumption) ?_; rotate_left; (focus (intro w hSw; (try dsimp only at hSw); go_simp; all_goals with_reducible rfl)); (try simp only [Act.put, List.getElem_toArray, List.getElem_cons_succ, List.getElem_cons_zero, List.setIfInBounds_toArray, List.set_cons_zero, List.set_cons_succ]))
          (refine wpAnyH_take (i := 3) (v := ?_) rfl (by kernel_rfl) (by kernel_rfl) (by kernel_rfl) (fun _ _ _ h => h) (Or.inl ⟨by kernel_rfl, ?_⟩) (by assumption) ?_; rotate_left; (focus (intro w hSw; (try dsimp only at hSw); go_simp; all_goals with_reducible rfl)); (try simp only [Act.put, List.getElem_toArray, List.getElem_cons_succ, List.getElem_cons_zero, List.setIfInBounds_toArray, List.set_cons_zero, List.set_cons_succ]))
          (refine wpAnyH_take (i := 4) (v := ?_) rfl (by kernel_rfl) (by kernel_rfl) (by kernel_rfl) (fun _ _ _ h => h) (Or.inl ⟨by kernel_rfl, ?_⟩) (by assumption) ?_; rotate_left; (focus (intro w hSw; (try dsimp only at hSw); go_simp; all_goals with_reducible rfl)); (try simp only [Act.put, List.getElem_toArray, List.getElem_cons_succ, List.getElem_cons_zero, List.setIfInBounds_toArray, List.set_cons_zero, List.set_cons_succ]))
          (refine wpAnyH_take (i := 5) (v := ?_) rfl (by kernel_rfl) (by kernel_rfl) (by kernel_rfl) (fun _ _ _ h => h) (Or.inl ⟨by kernel_rfl, ?_⟩) (by assumption) ?_; rotate_left; (focus (intro w hSw; (try dsimp only at hSw); go_simp; all_goals with_reducible rfl)); (try simp only [Act.put, List.getElem_toArray, List.getElem_cons_succ, List.getElem_cons_zero, List.setIfInBounds_toArray, List.set_cons_zero, List.set_cons_succ]))
          (refine wpAnyH_ready (rs := [6]) (by kernel_rfl) (by simp) ?_; refine AllReadyH.cons rfl (fun K hK => ?_) AllReadyH.nil; go_simp)
          go_at_call 20
          refine (rdec_any j hjd _).mono ?_
          rintro e w3 ⟨rfl, hb3d⟩
          have hb3 : Below wr.heap.size wr w3 := ((Below.refl _ _).drew).trans (hb3d.mono (by simp))
          have s3 := hb3.size
          have hcx3 : w3.cell? ⟨gE, q, none⟩ = some (.int .i64 x) := (hb3.cell (p := ⟨gE, q, none⟩) hgr).trans hcx
          (refine hK.out _ _ ?_ (fun hHeld => ?_))
          · exact hcx3
          clear hK K
          (try simp only [Act.put, List.getElem_toArray, List.getElem_cons_succ, List.getElem_cons_zero, List.setIfInBounds_toArray, List.set_cons_zero, List.set_cons_succ])
          (refine wpAnyH_take (i := 7) (v := ?_) rfl (by kernel_rfl) (by kernel_rfl) (by kernel_rfl) (fun _ _ _ h => h) (Or.inl ⟨by kernel_rfl, ?_⟩) (by assumption) ?_; rotate_left; (focus (intro w hSw; (try dsimp only at hSw); go_simp; all_goals with_reducible rfl)); (try simp only [Act.put, List.getElem_toArray, List.getElem_cons_succ, List.getElem_cons_zero, List.setIfInBounds_toArray, List.set_cons_zero, List.set_cons_succ]))
          (refine wpAnyH_ready (rs := [8]) (by kernel_rfl) (by simp) ?_; refine AllReadyH.cons rfl (fun K hK => ?_) AllReadyH.nil; go_simp)
          have hcx4 : (w3.alloc (.cells #[.int .i64 x, .string (decS j)] 78)).cell? ⟨gE, q, none⟩ = some (.int .i64 x) := (World.cell?_alloc_lt w3 _ _ (show gE < w3.heap.size by omega)).trans hcx3
          (refine hK.out _ _ ?_ (fun hHeld => ?_))
          · exact hcx4
          clear hK K
          (try simp only [Act.put, List.getElem_toArray, List.getElem_cons_succ, List.getElem_cons_zero, List.setIfInBounds_toArray, List.set_cons_zero, List.set_cons_succ])
          (refine wpAnyH_ready (rs := [9]) (by kernel_rfl) (by simp) ?_; refine AllReadyH.cons rfl (fun K hK => ?_) AllReadyH.nil)
          refine step_app fault_elem _ _ rfl W0.heap.size A2 (U q).length c2 (fcs (U q)) rfl ((own_below hown2 hb3).alloc _) ⟨w3.heap.size, 0, none⟩ 1 [.int .i64 x, .string (decS j)] rfl rfl (two_new _ _ _ _) (by simp [Value.oneCell']) (by omega) (by simp; omega) rfl ?_
          intro g3 c3 w5 hown3 hg3 hd3
          (refine hK.out _ _ ?_ (fun hHeld => ?_))
          · exact hg3.cell hcx4 (by intro e; exact hne2.out e.symm)
          clear hK K
          (try simp only [Act.put, List.getElem_toArray, List.getElem_cons_succ, List.getElem_cons_zero, List.setIfInBounds_toArray, List.set_cons_zero, List.set_cons_succ])
          (refine wpAnyH_take (i := 10) (v := ?_) rfl (by kernel_rfl) (by kernel_rfl) (by kernel_rfl) (fun _ _ _ h => h) (Or.inl ⟨by kernel_rfl, ?_⟩) (by assumption) ?_; rotate_left; (focus (intro w hSw; (try dsimp only at hSw); go_simp; all_goals with_reducible rfl)); (try simp only [Act.put, List.getElem_toArray, List.getElem_cons_succ, List.getElem_cons_zero, List.setIfInBounds_toArray, List.set_cons_zero, List.set_cons_succ]))
          (refine wpAnyH_done (by kernel_rfl) ?_ _)
          have hlen : (U (q + 1)).length = (U q).length + 1 := by rw [HT.out]; simp
          have HLEN := Lib.hid hlen
          have HO2 := Lib.hid hown2
          have hgs := hg3.size
          simp at hgs
          have HG := Lib.hid hg3
          have HO3 := Lib.hid hown3
          clear hlen hown2 hg3 hown3 hcx hcx3 hcx4
          go_wp2
          go_roundw
          case rel =>
            refine ⟨q + 1, some ⟨g3, 0, none⟩, c3, by omega, by go_num, by rw [HLEN.out], ?_, Lib.hid ?_, Lib.hid ?_, ?_, ?_⟩
            · unfold Fown
              rw [HLEN.out, HT.out, fcs_snoc]
              exact HO3.out
            · intro e
              have e' : some g3 = some gE := e
              rcases hd3 with h | h
              · exact hne2.out (h.trans e')
              · injection e' with e'
                simp at h
                omega
            · intro q' hq'
              exact HG.out.cell ((World.cell?_alloc_lt w3 _ _ (show gE < w3.heap.size by omega)).trans ((hb3.cell (p := ⟨gE, q', none⟩) hgr).trans (hcs2.out q' hq'))) (by intro e; exact hne2.out e.symm)
            · exact ((hB2.trans (hb3.mono hz2)).alloc (by omega) _).grown HG.out (by simp; omega) (fun q' e => (World.ownsRow.lt HO2.out _ e).1)
            · omega
          case measure => simp [intOf]; omega
        · have hqE : q = E.length := by omega
          subst hqE
          go_wp2
          go_roundw
          case rel => exact ⟨j + 1, A2, c2, by omega, by go_num, by rw [HUT.out], by rw [HUT.out]; exact hown2, hB2⟩
          case measure => simp [intOf]; omega
    · have hjm : j = m := by omega
      subst hjm
      clear hlt
      go_wp2
      go_ret
      exact ⟨A', c', rfl, own_less hown z0, hB0.trans (hB.mono z0)⟩
end Go.Proofs.YtamhjodppdodfaaGreatDoor.rord

import Derived.Test.YthefooacfcagbaaGreatDoorR11B
import Derived.Test.YthefooacfcagbaaGreatDoorC1
import Derived.Test.YthefooacfcagbaaGreatDoorRefA
import Derived.Test.YthefooacfcagbaaGreatDoorR12A
import Derived.Test.YthefooacfcagbaaGreatDoorFltF
import Derived.Test.YthefooacfcagbaaGreatDoorC2
import Derived.Deep.DeepCutAuto
/- The violations of orders: Check of the reference. -/
namespace Go.Proofs.YthefooacfcagbaaGreatDoor.rord
open Go.RowKit
open lib rd typ txt app flts ord note mrk
set_option linter.unusedVariables false
set_option linter.unusedSimpArgs false
set_option maxRecDepth 20000 in
set_option maxHeartbeats 4000000 in
theorem rocheck_any (n : Nat) (A0 : Option Addr) (d0 : Nat) (A1 : Option Addr) (n1 d1 : Nat) (dims types : Int) (A : Option Addr) (c : Nat) (l : List Ord) (w : World) (hL : RowAt rOrd w w.heap.size A l) (hl : l.length ≤ 10000000) (hn : n ≤ 17592186043904) :
  Calls Tryz.prog 55 #[.agg #[.slice A0 n d0, .slice A1 n1 d1], .int .i64 dims, .int .i64 types, .slice A l.length c] w (FltsOut w (ofltsTo ((n : Int) - 1) dims types l l.length)) := by
 obtain ⟨m, hm⟩ : ∃ m, l.length = m := ⟨_, rfl⟩
 have HM := Lib.hid hm
 obtain ⟨F, hF⟩ : ∃ F, ofltsTo ((n : Int) - 1) dims types l = F := ⟨_, rfl⟩
 have HF := Lib.hid hF
 have hFl : ∀ j, (F j).length ≤ 1 + 8 * j := fun j => by rw [← hF]; exact ofltsTo_len _ _ _ _ j
 have HF0 : Hid (F 0 = if m ≤ 10 then [] else [⟨4, ⟨#[]⟩⟩]) := Lib.hid (by rw [← hF, ← hm]; rfl)
 obtain ⟨W0, hW0⟩ : ∃ W0, w.alloc (.cells #[.slice A0 n d0, .slice A1 n1 d1] 25) = W0 := ⟨_, rfl⟩
 have hB0 : Below w.heap.size w W0 := by rw [← hW0]; exact (Below.refl _ _).alloc (Nat.le_refl _) _
 have z0 := hB0.size
 have hs0 : w.heap.size < W0.heap.size := by rw [← hW0]; simp
 have HS : Hid (∀ w', Below W0.heap.size W0 w' → w'.cell? ⟨w.heap.size, 0, none⟩ = some (.slice A0 n d0)) := Lib.hid fun w' h => by
  have hk := fun (o : Nat) => h.cell (p := ⟨w.heap.size, o, none⟩) hs0
  refine (hk _).trans ?_
  rw [← hW0]; simp
 have HC : Hid (∀ w' (i : Nat) t, Below W0.heap.size W0 w' → l[i]? = some t → Calls Tryz.prog 94 #[.int .i64 n, .int .i64 dims, .int .i64 types, .slice A m c, .int .i64 i] w' (ErrsOut w' (errsO ((n : Int) - 1) dims types l i t))) := Lib.hid fun w' i t h hi => by
  have hb := hB0.trans (h.mono z0)
  have h1 := rrules_any n dims types A c l i t w' ((hL.below hb).more hb.size) hi hn
  rw [hm] at h1
  exact h1
 have B0 : Below W0.heap.size W0 W0 := Below.refl _ _
 have HW0 := Lib.hid hW0
 rw [hm] at hl ⊢
 rw [hF]
 clear hm hF hW0 hL
 go_enter Tryz.func55, Tryz.ntmps55
 go_upto_region 2 with fail
 rw [HW0.out]
 go_cut [15] (fun v wx => v = .bool (decide (10 < m)) ∧ W0 = wx)
 case first => as_aux_lemma =>
  have hE : decide ((10 : Int) < (m : Int)) = decide (10 < m) := by rw [Bool.eq_iff_iff]; simp; omega
  have HE := Lib.hid hE
  clear hE
  go_wp2
  go_meet
  exact ⟨by rw [HE.out], rfl⟩
 obtain ⟨h15, hwc⟩ := hcut
 subst h15
 subst hwc
 go_upto_if 15 with fail
 go_cut [9] (fun v wx => ∃ A' c', v = .slice A' (F 0).length c' ∧ Fown wx W0.heap.size A' c' (F 0) ∧ Below W0.heap.size W0 wx)
 case first => as_aux_lemma =>
  cases hq : decide (10 < m)
  ·have hE : Hid (F 0 = []) := Lib.hid (by rw [HF0.out, if_pos (by have := of_decide_eq_false hq; omega)])
   clear hq
   go_wp2
   go_meet
   exact ⟨none, 0, by rw [hE.out]; rfl, by rw [hE.out]; exact Fown.nil _ _, B0⟩
  ·have hE : Hid (F 0 = [] ++ [⟨4, ⟨#[]⟩⟩]) := Lib.hid (by rw [HF0.out, if_neg (by have := of_decide_eq_true hq; omega)]; rfl)
   have HO := Lib.hid (Fown.nil W0 W0.heap.size)
   clear hq
   go_wp2_with (at_builtin; refine wpList_pushF rfl _ _ rfl W0.heap.size none ([]) 0 rfl HO.out (⟨4, ⟨#[]⟩⟩) (F 0) hE.out rfl (by first | omega | decide) (by omega) ?_; intro g3 c3 w3 hown3 hb3 hs3 hk3 hd3)
   go_meet
   exact ⟨_, _, rfl, hown3, hb3⟩
 obtain ⟨A', c', hv, hown, hB⟩ := hcut
 subst hv
 go_upto_region 5 with fail
 go_loopw [9, 10, 11, 12] (fun v k _ _ wr => ∃ (j : Nat) (A' : Option Addr) (c' : Nat), j ≤ m ∧ k = .int .i64 j ∧ v = .slice A' (F j).length c' ∧ Fown wr W0.heap.size A' c' (F j) ∧ Below W0.heap.size W0 wr) (fun _ k _ _ _ => m - (intOf k).toNat)
 case atStart => exact ⟨0, A', c', by omega, rfl, rfl, hown, hB⟩
 case round =>
  clear hown hB
  obtain ⟨j, A', c', hj, rfl, rfl, hown, hB⟩ := hrel
  have hz := hB.size
  by_cases hlt : j < m
  ·obtain ⟨t, ht⟩ : ∃ t, l[j]? = some t := ⟨_, List.getElem?_eq_getElem (by rw [HM.out]; exact hlt)⟩
   have herr := HC.out _ j t hB ht
   obtain ⟨E, hE⟩ : ∃ E, errsO ((n : Int) - 1) dims types l j t = E := ⟨_, rfl⟩
   have hE8 : E.length ≤ 8 := by rw [← hE]; exact errsO_len _ _ _ _ _ _
   have HFS : Hid (F (j + 1) = F j ++ mkF j E) := Lib.hid (by rw [← HF.out, ofltsTo_succ ht, hE])
   have hFj := hFl j
   rw [hE] at herr
   have HK := Lib.hid herr
   have hj0 : (0 : Int) ≤ (j : Int) := by omega
   have hjn : (j : Int) < (m : Int) := by omega
   have x0 := HS.out _ hB
   clear ht hE herr
   obtain ⟨U, hU⟩ : ∃ U : Nat → List Flt, (fun q => F j ++ mkF j (E.take q)) = U := ⟨_, rfl⟩
   have HU0 : Hid (U 0 = F j) := Lib.hid (by rw [← hU]; simp [mkF])
   have HUT : Hid (F (j + 1) = U E.length) := Lib.hid (by rw [← hU, HFS.out]; simp)
   have HUS : Hid (∀ (q : Nat) x, E[q]? = some x → U (q + 1) = U q ++ [⟨x, decS j⟩]) := Lib.hid fun q x hx => by
    rw [← hU]
    show F j ++ mkF j (E.take (q + 1)) = F j ++ mkF j (E.take q) ++ [⟨x, decS j⟩]
    rw [mkF_take hx, List.append_assoc]
   have hUl : ∀ q, (U q).length ≤ 9 + 8 * j := fun q => by
    rw [← hU]
    show (F j ++ mkF j (E.take q)).length ≤ _
    unfold mkF
    rw [List.length_append, List.length_map, List.length_take]
    omega
   clear hU HFS
   go_upto_region 8 with (go_at_call 94; refine HK.out.mono ?_; rintro e w1 ⟨Ae, ce, rfl, hownE, hb1⟩)
   obtain ⟨gE, hgE1, hgE2, hgE3⟩ := row_place hownE
   have s1 := hb1.size
   have hown1 : Fown w1 W0.heap.size A' c' (U 0) := by rw [HU0.out]; exact hown.below hb1
   have hne : (Value.slice A' (U 0).length c').ownBlock ≠ some gE := by
    intro e
    rw [HU0.out] at e
    have := (World.ownsRow.lt hown gE e).2
    omega
   have hB1 : Below W0.heap.size W0 w1 := hB.trans (hb1.mono hz)
   have z1 := hB1.size
   have HNE := Lib.hid hne
   have HG3 := Lib.hid hgE3
   have hv0 : (F j).length = (U 0).length := by rw [HU0.out]
   have HV0 := Lib.hid hv0
   clear hownE hne hgE3 hown x0 hv0
   go_upto_region 9 with fail
   go_loopw [9, 12] (fun v k wr2 => ∃ (q : Nat) (A2 : Option Addr) (c2 : Nat), q ≤ E.length ∧ k = .int .i64 q ∧ v = .slice A2 (U q).length c2 ∧ Fown wr2 W0.heap.size A2 c2 (U q) ∧ Hid ((Value.slice A2 (U q).length c2).ownBlock ≠ some gE) ∧ Hid (∀ q, q < E.length → wr2.cell? ⟨gE, q, none⟩ = some (.int .i64 (E[q]?.getD 0))) ∧ Below W0.heap.size W0 wr2 ∧ w1.heap.size ≤ wr2.heap.size) (fun _ k _ => E.length - (intOf k).toNat)
   case atStart => exact ⟨0, A', c', by omega, rfl, by rw [HV0.out], hown1, HNE, HG3, hB1, Nat.le_refl _⟩
   case round =>
    clear hown1 HNE HG3
    obtain ⟨q, A2, c2, hq, rfl, rfl, hown2, hne2, hcs2, hB2, hs2⟩ := hrel
    have hz2 := hB2.size
    by_cases hlq : q < E.length
    ·obtain ⟨rfl, hgw⟩ := hgE2 (by omega)
     obtain ⟨x, hx⟩ : ∃ x, E[q]? = some x := ⟨_, List.getElem?_eq_getElem hlq⟩
     have hcx : wr.cell? ⟨gE, q, none⟩ = some (.int .i64 x) := by have := hcs2.out q hlq; rw [hx] at this; exact this
     have hq0 : (0 : Int) ≤ (q : Int) := by omega
     have hqn : (q : Int) < (E.length : Int) := by omega
     have HT := Lib.hid (HUS.out q x hx)
     have hUq := hUl q
     clear hx hgE2
     have hgr : gE < wr.heap.size := by omega
     have hjd : j < 1000000000000000000 := by omega
     go_upto_region 11 with fail
     (refine wp_region_held_drew (S := (fun w' => w'.cell? ⟨gE, q, none⟩ = some (.int .i64 x))) (by kernel_rfl) ?_ (fun hHeld => ?_))
     ·exact hcx
     (refine lib.tk 0 ?_ rfl (by kernel_rfl) (fun _ _ _ h => h) ?_ (by assumption) ?_; rotate_left; (focus (intro w hSw; (try dsimp only at hSw); go_simp; all_goals with_reducible rfl)); (try simp only [lib.hly]))
     (refine lib.tk 1 ?_ rfl (by kernel_rfl) (fun _ _ _ h => h) ?_ (by assumption) ?_; rotate_left; (focus (intro w hSw; (try dsimp only at hSw); go_simp; all_goals with_reducible rfl)); (try simp only [lib.hly]))
     (refine lib.tk 2 ?_ rfl (by kernel_rfl) (fun _ _ _ h => h) ?_ (by assumption) ?_; rotate_left; (focus (intro w hSw; (try dsimp only at hSw); go_simp; all_goals with_reducible rfl)); (try simp only [lib.hly]))
     (refine lib.tk 3 ?_ rfl (by kernel_rfl) (fun _ _ _ h => h) ?_ (by assumption) ?_; rotate_left; (focus (intro w hSw; (try dsimp only at hSw); go_simp; all_goals with_reducible rfl)); (try simp only [lib.hly]))
     (refine lib.tk 4 ?_ rfl (by kernel_rfl) (fun _ _ _ h => h) ?_ (by assumption) ?_; rotate_left; (focus (intro w hSw; (try dsimp only at hSw); go_simp; all_goals with_reducible rfl)); (try simp only [lib.hly]))
     (refine lib.tk 5 ?_ rfl (by kernel_rfl) (fun _ _ _ h => h) ?_ (by assumption) ?_; rotate_left; (focus (intro w hSw; (try dsimp only at hSw); go_simp; all_goals with_reducible rfl)); (try simp only [lib.hly]))
     (refine wpAnyH_ready (rs := [6]) (by kernel_rfl) (by simp) ?_; refine AllReadyH.cons rfl (fun K hK => ?_) AllReadyH.nil; go_simp)
     go_at_call 18
     refine (rdec_any j hjd _).mono ?_
     rintro e w3 ⟨rfl, hb3d⟩
     have hb3 : Below wr.heap.size wr w3 := ((Below.refl _ _).drew).trans (hb3d.mono (by simp))
     have s3 := hb3.size
     have hcx3 : w3.cell? ⟨gE, q, none⟩ = some (.int .i64 x) := (hb3.cell (p := ⟨gE, q, none⟩) hgr).trans hcx
     (refine hK.out _ _ ?_ (fun hHeld => ?_))
     ·exact hcx3
     clear hK K
     (try simp only [lib.hly])
     (refine lib.tk 7 ?_ rfl (by kernel_rfl) (fun _ _ _ h => h) ?_ (by assumption) ?_; rotate_left; (focus (intro w hSw; (try dsimp only at hSw); go_simp; all_goals with_reducible rfl)); (try simp only [lib.hly]))
     (refine wpAnyH_ready (rs := [8]) (by kernel_rfl) (by simp) ?_; refine AllReadyH.cons rfl (fun K hK => ?_) AllReadyH.nil; go_simp)
     have hcx4 : (w3.alloc (.cells #[.int .i64 x, .string (decS j)] 53)).cell? ⟨gE, q, none⟩ = some (.int .i64 x) := (World.cell?_alloc_lt w3 _ _ (show gE < w3.heap.size by omega)).trans hcx3
     (refine hK.out _ _ ?_ (fun hHeld => ?_))
     ·exact hcx4
     clear hK K
     (try simp only [lib.hly])
     (refine wpAnyH_ready (rs := [9]) (by kernel_rfl) (by simp) ?_; refine AllReadyH.cons rfl (fun K hK => ?_) AllReadyH.nil)
     refine step_app fault_elem _ _ rfl W0.heap.size A2 (U q).length c2 (fcs (U q)) rfl ((own_below hown2 hb3).alloc _) ⟨w3.heap.size, 0, none⟩ 1 [.int .i64 x, .string (decS j)] rfl rfl (two_new _ _ _ _) (by simp [Value.oneCell']) (by omega) (by simp; omega) rfl ?_
     intro g3 c3 w5 hown3 hg3 hd3
     (refine hK.out _ _ ?_ (fun hHeld => ?_))
     ·exact hg3.cell hcx4 (by intro e; exact hne2.out e.symm)
     clear hK K
     (try simp only [lib.hly])
     (refine lib.tk 10 ?_ rfl (by kernel_rfl) (fun _ _ _ h => h) ?_ (by assumption) ?_; rotate_left; (focus (intro w hSw; (try dsimp only at hSw); go_simp; all_goals with_reducible rfl)); (try simp only [lib.hly]))
     (refine wpAnyH_done (by kernel_rfl) ?_ _)
     have hlen : (U (q + 1)).length = (U q).length + 1 := by rw [HT.out]; simp
     have HLEN := Lib.hid hlen
     have HO2 := Lib.hid hown2
     have hgs := hg3.size
     simp at hgs
     have HG := Lib.hid hg3
     have HO3 := Lib.hid hown3
     clear hlen hown2 hg3 hown3 hcx hcx3 hcx4
     go_wp2
     go_roundw
     case rel =>
      refine ⟨q + 1, some ⟨g3, 0, none⟩, c3, by omega, by go_num, by rw [HLEN.out], ?_, Lib.hid ?_, Lib.hid ?_, ?_, ?_⟩
      ·unfold Fown
       rw [HLEN.out, HT.out, fcs_snoc]
       exact HO3.out
      ·intro e
       have e' : some g3 = some gE := e
       rcases hd3 with h | h
       ·exact hne2.out (h.trans e')
       ·injection e' with e'
        simp at h
        omega
      ·intro q' hq'
       exact HG.out.cell ((World.cell?_alloc_lt w3 _ _ (show gE < w3.heap.size by omega)).trans ((hb3.cell (p := ⟨gE, q', none⟩) hgr).trans (hcs2.out q' hq'))) (by intro e; exact hne2.out e.symm)
      ·exact ((hB2.trans (hb3.mono hz2)).alloc (by omega) _).grown HG.out (by simp; omega) (fun q' e => (World.ownsRow.lt HO2.out _ e).1)
      ·omega
     case measure => simp [intOf]; omega
    ·have hqE : q = E.length := by omega
     subst hqE
     go_wp2
     go_roundw
     case rel => exact ⟨j + 1, A2, c2, by omega, by go_num, by rw [HUT.out], by rw [HUT.out]; exact hown2, hB2⟩
     case measure => simp [intOf]; omega
  ·have hjm : j = m := by omega
   subst hjm
   clear hlt
   go_wp2
   go_ret
   exact ⟨A', c', rfl, own_less hown z0, hB0.trans (hB.mono z0)⟩
end Go.Proofs.YthefooacfcagbaaGreatDoor.rord

/- The reference's check of the rules. -/
namespace Go.Proofs.YthefooacfcagbaaGreatDoor.rrul
open Go.RowKit
open lib rd typ app flts eqg txt note rul
set_option linter.unusedVariables false
set_option linter.unusedSimpArgs false
set_option maxHeartbeats 1000000 in
theorem rrcheck_any (orders : Int) (A : Option Addr) (c : Nat) (a : List (Int × Int)) (A' : Option Addr) (c' : Nat) (b : List (Int × Int)) (w : World) (hA : RowAt (rPair rInt rInt) w w.heap.size A a) (hB : RowAt (rPair rInt rInt) w w.heap.size A' b) (ha : a.length ≤ 10000000) (hb : b.length ≤ 10000000) :
  Calls Tryz.prog 57 #[.int .i64 orders, .slice A a.length c, .slice A' b.length c'] w (FltsOut w (rulesF orders a b)) := by
 obtain ⟨E, hE⟩ : ∃ E, rulesF orders a b = E := ⟨_, rfl⟩
 obtain ⟨E1, hE1⟩ : ∃ E, pairsTo orders apartS looseB a a.length = E := ⟨_, rfl⟩
 obtain ⟨E2, hE2⟩ : ∃ E, pairsTo orders beforeS twoEq b b.length = E := ⟨_, rfl⟩
 have l1 : E1.length ≤ 10000001 := by rw [← hE1]; have := pairsTo_len orders apartS looseB a a.length; omega
 have l2 : E2.length ≤ 10000001 := by rw [← hE2]; have := pairsTo_len orders beforeS twoEq b b.length; omega
 have HE : Hid (E = E1 ++ E2) := Lib.hid (by rw [← hE, ← hE1, ← hE2]; rfl)
 have lE : E.length ≤ 1000000000 := by rw [HE.out, List.length_append]; omega
 have H1 : Hid (Calls Tryz.prog 95 #[.int .i64 orders, .slice A a.length c, .string ⟨#[97, 112, 97, 114, 116]⟩, .bool true] w (FltsOut w E1)) := Lib.hid (by rw [← hE1, ← either_loose]; exact rfaults_any orders apartS true A c a w hA ha (by decide))
 have H2 : Hid (∀ w', Below w.heap.size w w' → Calls Tryz.prog 95 #[.int .i64 orders, .slice A' b.length c', .string ⟨#[98, 101, 102, 111, 114, 101]⟩, .bool false] w' (FltsOut w' E2)) := Lib.hid (fun w' h => by rw [← hE2, ← either_exact]; exact rfaults_any orders beforeS false A' c' b w' ((hB.below h).more h.size) hb (by decide))
 rw [hE]
 clear hE hE1 hE2 hA hB ha hb
 go_enter Tryz.func57, Tryz.ntmps57
 go_wp2_with fail
 refine H1.out.mono ?_
 rintro e w1 ⟨A1, c1, rfl, hown1, hb1⟩
 have HO := Lib.hid hown1
 have z1 := hb1.size
 clear hown1
 go_wp2_with (first
  | (go_at_call 95; refine (H2.out _ hb1).mono ?_; rintro e w2 ⟨A2, c2, rfl, hown2, hb2⟩; have z2 := hb2.size; have HO2 := Lib.hid (And.intro (HO.out.below hb2) (Reads.of_own hown2)); clear hown2)
  | (at_builtin; refine wpList_appF rfl _ _ rfl w.heap.size A1 E1 c1 rfl HO2.out.1 A2 E2 c2 rfl HO2.out.2 E HE.out lE (by omega) ?_; intro A5 c5 w5 hown5 hb5))
 go_ret
 exact ⟨A5, c5, rfl, hown5, (hb1.trans (hb2.mono z1)).trans hb5⟩
end Go.Proofs.YthefooacfcagbaaGreatDoor.rrul

/- The violations of types: Check of the reference. -/
namespace Go.Proofs.YthefooacfcagbaaGreatDoor.flt
open Go.RowKit
open lib rd typ txt app
set_option linter.unusedVariables false
set_option linter.unusedSimpArgs false
set_option maxRecDepth 20000 in
set_option maxHeartbeats 4000000 in
theorem rcheck_any (n : Net) (A0 : Option Addr) (d0 : Nat) (A1 : Option Addr) (d1 : Nat) (A : Option Addr) (c : Nat) (l : List Ty) (w : World) (hL : RowAt rTy w w.heap.size A l) (hl : l.length ≤ 10000000) (hn : n.places.length ≤ 17592186043904) :
  Calls Tryz.prog 54 #[.agg #[.slice A0 n.places.length d0, .slice A1 n.arcs.length d1], .slice A l.length c] w (FltsOut w (fltsTo ((n.places.length : Int) - 1) l l.length)) := by
 obtain ⟨m, hm⟩ : ∃ m, l.length = m := ⟨_, rfl⟩
 have hm20 : m ≤ 10000000 := by omega
 have HM := Lib.hid hm
 obtain ⟨F, hF⟩ : ∃ F, fltsTo ((n.places.length : Int) - 1) l = F := ⟨_, rfl⟩
 have HF := Lib.hid hF
 have hFl : ∀ j, (F j).length ≤ 1 + 9 * j := fun j => by rw [← hF]; exact fltsTo_len _ _ j
 have HF0 : Hid (F 0 = if inB (m : Int) 1 6 then [] else [⟨4, ⟨#[]⟩⟩]) := Lib.hid (by rw [← hF, ← hm]; rfl)
 rw [hm]
 have hcells : w.heap.size < w.heap.size + 1 := by omega
 clear hm hF hl
 go_enter Tryz.func54, Tryz.ntmps54
 go_upto_if 12 with (go_at_call 92; refine (in_any _ _ _ _).mono ?_; rintro e w1 ⟨rfl, rfl⟩)
 go_cut [5] (fun v wx => ∃ A' c', v = .slice A' (F 0).length c' ∧ Fown wx (w.heap.size + 1) A' c' (F 0) ∧ wx.cell? ⟨w.heap.size, 0, none⟩ = some (.slice A0 n.places.length d0) ∧ wx.cell? ⟨w.heap.size, 1, none⟩ = some (.slice A1 n.arcs.length d1) ∧ Below w.heap.size w wx ∧ w.heap.size + 1 ≤ wx.heap.size)
 case first =>
  obtain ⟨W1, hW1⟩ : ∃ W1, w.alloc (.cells #[.slice A0 n.places.length d0, .slice A1 n.arcs.length d1] 25) = W1 := ⟨_, rfl⟩
  have hc0 : W1.cell? ⟨w.heap.size, 0, none⟩ = some (.slice A0 n.places.length d0) := by rw [← hW1]; exact two_new w _ _ _ 0 _ rfl
  have hc1 : W1.cell? ⟨w.heap.size, 1, none⟩ = some (.slice A1 n.arcs.length d1) := by rw [← hW1]; exact two_new w _ _ _ 1 _ rfl
  have hs1 : W1.heap.size = w.heap.size + 1 := by rw [← hW1]; simp
  have hB1 : Below w.heap.size w W1 := by rw [← hW1]; exact (Below.refl _ _).alloc (Nat.le_refl _) _
  rw [hW1]
  clear hW1
  have HS := Lib.hid hs1
  clear hs1
  cases hq : inB (m : Int) 1 6
  ·have HE : Hid (F 0 = [⟨4, ⟨#[]⟩⟩]) := Lib.hid (by rw [HF0.out, hq]; rfl)
   clear hq
   go_wp2_with (at_builtin; refine wpList_app fault_elem _ _ rfl (w.heap.size + 1) none 0 0 [] rfl ((World.ownsRow_nil _ _ _ _).alloc _) ⟨W1.heap.size, 0, none⟩ 1 [.int .i64 4, .string ⟨#[]⟩] rfl rfl (two_new _ _ _ _) (by simp [Value.oneCell']) (by omega) (by simp; have := HS.out; omega) rfl ?_; intro g1 c1 w2 hown1 hg1 hd1)
   go_meet
   refine ⟨_, _, by rw [HE.out]; rfl, by rw [HE.out]; exact hown1, ?_, ?_, ?_, ?_⟩
   ·exact hg1.cell ((World.cell?_alloc_lt W1 _ _ (show w.heap.size < W1.heap.size by have := HS.out; omega)).trans hc0) (by intro e; cases e)
   ·exact hg1.cell ((World.cell?_alloc_lt W1 _ _ (show w.heap.size < W1.heap.size by have := HS.out; omega)).trans hc1) (by intro e; cases e)
   ·exact (hB1.alloc (by have := HS.out; omega) _).grown hg1 (by simp; have := HS.out; omega) (fun q e => by cases e)
   ·have := hg1.size; have := HS.out; simp at *; omega
  ·have HE : Hid (F 0 = []) := Lib.hid (by rw [HF0.out, hq]; rfl)
   clear hq
   go_wp2
   go_meet
   exact ⟨none, 0, by rw [HE.out]; rfl, by rw [HE.out]; exact World.ownsRow_nil _ _ _ _, hc0, hc1, hB1, by have := HS.out; omega⟩
 obtain ⟨A', c', hv, hown, hc0, hc1, hB, hs⟩ := hcut
 subst hv
 go_upto_region 5 with fail
 go_loopw [5, 6] (fun v k wr => ∃ (j : Nat) (A' : Option Addr) (c' : Nat), j ≤ m ∧ k = .int .i64 j ∧ v = .slice A' (F j).length c' ∧ Fown wr (w.heap.size + 1) A' c' (F j) ∧ wr.cell? ⟨w.heap.size, 0, none⟩ = some (.slice A0 n.places.length d0) ∧ wr.cell? ⟨w.heap.size, 1, none⟩ = some (.slice A1 n.arcs.length d1) ∧ Below w.heap.size w wr ∧ w.heap.size + 1 ≤ wr.heap.size) (fun _ k _ => m - (intOf k).toNat)
 case atStart => exact ⟨0, A', c', by omega, rfl, rfl, hown, hc0, hc1, hB, hs⟩
 case round =>
  clear hown hc0 hc1 hB hs
  obtain ⟨j, A', c', hj, rfl, rfl, hown, hc0, hc1, hB, hs⟩ := hrel
  by_cases hlt : j < m
  ·have hjl : j < l.length := by rw [HM.out]; exact hlt
   obtain ⟨t, ht⟩ : ∃ t, l[j]? = some t := ⟨_, List.getElem?_eq_getElem hjl⟩
   have hLr : RowAt rTy wr wr.heap.size A l := (hL.below hB).more (by omega)
   have herr := rules_any n A0 d0 A1 d1 A c l j t wr hLr ht (by rw [HM.out]; omega) hn
   rw [HM.out] at herr
   obtain ⟨E, hE⟩ : ∃ E, errsL ((n.places.length : Int) - 1) l j t (dimsN l) = E := ⟨_, rfl⟩
   have hE9 : E.length ≤ 9 := by rw [← hE]; exact errsL_len _ _ _ _ _
   have HFS : Hid (F (j + 1) = F j ++ mkF j E) := Lib.hid (by
    rw [← HF.out]
    show fltsTo _ l j ++ fltsAt _ l j = _
    unfold fltsAt
    rw [ht]
    simp only [hE]
    rfl)
   have hFj := hFl j
   rw [hE] at herr
   have HK := Lib.hid (And.intro hLr herr)
   clear ht hE hLr herr hjl
   have hjn : j < 10000000 := by omega
   go_wp2_with (go_at_call 93; refine HK.out.2.mono ?_; rintro e w1 ⟨Ae, ce, rfl, hownE, hb1⟩)
   obtain ⟨gE, hgE1, hgE2, hgE3⟩ := row_place hownE
   have s1 := hb1.size
   have hown1 : Fown w1 (w.heap.size + 1) A' c' (F j) := own_below hown hb1
   have hne : (Value.slice A' (F j).length c').ownBlock ≠ some gE := by
    intro e
    have := (World.ownsRow.lt hown gE e).2
    omega
   have hc01 : w1.cell? ⟨w.heap.size, 0, none⟩ = some (.slice A0 n.places.length d0) := (hb1.cell (p := ⟨w.heap.size, 0, none⟩) (show w.heap.size < wr.heap.size by omega)).trans hc0
   have hc11 : w1.cell? ⟨w.heap.size, 1, none⟩ = some (.slice A1 n.arcs.length d1) := (hb1.cell (p := ⟨w.heap.size, 1, none⟩) (show w.heap.size < wr.heap.size by omega)).trans hc1
   have hB1 : Below w.heap.size w w1 := hB.trans (hb1.mono (by omega))
   have HNE := Lib.hid hne
   have HG3 := Lib.hid hgE3
   have HX := Lib.hid (And.intro hc0 (And.intro hc1 hown))
   clear hownE hne hgE3 hc0 hc1 hown
   go_loopw [5, 8] (fun v k wr2 => ∃ (q : Nat) (A2 : Option Addr) (c2 : Nat), q ≤ E.length ∧ k = .int .i64 q ∧ v = .slice A2 ((F j).length + q) c2 ∧ wr2.ownsRow (w.heap.size + 1) 53 2 (.slice A2 ((F j).length + q) c2) ((F j).length + q) (fcs (F j ++ mkF j (E.take q))) ∧ Hid ((Value.slice A2 ((F j).length + q) c2).ownBlock ≠ some gE) ∧
    Hid (∀ q, q < E.length → wr2.cell? ⟨gE, q, none⟩ = some (.int .i64 (E[q]?.getD 0))) ∧ Hid (wr2.cell? ⟨w.heap.size, 0, none⟩ = some (.slice A0 n.places.length d0) ∧ wr2.cell? ⟨w.heap.size, 1, none⟩ = some (.slice A1 n.arcs.length d1)) ∧ Below w.heap.size w wr2 ∧ w1.heap.size ≤ wr2.heap.size) (fun _ k _ => E.length - (intOf k).toNat)
   case atStart => exact ⟨0, A', c', by omega, rfl, rfl, by unfold Fown at hown1; simpa [mkF] using hown1, HNE, HG3, Lib.hid ⟨hc01, hc11⟩, hB1, Nat.le_refl _⟩
   case round =>
    clear hown1 HNE HG3 hc01 hc11
    obtain ⟨q, A2, c2, hq, rfl, rfl, hown2, hne2, hcs2, hnet2, hB2, hs2⟩ := hrel
    by_cases hlq : q < E.length
    ·obtain ⟨rfl, hgw⟩ := hgE2 (by omega)
     obtain ⟨x, hx⟩ : ∃ x, E[q]? = some x := ⟨_, List.getElem?_eq_getElem hlq⟩
     have hcx : wr.cell? ⟨gE, q, none⟩ = some (.int .i64 x) := by have := hcs2.out q hlq; rw [hx] at this; exact this
     have hq0 : (0 : Int) ≤ (q : Int) := by omega
     have hqn : (q : Int) < (E.length : Int) := by omega
     have HT := Lib.hid (mkF_take (i := j) hx)
     clear hx hgE2
     have HW := Lib.hid hs2
     have hjn2 : j < 1000000000000000000 := by omega
     go_wp2
     (refine wp_region_held_drew (S := (fun w' => w'.cell? ⟨gE, q, none⟩ = some (.int .i64 x))) (by kernel_rfl) ?_ (fun hHeld => ?_))
     ·exact hcx
     (refine lib.tk 0 ?_ rfl (by kernel_rfl) (fun _ _ _ h => h) ?_ (by assumption) ?_; rotate_left; (focus (intro w hSw; (try dsimp only at hSw); go_simp; all_goals with_reducible rfl)); (try simp only [lib.hly]))
     (refine lib.tk 1 ?_ rfl (by kernel_rfl) (fun _ _ _ h => h) ?_ (by assumption) ?_; rotate_left; (focus (intro w hSw; (try dsimp only at hSw); go_simp; all_goals with_reducible rfl)); (try simp only [lib.hly]))
     (refine lib.tk 2 ?_ rfl (by kernel_rfl) (fun _ _ _ h => h) ?_ (by assumption) ?_; rotate_left; (focus (intro w hSw; (try dsimp only at hSw); go_simp; all_goals with_reducible rfl)); (try simp only [lib.hly]))
     (refine lib.tk 3 ?_ rfl (by kernel_rfl) (fun _ _ _ h => h) ?_ (by assumption) ?_; rotate_left; (focus (intro w hSw; (try dsimp only at hSw); go_simp; all_goals with_reducible rfl)); (try simp only [lib.hly]))
     (refine lib.tk 4 ?_ rfl (by kernel_rfl) (fun _ _ _ h => h) ?_ (by assumption) ?_; rotate_left; (focus (intro w hSw; (try dsimp only at hSw); go_simp; all_goals with_reducible rfl)); (try simp only [lib.hly]))
     (refine lib.tk 5 ?_ rfl (by kernel_rfl) (fun _ _ _ h => h) ?_ (by assumption) ?_; rotate_left; (focus (intro w hSw; (try dsimp only at hSw); go_simp; all_goals with_reducible rfl)); (try simp only [lib.hly]))
     (refine wpAnyH_ready (rs := [6]) (by kernel_rfl) (by simp) ?_; refine AllReadyH.cons rfl (fun K hK => ?_) AllReadyH.nil; go_simp)
     go_at_call 18
     refine (rdec_any j hjn2 _).mono ?_
     rintro e w3 ⟨rfl, hb3d⟩
     have hb3 : Below wr.heap.size wr w3 := ((Below.refl _ _).drew).trans (hb3d.mono (by simp))
     have s3 := hb3.size
     have hcx3 : w3.cell? ⟨gE, q, none⟩ = some (.int .i64 x) := (hb3.cell (p := ⟨gE, q, none⟩) (show gE < wr.heap.size by have := HW.out; omega)).trans hcx
     (refine hK.out _ _ ?_ (fun hHeld => ?_))
     ·exact hcx3
     clear hK K
     (try simp only [lib.hly])
     (refine lib.tk 7 ?_ rfl (by kernel_rfl) (fun _ _ _ h => h) ?_ (by assumption) ?_; rotate_left; (focus (intro w hSw; (try dsimp only at hSw); go_simp; all_goals with_reducible rfl)); (try simp only [lib.hly]))
     (refine wpAnyH_ready (rs := [8]) (by kernel_rfl) (by simp) ?_; refine AllReadyH.cons rfl (fun K hK => ?_) AllReadyH.nil; go_simp)
     have hcx4 : (w3.alloc (.cells #[.int .i64 x, .string (decS j)] 53)).cell? ⟨gE, q, none⟩ = some (.int .i64 x) := (World.cell?_alloc_lt w3 _ _ (show gE < w3.heap.size by have := HW.out; omega)).trans hcx3
     (refine hK.out _ _ ?_ (fun hHeld => ?_))
     ·exact hcx4
     clear hK K
     (try simp only [lib.hly])
     (refine wpAnyH_ready (rs := [9]) (by kernel_rfl) (by simp) ?_; refine AllReadyH.cons rfl (fun K hK => ?_) AllReadyH.nil)
     refine step_app fault_elem _ _ rfl (w.heap.size + 1) A2 ((F j).length + q) c2 (fcs (F j ++ mkF j (E.take q))) rfl ((own_below hown2 hb3).alloc _) ⟨w3.heap.size, 0, none⟩ 1 [.int .i64 x, .string (decS j)] rfl rfl (two_new _ _ _ _) (by simp [Value.oneCell']) (by omega) (by simp; have := HW.out; omega) rfl ?_
     intro g3 c3 w5 hown3 hg3 hd3
     (refine hK.out _ _ ?_ (fun hHeld => ?_))
     ·exact hg3.cell hcx4 (by intro e; exact hne2.out e.symm)
     clear hK K
     (try simp only [lib.hly])
     (refine lib.tk 10 ?_ rfl (by kernel_rfl) (fun _ _ _ h => h) ?_ (by assumption) ?_; rotate_left; (focus (intro w hSw; (try dsimp only at hSw); go_simp; all_goals with_reducible rfl)); (try simp only [lib.hly]))
     (refine wpAnyH_done (by kernel_rfl) ?_ _)
     go_wp2
     go_roundw
     case rel =>
      refine ⟨q + 1, some ⟨g3, 0, none⟩, c3, by omega, by go_num, rfl, ?_, Lib.hid ?_, Lib.hid ?_, Lib.hid ⟨?_, ?_⟩, ?_, ?_⟩
      ·rw [HT.out, ← List.append_assoc, fcs_snoc]; exact hown3
      ·rcases hd3 with h | h
       ·intro e; rw [show (Value.slice (some ⟨g3, 0, none⟩) ((F j).length + (q + 1)) c3).ownBlock = some g3 from rfl, ← h] at e; exact hne2.out e
       ·intro e; rw [show (Value.slice (some ⟨g3, 0, none⟩) ((F j).length + (q + 1)) c3).ownBlock = some g3 from rfl] at e; injection e with e; simp at h; have := HW.out; omega
      ·intro q' hq'
       exact hg3.cell ((World.cell?_alloc_lt w3 _ _ (show gE < w3.heap.size by have := HW.out; omega)).trans ((hb3.cell (p := ⟨gE, q', none⟩) (show gE < wr.heap.size by have := HW.out; omega)).trans (hcs2.out q' hq'))) (by intro e; exact hne2.out e.symm)
      ·exact hg3.cell ((World.cell?_alloc_lt w3 _ _ (show w.heap.size < w3.heap.size by have := HW.out; omega)).trans ((hb3.cell (p := ⟨w.heap.size, 0, none⟩) (show w.heap.size < wr.heap.size by have := HW.out; omega)).trans hnet2.out.1)) (by intro e; have := (World.ownsRow.lt hown2 _ e.symm).1; simp at this; omega)
      ·exact hg3.cell ((World.cell?_alloc_lt w3 _ _ (show w.heap.size < w3.heap.size by have := HW.out; omega)).trans ((hb3.cell (p := ⟨w.heap.size, 1, none⟩) (show w.heap.size < wr.heap.size by have := HW.out; omega)).trans hnet2.out.2)) (by intro e; have := (World.ownsRow.lt hown2 _ e.symm).1; simp at this; omega)
      ·exact ((hB2.trans (hb3.mono (by have := HW.out; omega))).alloc (by have := HW.out; omega) _).grown hg3 (by simp; have := HW.out; omega) (fun q' e => by have := (World.ownsRow.lt hown2 _ e).1; omega)
      ·have := hg3.size; have := HW.out; simp at *; omega
     case measure => simp [intOf]; omega
    ·have hqE : q = E.length := by omega
     subst hqE
     go_wp2
     go_roundw
     case rel => exact ⟨j + 1, A2, c2, by omega, by go_num, by rw [HFS.out, List.length_append]; simp [mkF], by unfold Fown; rw [HFS.out, List.length_append]; simpa [mkF] using hown2, hnet2.out.1, hnet2.out.2, hB2, by omega⟩
     case measure => simp [intOf]; omega
  ·have hjm : j = m := by omega
   subst hjm
   go_wp2
   go_ret
   rw [HF.out]
   unfold Fown at hown
   exact ⟨A', c', rfl, own_less hown (by omega), hB⟩
end Go.Proofs.YthefooacfcagbaaGreatDoor.flt

/- The reference's under. -/
namespace Go.Proofs.YthefooacfcagbaaGreatDoor.und
open Go.RowKit
open lib rd typ app flts note
set_option linter.unusedVariables false
set_option linter.unusedSimpArgs false
set_option maxRecDepth 20000 in
set_option maxHeartbeats 4000000 in
theorem runder_any (word : ByteArray) (A0 : Option Addr) (d0 : Nat) (fs : List Flt) (w : World) (hL : RowAt rFlt w w.heap.size A0 fs) (hl : fs.length ≤ 500000000) (hws : word.size ≤ 1000000) (hfs : ∀ f ∈ fs, f.at_.size ≤ 1000000) :
  Calls Tryz.prog 52 #[.string word, .slice A0 fs.length d0] w (FltsOut w (undL word fs)) := by
 obtain ⟨n, hn⟩ : ∃ n, fs.length = n := ⟨_, rfl⟩
 have HN := Lib.hid hn
 obtain ⟨U, hU⟩ : ∃ U : Nat → List Flt, (fun k => undL word (fs.take k)) = U := ⟨_, rfl⟩
 have hUl : ∀ k, k ≤ n → (U k).length ≤ k := fun k hk => by
  rw [← hU]
  show (undL word (fs.take k)).length ≤ k
  unfold undL
  rw [List.length_map, List.length_take]
  omega
 have HU0 : Hid (U 0 = []) := Lib.hid (by rw [← hU]; rfl)
 have HUS : Hid (∀ (k : Nat) f, fs[k]? = some f → U (k + 1) = U k ++ [undP word f]) := Lib.hid fun k f hf => by rw [← hU]; exact undL_take hf
 have HUT : Hid (undL word fs = U n) := Lib.hid (by rw [← hU, ← hn]; show _ = undL word (fs.take fs.length); rw [List.take_length])
 have HFS := Lib.hid hfs
 rw [hn] at hl ⊢
 clear hn hU hfs
 have B0 : Below w.heap.size w w := Below.refl _ _
 go_enter Tryz.func52, Tryz.ntmps52
 go_upto_region 3 with fail
 go_loopw [5, 6, 7] (fun v i _ wr => ∃ (j : Nat) (A : Option Addr) (c : Nat), j ≤ n ∧ i = .int .i64 j ∧ v = .slice A (U j).length c ∧ Fown wr w.heap.size A c (U j) ∧ Below w.heap.size w wr) (fun _ i _ _ => n - (intOf i).toNat)
 case atStart => exact ⟨0, none, 0, by omega, rfl, by rw [HU0.out]; rfl, by rw [HU0.out]; exact Fown.nil _ _, B0⟩
 case round =>
  obtain ⟨j, A, c, hj, rfl, rfl, hown, hB⟩ := hrel
  have hz := hB.size
  by_cases hlt : j < n
  ·obtain ⟨f, hf⟩ : ∃ f, fs[j]? = some f := ⟨_, List.getElem?_eq_getElem (by rw [HN.out]; exact hlt)⟩
   obtain ⟨ad, rfl, hadb, ⟨m0, m1⟩, hff⟩ := row_Flt (hL.below hB) hf
   have hj0 : (0 : Int) ≤ (j : Int) := by omega
   have hjn : (j : Int) < (n : Int) := by omega
   have hUj := hUl j hj
   have hfsz := HFS.out f (List.mem_of_getElem? hf)
   have hwsz : (word ++ ⟨#[32]⟩ : ByteArray).size ≤ 1000001 := by rw [ByteArray.size_append]; exact Nat.add_le_add_right hws 1
   have HS := Lib.hid (HUS.out j f hf)
   have HO := Lib.hid hown
   clear hf hown
   obtain ⟨q, hq⟩ : ∃ q, f.at_.toList.isEmpty = q := ⟨_, rfl⟩
   have HQ := Lib.hid hq
   clear hq
   cases q
   ·have hE : Hid (U (j + 1) = U j ++ [⟨f.err, word ++ ⟨#[32]⟩ ++ f.at_⟩]) := Lib.hid (by rw [HS.out]; unfold undP; rw [HQ.out, if_neg (by decide), ByteArray.append_assoc])
    have hq := HQ.out
    go_wp2_with (at_builtin; refine wpList_pushF rfl _ _ rfl w.heap.size A (U j) c rfl HO.out (⟨f.err, word ++ ⟨#[32]⟩ ++ f.at_⟩) (U (j + 1)) hE.out rfl (by first | omega | decide) (by omega) ?_; intro g3 c3 w3 hown3 hb3 hs3 hk3 hd3)
    go_roundw
    case rel => exact ⟨j + 1, _, _, by omega, by go_num, rfl, hown3, hB.trans (hb3.mono (Nat.le_refl _))⟩
    case measure => simp [intOf]; omega
   ·have hE : Hid (U (j + 1) = U j ++ [⟨f.err, word⟩]) := Lib.hid (by rw [HS.out]; unfold undP; rw [HQ.out, if_pos rfl])
    have hq := HQ.out
    go_wp2_with (at_builtin; refine wpList_pushF rfl _ _ rfl w.heap.size A (U j) c rfl HO.out (⟨f.err, word⟩) (U (j + 1)) hE.out rfl (by first | omega | decide) (by omega) ?_; intro g3 c3 w3 hown3 hb3 hs3 hk3 hd3)
    go_roundw
    case rel => exact ⟨j + 1, _, _, by omega, by go_num, rfl, hown3, hB.trans (hb3.mono (Nat.le_refl _))⟩
    case measure => simp [intOf]; omega
  ·have hjn : j = n := by omega
   subst hjn
   clear hlt
   go_wp2
   go_ret
   rw [HUT.out]
   exact ⟨A, c, rfl, hown, hB⟩
end Go.Proofs.YthefooacfcagbaaGreatDoor.und

/- The reference's Merge. -/
import Derived.Test.YtceceomaheobhaaSpvE
import Derived.Test.YtceceomaheobhaaSpX2
namespace Go.Proofs.Ytceceomaheobhaa.spl
open Go.RowKit
open Go.Proofs.Ytceceomaheobhaa.lib Go.Proofs.Ytceceomaheobhaa.rd Go.Proofs.Ytceceomaheobhaa.app Go.Proofs.Ytceceomaheobhaa.els Go.Proofs.Ytceceomaheobhaa.loads Go.Proofs.Ytceceomaheobhaa.typ Go.Proofs.Ytceceomaheobhaa.big Go.Proofs.Ytceceomaheobhaa.ins Go.Proofs.Ytceceomaheobhaa.ord Go.Proofs.Ytceceomaheobhaa.flts Go.Proofs.Ytceceomaheobhaa.off
set_option linter.unusedVariables false
set_option linter.unusedSimpArgs false

theorem rshs_elem : ElemOf 49 51 (.slice none 0 0) 1 24 := ⟨Try.underlying49, by kernel_rfl, rfl, by decide, by decide⟩
/-- Where the reference's Merge stands. -/
structure RmSt (W : World) (ll : List (List Sha)) (wr : World) (B : Option Addr) (d : Nat) (cs : List Value) : Prop where
  own : wr.ownsRow W.heap.size 51 1 (.slice B ll.length d) ll.length cs
  els : EG (oSlice oSha) wr (fun b => some b ≠ (Value.slice B ll.length d).ownBlock ∧ W.heap.size ≤ b) cs ll
  bel : Below W.heap.size W wr
section
variable {W : World} {ll : List (List Sha)} {wr wx : World} {B : Option Addr} {d : Nat} {cs : List Value}
theorem RmSt.nil (W : World) : RmSt W [] W none 0 [] := ⟨World.ownsRow_nil _ _ _ _, EG.nil, Below.refl _ _⟩
theorem RmSt.below (h : RmSt W ll wr B d cs) (hb : Below wr.heap.size wr wx) : RmSt W ll wx B d cs := ⟨own_below h.own hb, h.els.below hb, h.bel.trans (hb.mono h.bel.size)⟩
theorem RmSt.push (h : RmSt W ll wr B d cs) {l : List Sha} {C : Option Addr} {c0 g c : Nat} (hI : RowOff oSha wr (fun b => some b ≠ (Value.slice B ll.length d).ownBlock ∧ W.heap.size ≤ b) C l)
    (hown : wx.ownsRow W.heap.size 51 1 (.slice (some ⟨g, 0, none⟩) (ll.length + 1) c) (ll.length + 1) (cs ++ [.slice C l.length c0])) (hg : wr.grownBy wx (Value.slice B ll.length d).ownBlock) (hd : (Value.slice B ll.length d).ownBlock = some g ∨ wr.heap.size ≤ g) :
    RmSt W (ll ++ [l]) wx (some ⟨g, 0, none⟩) c (cs ++ [.slice C l.length c0]) := by
  refine ⟨by rw [List.length_append]; exact hown, ?_, h.bel.grown hg h.bel.size (fun q e => (World.ownsRow.lt h.own q e).1)⟩
  exact h.els.push ⟨C, c0, rfl, hI⟩ hg hd
end
def RMergeOut (w : World) (r : Except Int (List (List Sha))) (e : Ending) (w' : World) : Prop := match r with
  | .error k => e = .returned (.tuple #[.slice none 0 0, .int .i64 k]) ∧ Below w.heap.size w w'
  | .ok ll => ∃ A c cs, e = .returned (.tuple #[.slice A ll.length c, .int .i64 0]) ∧ w'.ownsRow w.heap.size 51 1 (.slice A ll.length c) ll.length cs ∧ EG (oSlice oSha) w' (fun b => w.heap.size ≤ b) cs ll ∧ Below w.heap.size w w'
set_option maxRecDepth 20000 in
set_option maxHeartbeats 4000000 in
theorem rmerge_any (x : Ins) (P : InP) (A' : Option Addr) (c' : Nat) (org : List Int) (AR : Option Addr) (cR : Nat) (rs : List Rou) (u1 : Value) (w : World)
    (h : InAt w w.heap.size x P) (hl : Acc x) (hO : Ints w w.heap.size A' org) (hV : RowAt rRou w w.heap.size AR rs) (hrs : rs.length ≤ 1000) :
    Calls Try.prog 19 #[InV x P, .slice A' org.length c', .agg #[.slice AR rs.length cR, u1]] w (RMergeOut w (rmergeF x org rs)) := by
  obtain ⟨W0, hW0⟩ : ∃ W0, (w.alloc (.cells (insCs x P).toArray 38)).alloc (.cells #[.slice AR rs.length cR, u1] 46) = W0 := ⟨_, rfl⟩
  have hB0 : Below w.heap.size w W0 := by rw [← hW0]; exact ((Below.refl _ _).alloc (Nat.le_refl _) _).alloc (by simp) _
  have z0 := hB0.size
  have hs0 : w.heap.size + 1 < W0.heap.size := by rw [← hW0]; simp
  have b0 : SixAt W0 w.heap.size (insCs x P) := by
    rw [← hW0]
    unfold SixAt
    rw [Below.heap_alloc _ _ _ (by simp)]
    exact World.alloc_heap_new w _
  have v0 : W0.cell? ⟨w.heap.size + 1, 0, none⟩ = some (.slice AR rs.length cR) := by
    rw [← hW0]
    have h := World.alloc_heap_new (w.alloc (.cells (insCs x P).toArray 38)) (.cells #[.slice AR rs.length cR, u1] 46)
    rw [show (w.alloc (.cells (insCs x P).toArray 38)).heap.size = w.heap.size + 1 by simp] at h
    unfold World.cell?
    rw [h]
    rfl
  have HX := Lib.hid (fun w' (h' : Below W0.heap.size W0 w') => (And.intro (b0.below h') (And.intro (h.below (hB0.trans (h'.mono z0))) (And.intro (hO.below (hB0.trans (h'.mono z0))) (hV.below (hB0.trans (h'.mono z0)))))))
  have hW1 : (w.alloc (.cells #[.slice P.a0 x.net.places.length P.c0, .slice P.a1 x.net.arcs.length P.c1, .slice P.a2 x.types.length P.c2, .slice P.a3 x.orders.length P.c3, .slice P.a4 x.apart.length P.c4, .slice P.a5 x.before.length P.c5] 38)).alloc (.cells #[.slice AR rs.length cR, u1] 46) = W0 := hW0
  have HW1 := Lib.hid hW1
  have HL := Lib.hid (And.intro hl (fun y want he => hl.good (y := y) (want := want) he))
  have B00 : Below W0.heap.size W0 W0 := Below.refl _ _
  have HXI : Hid (InAt W0 W0.heap.size x P) := Lib.hid ((HX.out _ B00).2.1.more z0)
  clear hW0 hW1 h hO hV b0 hl
  simp only [InV]
  go_enter Try.func19, Try.ntmps19
  go_upto_region 1 with fail
  rw [HW1.out]
  clear HW1
  go_wp2_with ((with_reducible refine wpList_loadG stIns _ rfl ⟨w.heap.size, 0, none⟩ (insCs (x) P) ?_ ?_ ?_ ?_ ?_); exact rfl; exact rfl; exact (HX.out _ B00).1.cells; exact rfl)
  refine (rexpand_any x P W0 HXI.out HL.out.1).mono ?_
  obtain ⟨ER, hER⟩ : ∃ ER, expF x = ER := ⟨_, rfl⟩
  have HME : Hid (rmergeF x org rs = rmG x.orders org rs ER) := Lib.hid (by unfold rmergeF; rw [hER])
  have HGD : Hid (∀ y want, ER = .ok (y, want) → ExpGood y want) := Lib.hid (by rw [← hER]; exact HL.out.2)
  have HNZ : Hid (∀ k, ER = .error k → k ≠ 0) := Lib.hid (fun k e => expF_err (hER.trans e))
  rw [hER]
  clear hER
  obtain ⟨m, hm⟩ : ∃ m, rs.length = m := ⟨_, rfl⟩
  have HM := Lib.hid hm
  rw [hm] at v0 hrs
  clear hm
  rcases ER with k | ⟨y, want⟩
  · rintro e w1 ⟨rfl, b1⟩
    have hk0 := HNZ.out k rfl
    have hk1 : (k != 0) = true := by simp [hk0]
    have hk2 : (k == 0) = false := by simp [hk0]
    have z1 := b1.size
    clear hk0 v0
    go_wp2_with ((with_reducible refine wpList_storeL stIns rfl _ _ rfl w1.heap.size nilCs nilCs ?_ ?_ ?_ ?_ ?_ nilCs_one ?_); exact rfl; exact rfl; exact World.alloc_heap_new w1 _; exact rfl; exact rfl; intro w2 k1 k2 k3 k4; have K := Lib.hid (And.intro k1 (And.intro k2 (And.intro k3 k4))); clear k1 k2 k3 k4)
    go_ret2
    rw [HME.out]
    obtain ⟨k1, k2, k3, k4⟩ := K.out
    exact ⟨rfl, hB0.trans ((b1.trans ((((Below.refl _ _).alloc (Nat.le_refl _) _).trans k4).mono z1)).mono z0)⟩
  · rintro e w1 ⟨Q, A3, c3, rfl, hI1, hw1, b1⟩
    have z1 := b1.size
    have HI1 := Lib.hid (And.intro hI1 hw1)
    obtain ⟨hg1, hg2, hg3, hg4, hg5⟩ := HGD.out y want rfl
    have HGG := Lib.hid (And.intro hg1 (And.intro hg2 (And.intro hg3 (And.intro hg4 hg5))))
    clear hI1 hw1 hg1 hg2 hg3 hg4 hg5
    go_upto_region 2 with ((with_reducible refine wpList_storeL stIns rfl _ _ rfl w1.heap.size nilCs (insCs y Q) ?_ ?_ ?_ ?_ ?_ (insCs_one _ _) ?_); exact rfl; exact rfl; exact World.alloc_heap_new w1 _; exact rfl; exact rfl; intro w2 k1 k2 k3 k4; have K := Lib.hid (And.intro k1 (And.intro k2 (And.intro k3 k4))); clear k1 k2 k3 k4)
    obtain ⟨k1, k2, k3, k4⟩ := K.out
    have b2 : Below w1.heap.size w1 w2 := ((Below.refl _ _).alloc (Nat.le_refl _) _).trans k4
    have hp2 : w1.heap.size < w2.heap.size := (Array.getElem?_eq_some_iff.1 k1).1
    have HY2 : Hid (SixAt w2 w1.heap.size (insCs y Q)) := Lib.hid k1
    obtain ⟨p, hp⟩ : ∃ p, w1.heap.size = p := ⟨_, rfl⟩
    have HI2 := Lib.hid (And.intro (HI1.out.1.go b2) ((HI1.out.2.below b2).more b2.size))
    rw [hp] at HY2 hp2 b2 z1 ⊢
    have bW2 : Below W0.heap.size W0 w2 := b1.trans (b2.mono (by omega))
    have v2 : w2.cell? ⟨w.heap.size + 1, 0, none⟩ = some (.slice AR m cR) := (bW2.cell (p := ⟨w.heap.size + 1, 0, none⟩) hs0).trans v0
    have HO2 : Hid (Ints w2 w2.heap.size A' org) := Lib.hid ((HX.out _ bW2).2.2.1.more (Nat.le_trans z0 bW2.size))
    have HB2 := Lib.hid bW2
    clear k1 k2 k3 k4 b1 b2 K hp HI1 v0 bW2 HXI
    go_wp2_with fail
    refine (same_any A' c' org _ rfl A3 c3 want _ rfl w2 _ _ (Nat.le_refl _) (Nat.le_refl _) HO2.out HI2.out.2).mono ?_
    rintro e w3 ⟨rfl, b3⟩
    have z3 := b3.size
    by_cases heq : org = want
    · have hsb : sameB org want = true := by unfold sameB; simp [heq]
      have HMG : Hid (rmergeF x org rs = if visAll y.orders.length (rs.drop 0) = true then .ok (rs.map fun r => rsTo x.orders org y.orders r.visits x.orders.length) else .error 2) := Lib.hid (by rw [HME.out]; show (if org = want then _ else _) = _; rw [if_pos heq]; rfl)
      rw [hsb]
      subst heq
      have v3 : w3.cell? ⟨w.heap.size + 1, 0, none⟩ = some (.slice AR m cR) := (b3.cell (p := ⟨w.heap.size + 1, 0, none⟩) (by show w.heap.size + 1 < _; omega)).trans v2
      have HI3 := Lib.hid (fun w' (h' : Below w3.heap.size w3 w') => And.intro (HI2.out.1.go (b3.trans (h'.mono z3))) (And.intro (HY2.out.below (b3.trans (h'.mono z3))) (HX.out _ ((HB2.out.trans (b3.mono HB2.out.size)).trans (h'.mono (by omega))))))
      have hBW : Below w.heap.size w w3 := hB0.trans ((HB2.out.trans (b3.mono HB2.out.size)).mono z0)
      obtain ⟨N, hN⟩ : ∃ N, y.orders.length = N := ⟨_, rfl⟩
      have y3 : w3.cell? ⟨p, 3, none⟩ = some (.slice Q.a3 N Q.c3) := by rw [← hN]; exact ((HI3.out _ (Below.refl _ _)).2.1).cell (j := 3) rfl
      have HNN := Lib.hid hN
      have HBW := Lib.hid hBW
      rw [hN] at HMG
      clear hsb v2 HO2 HME b3 HX HY2 HI2 hN hBW
      go_wp2_with fail
      go_loopw [12, 13, 14] (fun i _ _ wr => ∃ j : Nat, j ≤ m ∧ i = .int .i64 j ∧ Hid (visAll N (rs.drop 0) = visAll N (rs.drop j)) ∧ w3 = wr) (fun i _ _ _ => m - (intOf i).toNat)
      case atStart => exact ⟨0, by omega, rfl, Lib.hid rfl, rfl⟩
      case round =>
        obtain ⟨j, hj, rfl, hva, rfl⟩ := hrel
        by_cases hlt : j < m
        · obtain ⟨r, hr⟩ : ∃ r, rs[j]? = some r := ⟨_, List.getElem?_eq_getElem (by rw [HM.out]; exact hlt)⟩
          obtain ⟨ad, cs0, hA, hadb, hat, hcs⟩ := ((HI3.out _ (Below.refl _ _)).2.2.2.2.2).elem hr
          obtain ⟨v0, C, c, rfl, hvis, hv1⟩ := rRou_at hat
          have HT : Hid (visAll N (rs.drop j) = (r.visits.all (visOk N) && visAll N (rs.drop (j + 1)))) := Lib.hid (by unfold visAll; rw [drop_at' hr, List.all_cons])
          have HV := Lib.hid hvis
          obtain ⟨nv, hnv⟩ : ∃ n, r.visits.length = n := ⟨_, rfl⟩
          have hnl := hvis.1
          have l3 : w3.cell? ⟨(ad.add (j * 4)).block, (ad.add (j * 4)).off + 3, none⟩ = some (.slice C nv c) := by rw [← hnv]; exact hcs 3 _ rfl
          rw [hnv] at hnl
          have HNV := Lib.hid hnv
          have hj0 : (0 : Int) ≤ (j : Int) := by omega
          have hjn : (j : Int) < (m : Int) := by omega
          rw [hA] at v3 ⊢
          clear hr hat hcs hvis hnv
          go_wp2_with fail
          go_loopw [13, 14] (fun q _ wr => ∃ k : Nat, k ≤ nv ∧ q = .int .i64 k ∧ Hid (r.visits.all (visOk N) = (r.visits.drop k).all (visOk N)) ∧ w3 = wr) (fun q _ _ => nv - (intOf q).toNat)
          case atStart => exact ⟨0, by omega, rfl, Lib.hid rfl, rfl⟩
          case round =>
            obtain ⟨k, hk, rfl, hvk, rfl⟩ := hrel
            by_cases hlk : k < nv
            · obtain ⟨v, hv⟩ : ∃ v, r.visits[k]? = some v := ⟨_, List.getElem?_eq_getElem (by rw [HNV.out]; exact hlk)⟩
              obtain ⟨ad2, hC, hadb2, ⟨m0, m1⟩, hfv⟩ := row_Vis HV.out hv
              have HTk := Lib.hid (allOk_at (n := N) hv)
              have hk0 : (0 : Int) ≤ (k : Int) := by omega
              have hkn : (k : Int) < (nv : Int) := by omega
              rw [hC] at l3
              clear hv m1 hfv
              by_cases hok : 0 ≤ v.order ∧ v.order < (N : Int)
              · have HK2 : Hid (r.visits.all (visOk N) = (r.visits.drop (k + 1)).all (visOk N)) := Lib.hid (by rw [hvk.out, HTk.out]; unfold visOk; rw [decide_eq_true hok, Bool.true_and])
                have ho1 : ¬ v.order < 0 := by omega
                have ho2 : ¬ (N : Int) ≤ v.order := by omega
                go_wp2_with fail
                exact ⟨⟨k + 1, by omega, by go_num, HK2, trivial⟩, by simp [intOf]; omega⟩
              · have HBAD : Hid (rmergeF x org rs = .error 2) := Lib.hid (by
                  rw [HMG.out, hva.out, HT.out, hvk.out, HTk.out]
                  unfold visOk
                  rw [decide_eq_false hok]
                  rfl)
                go_wp2_with fail
                all_goals
                  go_ret2
                  rw [HBAD.out]
                  exact ⟨rfl, HBW.out⟩
            · have hkn : k = nv := by omega
              subst hkn
              clear hlk
              have HV2 : Hid (visAll N (rs.drop 0) = visAll N (rs.drop (j + 1))) := Lib.hid (by rw [hva.out, HT.out, hvk.out, List.drop_of_length_le (by rw [HNV.out]; exact Nat.le_refl _)]; rfl)
              go_wp2_with fail
              exact ⟨⟨j + 1, by omega, by go_num, HV2, trivial⟩, by simp [intOf]; omega⟩
        · have hjm : j = m := by omega
          subst hjm
          clear hlt
          have HOK : Hid (rmergeF x org rs = .ok (rs.map fun r => rsTo x.orders org y.orders r.visits x.orders.length)) := Lib.hid (by rw [HMG.out, hva.out, List.drop_of_length_le (by rw [HM.out]; exact Nat.le_refl _)]; rfl)
          clear hva
          go_wp2_with fail
          have HV3 := Lib.hid v3
          clear v3 y3
          go_loopw [11, 15] (fun v i wr => ∃ (q : Nat) (B : Option Addr) (d : Nat) (cs : List Value), q ≤ j ∧ i = .int .i64 q ∧ v = .slice B q d ∧ Hid (RmSt w3 ((rs.take q).map fun r => rsTo x.orders org y.orders r.visits x.orders.length) wr B d cs)) (fun _ i _ => j - (intOf i).toNat)
          case atStart => exact ⟨0, none, 0, [], by omega, rfl, rfl, Lib.hid (by rw [List.take_zero]; exact RmSt.nil _)⟩
          case round =>
            obtain ⟨q, B, d, cs, hq, rfl, rfl, HS⟩ := hrel
            have v3 : wr.cell? ⟨w.heap.size + 1, 0, none⟩ = some (.slice AR j cR) := (HS.out.bel.cell (p := ⟨w.heap.size + 1, 0, none⟩) (by show w.heap.size + 1 < _; omega)).trans HV3.out
            have hql : ((rs.take q).map fun r => rsTo x.orders org y.orders r.visits x.orders.length).length = q := by rw [List.length_map, List.length_take, HM.out]; omega
            have HQL := Lib.hid hql
            clear hql
            by_cases hlq : q < j
            · obtain ⟨r, hr⟩ : ∃ r, rs[q]? = some r := ⟨_, List.getElem?_eq_getElem (by rw [HM.out]; exact hlq)⟩
              have hIW := HI3.out _ HS.out.bel
              obtain ⟨ad, cs0, hA, hadb, hat, hcs⟩ := (hIW.2.2.2.2.2).elem hr
              obtain ⟨v0, C, c, rfl, hvis, hv1⟩ := rRou_at hat
              have HIW := Lib.hid hIW
              have HV := Lib.hid (And.intro hvis hv1)
              have HR := Lib.hid hr
              have hq0 : (0 : Int) ≤ (q : Int) := by omega
              have hqj : (q : Int) < (j : Int) := by omega
              rw [hA] at v3 ⊢
              clear hr hat hvis hv1 hIW
              go_upto_region 19 with fail
              (refine wp_region_held_drew (S := (fun w' => CellsAt w' ⟨w.heap.size, 0, none⟩ (insCs x P) ∧ CellsAt w' ⟨p, 0, none⟩ (insCs y Q) ∧ w'.cell? ⟨w.heap.size + 1, 0, none⟩ = some (.slice (some ad) j cR) ∧ CellsAt w' (ad.add (q * 4)) (RouCells r v0 C c))) (by kernel_rfl) ?_ (fun hHeld => ?_))
              · exact ⟨HIW.out.2.2.1.cells, HIW.out.2.1.cells, v3, hcs⟩
              (refine wpAnyH_take (i := 0) (v := ?_) rfl (by kernel_rfl) (by kernel_rfl) (by kernel_rfl) (fun _ _ _ h => h) (Or.inl ⟨by kernel_rfl, ?_⟩) (by assumption) ?_; rotate_left; (focus (intro w hSw; (try dsimp only at hSw); go_simp; all_goals with_reducible rfl)); (try simp only [Act.put, List.getElem_toArray, List.getElem_cons_succ, List.getElem_cons_zero, List.setIfInBounds_toArray, List.set_cons_zero, List.set_cons_succ]))
              (refine wpAnyH_take (i := 1) (v := _) rfl (by kernel_rfl) (by kernel_rfl) (by kernel_rfl) (fun _ _ _ h => h) (Or.inl ⟨by kernel_rfl, fun _ hSw => exec_loadS stIns rfl rfl hSw.1 rfl⟩) (by assumption) ?_; (try simp only [Act.put, List.getElem_toArray, List.getElem_cons_succ, List.getElem_cons_zero, List.setIfInBounds_toArray, List.set_cons_zero, List.set_cons_succ]))
              (refine wpAnyH_take (i := 2) (v := _) rfl (by kernel_rfl) (by kernel_rfl) (by kernel_rfl) (fun _ _ _ h => h) (Or.inl ⟨by kernel_rfl, fun _ hSw => exec_loadS stIns rfl rfl hSw.2.1 rfl⟩) (by assumption) ?_; (try simp only [Act.put, List.getElem_toArray, List.getElem_cons_succ, List.getElem_cons_zero, List.setIfInBounds_toArray, List.set_cons_zero, List.set_cons_succ]))
              (refine wpAnyH_take (i := 3) (v := ?_) rfl (by kernel_rfl) (by kernel_rfl) (by kernel_rfl) (fun _ _ _ h => h) (Or.inl ⟨by kernel_rfl, ?_⟩) (by assumption) ?_; rotate_left; (focus (intro w hSw; (try dsimp only at hSw); go_simp; all_goals with_reducible rfl)); (try simp only [Act.put, List.getElem_toArray, List.getElem_cons_succ, List.getElem_cons_zero, List.setIfInBounds_toArray, List.set_cons_zero, List.set_cons_succ]))
              (refine wpAnyH_take (i := 4) (v := ?_) rfl (by kernel_rfl) (by kernel_rfl) (by kernel_rfl) (fun _ _ _ h => h) (Or.inl ⟨by kernel_rfl, ?_⟩) (by assumption) ?_; rotate_left; (focus (intro w hSw; (try dsimp only at hSw); go_simp; all_goals with_reducible rfl)); (try simp only [Act.put, List.getElem_toArray, List.getElem_cons_succ, List.getElem_cons_zero, List.setIfInBounds_toArray, List.set_cons_zero, List.set_cons_succ]))
              (refine wpAnyH_take (i := 5) (v := ?_) rfl (by kernel_rfl) (by kernel_rfl) (by kernel_rfl) (fun _ _ _ h => h) (Or.inl ⟨by kernel_rfl, ?_⟩) (by assumption) ?_; rotate_left; (focus (intro w hSw; (try dsimp only at hSw); go_simp; all_goals with_reducible rfl)); (try simp only [Act.put, List.getElem_toArray, List.getElem_cons_succ, List.getElem_cons_zero, List.setIfInBounds_toArray, List.set_cons_zero, List.set_cons_succ]))
              (refine wpAnyH_take (i := 6) (v := ?_) rfl (by kernel_rfl) (by kernel_rfl) (by kernel_rfl) (fun _ _ _ h => h) (Or.inl ⟨by kernel_rfl, ?_⟩) (by assumption) ?_; rotate_left; (focus (intro w hSw; (try dsimp only at hSw); go_simp; all_goals with_reducible rfl)); (try simp only [Act.put, List.getElem_toArray, List.getElem_cons_succ, List.getElem_cons_zero, List.setIfInBounds_toArray, List.set_cons_zero, List.set_cons_succ]))
              (refine wpAnyH_take (i := 7) (v := ?_) rfl (by kernel_rfl) (by kernel_rfl) (by kernel_rfl) (fun _ _ _ h => h) (Or.inl ⟨by kernel_rfl, ?_⟩) (by assumption) ?_; rotate_left; (focus (intro w hSw; (try dsimp only at hSw); go_simp; all_goals with_reducible rfl)); (try simp only [Act.put, List.getElem_toArray, List.getElem_cons_succ, List.getElem_cons_zero, List.setIfInBounds_toArray, List.set_cons_zero, List.set_cons_succ]))
              (refine wpAnyH_take (i := 8) (v := _) rfl (by kernel_rfl) (by kernel_rfl) (by kernel_rfl) (fun _ _ _ h => h) (Or.inl ⟨by kernel_rfl, fun _ hSw => exec_loadS stRou rfl rfl hSw.2.2.2 rfl⟩) (by assumption) ?_; (try simp only [Act.put, List.getElem_toArray, List.getElem_cons_succ, List.getElem_cons_zero, List.setIfInBounds_toArray, List.set_cons_zero, List.set_cons_succ]))
              (refine wpAnyH_ready (rs := [9]) (by kernel_rfl) (by simp) ?_; refine AllReadyH.cons rfl (fun K hK => ?_) AllReadyH.nil)
              go_simp
              have hd : Below wr.heap.size wr wr.drew := (Below.refl _ _).drew
              have hzw : w.heap.size ≤ wr.heap.size := Nat.le_trans HBW.out.size HS.out.bel.size
              have HSH := Lib.hid (rshares_any x y P Q A' c' org (.int .i64 r.typ) (.int .i64 r.start) v0 rfl rfl HV.out.2 C c r.visits wr.drew ((HIW.out.2.2.2.1.more hzw).below hd) (HIW.out.1.below hd) ((HIW.out.2.2.2.2.1.more hzw).below hd) ((HV.out.1.more hzw).below hd) HGG.out.1 HGG.out.2.1 (Nat.le_trans HL.out.1.orders (by decide)) HGG.out.2.2.1 (fun o ho => by have := okLd_len (HL.out.1.load o ho); omega))
              refine HSH.out.mono ?_
              obtain ⟨l, hl⟩ : ∃ l, rsTo x.orders org y.orders r.visits x.orders.length = l := ⟨_, rfl⟩
              have HLL := Lib.hid hl
              have hll : l.length ≤ 1000 := by rw [← hl]; exact Nat.le_trans (rsTo_len _ _ _ _ _) (Nat.le_trans HL.out.1.orders (by decide))
              rw [hl]
              clear hl
              rintro e w5 ⟨A5, c5, cs5, rfl, hown5, hels5, b5'⟩
              have b5 : Below wr.heap.size wr w5 := hd.trans b5'
              have z5 := b5.size
              have hzr := HS.out.bel.size
              have hlow : ∀ q', (Value.slice B ((rs.take q).map fun r => rsTo x.orders org y.orders r.visits x.orders.length).length d).ownBlock = some q' → q' < wr.heap.size := fun q' e => (World.ownsRow.lt HS.out.own q' e).2
              have hro : RowOff oSha w5 (fun b => some b ≠ (Value.slice B ((rs.take q).map fun r => rsTo x.orders org y.orders r.visits x.orders.length).length d).ownBlock ∧ w3.heap.size ≤ b) A5 l := hels5.off hown5 (by omega) (fun b _ hb => ⟨fun e => by have := hlow b e.symm; have hb' : wr.heap.size ≤ b := hb; omega, by have hb' : wr.heap.size ≤ b := hb; omega⟩) (fun b hb => ⟨fun e => by have := hlow b e.symm; have hb' : wr.heap.size ≤ b := hb; omega, by have hb' : wr.heap.size ≤ b := hb; omega⟩)
              have bl : Below w5.heap.size w5 (w5.alloc (.cells #[.slice A5 l.length c5] 51)) := (Below.refl _ _).alloc (Nat.le_refl _) _
              have HS6 := Lib.hid ((HS.out.below b5).below bl)
              have HR6 := Lib.hid (hro.below bl)
              have z6 : w3.heap.size ≤ (w5.alloc (.cells #[.slice A5 l.length c5] 51)).heap.size := Nat.le_trans (by omega) bl.size
              have HF : Hid (∀ w', Below wr.heap.size wr w' → CellsAt w' ⟨w.heap.size, 0, none⟩ (insCs x P) ∧ CellsAt w' ⟨p, 0, none⟩ (insCs y Q) ∧ w'.cell? ⟨w.heap.size + 1, 0, none⟩ = some (.slice (some ad) j cR) ∧ CellsAt w' (ad.add (q * 4)) (RouCells r v0 C c)) := Lib.hid fun w' hb' => by
                have h9 := HI3.out _ (HS.out.bel.trans (hb'.mono hzr))
                exact ⟨h9.2.2.1.cells, h9.2.1.cells, (hb'.cell (p := ⟨w.heap.size + 1, 0, none⟩) (by show w.heap.size + 1 < _; omega)).trans v3, hcs.heap (by rw [block_of_add]; exact hb'.block _ (by omega))⟩
              have f5 := HF.out _ b5
              have f6 := HF.out _ (b5.trans (bl.mono z5))
              clear hown5 hels5 b5' hlow hro
              refine hK.out _ _ (f5) (fun hHeld => ?_)
              clear hK K
              (try simp only [Act.put, List.getElem_toArray, List.getElem_cons_succ, List.getElem_cons_zero, List.setIfInBounds_toArray, List.set_cons_zero, List.set_cons_succ])
              (refine wpAnyH_ready (rs := [10]) (by kernel_rfl) (by simp) ?_; refine AllReadyH.cons rfl (fun K hK => ?_) AllReadyH.nil)
              go_simp
              refine hK.out _ _ (f6) (fun hHeld => ?_)
              clear hK K
              (try simp only [Act.put, List.getElem_toArray, List.getElem_cons_succ, List.getElem_cons_zero, List.setIfInBounds_toArray, List.set_cons_zero, List.set_cons_succ])
              (refine wpAnyH_ready (rs := [11]) (by kernel_rfl) (by simp) ?_; refine AllReadyH.cons rfl (fun K hK => ?_) AllReadyH.nil)
              have HO6 : Hid ((w5.alloc (.cells #[.slice A5 l.length c5] 51)).ownsRow w3.heap.size 51 1 (.slice B q d) q cs) := Lib.hid (by have h := HS6.out.own; rw [HQL.out] at h; exact h)
              have HBL : Hid (∀ b, some b = (Value.slice B ((rs.take q).map fun r => rsTo x.orders org y.orders r.visits x.orders.length).length d).ownBlock → w3.heap.size ≤ b) := Lib.hid (fun b e => (World.ownsRow.lt HS.out.own b e.symm).1)
              have hw3 := HBW.out.size
              have hzz := bl.size
              refine step_app rshs_elem _ _ rfl w3.heap.size B q d cs rfl HO6.out ⟨w5.heap.size, 0, none⟩ 1 [.slice A5 l.length c5] rfl rfl (cell_one_new _ _ _) (fun u hu => by rw [List.mem_singleton] at hu; rw [hu]; rfl) (by omega) z6 rfl ?_
              intro g7 c7 w7 hown7 hg7 hx7
              rw [← HQL.out] at hown7 hg7 hx7
              have HS7 := Lib.hid (HS6.out.push (c0 := c5) HR6.out hown7 hg7 hx7)
              have f7 : CellsAt w7 ⟨w.heap.size, 0, none⟩ (insCs x P) ∧ CellsAt w7 ⟨p, 0, none⟩ (insCs y Q) ∧ w7.cell? ⟨w.heap.size + 1, 0, none⟩ = some (.slice (some ad) j cR) ∧ CellsAt w7 (ad.add (q * 4)) (RouCells r v0 C c) := by
                refine ⟨f6.1.heap (hg7.block _ (by show w.heap.size < _; omega) (fun e => ?_)), f6.2.1.heap (hg7.block _ (by show p < _; omega) (fun e => ?_)), (hg7.cell f6.2.2.1 (fun e => ?_)), f6.2.2.2.heap (hg7.block _ (by rw [block_of_add]; omega) (fun e => ?_))⟩
                · have := HBL.out _ (by first | exact e | exact e.symm); have e' : w3.heap.size ≤ w.heap.size := this; omega
                · have := HBL.out _ (by first | exact e | exact e.symm); have e' : w3.heap.size ≤ p := this; omega
                · have := HBL.out _ (by first | exact e | exact e.symm); have e' : w3.heap.size ≤ w.heap.size + 1 := this; omega
                · rw [block_of_add] at e
                  have := HBL.out _ (by first | exact e | exact e.symm); omega
              clear hown7 hg7 hx7
              refine hK.out _ _ (f7) (fun hHeld => ?_)
              clear hK K
              (try simp only [Act.put, List.getElem_toArray, List.getElem_cons_succ, List.getElem_cons_zero, List.setIfInBounds_toArray, List.set_cons_zero, List.set_cons_succ])
              (refine wpAnyH_take (i := 12) (v := ?_) rfl (by kernel_rfl) (by kernel_rfl) (by kernel_rfl) (fun _ _ _ h => h) (Or.inl ⟨by kernel_rfl, ?_⟩) (by assumption) ?_; rotate_left; (focus (intro w hSw; (try dsimp only at hSw); go_simp; all_goals with_reducible rfl)); (try simp only [Act.put, List.getElem_toArray, List.getElem_cons_succ, List.getElem_cons_zero, List.setIfInBounds_toArray, List.set_cons_zero, List.set_cons_succ]))
              (refine wpAnyH_done (by kernel_rfl) ?_ _)
              go_wp2
              have ht : (rs.take (q + 1)).map (fun r => rsTo x.orders org y.orders r.visits x.orders.length) = (rs.take q).map (fun r => rsTo x.orders org y.orders r.visits x.orders.length) ++ [l] := by rw [← HLL.out, List.take_add_one, HR.out, List.map_append]; rfl
              exact ⟨⟨q + 1, some ⟨g7, 0, none⟩, c7, _, by omega, by go_num, rfl, by rw [ht]; exact HS7⟩, by simp [intOf]; omega⟩
            · have hqj : q = j := by omega
              subst hqj
              clear hlq
              have ht : rs.take q = rs := List.take_of_length_le (by rw [HM.out]; exact Nat.le_refl _)
              have HSF := HS.out
              rw [ht] at HSF
              have HQ2 := HQL.out
              rw [ht] at HQ2
              have HF := Lib.hid (And.intro HSF HQ2)
              clear HSF HQ2 ht
              go_wp2_with fail
              go_ret2
              rw [HOK.out]
              have hz := HBW.out.size
              refine ⟨B, d, cs, by rw [HF.out.2]; rfl, own_less HF.out.1.own hz, HF.out.1.els.weak (fun b _ hb => Nat.le_trans hz hb.2), HBW.out.trans (HF.out.1.bel.mono hz)⟩
    · have HE2 : Hid (rmergeF x org rs = .error 2) := Lib.hid (by rw [HME.out]; show (if org = want then _ else _) = _; rw [if_neg heq])
      have hsb : sameB org want = false := by unfold sameB; simp [heq]
      rw [hsb]
      have HB3 := Lib.hid (hB0.trans ((HB2.out.trans (b3.mono HB2.out.size)).mono z0))
      clear hsb heq b3
      go_wp2_with fail
      go_ret2
      rw [HE2.out]
      exact ⟨rfl, HB3.out⟩
end Go.Proofs.Ytceceomaheobhaa.spl

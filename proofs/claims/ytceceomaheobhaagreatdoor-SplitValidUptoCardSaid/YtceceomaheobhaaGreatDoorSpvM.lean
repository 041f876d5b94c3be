/- The law SplitValid, walked. -/
import Derived.Test.YtceceomaheobhaaGreatDoorSpvGz
import Derived.Test.YtceceomaheobhaaGreatDoorVldR
import Derived.Test.YtceceomaheobhaaGreatDoorZ4
namespace Go.Proofs.YtceceomaheobhaaGreatDoor.spl
open Go.RowKit
open Go.Proofs.YtceceomaheobhaaGreatDoor.lib Go.Proofs.YtceceomaheobhaaGreatDoor.rd Go.Proofs.YtceceomaheobhaaGreatDoor.app Go.Proofs.YtceceomaheobhaaGreatDoor.els Go.Proofs.YtceceomaheobhaaGreatDoor.loads Go.Proofs.YtceceomaheobhaaGreatDoor.typ Go.Proofs.YtceceomaheobhaaGreatDoor.big Go.Proofs.YtceceomaheobhaaGreatDoor.ins Go.Proofs.YtceceomaheobhaaGreatDoor.ord Go.Proofs.YtceceomaheobhaaGreatDoor.flts Go.Proofs.YtceceomaheobhaaGreatDoor.off
set_option linter.unusedVariables false
set_option linter.unusedSimpArgs false

theorem lim_rlim {x : Ins} (h : Lim x) : RLim x := ⟨by have := h.places; omega, fun a ha => by have := h.points a ha; omega, by have := h.net; omega, by have := h.types; omega, by have := h.orders; omega, by have := h.apart; omega, by have := h.before; omega⟩
def oneB (o : Ord) : Bool := o.split == 1
theorem all_take {os : List Ord} {k : Nat} {o : Ord} (h : os[k]? = some o) : (os.take (k + 1)).all oneB = ((os.take k).all oneB && oneB o) := by
  rw [List.take_add_one, h, List.all_append]
  simp
set_option maxRecDepth 100000 in
set_option maxHeartbeats 4000000 in
theorem lawValid_any (x : Ins) (P : InP) (w : World) (h : InAt w w.heap.size x P) (hl : RLim x) :
    Calls Tryz.prog 5 #[InV x P] w fun e w' => e = .returned (.bool true) ∧ Below w.heap.size w w' := by
  obtain ⟨W0, hW0⟩ : ∃ W0, w.alloc (.cells (insCs x P).toArray 30) = W0 := ⟨_, rfl⟩
  have hB0 : Below w.heap.size w W0 := by rw [← hW0]; exact (Below.refl _ _).alloc (Nat.le_refl _) _
  have z0 := hB0.size
  have b0 : SixAt W0 w.heap.size (insCs x P) := by rw [← hW0]; exact World.alloc_heap_new w _
  have hs0 : w.heap.size < W0.heap.size := by rw [← hW0]; simp
  have HX := Lib.hid (fun w' (h' : Below W0.heap.size W0 w') => (b0.below h'))
  have HI := Lib.hid (fun w' (h' : Below W0.heap.size W0 w') => (h.go hB0).go h')
  have hW1 : w.alloc (.cells #[.slice P.a0 x.net.places.length P.c0, .slice P.a1 x.net.arcs.length P.c1, .slice P.a2 x.types.length P.c2, .slice P.a3 x.orders.length P.c3, .slice P.a4 x.apart.length P.c4, .slice P.a5 x.before.length P.c5] 30) = W0 := hW0
  have HW1 := Lib.hid hW1
  have C0 := Below.refl W0.heap.size W0
  clear hW0 hW1 b0
  simp only [InV]
  have HL := Lib.hid hl
  have HOR := Lib.hid (fun w' (h' : Below W0.heap.size W0 w') => h.orders.below (hB0.trans (h'.mono z0)))
  obtain ⟨N, hN⟩ : ∃ N, x.orders.length = N := ⟨_, rfl⟩
  have HN := Lib.hid hN
  rw [hN]
  rw [hN] at HW1
  have hN9 := h.orders.1
  rw [hN] at hN9
  clear hl h hN
  go_enter Tryz.func5, Tryz.ntmps5
  go_upto_region 1 with fail
  rw [HW1.out]
  clear HW1
  go_wp2_with ((with_reducible refine wpList_loadG stIns _ rfl ⟨w.heap.size, 0, none⟩ (insCs (x) P) ?_ ?_ ?_ ?_ ?_); exact rfl; exact rfl; exact (HX.out _ C0).cells; exact rfl)
  refine (right_any x P W0 (HI.out _ C0) HL.out).mono ?_
  rintro e w1 ⟨rfl, b1⟩
  have HB1 := Lib.hid b1
  clear b1
  by_cases hF : insF x = []
  rotate_left
  · rw [decide_eq_false hF]
    go_wp2_with fail
    refine (examples_any w1).mono ?_
    rintro e w8 ⟨rfl, b8⟩
    have HB8 := Lib.hid (HB1.out.trans (b8.mono HB1.out.size))
    go_wp2_with fail
    go_ret
    exact ⟨rfl, hB0.trans (HB8.out.mono z0)⟩
  rw [decide_eq_true hF]
  have HA := Lib.hid (acc_of hF)
  have HF := Lib.hid hF
  clear hF
  go_wp2_with ((with_reducible refine wpList_loadG stIns _ rfl ⟨w.heap.size, 0, none⟩ (insCs (x) P) ?_ ?_ ?_ ?_ ?_); exact rfl; exact rfl; exact (HX.out _ HB1.out).cells; exact rfl)
  refine (expand_any x P _ (HI.out _ HB1.out) HA.out.lim).mono ?_
  obtain ⟨r, hr⟩ : ∃ r, expF x = r := ⟨_, rfl⟩
  have HR := Lib.hid hr
  rw [hr]
  intro e w2 h2
  obtain ⟨P1, A1, n1, c1, rfl, hn1, hI1, hG1, b2⟩ := h2.gen
  obtain ⟨Y, hY⟩ : ∃ Y, expY r = Y := ⟨_, rfl⟩
  obtain ⟨k, hk⟩ : ∃ k, expK r = k := ⟨_, rfl⟩
  rw [hY] at hI1 ⊢
  rw [hk]
  have HYK := Lib.hid (And.intro hY (And.intro hk hn1))
  have HB2 := Lib.hid (HB1.out.trans (b2.mono HB1.out.size))
  have HI1 := Lib.hid (And.intro hI1 hG1)
  obtain ⟨NY, hNY⟩ : ∃ N, Y.orders.length = N := ⟨_, rfl⟩
  have HNY := Lib.hid hNY
  clear h2 hn1 hI1 hG1 hY hk hr b2 hNY
  go_upto_region 4 with ((with_reducible refine wpList_storeL stIns rfl _ _ rfl w2.heap.size nilCs (insCs Y P1) ?_ ?_ ?_ ?_ ?_ (insCs_one _ _) ?_); exact rfl; exact rfl; exact World.alloc_heap_new w2 _; exact rfl; exact rfl; intro w3 k1 k2 k3 k4; have K := Lib.hid (And.intro k1 (And.intro k2 (And.intro k3 k4))); clear k1 k2 k3 k4)
  (try simp only [Act.put, List.getElem_toArray, List.getElem_cons_succ, List.getElem_cons_zero, List.setIfInBounds_toArray, List.set_cons_zero, List.set_cons_succ])
  obtain ⟨k1, k2, k3, k4⟩ := K.out
  have b3 : Below w2.heap.size w2 w3 := ((Below.refl _ _).alloc (Nat.le_refl _) _).trans k4
  have HB3 := Lib.hid (HB2.out.trans (b3.mono HB2.out.size))
  have z3 := HB3.out.size
  have k1' : SixAt w3 w2.heap.size (insCs Y P1) := k1
  obtain ⟨g1, hg1⟩ : ∃ g1, w2.heap.size = g1 := ⟨_, rfl⟩
  have HY3 : Hid (∀ w', Below w3.heap.size w3 w' → SixAt w' g1 (insCs Y P1) ∧ InAt w' w'.heap.size Y P1) := Lib.hid fun w' hb => ⟨by rw [← hg1]; exact k1'.below hb, (HI1.out.1.go b3).go hb⟩
  rw [hg1]
  clear k1 k2 k3 k4 K k1' hg1 b3 HI1
  have x3 : w3.cell? ⟨w.heap.size, 3, none⟩ = some (.slice P.a3 N P.c3) := by rw [← HN.out]; exact (HX.out _ HB3.out).cell (j := 3) rfl
  go_wp2_with fail
  clear x3
  go_loopw [6, 8, 27] (fun v _ i wr => ∃ j : Nat, j ≤ N ∧ i = .int .i64 j ∧ v = .bool ((x.orders.take j).all oneB) ∧ Hid (Below w3.heap.size w3 wr)) (fun _ _ i _ => N - (intOf i).toNat)
  case atStart => exact ⟨0, by omega, rfl, rfl, Lib.hid (Below.refl _ _)⟩
  case round =>
    obtain ⟨j, hj, rfl, rfl, HB⟩ := hrel
    have hz3 := HB.out.size
    have HBW := Lib.hid (HB3.out.trans (HB.out.mono z3))
    by_cases hlj : j < N
    · obtain ⟨o, ho⟩ : ∃ o, x.orders[j]? = some o := ⟨_, List.getElem?_eq_getElem (by rw [HN.out]; exact hlj)⟩
      obtain ⟨ad, cs0, hA, hadb, hat, hcs⟩ := (HOR.out _ HBW.out).elem ho
      obtain ⟨C, cc, rfl, hI, hf⟩ := rOrd_at hat
      have HT := Lib.hid (all_take ho)
      have HC := Lib.hid hcs
      have hj0 : (0 : Int) ≤ (j : Int) := by omega
      have hjn : (j : Int) < (N : Int) := by omega
      rw [hA]
      clear ho hat hcs hI hf
      go_upto_region 8 with (first
        | ((with_reducible refine wpList_loadG stOrd' _ rfl (ad.add (j * 16)) (OrdCells o C cc) ?_ ?_ ?_ ?_ ?_); exact rfl; exact rfl; exact HC.out; exact rfl)
        | ((with_reducible refine wpList_storeL stOrd' rfl _ _ rfl wr.heap.size ordZs (OrdCells o C cc) ?_ ?_ ?_ ?_ ?_ (ordCells_one _ _ _) ?_); exact rfl; exact rfl; exact World.alloc_heap_new wr _; exact rfl; exact rfl; intro w4 k1 k2 k3 k4; have K := Lib.hid (And.intro k1 (And.intro k2 (And.intro k3 k4))); clear k1 k2 k3 k4))
      (try simp only [Act.put, List.getElem_toArray, List.getElem_cons_succ, List.getElem_cons_zero, List.setIfInBounds_toArray, List.set_cons_zero, List.set_cons_succ])
      obtain ⟨k1, k2, k3, k4⟩ := K.out
      have b4 : Below wr.heap.size wr w4 := ((Below.refl _ _).alloc (Nat.le_refl _) _).trans k4
      have HO4 : OrBlk w4 wr.heap.size o C cc := k1
      have p1 : w4.cell? ⟨wr.heap.size, 12, none⟩ = some (.int .i64 o.split) := orBlk_at HO4 12 _ rfl
      have HB4 := Lib.hid (HB.out.trans (b4.mono hz3))
      obtain ⟨sp, hsp⟩ : ∃ sp, (o.split == 1) = sp := ⟨_, rfl⟩
      have HSP : Hid ((x.orders.take (j + 1)).all oneB = ((x.orders.take j).all oneB && sp)) := Lib.hid (by rw [HT.out]; unfold oneB; rw [hsp])
      clear k1 k2 k3 k4 b4 K HC HO4
      obtain ⟨b, hb⟩ : ∃ b, (x.orders.take j).all oneB = b := ⟨_, rfl⟩
      rw [hb] at HSP ⊢
      clear hb
      cases b
      · go_wp2_with fail
        exact ⟨⟨j + 1, by omega, by go_num, by rw [HSP.out]; rfl, HB4⟩, by simp [intOf]; omega⟩
      · go_wp2_with fail
        exact ⟨⟨j + 1, by omega, by go_num, by rw [HSP.out]; rfl, HB4⟩, by simp [intOf]; omega⟩
    · have hjn : j = N := by omega
      subst hjn
      clear hlj
      obtain ⟨b, hb⟩ : ∃ b, (x.orders.take j).all oneB = b := ⟨_, rfl⟩
      have HW : Hid (b = true → expF x = .ok (x, idsL x.orders.length)) := Lib.hid (fun e => by
        rw [e, List.take_of_length_le (by rw [HN.out]; exact Nat.le_refl _), List.all_eq_true] at hb
        exact whole_exp HF.out (fun o ho => by simpa [oneB] using hb o ho))
      rw [hb]
      clear hb
      have hzw : W0.heap.size ≤ wr.heap.size := HBW.out.size
      rcases r with kk | ⟨Y', want⟩
      · have hkk := expF_err HR.out
        have hYn : nilI = Y := HYK.out.1
        have hkn : kk = k := HYK.out.2.1
        have hn0 : (0 : Nat) = n1 := HYK.out.2.2
        subst hkn
        subst hn0
        have hNY0 : NY = 0 := by rw [← HNY.out, ← hYn]; rfl
        have y3 : wr.cell? ⟨g1, 3, none⟩ = some (.slice P1.a3 0 P1.c3) := by rw [← hNY0, ← HNY.out]; exact ((HY3.out _ HB.out).1).cell (j := 3) rfl
        have h1 : (kk != 0) = true := by simp [hkk]
        have h2 : (kk == 0) = false := by simp [hkk]
        have h00 : (((0 : Nat) : Int) == 0) = true := rfl
        cases b
        · clear hYn hNY0 hkk
          go_wp2_with fail
          refine (examples_any wr).mono ?_
          rintro e w8 ⟨rfl, b8⟩
          have HB8 := Lib.hid (HBW.out.trans (b8.mono HBW.out.size))
          go_wp2_with fail
          go_ret
          exact ⟨rfl, hB0.trans (HB8.out.mono z0)⟩
        · have := HW.out rfl
          rw [HR.out] at this
          cases this
      · have hYn : Y' = Y := HYK.out.1
        have hkn : (0 : Int) = k := HYK.out.2.1
        have hn0 : want.length = n1 := HYK.out.2.2
        subst hYn
        subst hkn
        have HV := Lib.hid (exp_valid HF.out HR.out)
        have HV1 := Lib.hid (exp_whole HF.out HR.out)
        have hny : n1 = NY := by rw [← HNY.out, ← (HA.out.good HR.out).len, hn0]
        subst hny
        have HWN := Lib.hid hn0
        clear hn0
        have hnn : ((n1 : Int) != (n1 : Int)) = false := by simp
        have hnn2 : ((n1 : Int) == (n1 : Int)) = true := by simp
        have HYA := Lib.hid (HY3.out _ HB.out)
        go_upto_region 12 with fail
        go_cut [81] (fun v wx => v = .bool false ∧ Below wr.heap.size wr wx)
        case first => as_aux_lemma =>
          go_wp2_with ((with_reducible refine wpList_loadG stIns _ rfl ⟨g1, 0, none⟩ (insCs (Y') P1) ?_ ?_ ?_ ?_ ?_); exact rfl; exact rfl; exact (HYA.out).1.cells; exact rfl)
          refine (icheck_any Y' P1 wr HYA.out.2 (lim_of HV.out)).mono ?_
          rw [HV.out]
          rintro e w4 ⟨A4, c4, rfl, hown4, b4⟩
          have HB4 := Lib.hid b4
          have HYB := Lib.hid (HY3.out _ (HB.out.trans (b4.mono hz3)))
          clear hown4 b4
          go_wp2_with ((with_reducible refine wpList_loadG stIns _ rfl ⟨g1, 0, none⟩ (insCs (Y') P1) ?_ ?_ ?_ ?_ ?_); exact rfl; exact rfl; exact (HYB.out).1.cells; exact rfl)
          refine (right_any Y' P1 w4 HYB.out.2 (lim_rlim (lim_of HV.out))).mono ?_
          rw [decide_eq_true HV.out]
          rintro e w5 ⟨rfl, b5⟩
          have HB5 := Lib.hid (HB4.out.trans (b5.mono HB4.out.size))
          have HYC := Lib.hid (HY3.out _ (HB.out.trans (HB5.out.mono hz3)))
          have y5 : w5.cell? ⟨g1, 3, none⟩ = some (.slice P1.a3 n1 P1.c3) := by rw [← HNY.out]; exact (HYC.out.1).cell (j := 3) rfl
          clear b5
          cases b
          · go_wp2_with fail
            go_meet
            exact ⟨rfl, HB5.out⟩
          · have hs : sameI x Y' = true := by
              have := HW.out rfl
              rw [HR.out] at this
              injection this with this
              injection this with this _
              rw [this]
              exact sameI_self x
            have HS := Lib.hid hs
            clear hs
            go_wp2_with (first
              | ((with_reducible refine wpList_loadG stIns _ rfl ⟨w.heap.size, 0, none⟩ (insCs (x) P) ?_ ?_ ?_ ?_ ?_); exact rfl; exact rfl; exact (HX.out _ (HBW.out.trans (HB5.out.mono hzw))).cells; exact rfl)
              | ((with_reducible refine wpList_loadG stIns _ rfl ⟨g1, 0, none⟩ (insCs (Y') P1) ?_ ?_ ?_ ?_ ?_); exact rfl; exact rfl; exact (HYC.out).1.cells; exact rfl))
            refine (r15same_any x Y' P P1 w5 (HI.out _ (HBW.out.trans (HB5.out.mono hzw))) HYC.out.2).mono ?_
            rw [HS.out]
            rintro e w6 ⟨rfl, b6⟩
            have HB6 := Lib.hid (HB5.out.trans (b6.mono HB5.out.size))
            clear b6
            go_wp2_with fail
            go_meet
            exact ⟨rfl, HB6.out⟩
        obtain ⟨hv, hb6⟩ := hcut
        subst hv
        have HB6 := Lib.hid (HB.out.trans (hb6.mono hz3))
        have hz6 := HB6.out.size
        have HBW6 := Lib.hid (HB3.out.trans (HB6.out.mono z3))
        have HY6 := Lib.hid (HY3.out _ HB6.out)
        have HE2 : Hid (expF Y' = .ok (Y', idsL n1)) := Lib.hid (by rw [← HNY.out]; exact whole_exp HV.out HV1.out)
        clear hb6 HYA
        go_wp2_with ((with_reducible refine wpList_loadG stIns _ rfl ⟨g1, 0, none⟩ (insCs (Y') P1) ?_ ?_ ?_ ?_ ?_); exact rfl; exact rfl; exact HY6.out.1.cells; exact rfl)
        refine (expand_any Y' P1 wc HY6.out.2 (acc_of HV.out).lim).mono ?_
        rw [HE2.out]
        rintro e w7 ⟨P2, A2, c2, rfl, hI2, hG2, b7⟩
        rw [ids_len]
        have HB7 := Lib.hid (HB6.out.trans (b7.mono hz6))
        have HI2 := Lib.hid (And.intro hI2 hG2)
        clear hI2 hG2 b7
        go_upto_region 15 with ((with_reducible refine wpList_storeL stIns rfl _ _ rfl w7.heap.size nilCs (insCs Y' P2) ?_ ?_ ?_ ?_ ?_ (insCs_one _ _) ?_); exact rfl; exact rfl; exact World.alloc_heap_new w7 _; exact rfl; exact rfl; intro w8 k1 k2 k3 k4; have K := Lib.hid (And.intro k1 (And.intro k2 (And.intro k3 k4))); clear k1 k2 k3 k4)
        (try simp only [Act.put, List.getElem_toArray, List.getElem_cons_succ, List.getElem_cons_zero, List.setIfInBounds_toArray, List.set_cons_zero, List.set_cons_succ])
        obtain ⟨k1, k2, k3, k4⟩ := K.out
        have b8 : Below w7.heap.size w7 w8 := ((Below.refl _ _).alloc (Nat.le_refl _) _).trans k4
        have HB8 := Lib.hid (HB7.out.trans (b8.mono HB7.out.size))
        have z8 := HB8.out.size
        have k1' : SixAt w8 w7.heap.size (insCs Y' P2) := k1
        obtain ⟨g2, hg2⟩ : ∃ g2, w7.heap.size = g2 := ⟨_, rfl⟩
        have HY8 : Hid (∀ w', Below w8.heap.size w8 w' → (SixAt w' g1 (insCs Y' P1) ∧ InAt w' w'.heap.size Y' P1) ∧ (SixAt w' g2 (insCs Y' P2) ∧ InAt w' w'.heap.size Y' P2) ∧ Ints w' w'.heap.size A2 (idsL n1)) := Lib.hid fun w' hb => ⟨HY3.out _ (HB8.out.trans (hb.mono z8)), ⟨by rw [← hg2]; exact k1'.below hb, (HI2.out.1.go b8).go hb⟩, (HI2.out.2.below (b8.trans (hb.mono b8.size))).more (Nat.le_trans b8.size hb.size)⟩
        rw [hg2]
        clear k1 k2 k3 k4 K k1' hg2 b8 HI2 HY3 HY6
        have hn9 : n1 ≤ 17592186043904 := by have h := ((HY8.out _ (Below.refl _ _)).2.2).len; rw [ids_len] at h; exact h
        go_wp2_with fail
        go_loopw [12, 13, 90] (fun _ _ i wr => ∃ q : Nat, q ≤ n1 ∧ i = .int .i64 q ∧ Hid (Below w8.heap.size w8 wr)) (fun _ _ i _ => n1 - (intOf i).toNat)
        case atStart => exact ⟨0, by omega, rfl, Lib.hid (Below.refl _ _)⟩
        case round =>
          obtain ⟨q, hq, rfl, HB9⟩ := hrel
          by_cases hqn : q < n1
          · obtain ⟨ad, v, hA2, hadb, hv, hcv⟩ := ((HY8.out _ HB9.out).2.2).at_ (k := q) (by rw [ids_len]; exact hqn)
            have hvq : (q : Int) = v := by rw [ids_at hqn] at hv; exact Option.some.inj hv
            subst hvq
            have hqq : ((q : Int) != (q : Int)) = false := by simp
            have hq0 : (0 : Int) ≤ (q : Int) := by omega
            have hqn' : (q : Int) < (n1 : Int) := by omega
            rw [hA2]
            clear hv
            go_wp2_with fail
            exact ⟨⟨q + 1, by omega, by go_num, HB9⟩, by simp [intOf]; omega⟩
          · have hqn' : q = n1 := by omega
            subst hqn'
            clear hqn
            go_wp2_with (first
              | ((with_reducible refine wpList_loadG stIns _ rfl ⟨g1, 0, none⟩ (insCs (Y') P1) ?_ ?_ ?_ ?_ ?_); exact rfl; exact rfl; exact (HY8.out _ HB9.out).1.1.cells; exact rfl)
              | ((with_reducible refine wpList_loadG stIns _ rfl ⟨g2, 0, none⟩ (insCs (Y') P2) ?_ ?_ ?_ ?_ ?_); exact rfl; exact rfl; exact (HY8.out _ HB9.out).2.1.1.cells; exact rfl))
            refine (r15same_any Y' Y' P1 P2 wr (HY8.out _ HB9.out).1.2 (HY8.out _ HB9.out).2.1.2).mono ?_
            rw [sameI_self]
            rintro e w10 ⟨rfl, b10⟩
            have HB10 := Lib.hid (HB3.out.trans (((HB8.out.trans (HB9.out.mono z8)).trans (b10.mono (Nat.le_trans z8 HB9.out.size))).mono z3))
            clear b10
            go_wp2_with fail
            refine (examples_any w10).mono ?_
            rintro e w8 ⟨rfl, b8⟩
            have HB8 := Lib.hid (HB10.out.trans (b8.mono HB10.out.size))
            go_wp2_with fail
            go_ret
            exact ⟨rfl, hB0.trans (HB8.out.mono z0)⟩
end Go.Proofs.YtceceomaheobhaaGreatDoor.spl

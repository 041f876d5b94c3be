/- split.shares, walked. -/
import Derived.Test.YtceceomaheobhaaGreatDoorSpR
import Derived.Test.YtceceomaheobhaaGreatDoorZ4
import Derived.Deep.DeepCutAuto
import Derived.Deep.CutBlock
import Derived.Deep.QuietTactic
import Derived.BigQuiet
import Derived.Deep.RegionHeld3
import Derived.Deep.RegionWith
namespace Go.Proofs.YtceceomaheobhaaGreatDoor.spl
open Go.RowKit
open Go.Proofs.YtceceomaheobhaaGreatDoor.lib Go.Proofs.YtceceomaheobhaaGreatDoor.rd Go.Proofs.YtceceomaheobhaaGreatDoor.app Go.Proofs.YtceceomaheobhaaGreatDoor.els Go.Proofs.YtceceomaheobhaaGreatDoor.loads Go.Proofs.YtceceomaheobhaaGreatDoor.typ Go.Proofs.YtceceomaheobhaaGreatDoor.big Go.Proofs.YtceceomaheobhaaGreatDoor.ins Go.Proofs.YtceceomaheobhaaGreatDoor.ord Go.Proofs.YtceceomaheobhaaGreatDoor.flts Go.Proofs.YtceceomaheobhaaGreatDoor.off
set_option linter.unusedVariables false
set_option linter.unusedSimpArgs false

theorem allOk_at {n : Nat} {vs : List Vis} {k : Nat} {v : Vis} (h : vs[k]? = some v) : (vs.drop k).all (visOk n) = (visOk n v && (vs.drop (k + 1)).all (visOk n)) := by
  rw [drop_at' h, List.all_cons]
theorem mul_two (k : Nat) : ((k : Int) * 1000) ≤ 1000000 ↔ k ≤ 1000 := by omega
theorem bd_inM {m : Int} {l : List Int} (h : BdL m l) (hm : m ≤ 1073741824) : lod.InM 1073741824 l := fun x hx => by have := h x hx; omega
set_option maxRecDepth 100000 in
set_option maxHeartbeats 4000000 in
theorem shares_any (x : Ins) (P : InP) (A' : Option Addr) (c' : Nat) (org : List Int) (u0 u1 u2 : Value) (A2 : Option Addr) (c2 : Nat) (vs : List Vis) (w : World)
    (h : InAt w w.heap.size x P) (hO : Ints w w.heap.size A' org) (hV : RowAt rVis w w.heap.size A2 vs) (hlen : org.length = x.orders.length) (hno : x.orders.length ≤ 1000) (hld : ∀ o ∈ x.orders, BdL 1000 o.load) (hll : ∀ o ∈ x.orders, o.load.length ≤ 1000000) (hfo : ∀ g ∈ org, -9223372036854775808 ≤ g ∧ g ≤ 9223372036854775807) :
    Calls Tryz.prog 83 #[InV x P, .slice A' org.length c', .agg #[u0, u1, u2, .slice A2 vs.length c2]] w (ShsOut w (shF x.orders org vs)) := by
  obtain ⟨W0, hW0⟩ : ∃ W0, (w.alloc (.cells (insCs x P).toArray 30)).alloc (.cells #[u0, u1, u2, .slice A2 vs.length c2] 78) = W0 := ⟨_, rfl⟩
  have hB0 : Below w.heap.size w W0 := by rw [← hW0]; exact ((Below.refl _ _).alloc (Nat.le_refl _) _).alloc (by simp) _
  have z0 := hB0.size
  have hs0 : w.heap.size + 1 < W0.heap.size := by rw [← hW0]; simp
  have b0 : SixAt W0 w.heap.size (insCs x P) := by
    rw [← hW0]
    unfold SixAt
    rw [Below.heap_alloc _ _ _ (by simp)]
    exact World.alloc_heap_new w _
  have v3 : W0.cell? ⟨w.heap.size + 1, 3, none⟩ = some (.slice A2 vs.length c2) := by
    rw [← hW0]
    have h := World.alloc_heap_new (w.alloc (.cells (insCs x P).toArray 30)) (.cells #[u0, u1, u2, .slice A2 vs.length c2] 78)
    rw [show (w.alloc (.cells (insCs x P).toArray 30)).heap.size = w.heap.size + 1 by simp] at h
    unfold World.cell?
    rw [h]
    rfl
  have HX := Lib.hid (fun w' (h' : Below W0.heap.size W0 w') => (And.intro (b0.below h') (And.intro (h.orders.below (hB0.trans (h'.mono z0))) (And.intro (hO.below (hB0.trans (h'.mono z0))) (hV.below (hB0.trans (h'.mono z0)))))))
  have hW1 : (w.alloc (.cells #[.slice P.a0 x.net.places.length P.c0, .slice P.a1 x.net.arcs.length P.c1, .slice P.a2 x.types.length P.c2, .slice P.a3 x.orders.length P.c3, .slice P.a4 x.apart.length P.c4, .slice P.a5 x.before.length P.c5] 30)).alloc (.cells #[u0, u1, u2, .slice A2 vs.length c2] 78) = W0 := hW0
  obtain ⟨n, hn⟩ : ∃ n, x.orders.length = n := ⟨_, rfl⟩
  obtain ⟨m, hm⟩ : ∃ n, vs.length = n := ⟨_, rfl⟩
  have hmm := hV.len
  have x3 : W0.cell? ⟨w.heap.size, 3, none⟩ = some (.slice P.a3 n P.c3) := by rw [← hn]; exact b0.cell (j := 3) rfl
  rw [hn] at hno hlen
  rw [hm] at v3 hmm
  have HLD := Lib.hid (And.intro hld (And.intro hll hfo))
  obtain ⟨R, hR⟩ : ∃ R, shF x.orders org vs = R := ⟨_, rfl⟩
  have HR : Hid ((vs.drop 0).all (visOk n) = true → R = some (shTo x.orders org vs n)) := Lib.hid (fun e => by rw [← hR]; unfold shF; rw [hn]; exact if_pos e)
  have HRn : Hid ((vs.drop 0).all (visOk n) = false → R = none) := Lib.hid (fun e => by rw [← hR]; unfold shF; rw [hn]; exact if_neg (by rw [show vs.all (visOk n) = false from e]; simp))
  rw [hn, hm] at hW1
  have HN := Lib.hid (And.intro hn (And.intro hm hlen))
  have HW1 := Lib.hid hW1
  rw [hR]
  simp only [InV]
  rw [hn, hm, hlen]
  clear hn hm hlen hR hW0 hW1 h hO hV b0 hld hll hfo
  go_enter Tryz.func83, Tryz.ntmps83
  go_upto_region 1 with fail
  rw [HW1.out]
  go_upto_region 2 with (at_make; refine make_bools rfl _ _ rfl W0.heap.size n rfl rfl (by omega) (Nat.le_refl _) ?_; intro w1 hown1 hb1 hz1)
  have v3' : w1.cell? ⟨w.heap.size + 1, 3, none⟩ = some (.slice A2 m c2) := (hb1.cell (p := ⟨w.heap.size + 1, 3, none⟩) hs0).trans v3
  obtain ⟨G, hG⟩ : ∃ G, W0.heap.size = G := ⟨_, rfl⟩
  rw [hG] at hown1 hb1 hz1 hs0 z0 HX
  rw [hG]
  have HO1 : Hid (w1.ownsRow G 4 1 (.slice (some ⟨G, 0, none⟩) n n) n ((snL n (vs.take 0)).map .bool)) := Lib.hid (by rw [List.take_zero, snL_nil]; exact hown1)
  clear v3 x3 hown1 hG
  go_upto_region 3 with fail
  clear v3'
  go_loopw [10, 22] (fun _ i wr => ∃ k : Nat, k ≤ m ∧ i = .int .i64 k ∧ Hid ((vs.drop 0).all (visOk n) = (vs.drop k).all (visOk n)) ∧ Hid (wr.ownsRow G 4 1 (.slice (some ⟨G, 0, none⟩) n n) n ((snL n (vs.take k)).map .bool)) ∧ Below G W0 wr ∧ G < wr.heap.size) (fun _ i _ => m - (intOf i).toNat)
  case atStart => exact ⟨0, by omega, rfl, Lib.hid rfl, HO1, hb1, hz1⟩
  case round =>
    clear HO1 hb1 hz1
    obtain ⟨k, hk, rfl, hal, hown, hb, hz⟩ := hrel
    by_cases hlt : k < m
    · obtain ⟨v, hv⟩ : ∃ v, vs[k]? = some v := ⟨_, List.getElem?_eq_getElem (by rw [HN.out.2.1]; exact hlt)⟩
      obtain ⟨ad, rfl, hadb, ⟨m0, m1⟩, hf⟩ := row_Vis (HX.out _ hb).2.2.2 hv
      have HT := Lib.hid (allOk_at (n := n) hv)
      have hk0 : (0 : Int) ≤ (k : Int) := by omega
      have hkn : (k : Int) < (m : Int) := by omega
      by_cases hok : 0 ≤ v.order ∧ v.order < (n : Int)
      · obtain ⟨q, hq⟩ := Int.eq_ofNat_of_zero_le hok.1
        have hqn : q < n := by omega
        have htk : vs.take (k + 1) = vs.take k ++ [v] := by
          have h := List.take_succ_eq_append_getElem (List.getElem?_eq_some_iff.1 hv).1
          rw [(List.getElem?_eq_some_iff.1 hv).2] at h
          exact h
        have hst := (hown.out.stored q (.bool true)).1
        rw [← List.map_set, ← snL_snoc hq hqn, ← htk] at hst
        have HST := Lib.hid hst
        have hfz := hown.out.frozenAt q
        have hck := own_bool hown.out (snL_at (vs.take k) hqn)
        have HAL : Hid ((vs.drop 0).all (visOk n) = (vs.drop (k + 1)).all (visOk n)) := Lib.hid (by rw [hal.out, HT.out]; unfold visOk; rw [decide_eq_true hok, Bool.true_and])
        have hq0 : (0 : Int) ≤ (q : Int) := by omega
        have hqn' : (q : Int) < (n : Int) := by omega
        rw [hq] at m0
        clear hv hst htk hok hq HT
        go_wp2
        exact ⟨⟨k + 1, by omega, by go_num, HAL, Lib.hid (HST.out.alloc _), (hb.setCell (p := ⟨G, q, none⟩) (Nat.le_refl _) _).alloc (by simp; omega) _, by simp; omega⟩, by simp [intOf]; omega⟩
      · have HRR : Hid (R = none) := Lib.hid (HRn.out (by rw [hal.out, HT.out]; unfold visOk; rw [decide_eq_false hok, Bool.false_and]))
        clear hv
        go_wp2
        all_goals
          go_ret2
          rw [HRR.out]
          exact ⟨rfl, hB0.trans ((hb.alloc (by omega) _).mono z0)⟩
    · have hkm : k = m := by omega
      subst hkm
      clear hlt
      have HRR : Hid (R = some (shTo x.orders org vs n)) := Lib.hid (HR.out (by rw [hal.out, List.drop_of_length_le (by rw [HN.out.2.1]; exact Nat.le_refl _)]; rfl))
      have htk : vs.take k = vs := List.take_of_length_le (by rw [HN.out.2.1]; exact Nat.le_refl _)
      rw [htk] at hown
      clear htk HR HRn hal hmm hk HW1
      obtain ⟨W1, hW1⟩ : ∃ W1, W1 = wr := ⟨_, rfl⟩
      subst hW1
      have HX1 := Lib.hid (fun w' (h' : Below W1.heap.size W1 w') => HX.out w' (hb.trans (h'.mono (by omega))))
      have HOW := Lib.hid (fun w' (h' : Below W1.heap.size W1 w') => own_below hown.out h')
      have hBW : Below w.heap.size w W1 := hB0.trans (hb.mono z0)
      have x3 : W1.cell? ⟨w.heap.size, 3, none⟩ = some (.slice P.a3 n P.c3) := by
        have h := (HX1.out _ (Below.refl _ _)).1.cell (j := 3) rfl
        rw [HN.out.1] at h
        exact h
      clear hown hb HX
      go_upto_region 11 with fail
      clear x3
      have zw := hBW.size
      go_loopw [11, 12, 13, 14, 44] (fun v _ _ _ i wr => ∃ (j : Nat) (u : List Sha) (B : Option Addr) (d : Nat) (cs : List Value), j ≤ n ∧ i = .int .i64 j ∧ Hid (u = shTo x.orders org vs j) ∧ v = .slice B u.length d ∧ Hid (ShSt W1 u wr B d cs)) (fun _ _ _ _ i _ => n - (intOf i).toNat)
      case atStart => exact ⟨0, [], none, 0, [], by omega, rfl, Lib.hid rfl, rfl, Lib.hid (ShSt.nil _)⟩
      case round =>
        obtain ⟨j, u, B, d, cs, hj, rfl, hu, rfl, HS⟩ := hrel
        have hul : u.length ≤ j := by rw [hu.out]; exact shTo_len _ _ _ _
        by_cases hlj : j < n
        · obtain ⟨o, ho⟩ : ∃ o, x.orders[j]? = some o := ⟨_, List.getElem?_eq_getElem (by rw [HN.out.1]; exact hlj)⟩
          obtain ⟨ad, cs0, hA, hadb, hat, hcs⟩ := ((HX1.out _ HS.out.bel).2.1).elem ho
          obtain ⟨C, cc, rfl, hI, hf⟩ := rOrd_at hat
          obtain ⟨ad1, g, rfl, hadb1, hg, hcg⟩ := ((HX1.out _ HS.out.bel).2.2.1).at_ (k := j) (by rw [HN.out.2.2]; exact hlj)
          have HT := Lib.hid (And.intro ho hg)
          have HC := Lib.hid hcs
          have HI := Lib.hid hI
          have hsn := own_bool (HOW.out _ HS.out.bel) (snL_at vs hlj)
          have hzr := HS.out.bel.size
          have hld1 : BdL 1000 o.load := HLD.out.1 o (List.mem_of_getElem? ho)
          have hll1 : o.load.length ≤ 1000000 := HLD.out.2.1 o (List.mem_of_getElem? ho)
          have hfg := HLD.out.2.2 g (List.mem_of_getElem? hg)
          have HLo := Lib.hid (And.intro hld1 (And.intro hll1 hfg))
          have hj0 : (0 : Int) ≤ (j : Int) := by omega
          have hjn : (j : Int) < (n : Int) := by omega
          have HUB : Hid (∀ s ∈ u, BdL ((j : Int) * 1000) s.load) := Lib.hid (by rw [hu.out]; exact shTo_bd _ _ _ HLD.out.1 j)
          clear ho hat hcs hI hf hg hld1 hll1 hfg
          rw [hA]
          go_upto_region 13 with (first
            | ((with_reducible refine wpList_loadG stOrd' _ rfl (ad.add (j * 16)) (OrdCells o C cc) ?_ ?_ ?_ ?_ ?_); exact rfl; exact rfl; exact HC.out; exact rfl)
            | ((with_reducible refine wpList_storeL stOrd' rfl _ _ rfl wr.heap.size ordZs (OrdCells o C cc) ?_ ?_ ?_ ?_ ?_ (ordCells_one _ _ _) ?_); exact rfl; exact rfl; exact World.alloc_heap_new wr _; exact rfl; exact rfl; intro w2 k1 k2 k3 k4; have K := Lib.hid (And.intro k1 (And.intro k2 (And.intro k3 k4))); clear k1 k2 k3 k4))
          (try simp only [Act.put, List.getElem_toArray, List.getElem_cons_succ, List.getElem_cons_zero, List.setIfInBounds_toArray, List.set_cons_zero, List.set_cons_succ])
          obtain ⟨k1, k2, k3, k4⟩ := K.out
          have b2 : Below wr.heap.size wr w2 := ((Below.refl _ _).alloc (Nat.le_refl _) _).trans k4
          have z2 := b2.size
          have hpz : wr.heap.size < w2.heap.size := (Array.getElem?_eq_some_iff.1 k1).1
          have hsn2 : w2.cell? ⟨G, j, none⟩ = some (.bool (seenB vs j)) := (b2.cell (p := ⟨G, j, none⟩) (by show G < _; omega)).trans hsn
          have hcg2 : w2.cell? (ad1.add j) = some (.int .i64 g) := (b2.cell (by rw [block_of_add]; omega)).trans hcg
          have HS2 := Lib.hid (HS.out.below b2)
          have HBP := Lib.hid (fun q' (e : (Value.slice B u.length d).ownBlock = some q') => World.ownsRow.lt HS.out.own q' e)
          obtain ⟨p, hp⟩ : ∃ p, wr.heap.size = p := ⟨_, rfl⟩
          rw [hp] at k1 hpz hzr HBP ⊢
          have HO2 : Hid (OrBlk w2 p o C cc) := Lib.hid k1
          have HI2 : Hid (Ints w2 p C o.load) := Lib.hid ((HI.out.below (b2.mono (by omega))).more (by omega))
          have p1 : w2.cell? ⟨p, 1, none⟩ = some (.slice C o.load.length cc) := orBlk_at HO2.out 1 _ rfl
          clear k1 k2 k3 k4 b2 K hsn hcg HS HC HI z2 hadb hp hA
          cases hse : seenB vs j
          · have HU : Hid (u = shTo x.orders org vs (j + 1)) := Lib.hid (by rw [shTo_no HT.out.1 HT.out.2 hse]; exact hu.out)
            rw [hse] at hsn2
            clear hse
            go_wp2
            exact ⟨⟨j + 1, u, B, d, cs, by omega, by go_num, HU, rfl, HS2⟩, by simp [intOf]; omega⟩
          · have HU : Hid (shTo x.orders org vs (j + 1) = shStep g o.load u) := Lib.hid (by rw [shTo_yes HT.out.1 HT.out.2 hse, hu.out])
            rw [hse] at hsn2
            clear hse
            go_upto_region 15 with fail
            clear hsn2
            obtain ⟨q, hq⟩ : ∃ q, u.length = q := ⟨_, rfl⟩
            have HQ := Lib.hid hq
            rw [hq] at hul ⊢
            clear hq
            go_cut [70] (fun v wx => v = .bool (shHit u g) ∧ Below w2.heap.size w2 wx)
            case first => as_aux_lemma =>
              by_cases h0 : q = 0
              · subst h0
                have HH : Hid (shHit u g = false) := Lib.hid (by have : u = [] := List.eq_nil_of_length_eq_zero HQ.out; rw [this]; rfl)
                go_quiet (fail)
                go_wp2
                go_meet
                exact ⟨by rw [HH.out], bel_drewN (Below.refl _ _) _⟩
              · obtain ⟨r, rfl⟩ : ∃ r, q = r + 1 := ⟨q - 1, by omega⟩
                obtain ⟨s, hs⟩ : ∃ s, u[r]? = some s := ⟨_, List.getElem?_eq_getElem (by rw [HQ.out]; omega)⟩
                obtain ⟨g0, C0, c0, rfl, e1, e2, hio, hfz, hgl, hgw⟩ := HS2.out.at_ hs
                have HH : Hid (shHit u g = (s.order == g)) := Lib.hid (by unfold shHit; rw [List.getLast?_eq_getElem?, HQ.out, Nat.add_sub_cancel, hs]; rfl)
                have hr0 : (0 : Int) ≤ (r : Int) := by omega
                clear hs hio h0
                go_quiet (fail)
                go_wp2
                go_meet
                exact ⟨by rw [HH.out], bel_drewN (Below.refl _ _) _⟩
            obtain ⟨hv70, hb3⟩ := hcut
            subst hv70
            have HS3 := Lib.hid (HS2.out.below hb3)
            have HI3 := Lib.hid ((HI2.out.below (hb3.mono (by omega))))
            have q1 : wc.cell? ⟨p, 1, none⟩ = some (.slice C o.load.length cc) := (hb3.cell (p := ⟨p, 1, none⟩) hpz).trans p1
            have hcg3 : wc.cell? (ad1.add j) = some (.int .i64 g) := (hb3.cell (by rw [block_of_add]; omega)).trans hcg2
            have z3 := hb3.size
            clear p1 hcg2 HS2 HI2 hb3 HO2
            obtain ⟨L, hL⟩ : ∃ L, o.load.length = L := ⟨_, rfl⟩
            have HL := Lib.hid hL
            rw [hL] at q1
            clear hL
            cases hhit : shHit u g
            · have HE : Hid (shTo x.orders org vs (j + 1) = u ++ [⟨g, o.load⟩]) := Lib.hid (by rw [HU.out]; unfold shStep; rw [hhit]; rfl)
              clear hhit
              go_upto_region 17 with fail
              (refine wp_region_held_drew (S := (fun w' => w'.cell? (ad1.add j) = some (.int .i64 g) ∧ w'.cell? ⟨p, 1, none⟩ = some (.slice C L cc))) (by kernel_rfl) ?_ (fun hHeld => ?_))
              · exact ⟨hcg3, q1⟩
              (refine wpAnyH_take (i := 0) (v := ?_) rfl (by kernel_rfl) (by kernel_rfl) (by kernel_rfl) (fun _ _ _ h => h) (Or.inl ⟨by kernel_rfl, ?_⟩) (by assumption) ?_; rotate_left; (focus (intro w hSw; (try dsimp only at hSw); go_simp; all_goals with_reducible rfl)); (try simp only [Act.put, List.getElem_toArray, List.getElem_cons_succ, List.getElem_cons_zero, List.setIfInBounds_toArray, List.set_cons_zero, List.set_cons_succ]))
              (refine wpAnyH_take (i := 1) (v := ?_) rfl (by kernel_rfl) (by kernel_rfl) (by kernel_rfl) (fun _ _ _ h => h) (Or.inl ⟨by kernel_rfl, ?_⟩) (by assumption) ?_; rotate_left; (focus (intro w hSw; (try dsimp only at hSw); go_simp; all_goals with_reducible rfl)); (try simp only [Act.put, List.getElem_toArray, List.getElem_cons_succ, List.getElem_cons_zero, List.setIfInBounds_toArray, List.set_cons_zero, List.set_cons_succ]))
              (refine wpAnyH_take (i := 2) (v := ?_) rfl (by kernel_rfl) (by kernel_rfl) (by kernel_rfl) (fun _ _ _ h => h) (Or.inl ⟨by kernel_rfl, ?_⟩) (by assumption) ?_; rotate_left; (focus (intro w hSw; (try dsimp only at hSw); go_simp; all_goals with_reducible rfl)); (try simp only [Act.put, List.getElem_toArray, List.getElem_cons_succ, List.getElem_cons_zero, List.setIfInBounds_toArray, List.set_cons_zero, List.set_cons_succ]))
              (refine wpAnyH_take (i := 3) (v := ?_) rfl (by kernel_rfl) (by kernel_rfl) (by kernel_rfl) (fun _ _ _ h => h) (Or.inl ⟨by kernel_rfl, ?_⟩) (by assumption) ?_; rotate_left; (focus (intro w hSw; (try dsimp only at hSw); go_simp; all_goals with_reducible rfl)); (try simp only [Act.put, List.getElem_toArray, List.getElem_cons_succ, List.getElem_cons_zero, List.setIfInBounds_toArray, List.set_cons_zero, List.set_cons_succ]))
              (refine wpAnyH_take (i := 4) (v := ?_) rfl (by kernel_rfl) (by kernel_rfl) (by kernel_rfl) (fun _ _ _ h => h) (Or.inl ⟨by kernel_rfl, ?_⟩) (by assumption) ?_; rotate_left; (focus (intro w hSw; (try dsimp only at hSw); go_simp; all_goals with_reducible rfl)); (try simp only [Act.put, List.getElem_toArray, List.getElem_cons_succ, List.getElem_cons_zero, List.setIfInBounds_toArray, List.set_cons_zero, List.set_cons_succ]))
              (refine wpAnyH_take (i := 5) (v := ?_) rfl (by kernel_rfl) (by kernel_rfl) (by kernel_rfl) (fun _ _ _ h => h) (Or.inl ⟨by kernel_rfl, ?_⟩) (by assumption) ?_; rotate_left; (focus (intro w hSw; (try dsimp only at hSw); go_simp; all_goals with_reducible rfl)); (try simp only [Act.put, List.getElem_toArray, List.getElem_cons_succ, List.getElem_cons_zero, List.setIfInBounds_toArray, List.set_cons_zero, List.set_cons_succ]))
              (refine wpAnyH_take (i := 6) (v := ?_) rfl (by kernel_rfl) (by kernel_rfl) (by kernel_rfl) (fun _ _ _ h => h) (Or.inl ⟨by kernel_rfl, ?_⟩) (by assumption) ?_; rotate_left; (focus (intro w hSw; (try dsimp only at hSw); go_simp; all_goals with_reducible rfl)); (try simp only [Act.put, List.getElem_toArray, List.getElem_cons_succ, List.getElem_cons_zero, List.setIfInBounds_toArray, List.set_cons_zero, List.set_cons_succ]))
              (refine wpAnyH_ready (rs := [7]) (by kernel_rfl) (by simp) ?_; refine AllReadyH.cons rfl (fun K hK => ?_) AllReadyH.nil)
              go_simp
              rw [← HL.out]
              refine (clone_any C cc o.load wc.drew (show Ints wc.drew wc.drew.heap.size C o.load from HI3.out.more (by show p ≤ wc.heap.size; omega)) HLo.out.2.1).mono ?_
              rw [HL.out]
              rintro e w4 ⟨C4, c4, rfl, hown4, hb4'⟩
              have hb4 : Below wc.heap.size wc w4 := ((Below.refl _ _).drew).trans hb4'
              have z4 := hb4.size
              have HO4 := Lib.hid hown4
              have HS4 := Lib.hid (HS3.out.below hb4)
              have q4 : w4.cell? ⟨p, 1, none⟩ = some (.slice C L cc) := (hb4.cell (p := ⟨p, 1, none⟩) (by show p < _; omega)).trans q1
              have g4 : w4.cell? (ad1.add j) = some (.int .i64 g) := (hb4.cell (by rw [block_of_add]; omega)).trans hcg3
              refine hK.out _ _ ((⟨g4, q4⟩)) (fun hHeld => ?_)
              clear hK K
              (try simp only [Act.put, List.getElem_toArray, List.getElem_cons_succ, List.getElem_cons_zero, List.setIfInBounds_toArray, List.set_cons_zero, List.set_cons_succ])
              (refine wpAnyH_take (i := 8) (v := ?_) rfl (by kernel_rfl) (by kernel_rfl) (by kernel_rfl) (fun _ _ _ h => h) (Or.inl ⟨by kernel_rfl, ?_⟩) (by assumption) ?_; rotate_left; (focus (intro w hSw; (try dsimp only at hSw); go_simp; all_goals with_reducible rfl)); (try simp only [Act.put, List.getElem_toArray, List.getElem_cons_succ, List.getElem_cons_zero, List.setIfInBounds_toArray, List.set_cons_zero, List.set_cons_succ]))
              have bl : Below w4.heap.size w4 (w4.alloc (.cells #[.int .i64 g, .slice C4 L c4] 87)) := (Below.refl _ _).alloc (Nat.le_refl _) _
              have z5 : w4.heap.size < (w4.alloc (.cells #[.int .i64 g, .slice C4 L c4] 87)).heap.size := by simp
              have HS5 := Lib.hid (HS4.out.below bl)
              have HO5 := Lib.hid (own_below HO4.out bl)
              have q5 : (w4.alloc (.cells #[.int .i64 g, .slice C4 L c4] 87)).cell? ⟨p, 1, none⟩ = some (.slice C L cc) := (bl.cell (p := ⟨p, 1, none⟩) (by show p < _; omega)).trans q4
              have g5 : (w4.alloc (.cells #[.int .i64 g, .slice C4 L c4] 87)).cell? (ad1.add j) = some (.int .i64 g) := (bl.cell (by rw [block_of_add]; omega)).trans g4
              (refine wpAnyH_ready (rs := [9]) (by kernel_rfl) (by simp) ?_; refine AllReadyH.cons rfl (fun K hK => ?_) AllReadyH.nil)
              go_simp
              refine hK.out _ _ ((⟨g5, q5⟩)) (fun hHeld => ?_)
              clear hK K
              (try simp only [Act.put, List.getElem_toArray, List.getElem_cons_succ, List.getElem_cons_zero, List.setIfInBounds_toArray, List.set_cons_zero, List.set_cons_succ])
              (refine wpAnyH_ready (rs := [10]) (by kernel_rfl) (by simp) ?_; refine AllReadyH.cons rfl (fun K hK => ?_) AllReadyH.nil)
              refine step_app sha_elem _ _ rfl W1.heap.size B q d cs rfl (by rw [← HQ.out]; exact HS5.out.own) ⟨w4.heap.size, 0, none⟩ 1 [.int .i64 g, .slice C4 L c4] rfl rfl (two_new w4 (.int .i64 g) (.slice C4 L c4) _) (fun u hu => by simp only [List.mem_cons, List.not_mem_nil, or_false] at hu; rcases hu with rfl | rfl <;> rfl) (by omega) (by omega) rfl ?_
              intro g6 c6 w6 hown6 hg6 hx6
              rw [← HQ.out, ← HL.out] at hown6
              rw [← HQ.out] at hg6 hx6
              have HO5' : Hid ((w4.alloc (.cells #[.int .i64 g, .slice C4 L c4] 87)).ownsRow wc.drew.heap.size 3 1 (.slice C4 o.load.length c4) o.load.length (o.load.map (.int .i64))) := Lib.hid (by have h := HO5.out; rw [← HL.out] at h ⊢; exact h)
              have hI5 : IntsOff (w4.alloc (.cells #[.int .i64 g, .slice C4 L c4] 87)) (fun b => some b ≠ (Value.slice B u.length d).ownBlock ∧ W1.heap.size ≤ b) C4 (Sha.mk g o.load).load := IntsOff.own HO5'.out (by show o.load.length ≤ _; have := HLo.out.2.1; omega) (fun b hb => ⟨fun e => by
                have h1 := HBP.out b e.symm
                have hb' : wc.heap.size ≤ b := hb
                omega, by have hb' : wc.heap.size ≤ b := hb; omega⟩)
              have HS6 := Lib.hid (HS5.out.push (s := ⟨g, o.load⟩) (c0 := c4) hI5 HLo.out.2.2 hown6 hg6 hx6)
              have q6 : w6.cell? ⟨p, 1, none⟩ = some (.slice C L cc) := hg6.cell q5 (fun e => by have h1 := HBP.out p (by first | exact e | exact e.symm); omega)
              have g6' : w6.cell? (ad1.add j) = some (.int .i64 g) := hg6.cell g5 (fun e => by rw [block_of_add] at e; have h1 := HBP.out ad1.block (by first | exact e | exact e.symm); omega)
              clear hown6 hg6 hx6 hI5
              refine hK.out _ _ ((⟨g6', q6⟩)) (fun hHeld => ?_)
              clear hK K
              (try simp only [Act.put, List.getElem_toArray, List.getElem_cons_succ, List.getElem_cons_zero, List.setIfInBounds_toArray, List.set_cons_zero, List.set_cons_succ])
              (refine wpAnyH_take (i := 11) (v := ?_) rfl (by kernel_rfl) (by kernel_rfl) (by kernel_rfl) (fun _ _ _ h => h) (Or.inl ⟨by kernel_rfl, ?_⟩) (by assumption) ?_; rotate_left; (focus (intro w hSw; (try dsimp only at hSw); go_simp; all_goals with_reducible rfl)); (try simp only [Act.put, List.getElem_toArray, List.getElem_cons_succ, List.getElem_cons_zero, List.setIfInBounds_toArray, List.set_cons_zero, List.set_cons_succ]))
              (refine wpAnyH_done (by kernel_rfl) ?_ _)
              go_wp2
              exact ⟨⟨j + 1, u ++ [⟨g, o.load⟩], some ⟨g6, 0, none⟩, c6, _, by omega, by go_num, Lib.hid HE.out.symm, by rw [List.length_append, HQ.out]; rfl, HS6⟩, by simp [intOf]; omega⟩
            · obtain ⟨s, hs, hs', hso, h0⟩ := shHit_iff hhit
              have HE : Hid (shTo x.orders org vs (j + 1) = u.set (q - 1) ⟨g, addE s.load o.load⟩) := Lib.hid (by rw [HU.out]; unfold shStep; rw [hhit, hs', HQ.out]; rfl)
              rw [HQ.out] at hs h0
              obtain ⟨r, rfl⟩ : ∃ r, q = r + 1 := ⟨q - 1, by omega⟩
              rw [Nat.add_sub_cancel] at HE hs
              obtain ⟨g0, C0, c0, rfl, e1, e2, hio, hfz, hgl, hgw⟩ := HS3.out.at_ hs
              obtain ⟨M, hM⟩ : ∃ L, s.load.length = L := ⟨_, rfl⟩
              have HM := Lib.hid hM
              rw [hM] at e2
              have HSS := Lib.hid (And.intro hs (And.intro hso hio))
              have hub := HUB.out s (List.mem_of_getElem? hs)
              have HAB := Lib.hid (And.intro (bd_inM hub (by omega)) (bd_inM HLo.out.1 (by omega)))
              have hr0 : (0 : Int) ≤ (r : Int) := by omega
              have hrl : (r : Int) < (r : Int) + 1 := by omega
              clear hs hs' hso h0 hhit hM hio hub e1
              go_upto_region 16 with fail
              (refine wp_region_held_drew (S := (fun w' => w'.cell? ⟨p, 1, none⟩ = some (.slice C L cc))) (by kernel_rfl) ?_ (fun hHeld => ?_))
              · exact q1
              (refine wpAnyH_take (i := 0) (v := ?_) rfl (by kernel_rfl) (by kernel_rfl) (by kernel_rfl) (fun _ _ _ h => h) (Or.inl ⟨by kernel_rfl, ?_⟩) (by assumption) ?_; rotate_left; (focus (intro w hSw; (try dsimp only at hSw); go_simp; all_goals with_reducible rfl)); (try simp only [Act.put, List.getElem_toArray, List.getElem_cons_succ, List.getElem_cons_zero, List.setIfInBounds_toArray, List.set_cons_zero, List.set_cons_succ]))
              (refine wpAnyH_take (i := 1) (v := ?_) rfl (by kernel_rfl) (by kernel_rfl) (by kernel_rfl) (fun _ _ _ h => h) (Or.inl ⟨by kernel_rfl, ?_⟩) (by assumption) ?_; rotate_left; (focus (intro w hSw; (try dsimp only at hSw); go_simp; all_goals with_reducible rfl)); (try simp only [Act.put, List.getElem_toArray, List.getElem_cons_succ, List.getElem_cons_zero, List.setIfInBounds_toArray, List.set_cons_zero, List.set_cons_succ]))
              (refine wpAnyH_take (i := 2) (v := ?_) rfl (by kernel_rfl) (by kernel_rfl) (by kernel_rfl) (fun _ _ _ h => h) (Or.inl ⟨by kernel_rfl, ?_⟩) (by assumption) ?_; rotate_left; (focus (intro w hSw; (try dsimp only at hSw); go_simp; all_goals with_reducible rfl)); (try simp only [Act.put, List.getElem_toArray, List.getElem_cons_succ, List.getElem_cons_zero, List.setIfInBounds_toArray, List.set_cons_zero, List.set_cons_succ]))
              (refine wpAnyH_take (i := 3) (v := ?_) rfl (by kernel_rfl) (by kernel_rfl) (by kernel_rfl) (fun _ _ _ h => h) (Or.inl ⟨by kernel_rfl, ?_⟩) (by assumption) ?_; rotate_left; (focus (intro w hSw; (try dsimp only at hSw); go_simp; all_goals with_reducible rfl)); (try simp only [Act.put, List.getElem_toArray, List.getElem_cons_succ, List.getElem_cons_zero, List.setIfInBounds_toArray, List.set_cons_zero, List.set_cons_succ]))
              (refine wpAnyH_take (i := 4) (v := ?_) rfl (by kernel_rfl) (by kernel_rfl) (by kernel_rfl) (fun _ _ _ h => h) (Or.inl ⟨by kernel_rfl, ?_⟩) (by assumption) ?_; rotate_left; (focus (intro w hSw; (try dsimp only at hSw); go_simp; all_goals with_reducible rfl)); (try simp only [Act.put, List.getElem_toArray, List.getElem_cons_succ, List.getElem_cons_zero, List.setIfInBounds_toArray, List.set_cons_zero, List.set_cons_succ]))
              (refine wpAnyH_take (i := 5) (v := ?_) rfl (by kernel_rfl) (by kernel_rfl) (by kernel_rfl) (fun _ _ _ h => h) (Or.inl ⟨by kernel_rfl, ?_⟩) (by assumption) ?_; rotate_left; (focus (intro w hSw; (try dsimp only at hSw); go_simp; all_goals with_reducible rfl)); (try simp only [Act.put, List.getElem_toArray, List.getElem_cons_succ, List.getElem_cons_zero, List.setIfInBounds_toArray, List.set_cons_zero, List.set_cons_succ]))
              (refine wpAnyH_take (i := 7) (v := ?_) rfl (by kernel_rfl) (by kernel_rfl) (by kernel_rfl) (fun _ _ _ h => h) (Or.inl ⟨by kernel_rfl, ?_⟩) (by assumption) ?_; rotate_left; (focus (intro w hSw; (try dsimp only at hSw); go_simp; all_goals with_reducible rfl)); (try simp only [Act.put, List.getElem_toArray, List.getElem_cons_succ, List.getElem_cons_zero, List.setIfInBounds_toArray, List.set_cons_zero, List.set_cons_succ]))
              (refine wpAnyH_take (i := 8) (v := ?_) rfl (by kernel_rfl) (by kernel_rfl) (by kernel_rfl) (fun _ _ _ h => h) (Or.inl ⟨by kernel_rfl, ?_⟩) (by assumption) ?_; rotate_left; (focus (intro w hSw; (try dsimp only at hSw); go_simp; all_goals with_reducible rfl)); (try simp only [Act.put, List.getElem_toArray, List.getElem_cons_succ, List.getElem_cons_zero, List.setIfInBounds_toArray, List.set_cons_zero, List.set_cons_succ]))
              (refine wpAnyH_ready (rs := [6]) (by kernel_rfl) (by simp) ?_; refine AllReadyH.cons rfl (fun K hK => ?_) AllReadyH.nil)
              go_simp
              refine hK.out _ _ (q1) (fun hHeld => ?_)
              clear hK K
              (try simp only [Act.put, List.getElem_toArray, List.getElem_cons_succ, List.getElem_cons_zero, List.setIfInBounds_toArray, List.set_cons_zero, List.set_cons_succ])
              (refine wpAnyH_ready (rs := [9]) (by kernel_rfl) (by simp) ?_; refine AllReadyH.cons rfl (fun K hK => ?_) AllReadyH.nil)
              go_simp
              rw [← HL.out, ← HM.out]
              refine (add_any C0 c0 s.load C cc o.load wc.drew HSS.out.2.2.1 (show Ints wc.drew wc.drew.heap.size C o.load from HI3.out.more (by show p ≤ wc.heap.size; omega)) HAB.out.1 HAB.out.2).mono ?_
              rw [HL.out, HM.out]
              rintro e w4 ⟨C4, c4, er, rfl, hown4, hb4'⟩
              have hb4 : Below wc.heap.size wc w4 := ((Below.refl _ _).drew).trans hb4'
              have z4 := hb4.size
              have HO4 := Lib.hid hown4
              have HS4 := Lib.hid (HS3.out.below hb4)
              have q4 : w4.cell? ⟨p, 1, none⟩ = some (.slice C L cc) := (hb4.cell (p := ⟨p, 1, none⟩) (by show p < _; omega)).trans q1
              have e4 : w4.cell? ⟨g0, r * 2 + 1, none⟩ = some (.slice C0 M c0) := (hb4.cell (p := ⟨g0, r * 2 + 1, none⟩) hgw).trans e2
              have f4 : w4.frozen? ⟨g0, r * 2 + 1, none⟩ = false := (hb4.frozen (p := ⟨g0, r * 2 + 1, none⟩) hgw).trans hfz
              have hI4 : IntsOff w4 (fun b => some b ≠ (Value.slice (some ⟨g0, 0, none⟩) u.length d).ownBlock ∧ W1.heap.size ≤ b) C4 (addE s.load o.load) := IntsOff.own hown4 (by have := addE_len s.load o.load; have := HLo.out.2.1; omega) (fun b hb => ⟨fun e => by
                have h1 := HBP.out b e.symm
                have hb' : wc.heap.size ≤ b := hb
                omega, by have hb' : wc.heap.size ≤ b := hb; omega⟩)
              have HS6 := Lib.hid (HS4.out.last (c0 := c4) HSS.out.1 hI4 rfl)
              clear hown4 hb4 hb4' hI4
              refine hK.out _ _ (q4) (fun hHeld => ?_)
              clear hK K
              (try simp only [Act.put, List.getElem_toArray, List.getElem_cons_succ, List.getElem_cons_zero, List.setIfInBounds_toArray, List.set_cons_zero, List.set_cons_succ])
              (refine wpAnyH_take (i := 10) (v := ?_) rfl (by kernel_rfl) (by kernel_rfl) (by kernel_rfl) (fun _ _ _ h => h) (Or.inl ⟨by kernel_rfl, ?_⟩) (by assumption) ?_; rotate_left; (focus (intro w hSw; (try dsimp only at hSw); go_simp; all_goals with_reducible rfl)); (try simp only [Act.put, List.getElem_toArray, List.getElem_cons_succ, List.getElem_cons_zero, List.setIfInBounds_toArray, List.set_cons_zero, List.set_cons_succ]))
              (refine wpAnyH_take (i := 11) (v := ?_) rfl (by kernel_rfl) (by kernel_rfl) (by kernel_rfl) (fun _ _ _ h => h) (Or.inl ⟨by kernel_rfl, ?_⟩) (by assumption) ?_; rotate_left; (focus (intro w hSw; (try dsimp only at hSw); go_simp; all_goals with_reducible rfl)); (try simp only [Act.put, List.getElem_toArray, List.getElem_cons_succ, List.getElem_cons_zero, List.setIfInBounds_toArray, List.set_cons_zero, List.set_cons_succ]))
              (refine wpAnyH_take (i := 12) (v := ?_) rfl (by kernel_rfl) (by kernel_rfl) (by kernel_rfl) (fun _ _ _ h => h) (Or.inl ⟨by kernel_rfl, ?_⟩) (by assumption) ?_; rotate_left; (focus (intro w hSw; (try dsimp only at hSw); go_simp; all_goals with_reducible rfl)); (try simp only [Act.put, List.getElem_toArray, List.getElem_cons_succ, List.getElem_cons_zero, List.setIfInBounds_toArray, List.set_cons_zero, List.set_cons_succ]))
              (refine wpAnyH_take (i := 13) (v := ?_) rfl (by kernel_rfl) (by kernel_rfl) (by kernel_rfl) (fun _ _ _ h => h) (Or.inl ⟨by kernel_rfl, ?_⟩) (by assumption) ?_; rotate_left; (focus (intro w hSw; (try dsimp only at hSw); go_simp; all_goals with_reducible rfl)); (try simp only [Act.put, List.getElem_toArray, List.getElem_cons_succ, List.getElem_cons_zero, List.setIfInBounds_toArray, List.set_cons_zero, List.set_cons_succ]))
              (refine wpAnyH_take (i := 14) (v := ?_) rfl (by kernel_rfl) (by kernel_rfl) (by kernel_rfl) (fun _ _ _ h => h) (Or.inl ⟨by kernel_rfl, ?_⟩) (by assumption) ?_; rotate_left; (focus (intro w hSw; (try dsimp only at hSw); go_simp; all_goals with_reducible rfl)); (try simp only [Act.put, List.getElem_toArray, List.getElem_cons_succ, List.getElem_cons_zero, List.setIfInBounds_toArray, List.set_cons_zero, List.set_cons_succ]))
              (refine wpAnyH_ready (rs := [15]) (by kernel_rfl) (by simp) ?_; refine AllReadyH.cons rfl (fun K hK => ?_) AllReadyH.nil)
              go_simp
              have q6 : (w4.setCell ⟨g0, r * 2 + 1, none⟩ (.slice C4 (addE s.load o.load).length c4)).cell? ⟨p, 1, none⟩ = some (.slice C L cc) := (World.cell?_setCell_other _ _ _ _ (fun e => by have h1 := HBP.out g0 rfl; have e1 : g0 = p := (by first | exact congrArg Addr.block e | exact (congrArg Addr.block e).symm); omega)).trans q4
              refine hK.out _ _ (q6) (fun hHeld => ?_)
              clear hK K
              (try simp only [Act.put, List.getElem_toArray, List.getElem_cons_succ, List.getElem_cons_zero, List.setIfInBounds_toArray, List.set_cons_zero, List.set_cons_succ])
              (refine wpAnyH_done (by kernel_rfl) ?_ _)
              go_wp2
              exact ⟨⟨j + 1, u.set r ⟨g, addE s.load o.load⟩, some ⟨g0, 0, none⟩, d, _, by omega, by go_num, Lib.hid HE.out.symm, by rw [List.length_set, HQ.out]; first | done | rfl, Lib.hid (by rw [← HSS.out.2.1]; exact HS6.out)⟩, by simp [intOf]; omega⟩
        · have hjn : j = n := by omega
          subst hjn
          clear hlj
          go_wp2
          go_ret2
          rw [HRR.out, ← hu.out]
          exact ⟨B, d, cs, rfl, own_less HS.out.own zw, HS.out.els.weak (fun b _ hp => by have := hp.2; omega), hBW.trans (HS.out.bel.mono zw)⟩
end Go.Proofs.YtceceomaheobhaaGreatDoor.spl

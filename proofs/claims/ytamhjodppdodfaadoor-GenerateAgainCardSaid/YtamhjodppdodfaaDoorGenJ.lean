/- Instances that are drawn: the program. -/
import Derived.Test.YtamhjodppdodfaaDoorGenI
import Derived.Deep.RegionHeld3
import Derived.Deep.DeepCutAuto
namespace Go.Proofs.YtamhjodppdodfaaDoor.gen
open Go.RowKit
open Go.Proofs.YtamhjodppdodfaaDoor.lib Go.Proofs.YtamhjodppdodfaaDoor.rd Go.Proofs.YtamhjodppdodfaaDoor.app Go.Proofs.YtamhjodppdodfaaDoor.els Go.Proofs.YtamhjodppdodfaaDoor.typ Go.Proofs.YtamhjodppdodfaaDoor.txt Go.Proofs.YtamhjodppdodfaaDoor.big Go.Proofs.YtamhjodppdodfaaDoor.off Go.Proofs.YtamhjodppdodfaaDoor.ins Go.Proofs.YtamhjodppdodfaaDoor.ord
set_option linter.unusedVariables false
set_option linter.unusedSimpArgs false

theorem ty_fillS (t : Ty) (C : Option Addr) (c : Nat) : Instr.fill (fun i => some (i * 14, 14)) ins.zTy.toArray [(0, .agg (TyCells t C c).toArray)] = some (TyCells t C c).toArray := by kernel_rfl
theorem ty_new (w : World) (t : Ty) (C : Option Addr) (c : Nat) (j : Nat) (u : Value) (h : (TyCells t C c)[j]? = some u) : (w.alloc (.cells (TyCells t C c).toArray 51)).cell? ((⟨w.heap.size, 0, none⟩ : Addr).add j) = some u :=
  World.news_of_block (w := w.alloc (.cells (TyCells t C c).toArray 51)) (B := w.heap.size) (World.alloc_heap_new w _) j u (by simpa using h)
set_option maxRecDepth 20000 in
set_option maxHeartbeats 8000000 in
theorem inst_any (seed pl ty od : Int) (w : World) :
    Calls Tryd.prog 4 #[.int .i64 seed, .int .i64 pl, .int .i64 ty, .int .i64 od] w (InsOut w (genR seed pl ty od)) := by
  go_enter Tryd.func4, Tryd.ntmps4
  go_upto_region 1 with fail
  have hR0 : Blk (w.alloc (.cells #[.slice none 0 0, .slice none 0 0, .slice none 0 0, .slice none 0 0, .slice none 0 0, .slice none 0 0] 30)) w.heap.size 30 nilCs := Blk.new w _ nilCs
  have hB0 : Below w.heap.size w (w.alloc (.cells #[.slice none 0 0, .slice none 0 0, .slice none 0 0, .slice none 0 0, .slice none 0 0, .slice none 0 0] 30)) := (Below.refl _ _).alloc (Nat.le_refl _) _
  obtain ⟨W0, hW0⟩ : ∃ W0, w.alloc (.cells #[.slice none 0 0, .slice none 0 0, .slice none 0 0, .slice none 0 0, .slice none 0 0, .slice none 0 0] 30) = W0 := ⟨_, rfl⟩
  rw [hW0] at hR0 hB0 ⊢
  have HR0 := Lib.hid hR0
  have HB0 := Lib.hid hB0
  have l0 := hR0.lt
  clear hR0 hB0 hW0
  obtain ⟨bb, hbb⟩ : ∃ b : Bool, decide (¬ genB pl ty od) = b := ⟨_, rfl⟩
  have HBB := Lib.hid hbb
  clear hbb
  go_cut [36] (fun v wx => v = .bool bb ∧ W0 = wx)
  case first => as_aux_lemma =>
    by_cases h1 : pl < 2
    · have hr : Hid (bb = true) := Lib.hid (by rw [← HBB.out]; exact decide_eq_true (by unfold genB; omega))
      go_wp2_with fail
      go_meet
      exact ⟨by rw [hr.out], rfl⟩
    by_cases h2 : 8 < pl
    · have hr : Hid (bb = true) := Lib.hid (by rw [← HBB.out]; exact decide_eq_true (by unfold genB; omega))
      go_wp2_with fail
      go_meet
      exact ⟨by rw [hr.out], rfl⟩
    by_cases h3 : ty < 1
    · have hr : Hid (bb = true) := Lib.hid (by rw [← HBB.out]; exact decide_eq_true (by unfold genB; omega))
      go_wp2_with fail
      go_meet
      exact ⟨by rw [hr.out], rfl⟩
    by_cases h4 : 6 < ty
    · have hr : Hid (bb = true) := Lib.hid (by rw [← HBB.out]; exact decide_eq_true (by unfold genB; omega))
      go_wp2_with fail
      go_meet
      exact ⟨by rw [hr.out], rfl⟩
    by_cases h5 : od < 0
    · have hr : Hid (bb = true) := Lib.hid (by rw [← HBB.out]; exact decide_eq_true (by unfold genB; omega))
      go_wp2_with fail
      go_meet
      exact ⟨by rw [hr.out], rfl⟩
    by_cases h6 : 10 < od
    · have hr : Hid (bb = true) := Lib.hid (by rw [← HBB.out]; exact decide_eq_true (by unfold genB; omega))
      go_wp2_with fail
      go_meet
      exact ⟨by rw [hr.out], rfl⟩
    have hr : Hid (bb = false) := Lib.hid (by rw [← HBB.out]; exact decide_eq_false (by unfold genB; omega))
    go_wp2_with fail
    go_meet
    exact ⟨by rw [hr.out], rfl⟩
  obtain ⟨hv, rfl⟩ := hcut
  subst hv
  by_cases hg' : ¬ genB pl ty od
  · have hg := hg'
    have hr : bb = true := by rw [← HBB.out]; exact decide_eq_true hg
    subst hr
    have HGR : Hid (genR seed pl ty od = (nilI, 2)) := Lib.hid (by unfold genR; rw [if_neg hg])
    clear hg hg'
    go_wp2_with ((with_reducible refine wpList_storeL sIns rfl _ _ rfl w.heap.size nilCs nilCs ?_ ?_ ?_ ?_ ?_ nilCs_one ?_); exact rfl; exact rfl; exact HR0.out; exact rfl; exact rfl; intro wz k1 k2 k3 k4; have K := Lib.hid (And.intro k1 (And.intro k2 (And.intro k3 k4))); clear k1 k2 k3 k4)
    have HRz : Blk wz w.heap.size 30 nilCs := K.out.1
    refine bodyPost_ret (v := .tuple #[.agg nilCs.toArray, .int .i64 2]) (big.res_cell_tmp sIns Tryd.results4 rfl rfl HRz.cells rfl) rfl ?_
    rw [HGR.out]
    exact ⟨nilP, rfl, nil_at _, HB0.out.trans K.out.2.2.2⟩
  have hg : genB pl ty od := Decidable.not_not.1 hg'
  clear hg'
  have hr : bb = false := by rw [← HBB.out]; exact decide_eq_false (fun h => h hg)
  subst hr
  clear HBB
  obtain ⟨np, rfl⟩ : ∃ n : Nat, pl = n := ⟨pl.toNat, by unfold genB at hg; omega⟩
  obtain ⟨nt, rfl⟩ : ∃ n : Nat, ty = n := ⟨ty.toNat, by unfold genB at hg; omega⟩
  obtain ⟨no, rfl⟩ : ∃ n : Nat, od = n := ⟨od.toNat, by unfold genB at hg; omega⟩
  have HGR : Hid (genR seed np nt no = (genI seed np nt no, 0)) := Lib.hid (by unfold genR; rw [if_pos hg]; rfl)
  have hb : (2 ≤ np ∧ np ≤ 8) ∧ (1 ≤ nt ∧ nt ≤ 6) ∧ no ≤ 10 := by unfold genB at hg; omega
  obtain ⟨hnp, hnt, hno⟩ := hb
  clear hg
  go_upto_region 4 with fail
  have hG1 : GS (W0.alloc (.cells #[.int .i64 seed] 48)) W0.heap.size 48 seed (W0.alloc (.cells #[.int .i64 seed] 48)) := GS.start (Boxed.new W0 _ _)
  have hR1 : Blk (W0.alloc (.cells #[.int .i64 seed] 48)) w.heap.size 30 nilCs := HR0.out.below ((Below.refl _ _).alloc (Nat.le_refl _) _)
  have hB1 : Below w.heap.size w (W0.alloc (.cells #[.int .i64 seed] 48)) := HB0.out.alloc (by omega) _
  obtain ⟨W, hW⟩ : ∃ W, W0.alloc (.cells #[.int .i64 seed] 48) = W := ⟨_, rfl⟩
  rw [hW] at hG1 hR1 hB1 ⊢
  obtain ⟨p, hp⟩ : ∃ p, W0.heap.size = p := ⟨_, rfl⟩
  rw [hp] at l0 hG1 ⊢
  have HG1 := Lib.hid hG1
  have HR := Lib.hid hR1
  have HB := Lib.hid hB1
  have lp := hG1.lt
  clear hW hp hG1 hR1 hB1 HR0 HB0
  go_wp2_with fail
  refine (network_any p seed np W HG1.out.box (by omega)).mono ?_
  rintro e w2 ⟨A0, c0, A1, c1, rfl, hP, hA, hbx, hgr⟩
  have HG2 := Lib.hid (HG1.out.draw hbx hgr)
  have hpl : (netF np seed).places.length = np := plcs_len' np
  obtain ⟨na, hna⟩ : ∃ n, (netF np seed).arcs.length = n := ⟨_, rfl⟩
  rw [hpl, hna]
  have HNA := Lib.hid hna
  have HP2 := Lib.hid hP
  have HA2 := Lib.hid hA
  clear hbx hgr hP hA hpl hna HG1
  go_upto_region 5 with fail
  obtain ⟨ob, hob⟩ : ∃ b, w2.heap.size = b := ⟨_, rfl⟩
  obtain ⟨s1, hs1⟩ : ∃ s, sTys seed np = s := ⟨_, rfl⟩
  have HS1 := Lib.hid hs1
  obtain ⟨w3, hw3⟩ : ∃ W, w2.alloc (.cells #[.slice A0 np c0, .slice A1 na c1, .slice none 0 0, .slice none 0 0, .slice none 0 0, .slice none 0 0] 30) = W := ⟨_, rfl⟩
  obtain ⟨F1, hF1⟩ : ∃ F : World → Prop, (fun w => RowOff oStr w (XIn W ob (ob + 1)) A0 (netF np seed).places ∧ RowOff oArc w (XIn W ob (ob + 1)) A1 (netF np seed).arcs) = F := ⟨_, rfl⟩
  have HX0 : Hid (XSt oTy 48 51 W p ob (ob + 1) (tysTo np s1 0).2 (xC A0 np c0 A1 na c1 none 0 0 none 0 0) F1 (tysTo np s1 0).1 none 0 [] w3) := Lib.hid (by
    have z2 := HG2.out.size
    have bl : Below w2.heap.size w2 w3 := by rw [← hw3]; exact (Below.refl _ _).alloc (Nat.le_refl _) _
    have hg : GS W p 48 (sTys seed np) w3 := HG2.out.below bl
    rw [hs1] at hg
    refine ⟨hg, by rw [← hw3, ← hob]; exact Blk.new w2 _ (xC A0 np c0 A1 na c1 none 0 0 none 0 0), ?_, ?_, Row.nil, by rw [← hw3]; simp; omega, lp, by omega, by omega⟩
    · rw [← hF1]
      exact fun w w' hf hF => ⟨rowOff_fr hF.1 hf, rowOff_fr hF.2 hf⟩
    · rw [← hF1]
      exact ⟨((HP2.out.weak (P' := XIn W ob (ob + 1)) (fun b hb hq => ⟨hq, by omega, by omega⟩))).below bl, (HA2.out.weak (P' := XIn W ob (ob + 1)) (fun b hb hq => ⟨hq, by omega, by omega⟩)).below bl⟩)
  have HF1 := Lib.hid hF1
  rw [hw3, hob]
  obtain ⟨B1, hB1⟩ : ∃ B, ob + 1 = B := ⟨_, rfl⟩
  rw [hB1] at HX0 HF1
  clear hw3 hob hs1 hF1 hB1 HG2 HP2 HA2
  go_upto_region 6 with fail
  go_loopw [46] (fun i wr => ∃ (k : Nat) (A : Option Addr) (c : Nat) (cs : List Value), k ≤ nt ∧ i = .int .i64 k ∧ Hid (XSt oTy 48 51 W p ob B1 (tysTo np s1 k).2 (xC A0 np c0 A1 na c1 A k c none 0 0) F1 (tysTo np s1 k).1 A c cs wr)) (fun i _ => nt - (intOf i).toNat)
  case atStart => exact ⟨0, none, 0, [], by omega, rfl, HX0⟩
  case round =>
    clear HX0
    obtain ⟨k, A, c, cs, hk, rfl, HO⟩ := hrel
    by_cases hlt : k < nt
    · obtain ⟨z, hz⟩ : ∃ z, (tysTo np s1 k).2 = z := ⟨_, rfl⟩
      obtain ⟨L, hL⟩ : ∃ L, (tysTo np s1 k).1 = L := ⟨_, rfl⟩
      have HNX : Hid (tysTo np s1 (k + 1) = (L ++ [tyF z k np], nx 11 z)) := Lib.hid (by rw [tysTo, hz, hL])
      have HM : Hid (L.length = k) := Lib.hid (by rw [← hL]; exact (tys_at np s1 k).1)
      rw [hz, hL] at HO
      clear hz hL
      have hk0 : (0 : Int) ≤ (k : Int) := by omega
      have hkd : (k : Int) < (nt : Int) := by omega
      -- [[
      have hds := decS_size k
      go_upto_region 8 with fail
      have HOd := Lib.hid HO.out.drew
      have ci : wr.drew.cell? ⟨ob, 2, none⟩ = some (.slice A k c) := HO.out.blk.cell (j := 2) rfl
      (refine wp_region_held_drew (S := (fun _ => True)) (by kernel_rfl) ?_ (fun hHeld => ?_))
      · trivial
      (refine wpAnyH_take (i := 0) (v := ?_) rfl (by kernel_rfl) (by kernel_rfl) (by kernel_rfl) (fun _ _ _ h => h) (Or.inl ⟨by kernel_rfl, ?_⟩) (by assumption) ?_; rotate_left; (focus (intro w hSw; (try dsimp only at hSw); go_simp; all_goals with_reducible rfl)); (try simp only [Act.put, List.getElem_toArray, List.getElem_cons_succ, List.getElem_cons_zero, List.setIfInBounds_toArray, List.set_cons_zero, List.set_cons_succ]))
      (refine wpAnyH_take (i := 2) (v := ?_) rfl (by kernel_rfl) (by kernel_rfl) (by kernel_rfl) (fun _ _ _ h => h) (Or.inl ⟨by kernel_rfl, ?_⟩) (by assumption) ?_; rotate_left; (focus (intro w hSw; (try dsimp only at hSw); go_simp; all_goals with_reducible rfl)); (try simp only [Act.put, List.getElem_toArray, List.getElem_cons_succ, List.getElem_cons_zero, List.setIfInBounds_toArray, List.set_cons_zero, List.set_cons_succ]))
      (refine wpAnyH_take (i := 3) (v := ?_) rfl (by kernel_rfl) (by kernel_rfl) (by kernel_rfl) (fun _ _ _ h => h) (Or.inl ⟨by kernel_rfl, ?_⟩) (by assumption) ?_; rotate_left; (focus (intro w hSw; (try dsimp only at hSw); go_simp; all_goals with_reducible rfl)); (try simp only [Act.put, List.getElem_toArray, List.getElem_cons_succ, List.getElem_cons_zero, List.setIfInBounds_toArray, List.set_cons_zero, List.set_cons_succ]))
      (refine wpAnyH_take (i := 6) (v := ?_) rfl (by kernel_rfl) (by kernel_rfl) (by kernel_rfl) (fun _ _ _ h => h) (Or.inl ⟨by kernel_rfl, ?_⟩) (by assumption) ?_; rotate_left; (focus (intro w hSw; (try dsimp only at hSw); go_simp; all_goals with_reducible rfl)); (try simp only [Act.put, List.getElem_toArray, List.getElem_cons_succ, List.getElem_cons_zero, List.setIfInBounds_toArray, List.set_cons_zero, List.set_cons_succ]))
      refine wpAnyH_ready (rs := [1, 4]) (by kernel_rfl) (by simp) ?_
      refine AllReadyH.cons rfl (fun K hK => ?_) (AllReadyH.cons rfl (fun K hK => ?_) AllReadyH.nil)
      · go_simp
        clear ci
        refine hK.out _ _ (trivial) (fun hHeld => ?_)
        clear hK K
        (try simp only [Act.put, List.getElem_toArray, List.getElem_cons_succ, List.getElem_cons_zero, List.setIfInBounds_toArray, List.set_cons_zero, List.set_cons_succ])
        (refine wpAnyH_ready (rs := [4]) (by kernel_rfl) (by simp) ?_; refine AllReadyH.cons rfl (fun K hK => ?_) AllReadyH.nil)
        go_simp
        refine (dec_any k (by omega) wr.drew).mono ?_
        rintro e w1 ⟨rfl, rfl⟩
        refine hK.out _ _ (trivial) (fun hHeld => ?_)
        clear hK K
        (try simp only [Act.put, List.getElem_toArray, List.getElem_cons_succ, List.getElem_cons_zero, List.setIfInBounds_toArray, List.set_cons_zero, List.set_cons_succ])
        (refine wpAnyH_take (i := 5) (v := ?_) rfl (by kernel_rfl) (by kernel_rfl) (by kernel_rfl) (fun _ _ _ h => h) (Or.inl ⟨by kernel_rfl, ?_⟩) (by assumption) ?_; rotate_left; (focus (intro w hSw; (try dsimp only at hSw); go_simp; rw [if_neg (show ¬ 9223372036854775807 < 1 + (decS k).size by omega)]; try with_reducible rfl)); (try simp only [Act.put, List.getElem_toArray, List.getElem_cons_succ, List.getElem_cons_zero, List.setIfInBounds_toArray, List.set_cons_zero, List.set_cons_succ]))
        rw [show (⟨#[116]⟩ : ByteArray) ++ decS k = tyN k from rfl]
        (refine wpAnyH_ready (rs := [7]) (by kernel_rfl) (by simp) ?_; refine AllReadyH.cons rfl (fun K hK => ?_) AllReadyH.nil)
        go_simp
        refine (vehicle_any p z (tyN k) np _ HOd.out.gs.box (by omega) (by omega)).mono ?_
        rintro e w9 ⟨g, rfl, hg1, hg2, hg3, hbx, hgr⟩
        have HO9 := Lib.hid (HOd.out.draw hbx hgr)
        have HTX : Hid (oTy.at_ w9 (fun b => some b ≠ (Value.slice A k c).ownBlock ∧ B1 ≤ b) (TyCells (tyF z k np) (some ⟨g, 0, none⟩) 1) (tyF z k np)) := Lib.hid (oTy_mk (int_off (v := frm (nx 2 z) 5 30) hg3 (fun q hq => ⟨fun e => by have h1 := (World.ownsRow.lt (HOd.out.own HM.out) q e.symm).2; have h2 : wr.drew.heap.size ≤ g := hg1; omega, by have h1 := HOd.out.size; have h2 : wr.drew.heap.size ≤ g := hg1; omega⟩)) (tyW_fits _ _ _ (by have := tyN_size k; omega) (by omega) (by omega)))
        rw [← tyF_W]
        obtain ⟨t, ht⟩ : ∃ t, tyF z k np = t := ⟨_, rfl⟩
        rw [ht] at HTX ⊢
        have HTT := Lib.hid ht
        clear ht hbx hgr hg1 hg2 hg3
        refine hK.out _ _ (trivial) (fun hHeld => ?_)
        clear hK K
        (try simp only [Act.put, List.getElem_toArray, List.getElem_cons_succ, List.getElem_cons_zero, List.setIfInBounds_toArray, List.set_cons_zero, List.set_cons_succ])
        have bl : Below w9.heap.size w9 (w9.alloc (.cells (TyCells t (some ⟨g, 0, none⟩) 1).toArray 51)) := (Below.refl _ _).alloc (Nat.le_refl _) _
        have HOa := Lib.hid (HO9.out.below bl)
        have HXa := Lib.hid (oTy.below HTX.out bl)
        (refine wpAnyH_ready (rs := [8]) (by kernel_rfl) (by simp) ?_; refine AllReadyH.cons rfl (fun K hK => ?_) AllReadyH.nil)
        refine step_lit1 ty_elem rfl _ rfl (TyCells t (some ⟨g, 0, none⟩) 1) ins.zTy rfl (by decide) ty_range (ty_fillS t (some ⟨g, 0, none⟩) 1) ?_
        refine hK.out _ _ (trivial) (fun hHeld => ?_)
        clear hK K
        (try simp only [Act.put, List.getElem_toArray, List.getElem_cons_succ, List.getElem_cons_zero, List.setIfInBounds_toArray, List.set_cons_zero, List.set_cons_succ])
        (refine wpAnyH_ready (rs := [9]) (by kernel_rfl) (by simp) ?_; refine AllReadyH.cons rfl (fun K hK => ?_) AllReadyH.nil)
        refine step_app ty_elem _ _ rfl B1 A k c cs rfl (HOa.out.own HM.out) ⟨w9.heap.size, 0, none⟩ 1 (TyCells t (some ⟨g, 0, none⟩) 1) rfl rfl (ty_new w9 t (some ⟨g, 0, none⟩) 1) (tyCells_one t (some ⟨g, 0, none⟩) 1) (by omega) HOa.out.size rfl ?_
        intro g7 c7 w7 hown7 hg7 hx7
        have H7 := Lib.hid (HOa.out.push HM.out HXa.out hown7 hg7 hx7)
        clear hown7 hg7 hx7
        refine hK.out _ _ (trivial) (fun hHeld => ?_)
        clear hK K
        (try simp only [Act.put, List.getElem_toArray, List.getElem_cons_succ, List.getElem_cons_zero, List.setIfInBounds_toArray, List.set_cons_zero, List.set_cons_succ])
        (refine wpAnyH_take (i := 10) (v := ?_) rfl (by kernel_rfl) (by kernel_rfl) (by kernel_rfl) (fun _ _ _ h => h) (Or.inl ⟨by kernel_rfl, ?_⟩) (by assumption) ?_; rotate_left; (focus (intro w hSw; (try dsimp only at hSw); go_simp; all_goals with_reducible rfl)); (try simp only [Act.put, List.getElem_toArray, List.getElem_cons_succ, List.getElem_cons_zero, List.setIfInBounds_toArray, List.set_cons_zero, List.set_cons_succ]))
        have ci := H7.out.blk.cell (j := 2) rfl
        have fi := H7.out.blk.frozen 2
        (refine wpAnyH_ready (rs := [11]) (by kernel_rfl) (by simp) ?_; refine AllReadyH.cons rfl (fun K hK => ?_) AllReadyH.nil)
        go_simp
        clear ci fi
        have H8 : Hid (XSt oTy 48 51 W p ob B1 (tysTo np s1 (k + 1)).2 (xC A0 np c0 A1 na c1 (some ⟨g7, 0, none⟩) (k + 1) c7 none 0 0) F1 (tysTo np s1 (k + 1)).1 (some ⟨g7, 0, none⟩) c7 _ (w7.setCell ⟨ob, 2, none⟩ (.slice (some ⟨g7, 0, none⟩) (k + 1) c7))) := Lib.hid (by
          rw [HNX.out, HTT.out]
          exact H7.out.set 2 (.slice (some ⟨g7, 0, none⟩) (k + 1) c7))
        refine hK.out _ _ (trivial) (fun hHeld => ?_)
        clear hK K
        (try simp only [Act.put, List.getElem_toArray, List.getElem_cons_succ, List.getElem_cons_zero, List.setIfInBounds_toArray, List.set_cons_zero, List.set_cons_succ])
        (refine wpAnyH_done (by kernel_rfl) ?_ _)
        go_wp2
        exact ⟨⟨k + 1, some ⟨g7, 0, none⟩, c7, _, by omega, by go_num, H8⟩, by simp [intOf]; omega⟩
      · clear ci
        go_simp
        refine (dec_any k (by omega) wr.drew).mono ?_
        rintro e w1 ⟨rfl, rfl⟩
        refine hK.out _ _ (trivial) (fun hHeld => ?_)
        clear hK K
        (try simp only [Act.put, List.getElem_toArray, List.getElem_cons_succ, List.getElem_cons_zero, List.setIfInBounds_toArray, List.set_cons_zero, List.set_cons_succ])
        (refine wpAnyH_take (i := 5) (v := ?_) rfl (by kernel_rfl) (by kernel_rfl) (by kernel_rfl) (fun _ _ _ h => h) (Or.inl ⟨by kernel_rfl, ?_⟩) (by assumption) ?_; rotate_left; (focus (intro w hSw; (try dsimp only at hSw); go_simp; rw [if_neg (show ¬ 9223372036854775807 < 1 + (decS k).size by omega)]; try with_reducible rfl)); (try simp only [Act.put, List.getElem_toArray, List.getElem_cons_succ, List.getElem_cons_zero, List.setIfInBounds_toArray, List.set_cons_zero, List.set_cons_succ]))
        rw [show (⟨#[116]⟩ : ByteArray) ++ decS k = tyN k from rfl]
        have ci : wr.drew.cell? ⟨ob, 2, none⟩ = some (.slice A k c) := HO.out.blk.cell (j := 2) rfl
        refine wpAnyH_ready (rs := [1, 7]) (by kernel_rfl) (by simp) ?_
        refine AllReadyH.cons rfl (fun K hK => ?_) (AllReadyH.cons rfl (fun K hK => ?_) AllReadyH.nil)
        · go_simp
          clear ci
          refine hK.out _ _ (trivial) (fun hHeld => ?_)
          clear hK K
          (try simp only [Act.put, List.getElem_toArray, List.getElem_cons_succ, List.getElem_cons_zero, List.setIfInBounds_toArray, List.set_cons_zero, List.set_cons_succ])
          (refine wpAnyH_ready (rs := [7]) (by kernel_rfl) (by simp) ?_; refine AllReadyH.cons rfl (fun K hK => ?_) AllReadyH.nil)
          go_simp
          refine (vehicle_any p z (tyN k) np _ HOd.out.gs.box (by omega) (by omega)).mono ?_
          rintro e w9 ⟨g, rfl, hg1, hg2, hg3, hbx, hgr⟩
          have HO9 := Lib.hid (HOd.out.draw hbx hgr)
          have HTX : Hid (oTy.at_ w9 (fun b => some b ≠ (Value.slice A k c).ownBlock ∧ B1 ≤ b) (TyCells (tyF z k np) (some ⟨g, 0, none⟩) 1) (tyF z k np)) := Lib.hid (oTy_mk (int_off (v := frm (nx 2 z) 5 30) hg3 (fun q hq => ⟨fun e => by have h1 := (World.ownsRow.lt (HOd.out.own HM.out) q e.symm).2; have h2 : wr.drew.heap.size ≤ g := hg1; omega, by have h1 := HOd.out.size; have h2 : wr.drew.heap.size ≤ g := hg1; omega⟩)) (tyW_fits _ _ _ (by have := tyN_size k; omega) (by omega) (by omega)))
          rw [← tyF_W]
          obtain ⟨t, ht⟩ : ∃ t, tyF z k np = t := ⟨_, rfl⟩
          rw [ht] at HTX ⊢
          have HTT := Lib.hid ht
          clear ht hbx hgr hg1 hg2 hg3
          refine hK.out _ _ (trivial) (fun hHeld => ?_)
          clear hK K
          (try simp only [Act.put, List.getElem_toArray, List.getElem_cons_succ, List.getElem_cons_zero, List.setIfInBounds_toArray, List.set_cons_zero, List.set_cons_succ])
          have bl : Below w9.heap.size w9 (w9.alloc (.cells (TyCells t (some ⟨g, 0, none⟩) 1).toArray 51)) := (Below.refl _ _).alloc (Nat.le_refl _) _
          have HOa := Lib.hid (HO9.out.below bl)
          have HXa := Lib.hid (oTy.below HTX.out bl)
          (refine wpAnyH_ready (rs := [8]) (by kernel_rfl) (by simp) ?_; refine AllReadyH.cons rfl (fun K hK => ?_) AllReadyH.nil)
          refine step_lit1 ty_elem rfl _ rfl (TyCells t (some ⟨g, 0, none⟩) 1) ins.zTy rfl (by decide) ty_range (ty_fillS t (some ⟨g, 0, none⟩) 1) ?_
          refine hK.out _ _ (trivial) (fun hHeld => ?_)
          clear hK K
          (try simp only [Act.put, List.getElem_toArray, List.getElem_cons_succ, List.getElem_cons_zero, List.setIfInBounds_toArray, List.set_cons_zero, List.set_cons_succ])
          (refine wpAnyH_ready (rs := [9]) (by kernel_rfl) (by simp) ?_; refine AllReadyH.cons rfl (fun K hK => ?_) AllReadyH.nil)
          refine step_app ty_elem _ _ rfl B1 A k c cs rfl (HOa.out.own HM.out) ⟨w9.heap.size, 0, none⟩ 1 (TyCells t (some ⟨g, 0, none⟩) 1) rfl rfl (ty_new w9 t (some ⟨g, 0, none⟩) 1) (tyCells_one t (some ⟨g, 0, none⟩) 1) (by omega) HOa.out.size rfl ?_
          intro g7 c7 w7 hown7 hg7 hx7
          have H7 := Lib.hid (HOa.out.push HM.out HXa.out hown7 hg7 hx7)
          clear hown7 hg7 hx7
          refine hK.out _ _ (trivial) (fun hHeld => ?_)
          clear hK K
          (try simp only [Act.put, List.getElem_toArray, List.getElem_cons_succ, List.getElem_cons_zero, List.setIfInBounds_toArray, List.set_cons_zero, List.set_cons_succ])
          (refine wpAnyH_take (i := 10) (v := ?_) rfl (by kernel_rfl) (by kernel_rfl) (by kernel_rfl) (fun _ _ _ h => h) (Or.inl ⟨by kernel_rfl, ?_⟩) (by assumption) ?_; rotate_left; (focus (intro w hSw; (try dsimp only at hSw); go_simp; all_goals with_reducible rfl)); (try simp only [Act.put, List.getElem_toArray, List.getElem_cons_succ, List.getElem_cons_zero, List.setIfInBounds_toArray, List.set_cons_zero, List.set_cons_succ]))
          have ci := H7.out.blk.cell (j := 2) rfl
          have fi := H7.out.blk.frozen 2
          (refine wpAnyH_ready (rs := [11]) (by kernel_rfl) (by simp) ?_; refine AllReadyH.cons rfl (fun K hK => ?_) AllReadyH.nil)
          go_simp
          clear ci fi
          have H8 : Hid (XSt oTy 48 51 W p ob B1 (tysTo np s1 (k + 1)).2 (xC A0 np c0 A1 na c1 (some ⟨g7, 0, none⟩) (k + 1) c7 none 0 0) F1 (tysTo np s1 (k + 1)).1 (some ⟨g7, 0, none⟩) c7 _ (w7.setCell ⟨ob, 2, none⟩ (.slice (some ⟨g7, 0, none⟩) (k + 1) c7))) := Lib.hid (by
            rw [HNX.out, HTT.out]
            exact H7.out.set 2 (.slice (some ⟨g7, 0, none⟩) (k + 1) c7))
          refine hK.out _ _ (trivial) (fun hHeld => ?_)
          clear hK K
          (try simp only [Act.put, List.getElem_toArray, List.getElem_cons_succ, List.getElem_cons_zero, List.setIfInBounds_toArray, List.set_cons_zero, List.set_cons_succ])
          (refine wpAnyH_done (by kernel_rfl) ?_ _)
          go_wp2
          exact ⟨⟨k + 1, some ⟨g7, 0, none⟩, c7, _, by omega, by go_num, H8⟩, by simp [intOf]; omega⟩
        · clear ci
          go_simp
          refine (vehicle_any p z (tyN k) np _ HOd.out.gs.box (by omega) (by omega)).mono ?_
          rintro e w9 ⟨g, rfl, hg1, hg2, hg3, hbx, hgr⟩
          have HO9 := Lib.hid (HOd.out.draw hbx hgr)
          have HTX : Hid (oTy.at_ w9 (fun b => some b ≠ (Value.slice A k c).ownBlock ∧ B1 ≤ b) (TyCells (tyF z k np) (some ⟨g, 0, none⟩) 1) (tyF z k np)) := Lib.hid (oTy_mk (int_off (v := frm (nx 2 z) 5 30) hg3 (fun q hq => ⟨fun e => by have h1 := (World.ownsRow.lt (HOd.out.own HM.out) q e.symm).2; have h2 : wr.drew.heap.size ≤ g := hg1; omega, by have h1 := HOd.out.size; have h2 : wr.drew.heap.size ≤ g := hg1; omega⟩)) (tyW_fits _ _ _ (by have := tyN_size k; omega) (by omega) (by omega)))
          rw [← tyF_W]
          obtain ⟨t, ht⟩ : ∃ t, tyF z k np = t := ⟨_, rfl⟩
          rw [ht] at HTX ⊢
          have HTT := Lib.hid ht
          clear ht hbx hgr hg1 hg2 hg3
          refine hK.out _ _ (trivial) (fun hHeld => ?_)
          clear hK K
          (try simp only [Act.put, List.getElem_toArray, List.getElem_cons_succ, List.getElem_cons_zero, List.setIfInBounds_toArray, List.set_cons_zero, List.set_cons_succ])
          have bl : Below w9.heap.size w9 (w9.alloc (.cells (TyCells t (some ⟨g, 0, none⟩) 1).toArray 51)) := (Below.refl _ _).alloc (Nat.le_refl _) _
          have HOa := Lib.hid (HO9.out.below bl)
          have HXa := Lib.hid (oTy.below HTX.out bl)
          have ci := HO9.out.blk.cell (j := 2) rfl
          refine wpAnyH_ready (rs := [1, 8]) (by kernel_rfl) (by simp) ?_
          refine AllReadyH.cons rfl (fun K hK => ?_) (AllReadyH.cons rfl (fun K hK => ?_) AllReadyH.nil)
          · go_simp
            clear ci
            refine hK.out _ _ (trivial) (fun hHeld => ?_)
            clear hK K
            (try simp only [Act.put, List.getElem_toArray, List.getElem_cons_succ, List.getElem_cons_zero, List.setIfInBounds_toArray, List.set_cons_zero, List.set_cons_succ])
            (refine wpAnyH_ready (rs := [8]) (by kernel_rfl) (by simp) ?_; refine AllReadyH.cons rfl (fun K hK => ?_) AllReadyH.nil)
            refine step_lit1 ty_elem rfl _ rfl (TyCells t (some ⟨g, 0, none⟩) 1) ins.zTy rfl (by decide) ty_range (ty_fillS t (some ⟨g, 0, none⟩) 1) ?_
            refine hK.out _ _ (trivial) (fun hHeld => ?_)
            clear hK K
            (try simp only [Act.put, List.getElem_toArray, List.getElem_cons_succ, List.getElem_cons_zero, List.setIfInBounds_toArray, List.set_cons_zero, List.set_cons_succ])
            (refine wpAnyH_ready (rs := [9]) (by kernel_rfl) (by simp) ?_; refine AllReadyH.cons rfl (fun K hK => ?_) AllReadyH.nil)
            refine step_app ty_elem _ _ rfl B1 A k c cs rfl (HOa.out.own HM.out) ⟨w9.heap.size, 0, none⟩ 1 (TyCells t (some ⟨g, 0, none⟩) 1) rfl rfl (ty_new w9 t (some ⟨g, 0, none⟩) 1) (tyCells_one t (some ⟨g, 0, none⟩) 1) (by omega) HOa.out.size rfl ?_
            intro g7 c7 w7 hown7 hg7 hx7
            have H7 := Lib.hid (HOa.out.push HM.out HXa.out hown7 hg7 hx7)
            clear hown7 hg7 hx7
            refine hK.out _ _ (trivial) (fun hHeld => ?_)
            clear hK K
            (try simp only [Act.put, List.getElem_toArray, List.getElem_cons_succ, List.getElem_cons_zero, List.setIfInBounds_toArray, List.set_cons_zero, List.set_cons_succ])
            (refine wpAnyH_take (i := 10) (v := ?_) rfl (by kernel_rfl) (by kernel_rfl) (by kernel_rfl) (fun _ _ _ h => h) (Or.inl ⟨by kernel_rfl, ?_⟩) (by assumption) ?_; rotate_left; (focus (intro w hSw; (try dsimp only at hSw); go_simp; all_goals with_reducible rfl)); (try simp only [Act.put, List.getElem_toArray, List.getElem_cons_succ, List.getElem_cons_zero, List.setIfInBounds_toArray, List.set_cons_zero, List.set_cons_succ]))
            have ci := H7.out.blk.cell (j := 2) rfl
            have fi := H7.out.blk.frozen 2
            (refine wpAnyH_ready (rs := [11]) (by kernel_rfl) (by simp) ?_; refine AllReadyH.cons rfl (fun K hK => ?_) AllReadyH.nil)
            go_simp
            clear ci fi
            have H8 : Hid (XSt oTy 48 51 W p ob B1 (tysTo np s1 (k + 1)).2 (xC A0 np c0 A1 na c1 (some ⟨g7, 0, none⟩) (k + 1) c7 none 0 0) F1 (tysTo np s1 (k + 1)).1 (some ⟨g7, 0, none⟩) c7 _ (w7.setCell ⟨ob, 2, none⟩ (.slice (some ⟨g7, 0, none⟩) (k + 1) c7))) := Lib.hid (by
              rw [HNX.out, HTT.out]
              exact H7.out.set 2 (.slice (some ⟨g7, 0, none⟩) (k + 1) c7))
            refine hK.out _ _ (trivial) (fun hHeld => ?_)
            clear hK K
            (try simp only [Act.put, List.getElem_toArray, List.getElem_cons_succ, List.getElem_cons_zero, List.setIfInBounds_toArray, List.set_cons_zero, List.set_cons_succ])
            (refine wpAnyH_done (by kernel_rfl) ?_ _)
            go_wp2
            exact ⟨⟨k + 1, some ⟨g7, 0, none⟩, c7, _, by omega, by go_num, H8⟩, by simp [intOf]; omega⟩
          · clear ci
            refine step_lit1 ty_elem rfl _ rfl (TyCells t (some ⟨g, 0, none⟩) 1) ins.zTy rfl (by decide) ty_range (ty_fillS t (some ⟨g, 0, none⟩) 1) ?_
            refine hK.out _ _ (trivial) (fun hHeld => ?_)
            clear hK K
            (try simp only [Act.put, List.getElem_toArray, List.getElem_cons_succ, List.getElem_cons_zero, List.setIfInBounds_toArray, List.set_cons_zero, List.set_cons_succ])
            have ci := HOa.out.blk.cell (j := 2) rfl
            (refine wpAnyH_ready (rs := [1]) (by kernel_rfl) (by simp) ?_; refine AllReadyH.cons rfl (fun K hK => ?_) AllReadyH.nil)
            go_simp
            clear ci
            refine hK.out _ _ (trivial) (fun hHeld => ?_)
            clear hK K
            (try simp only [Act.put, List.getElem_toArray, List.getElem_cons_succ, List.getElem_cons_zero, List.setIfInBounds_toArray, List.set_cons_zero, List.set_cons_succ])
            (refine wpAnyH_ready (rs := [9]) (by kernel_rfl) (by simp) ?_; refine AllReadyH.cons rfl (fun K hK => ?_) AllReadyH.nil)
            refine step_app ty_elem _ _ rfl B1 A k c cs rfl (HOa.out.own HM.out) ⟨w9.heap.size, 0, none⟩ 1 (TyCells t (some ⟨g, 0, none⟩) 1) rfl rfl (ty_new w9 t (some ⟨g, 0, none⟩) 1) (tyCells_one t (some ⟨g, 0, none⟩) 1) (by omega) HOa.out.size rfl ?_
            intro g7 c7 w7 hown7 hg7 hx7
            have H7 := Lib.hid (HOa.out.push HM.out HXa.out hown7 hg7 hx7)
            clear hown7 hg7 hx7
            refine hK.out _ _ (trivial) (fun hHeld => ?_)
            clear hK K
            (try simp only [Act.put, List.getElem_toArray, List.getElem_cons_succ, List.getElem_cons_zero, List.setIfInBounds_toArray, List.set_cons_zero, List.set_cons_succ])
            (refine wpAnyH_take (i := 10) (v := ?_) rfl (by kernel_rfl) (by kernel_rfl) (by kernel_rfl) (fun _ _ _ h => h) (Or.inl ⟨by kernel_rfl, ?_⟩) (by assumption) ?_; rotate_left; (focus (intro w hSw; (try dsimp only at hSw); go_simp; all_goals with_reducible rfl)); (try simp only [Act.put, List.getElem_toArray, List.getElem_cons_succ, List.getElem_cons_zero, List.setIfInBounds_toArray, List.set_cons_zero, List.set_cons_succ]))
            have ci := H7.out.blk.cell (j := 2) rfl
            have fi := H7.out.blk.frozen 2
            (refine wpAnyH_ready (rs := [11]) (by kernel_rfl) (by simp) ?_; refine AllReadyH.cons rfl (fun K hK => ?_) AllReadyH.nil)
            go_simp
            clear ci fi
            have H8 : Hid (XSt oTy 48 51 W p ob B1 (tysTo np s1 (k + 1)).2 (xC A0 np c0 A1 na c1 (some ⟨g7, 0, none⟩) (k + 1) c7 none 0 0) F1 (tysTo np s1 (k + 1)).1 (some ⟨g7, 0, none⟩) c7 _ (w7.setCell ⟨ob, 2, none⟩ (.slice (some ⟨g7, 0, none⟩) (k + 1) c7))) := Lib.hid (by
              rw [HNX.out, HTT.out]
              exact H7.out.set 2 (.slice (some ⟨g7, 0, none⟩) (k + 1) c7))
            refine hK.out _ _ (trivial) (fun hHeld => ?_)
            clear hK K
            (try simp only [Act.put, List.getElem_toArray, List.getElem_cons_succ, List.getElem_cons_zero, List.setIfInBounds_toArray, List.set_cons_zero, List.set_cons_succ])
            (refine wpAnyH_done (by kernel_rfl) ?_ _)
            go_wp2
            exact ⟨⟨k + 1, some ⟨g7, 0, none⟩, c7, _, by omega, by go_num, H8⟩, by simp [intOf]; omega⟩
      -- ]]
    · have hkn : k = nt := by omega
      subst hkn
      clear hlt
      have hcap : k ≤ c := own_cap (HO.out.own (tys_at np s1 k).1)
      obtain ⟨s2, hs2⟩ : ∃ s, (tysTo np s1 k).2 = s := ⟨_, rfl⟩
      obtain ⟨B2, hB2⟩ : ∃ B, wr.heap.size = B := ⟨_, rfl⟩
      obtain ⟨F2, hF2⟩ : ∃ F : World → Prop, (fun w => F1 w ∧ RowOff oTy w (XIn W ob B2) A (tysTo np s1 k).1) = F := ⟨_, rfl⟩
      have HS2 : Hid (sOrds seed np k = s2) := Lib.hid (by rw [← hs2, ← HS1.out]; rfl)
      have HF2 : Hid (∀ w, F2 w → RowsAt w seed np k A0 A1 A) := Lib.hid (fun w hf => by
        rw [← hF2, ← HF1.out] at hf
        refine ⟨hf.1.1.row, hf.1.2.row, ?_⟩
        rw [HS1.out]
        exact hf.2.row)
      have HX1 : Hid (XSt oOrd 48 40 W p ob B2 (nx 0 s2) (xC A0 np c0 A1 na c1 A k c none 0 0) F2 (ordsTo 1 np s2 0) none 0 [] wr) := Lib.hid (by
        have h := HO.out.next (r' := oOrd) (e' := 40) (by rw [(tys_at np s1 k).1]; omega)
        rw [hs2, hB2, hF2] at h
        exact h)
      have HCALL : Hid (∀ (j : Nat) (A' : Option Addr) (c' : Nat) (cs' : List Value) (s' : Int) (wx : World), j < no → XSt oOrd 48 40 W p ob B2 (nx j s2) (xC A0 np c0 A1 na c1 A k c A' j c') F2 (ordsTo 1 np s2 j) A' c' cs' wx → Calls Tryd.prog 11 #[.int .i64 s', .agg (xC A0 np c0 A1 na c1 A k c A' j c').toArray] wx (OrdGot wx (ordF s' 1 np j))) := Lib.hid (fun j A' c' cs' s' wx hj hx => by
        rw [← HS2.out] at hx
        exact ins_ord (fun s x P w h1 h2 h3 => order_any s x P w h1 h2 h3) hx HF2.out hcap (by omega) (by omega) (by omega) HNA.out)
      clear hs2 hB2 hF2 HO
      go_upto_region 11 with fail
      go_loopw [62] (fun i wr => ∃ (j : Nat) (A' : Option Addr) (c' : Nat) (cs' : List Value), j ≤ no ∧ i = .int .i64 j ∧ Hid (XSt oOrd 48 40 W p ob B2 (nx j s2) (xC A0 np c0 A1 na c1 A k c A' j c') F2 (ordsTo 1 np s2 j) A' c' cs' wr)) (fun i _ => no - (intOf i).toNat)
      case atStart => exact ⟨0, none, 0, [], by omega, rfl, HX1⟩
      case round =>
        clear HX1
        obtain ⟨j, A', c', cs', hj, rfl, HO⟩ := hrel
        by_cases hlt : j < no
        · have hk0 : (0 : Int) ≤ (j : Int) := by omega
          have hkd : (j : Int) < (no : Int) := by omega
          obtain ⟨o, ho⟩ : ∃ o, ordF (nx j s2) 1 np j = o := ⟨_, rfl⟩
          obtain ⟨z, hz⟩ : ∃ z, nx j s2 = z := ⟨_, rfl⟩
          have HOF : Hid (OrdFits o ∧ o.load.length ≤ 10) := Lib.hid (by
            rw [← ho]
            exact ⟨ordF_fits _ _ _ _ (by omega) (by omega), by show (loadTo (nx j s2) 1).length ≤ 10; rw [loadTo_len]; omega⟩)
          have HNX : Hid (ordsTo 1 np s2 (j + 1) = ordsTo 1 np s2 j ++ [o] ∧ nx (j + 1) s2 = rnd.nxt z) := Lib.hid ⟨by rw [ordsTo, ho], by rw [← hz]; rfl⟩
          have HCJ : Hid (∀ wx, XSt oOrd 48 40 W p ob B2 (nx j s2) (xC A0 np c0 A1 na c1 A k c A' j c') F2 (ordsTo 1 np s2 j) A' c' cs' wx → Calls Tryd.prog 11 #[.int .i64 z, .agg (xC A0 np c0 A1 na c1 A k c A' j c').toArray] wx (OrdGot wx o)) := Lib.hid (fun wx hx => by
            have h := HCALL.out j A' c' cs' z wx hlt hx
            rw [← hz, ho] at h
            rw [← hz]
            exact h)
          have HJ : Hid ((ordsTo 1 np s2 j).length = j) := Lib.hid (ords_at 1 np s2 j).1
          rw [hz] at HO HCJ
          clear ho hz
          obtain ⟨M, hM⟩ : ∃ M, wr.heap.size = M := ⟨_, rfl⟩
          have HM := Lib.hid hM
          have hMB : B2 ≤ M := by rw [← hM]; exact HO.out.size
          clear hM
          go_upto_region 12 with fail
          go_cut [13, 14] (fun v e wx => ∃ (q : Nat) (Ao : Option Addr) (co : Nat), v = .pointer (some ⟨q, 0, none⟩) ∧ e = .int .i64 0 ∧ M ≤ q ∧ Blk wx q 40 (OrdCells o Ao co) ∧ wx.ownsRow M 3 1 (.slice Ao o.load.length co) o.load.length (o.load.map (.int .i64)) ∧ XSt oOrd 48 40 W p ob B2 z (xC A0 np c0 A1 na c1 A k c A' j c') F2 (ordsTo 1 np s2 j) A' c' cs' wx)
          case first => as_aux_lemma =>
            have HOd := Lib.hid HO.out.drew
            have HSS : Hid (∀ w', Below wr.heap.size wr w' → CellsAt w' ⟨ob, 0, none⟩ (xC A0 np c0 A1 na c1 A k c A' j c') ∧ w'.cell? ⟨p, 0, none⟩ = some (.int .i64 z)) := Lib.hid (fun w' hb => by
              have h := HO.out.below hb
              exact ⟨h.blk.cells, h.gs.box.cell⟩)
            (refine wp_region_held_drew (S := (fun w' => CellsAt w' ⟨ob, 0, none⟩ (xC A0 np c0 A1 na c1 A k c A' j c') ∧ w'.cell? ⟨p, 0, none⟩ = some (.int .i64 z))) (by kernel_rfl) ?_ (fun hHeld => ?_))
            · exact HSS.out _ (Below.refl _ _).drew
            (refine wpAnyH_take (i := 0) (v := ?_) rfl (by kernel_rfl) (by kernel_rfl) (by kernel_rfl) (fun _ _ _ h => h) (Or.inl ⟨by kernel_rfl, ?_⟩) (by assumption) ?_; rotate_left; (focus (intro w hSw; (try dsimp only at hSw); go_simp; all_goals with_reducible rfl)); (try simp only [Act.put, List.getElem_toArray, List.getElem_cons_succ, List.getElem_cons_zero, List.setIfInBounds_toArray, List.set_cons_zero, List.set_cons_succ]))
            (refine wpAnyH_take (i := 1) (v := ?_) rfl (by kernel_rfl) (by kernel_rfl) (by kernel_rfl) (fun _ _ _ h => h) (Or.inl ⟨by kernel_rfl, ?_⟩) (by assumption) ?_; rotate_left; (focus (intro w hSw; (try dsimp only at hSw); go_simp; all_goals with_reducible rfl)); (try simp only [Act.put, List.getElem_toArray, List.getElem_cons_succ, List.getElem_cons_zero, List.setIfInBounds_toArray, List.set_cons_zero, List.set_cons_succ]))
            (refine wpAnyH_take (i := 2) (v := ?_) rfl (by kernel_rfl) (by kernel_rfl) (by kernel_rfl) (fun _ _ _ h => h) (Or.inl ⟨by kernel_rfl, ?_⟩) (by assumption) ?_; rotate_left; (focus (intro w hSw; (try dsimp only at hSw); go_simp; all_goals with_reducible rfl)); (try simp only [Act.put, List.getElem_toArray, List.getElem_cons_succ, List.getElem_cons_zero, List.setIfInBounds_toArray, List.set_cons_zero, List.set_cons_succ]))
            have c3 := (HSS.out _ (Below.refl _ _).drew).2
            (refine wpAnyH_take (i := 3) (v := ?_) rfl (by kernel_rfl) (by kernel_rfl) (by kernel_rfl) (fun _ _ _ h => h) (Or.inl ⟨by kernel_rfl, ?_⟩) (by assumption) ?_; rotate_left; (focus (intro w hSw; (try dsimp only at hSw); go_simp; all_goals with_reducible rfl)); (try simp only [Act.put, List.getElem_toArray, List.getElem_cons_succ, List.getElem_cons_zero, List.setIfInBounds_toArray, List.set_cons_zero, List.set_cons_succ]))
            (refine wpAnyH_take (i := 4) (v := _) rfl (by kernel_rfl) (by kernel_rfl) (by kernel_rfl) (fun _ _ _ h => h) (Or.inl ⟨by kernel_rfl, fun _ hSw => exec_loadS sIns rfl rfl hSw.1 rfl⟩) (by assumption) ?_; (try simp only [Act.put, List.getElem_toArray, List.getElem_cons_succ, List.getElem_cons_zero, List.setIfInBounds_toArray, List.set_cons_zero, List.set_cons_succ]))
            refine wpAnyH_ready (rs := [5, 9]) (by kernel_rfl) (by simp) ?_
            refine AllReadyH.cons rfl (fun K hK => ?_) (AllReadyH.cons rfl (fun K hK => ?_) AllReadyH.nil)
            · go_simp
              refine (HCJ.out _ HOd.out).mono ?_
              rintro e w1 ⟨Ao, co, rfl, hown, hb⟩
              have BA : Below wr.heap.size wr w1 := ((Below.refl _ _).drew).trans hb
              have HOW := Lib.hid hown
              have z1 : wr.heap.size ≤ w1.heap.size := hb.size
              clear hown hb
              refine hK.out _ _ (HSS.out _ BA) (fun hHeld => ?_)
              clear hK K
              (try simp only [Act.put, List.getElem_toArray, List.getElem_cons_succ, List.getElem_cons_zero, List.setIfInBounds_toArray, List.set_cons_zero, List.set_cons_succ])
              (refine wpAnyH_take (i := 6) (v := ?_) rfl (by kernel_rfl) (by kernel_rfl) (by kernel_rfl) (fun _ _ _ h => h) (Or.inl ⟨by kernel_rfl, ?_⟩) (by assumption) ?_; rotate_left; (focus (intro w hSw; (try dsimp only at hSw); go_simp; all_goals with_reducible rfl)); (try simp only [Act.put, List.getElem_toArray, List.getElem_cons_succ, List.getElem_cons_zero, List.setIfInBounds_toArray, List.set_cons_zero, List.set_cons_succ]))
              (refine wpAnyH_take (i := 7) (v := ?_) rfl (by kernel_rfl) (by kernel_rfl) (by kernel_rfl) (fun _ _ _ h => h) (Or.inl ⟨by kernel_rfl, ?_⟩) (by assumption) ?_; rotate_left; (focus (intro w hSw; (try dsimp only at hSw); go_simp; all_goals with_reducible rfl)); (try simp only [Act.put, List.getElem_toArray, List.getElem_cons_succ, List.getElem_cons_zero, List.setIfInBounds_toArray, List.set_cons_zero, List.set_cons_succ]))
              (refine wpAnyH_take (i := 8) (v := ?_) rfl (by kernel_rfl) (by kernel_rfl) (by kernel_rfl) (fun _ _ _ h => h) (Or.inl ⟨by kernel_rfl, ?_⟩) (by assumption) ?_; rotate_left; (focus (intro w hSw; (try dsimp only at hSw); go_simp; all_goals with_reducible rfl)); (try simp only [Act.put, List.getElem_toArray, List.getElem_cons_succ, List.getElem_cons_zero, List.setIfInBounds_toArray, List.set_cons_zero, List.set_cons_succ]))
              (refine wpAnyH_ready (rs := [9]) (by kernel_rfl) (by simp) ?_; refine AllReadyH.cons rfl (fun K hK => ?_) AllReadyH.nil)
              go_simp
              have BB : Below wr.heap.size wr (w1.alloc (.cells zOrd.toArray 40)) := BA.alloc (by omega) _
              refine hK.out _ _ (HSS.out _ BB) (fun hHeld => ?_)
              clear hK K
              (try simp only [Act.put, List.getElem_toArray, List.getElem_cons_succ, List.getElem_cons_zero, List.setIfInBounds_toArray, List.set_cons_zero, List.set_cons_succ])
              (refine wpAnyH_ready (rs := [10]) (by kernel_rfl) (by simp) ?_; refine AllReadyH.cons rfl (fun K hK => ?_) AllReadyH.nil)
              refine step_storeL stOrd' rfl _ _ rfl (w1.heap.size) zOrd (OrdCells o Ao co) rfl rfl (Blk.new w1 _ zOrd) rfl rfl (ordCells_one o Ao co) ?_
              intro w8 k1 k2 k3 k4
              have B8 : Below wr.heap.size wr w8 := (BB).trans (k4.mono (z1))
              have HX8 := Lib.hid (HO.out.below B8)
              have HB8 : Hid (Blk w8 (w1.heap.size) 40 (OrdCells o Ao co)) := Lib.hid k1
              have HO8 : Hid (w8.ownsRow M 3 1 (.slice Ao o.load.length co) o.load.length (o.load.map (.int .i64))) := Lib.hid (by rw [← HM.out]; exact own_below HOW.out (((Below.refl _ _).alloc (Nat.le_refl _) _).trans k4))
              have HG8 : Hid (M ≤ w1.heap.size) := Lib.hid (by rw [← HM.out]; exact z1)
              clear k1 k2 k3 k4
              refine hK.out _ _ (HSS.out _ B8) (fun hHeld => ?_)
              clear hK K
              (try simp only [Act.put, List.getElem_toArray, List.getElem_cons_succ, List.getElem_cons_zero, List.setIfInBounds_toArray, List.set_cons_zero, List.set_cons_succ])
              (refine wpAnyH_take (i := 11) (v := ?_) rfl (by kernel_rfl) (by kernel_rfl) (by kernel_rfl) (fun _ _ _ h => h) (Or.inl ⟨by kernel_rfl, ?_⟩) (by assumption) ?_; rotate_left; (focus (intro w hSw; (try dsimp only at hSw); go_simp; all_goals with_reducible rfl)); (try simp only [Act.put, List.getElem_toArray, List.getElem_cons_succ, List.getElem_cons_zero, List.setIfInBounds_toArray, List.set_cons_zero, List.set_cons_succ]))
              (refine wpAnyH_done (by kernel_rfl) ?_ _)
              go_wp2
              go_meet
              exact ⟨w1.heap.size, Ao, co, rfl, rfl, HG8.out, HB8.out, HO8.out, HX8.out⟩
            · go_simp
              have BA : Below wr.heap.size wr (wr.drew.alloc (.cells zOrd.toArray 40)) := ((Below.refl _ _).drew).alloc (Nat.le_refl _) _
              have HBN : Hid (Blk (wr.drew.alloc (.cells zOrd.toArray 40)) wr.drew.heap.size 40 zOrd) := Lib.hid (Blk.new wr.drew _ zOrd)
              refine hK.out _ _ (HSS.out _ BA) (fun hHeld => ?_)
              clear hK K
              (try simp only [Act.put, List.getElem_toArray, List.getElem_cons_succ, List.getElem_cons_zero, List.setIfInBounds_toArray, List.set_cons_zero, List.set_cons_succ])
              (refine wpAnyH_ready (rs := [5]) (by kernel_rfl) (by simp) ?_; refine AllReadyH.cons rfl (fun K hK => ?_) AllReadyH.nil)
              go_simp
              refine (HCJ.out _ (HOd.out.below ((Below.refl _ _).alloc (Nat.le_refl _) _))).mono ?_
              rintro e w1 ⟨Ao, co, rfl, hown, hb⟩
              have BB : Below wr.heap.size wr w1 := BA.trans (hb.mono BA.size)
              have HB1 := Lib.hid (HBN.out.below hb)
              have z1 : wr.heap.size ≤ wr.drew.heap.size := Nat.le_refl _
              have HOW := Lib.hid hown
              have HLW := Lib.hid HBN.out.lt
              clear hown hb
              refine hK.out _ _ (HSS.out _ BB) (fun hHeld => ?_)
              clear hK K
              (try simp only [Act.put, List.getElem_toArray, List.getElem_cons_succ, List.getElem_cons_zero, List.setIfInBounds_toArray, List.set_cons_zero, List.set_cons_succ])
              (refine wpAnyH_take (i := 6) (v := ?_) rfl (by kernel_rfl) (by kernel_rfl) (by kernel_rfl) (fun _ _ _ h => h) (Or.inl ⟨by kernel_rfl, ?_⟩) (by assumption) ?_; rotate_left; (focus (intro w hSw; (try dsimp only at hSw); go_simp; all_goals with_reducible rfl)); (try simp only [Act.put, List.getElem_toArray, List.getElem_cons_succ, List.getElem_cons_zero, List.setIfInBounds_toArray, List.set_cons_zero, List.set_cons_succ]))
              (refine wpAnyH_take (i := 7) (v := ?_) rfl (by kernel_rfl) (by kernel_rfl) (by kernel_rfl) (fun _ _ _ h => h) (Or.inl ⟨by kernel_rfl, ?_⟩) (by assumption) ?_; rotate_left; (focus (intro w hSw; (try dsimp only at hSw); go_simp; all_goals with_reducible rfl)); (try simp only [Act.put, List.getElem_toArray, List.getElem_cons_succ, List.getElem_cons_zero, List.setIfInBounds_toArray, List.set_cons_zero, List.set_cons_succ]))
              (refine wpAnyH_take (i := 8) (v := ?_) rfl (by kernel_rfl) (by kernel_rfl) (by kernel_rfl) (fun _ _ _ h => h) (Or.inl ⟨by kernel_rfl, ?_⟩) (by assumption) ?_; rotate_left; (focus (intro w hSw; (try dsimp only at hSw); go_simp; all_goals with_reducible rfl)); (try simp only [Act.put, List.getElem_toArray, List.getElem_cons_succ, List.getElem_cons_zero, List.setIfInBounds_toArray, List.set_cons_zero, List.set_cons_succ]))
              (refine wpAnyH_ready (rs := [10]) (by kernel_rfl) (by simp) ?_; refine AllReadyH.cons rfl (fun K hK => ?_) AllReadyH.nil)
              refine step_storeL stOrd' rfl _ _ rfl (wr.drew.heap.size) zOrd (OrdCells o Ao co) rfl rfl (HB1.out) rfl rfl (ordCells_one o Ao co) ?_
              intro w8 k1 k2 k3 k4
              have B8 : Below wr.heap.size wr w8 := (BB).trans (k4.mono (z1))
              have HX8 := Lib.hid (HO.out.below B8)
              have HB8 : Hid (Blk w8 (wr.drew.heap.size) 40 (OrdCells o Ao co)) := Lib.hid k1
              have HO8 : Hid (w8.ownsRow M 3 1 (.slice Ao o.load.length co) o.load.length (o.load.map (.int .i64))) := Lib.hid (by rw [← HM.out]; exact own_less (own_fr HOW.out ⟨by rw [k3]; exact Nat.le_refl _, fun b _ hb => k2 b (Nat.ne_of_gt (Nat.lt_of_lt_of_le HLW.out hb))⟩) (Nat.le_of_lt HLW.out))
              have HG8 : Hid (M ≤ wr.drew.heap.size) := Lib.hid (by rw [← HM.out]; exact z1)
              clear k1 k2 k3 k4
              refine hK.out _ _ (HSS.out _ B8) (fun hHeld => ?_)
              clear hK K
              (try simp only [Act.put, List.getElem_toArray, List.getElem_cons_succ, List.getElem_cons_zero, List.setIfInBounds_toArray, List.set_cons_zero, List.set_cons_succ])
              (refine wpAnyH_take (i := 11) (v := ?_) rfl (by kernel_rfl) (by kernel_rfl) (by kernel_rfl) (fun _ _ _ h => h) (Or.inl ⟨by kernel_rfl, ?_⟩) (by assumption) ?_; rotate_left; (focus (intro w hSw; (try dsimp only at hSw); go_simp; all_goals with_reducible rfl)); (try simp only [Act.put, List.getElem_toArray, List.getElem_cons_succ, List.getElem_cons_zero, List.setIfInBounds_toArray, List.set_cons_zero, List.set_cons_succ]))
              (refine wpAnyH_done (by kernel_rfl) ?_ _)
              go_wp2
              go_meet
              exact ⟨wr.drew.heap.size, Ao, co, rfl, rfl, HG8.out, HB8.out, HO8.out, HX8.out⟩
          have HQW : Hid (∀ q, M ≤ q → some q ≠ (Value.slice A' j c').ownBlock ∧ B2 ≤ q) := Lib.hid (fun q hq => ⟨fun e => by
            have h := (World.ownsRow.lt (HO.out.own HJ.out) q e.symm).2
            rw [HM.out] at h
            omega, Nat.le_trans hMB hq⟩)
          obtain ⟨q, Ao, co, hv1, hv2, hqM, hb8, ho8, hx8⟩ := hcut
          subst hv1
          subst hv2
          have HB8 := Lib.hid hb8
          have HO8 := Lib.hid ho8
          have HX8 := Lib.hid hx8
          clear hb8 ho8 hx8 HO HM HCJ
          go_upto_region 15 with fail
          have ci := HX8.out.blk.cell (j := 3) rfl
          have bl : Below wc.heap.size wc (wc.alloc (.cells (OrdCells o Ao co).toArray 40)) := (Below.refl _ _).alloc (Nat.le_refl _) _
          have HXl := Lib.hid (HX8.out.below bl)
          have HOT : Hid (oOrd.at_ (wc.alloc (.cells (OrdCells o Ao co).toArray 40)) (fun b => some b ≠ (Value.slice A' j c').ownBlock ∧ B2 ≤ b) (OrdCells o Ao co) o) := Lib.hid (oOrd.below (oOrd_mk (IntsOff.own HO8.out (by have := HOF.out.2; omega) HQW.out) HOF.out.1) bl)
          clear bl
          go_upto_region 16 with (first
            | ((with_reducible refine wpList_loadG stOrd' _ rfl ⟨q, 0, none⟩ (OrdCells o Ao co) ?_ ?_ ?_ ?_ ?_); exact rfl; exact rfl; exact HB8.out.cells; exact rfl)
            | ((with_reducible refine wpList_bsliceL ord_elem rfl 1 [(0, .tmp 79)] rfl [(0, .agg (OrdCells o Ao co).toArray)] (OrdCells o Ao co) ordZs ?_ (by decide) (by decide) ord_zs (ord_fill1 o Ao co) ?_); exact rfl)
            | (at_builtin; go_loud (refine wpList_app ord_elem _ _ rfl B2 A' j c' cs' rfl (HXl.out.own HJ.out) ⟨wc.heap.size, 0, none⟩ 1 (OrdCells o Ao co) rfl rfl (ord_new wc o Ao co) (ordCells_one o Ao co) (by omega) HXl.out.size rfl ?_); intro g9 c9 w9 hown9 hg9 hd9; have H9 := Lib.hid (HXl.out.push HJ.out HOT.out hown9 hg9 hd9); clear hown9 hg9 hd9; have x9 := H9.out.blk.cell (j := 3) rfl; have f9 := H9.out.blk.frozen 3))
          have HZ := Lib.hid (H9.out.set 3 (.slice (some ⟨g9, 0, none⟩) (j + 1) c9))
          clear ci x9 f9 HXl HOT HX8 H9
          have cp := HZ.out.gs.box.cell
          go_wp2_with fail
          refine (rnd.next_any z _).mono ?_
          rintro e wn ⟨rfl, rfl⟩
          have fp := HZ.out.gs.box.frozen
          go_wp2_with fail
          exact ⟨⟨j + 1, some ⟨g9, 0, none⟩, c9, _, by omega, by go_num, Lib.hid (by rw [HNX.out.1, HNX.out.2]; exact HZ.out.draw (HZ.out.gs.box.set _) (grownBy_setCell' _ _ _))⟩, by simp [intOf]; omega⟩
        · have hjn : j = no := by omega
          subst hjn
          clear hlt
          have HRr : Hid (Blk wr w.heap.size 30 nilCs) := Lib.hid (HR.out.kept HO.out.gs.grown (fun e => by injection e; omega))
          have hcap2 : j ≤ c' := own_cap (HO.out.own (ords_at 1 np s2 j).1)
          have HXS := Lib.hid HO.out
          go_wp2_with (first
            | ((with_reducible refine wpList_loadG sIns _ rfl ⟨ob, 0, none⟩ (xC A0 np c0 A1 na c1 A k c A' j c') ?_ ?_ ?_ ?_ ?_); exact rfl; exact rfl; exact HO.out.blk.cells; exact rfl)
            | ((with_reducible refine wpList_storeL sIns rfl _ _ rfl w.heap.size nilCs (xC A0 np c0 A1 na c1 A k c A' j c') ?_ ?_ ?_ ?_ ?_ (xC_one _ _ _ _ _ _ _ _ _ _ _ _) ?_); exact rfl; exact rfl; exact HRr.out; exact rfl; exact rfl; intro wz k1 k2 k3 k4; have K := Lib.hid (And.intro k1 (And.intro k2 (And.intro k3 k4))); clear k1 k2 k3 k4))
          have HRz : Blk wz w.heap.size 30 (xC A0 np c0 A1 na c1 A k c A' j c') := K.out.1
          have hlw : w.heap.size < W.heap.size := by omega
          obtain ⟨hl1, hl2, hl3⟩ := HO.out.lay
          have hW2 := HO.out.gs.size
          have hfr : ∀ K' : Nat → Prop, (∀ q, K' q → q ≠ w.heap.size) → Fr K' wr wz := fun K' hk' => ⟨by rw [K.out.2.2.1]; exact Nat.le_refl _, fun q _ hq => K.out.2.1 q (hk' q hq)⟩
          have hrow := HO.out.row.fr (hfr _ (fun q h => by have h' : B2 ≤ q := h; omega))
          have hfin := HO.out.keep _ _ (hfr _ (fun q h => by have := h.1; omega)) HO.out.fin
          have hbel : Below w.heap.size w wz := (HB.out.trans (HO.out.gs.bel (by omega))).trans K.out.2.2.2
          have hin := ins_at (seed := seed) (np := np) (nt := k) (c0 := c0) (c1 := c1) (c2 := c) (by rw [← HS2.out] at hrow; exact hrow) (HF2.out _ hfin) hcap (by omega)
          refine bodyPost_ret (v := .tuple #[.agg (xC A0 np c0 A1 na c1 A k c A' j c').toArray, .int .i64 0]) (big.res_cell_tmp sIns Tryd.results4 rfl rfl HRz.cells rfl) rfl ?_
          rw [HGR.out]
          refine ⟨⟨A0, c0, A1, c1, A, c, A', c', none, 0, none, 0⟩, ?_, hin, hbel⟩
          have hl : (insK seed np k j).orders.length = j := (ords_at 1 np (sOrds seed np k) j).1
          have htl : (insK seed np k j).types.length = k := (tys_at np (sTys seed np) k).1
          have hpl : (insK seed np k j).net.places.length = np := plcs_len' np
          have hna' : (insK seed np k j).net.arcs.length = na := HNA.out
          rw [genI_K]
          simp only [InV, hl, htl, hpl, hna']
          rfl
end Go.Proofs.YtamhjodppdodfaaDoor.gen

/- Orders that are drawn: the reference. -/
import Derived.Test.YtamhjodppdodfaaGreatDoorGenF
import Derived.Test.YtamhjodppdodfaaGreatDoorFltF
namespace Go.Proofs.YtamhjodppdodfaaGreatDoor.gen
open Go.RowKit
open Go.Proofs.YtamhjodppdodfaaGreatDoor.lib Go.Proofs.YtamhjodppdodfaaGreatDoor.rd Go.Proofs.YtamhjodppdodfaaGreatDoor.app Go.Proofs.YtamhjodppdodfaaGreatDoor.els Go.Proofs.YtamhjodppdodfaaGreatDoor.typ Go.Proofs.YtamhjodppdodfaaGreatDoor.txt Go.Proofs.YtamhjodppdodfaaGreatDoor.big Go.Proofs.YtamhjodppdodfaaGreatDoor.off Go.Proofs.YtamhjodppdodfaaGreatDoor.ins Go.Proofs.YtamhjodppdodfaaGreatDoor.ord
set_option linter.unusedVariables false
set_option linter.unusedSimpArgs false

section
variable {T : TypeId} {W0 W5 wx wy : World} {rb p B1 ob : Nat} {s s' : Int} {cs : List Value} {A : Option Addr} {k c : Nat} {l : List Value}
theorem OSt.below (h : OSt T W0 W5 rb p B1 ob s cs A k c l wx) (hb : Below wx.heap.size wx wy) : OSt T W0 W5 rb p B1 ob s cs A k c l wy :=
  ⟨h.gs.below hb, h.blk.below hb, own_below h.own hb, h.fr.trans (Fr.below hb), Nat.le_trans h.size hb.size⟩
theorem OSt.app {g n c' : Nat} {l' : List Value} (h : OSt T W0 W5 rb p B1 ob s cs A k c l wx) (hl : OPl W0 W5 p B1 ob) (ho : wy.ownsRow B1 3 1 (.slice (some ⟨g, 0, none⟩) n c') n l') (hg : wx.grownBy wy (Value.slice A k c).ownBlock) : OSt T W0 W5 rb p B1 ob s cs (some ⟨g, 0, none⟩) n c' l' wy := by
  obtain ⟨h1, h2, h3, h4⟩ := hl
  have hne : ∀ q, q < B1 → some q ≠ (Value.slice A k c).ownBlock := fun q hq e => by have := (World.ownsRow.lt h.own q e.symm).1; omega
  exact ⟨h.gs.grow hg (fun q e => by have := (World.ownsRow.lt h.own q e).1; omega), h.blk.kept hg (hne _ h4), ho, h.fr.trans (Fr.grown hg (fun q hq => hne q (by have := hq.1; omega))), Nat.le_trans h.size hg.size⟩
end
set_option maxRecDepth 20000 in
set_option maxHeartbeats 8000000 in
theorem rorder_any (seed : Int) (x : Ins) (P : InP) (w : World) (h : InAt w w.heap.size x P) (hd : flt.dimsN x.types ≤ 1000) (hpl : x.net.places.length ≤ 1000000) :
    Calls Tryz.prog 13 #[.int .i64 seed, InV x P] w (OrdOut w (ordE seed x)) := by
  obtain ⟨W0, hW0⟩ : ∃ W0, (w.alloc (.cells (insCs x P).toArray 30)).alloc (.cells zOrd.toArray 44) = W0 := ⟨_, rfl⟩
  have hB0 : Below w.heap.size w W0 := by rw [← hW0]; exact ((Below.refl _ _).alloc (Nat.le_refl _) _).alloc (by simp) _
  have z0 : W0.heap.size = w.heap.size + 2 := by rw [← hW0]; simp
  have b0 : Blk W0 w.heap.size 30 (insCs x P) := by
    rw [← hW0]
    exact (Blk.new w _ (insCs x P)).kept (World.grownBy_alloc _ _ none) (by simp)
  have r0 : Blk W0 (w.heap.size + 1) 44 zOrd := by
    rw [← hW0]
    have h := Blk.new (w.alloc (.cells (insCs x P).toArray 30)) 44 zOrd
    rw [show (w.alloc (.cells (insCs x P).toArray 30)).heap.size = w.heap.size + 1 by simp] at h
    exact h
  obtain ⟨rb, hrb⟩ : ∃ r, w.heap.size + 1 = r := ⟨_, rfl⟩
  rw [hrb] at r0
  have hlr : w.heap.size < rb ∧ rb < W0.heap.size := ⟨by omega, by omega⟩
  have hl1 := hlr.1
  have hl2 := hlr.2
  have HRB := Lib.hid hrb
  clear z0 hlr hrb
  obtain ⟨no, hno⟩ : ∃ n, x.orders.length = n := ⟨_, rfl⟩
  obtain ⟨nt, hnt⟩ : ∃ n, x.types.length = n := ⟨_, rfl⟩
  obtain ⟨np, hnp⟩ : ∃ n, x.net.places.length = n := ⟨_, rfl⟩
  have HX := Lib.hid (fun w' (hf : Fr (fun q => q < W0.heap.size ∧ q ≠ rb) W0 w') => (show w'.cell? ⟨w.heap.size, 3, none⟩ = some (.slice P.a3 no P.c3) ∧ w'.cell? ⟨w.heap.size, 2, none⟩ = some (.slice P.a2 nt P.c2) ∧ w'.cell? ⟨w.heap.size, 0, none⟩ = some (.slice P.a0 np P.c0) from by
    have hb := b0.fr hf ⟨by omega, by omega⟩
    rw [← hno, ← hnt, ← hnp]
    exact ⟨hb.cell (j := 3) rfl, hb.cell (j := 2) rfl, hb.cell (j := 0) rfl⟩))
  have hW1 : (w.alloc (.cells #[.slice P.a0 x.net.places.length P.c0, .slice P.a1 x.net.arcs.length P.c1, .slice P.a2 x.types.length P.c2, .slice P.a3 x.orders.length P.c3, .slice P.a4 x.apart.length P.c4, .slice P.a5 x.before.length P.c5] 30)).alloc (.cells #[.string ⟨#[]⟩, .slice none 0 0, .int .i64 0, .int .i64 0, .int .i64 0, .int .i64 0, .int .i64 0, .int .i64 0, .int .i64 0, .int .i64 0, .int .i64 0, .int .i64 0, .int .i64 0, .int .i64 0, .int .i64 0, .bool false] 44) = W0 := hW0
  rw [hno, hnt, hnp] at hW1
  have HW1 := Lib.hid hW1
  have HB0 := Lib.hid hB0
  have HR0 := Lib.hid r0
  have HH := Lib.hid h
  have HE : Hid (ordE seed x = if 10 ≤ no then .error 4 else if nt = 0 ∨ np = 0 then .error 2 else .ok (ordF seed (flt.dimsN x.types) np no)) := Lib.hid (by unfold ordE; rw [hno, hnt, hnp])
  have HNN := Lib.hid (And.intro hno (And.intro hnt hnp))
  rw [hnp] at hpl
  simp only [InV]
  rw [hno, hnt, hnp]
  clear hW0 hW1 b0 r0 hB0 h hno hnt hnp
  obtain ⟨c3, c2, c0⟩ := HX.out W0 ⟨Nat.le_refl _, fun _ _ _ => rfl⟩
  go_enter Tryz.func13, Tryz.ntmps13
  go_upto_region 1 with fail
  rw [HW1.out, HRB.out]
  clear HW1 HRB
  by_cases h10 : 10 ≤ no
  · have h10' : (10 : Int) ≤ (no : Int) := by omega
    have HEE : Hid (ordE seed x = .error 4) := Lib.hid (by rw [HE.out, if_pos h10])
    -- [[
    go_wp2_with (first
      | ((with_reducible refine wpList_buildL bOrd rfl _ rfl _ zOrd ?_ (by kernel_rfl) ?_); exact rfl)
      | ((with_reducible refine wpList_storeL stOrd' rfl _ _ rfl rb zOrd zOrd ?_ ?_ ?_ ?_ ?_ (by decide) ?_); exact rfl; exact rfl; exact HR0.out; exact rfl; exact rfl; intro wz k1 k2 k3 k4; have K := Lib.hid (And.intro k1 (And.intro k2 (And.intro k3 k4))); clear k1 k2 k3 k4))
    have HRz : Blk wz rb 44 zOrd := K.out.1
    refine bodyPost_ret (v := .tuple #[.agg zOrd.toArray, .int .i64 4]) (big.res_cell_tmp stOrd' Tryz.results13 rfl rfl HRz.cells rfl) rfl ?_
    rw [HEE.out]
    exact ⟨rfl, HB0.out.trans (K.out.2.2.2.mono (by omega))⟩
    -- ]]
  have h10' : ¬ (10 : Int) ≤ (no : Int) := by omega
  by_cases hnt : nt = 0
  · have hnt' : ((nt : Int) == 0) = true := by rw [hnt]; rfl
    have HEE : Hid (ordE seed x = .error 2) := Lib.hid (by rw [HE.out, if_neg h10, if_pos (Or.inl hnt)])
    -- [[
    go_wp2_with (first
      | ((with_reducible refine wpList_buildL bOrd rfl _ rfl _ zOrd ?_ (by kernel_rfl) ?_); exact rfl)
      | ((with_reducible refine wpList_storeL stOrd' rfl _ _ rfl rb zOrd zOrd ?_ ?_ ?_ ?_ ?_ (by decide) ?_); exact rfl; exact rfl; exact HR0.out; exact rfl; exact rfl; intro wz k1 k2 k3 k4; have K := Lib.hid (And.intro k1 (And.intro k2 (And.intro k3 k4))); clear k1 k2 k3 k4))
    have HRz : Blk wz rb 44 zOrd := K.out.1
    refine bodyPost_ret (v := .tuple #[.agg zOrd.toArray, .int .i64 2]) (big.res_cell_tmp stOrd' Tryz.results13 rfl rfl HRz.cells rfl) rfl ?_
    rw [HEE.out]
    exact ⟨rfl, HB0.out.trans (K.out.2.2.2.mono (by omega))⟩
    -- ]]
  have hnt' : ((nt : Int) == 0) = false := by simp; omega
  by_cases hnp : np = 0
  · have hnp' : ((np : Int) == 0) = true := by rw [hnp]; rfl
    have HEE : Hid (ordE seed x = .error 2) := Lib.hid (by rw [HE.out, if_neg h10, if_pos (Or.inr hnp)])
    -- [[
    go_wp2_with (first
      | ((with_reducible refine wpList_buildL bOrd rfl _ rfl _ zOrd ?_ (by kernel_rfl) ?_); exact rfl)
      | ((with_reducible refine wpList_storeL stOrd' rfl _ _ rfl rb zOrd zOrd ?_ ?_ ?_ ?_ ?_ (by decide) ?_); exact rfl; exact rfl; exact HR0.out; exact rfl; exact rfl; intro wz k1 k2 k3 k4; have K := Lib.hid (And.intro k1 (And.intro k2 (And.intro k3 k4))); clear k1 k2 k3 k4))
    have HRz : Blk wz rb 44 zOrd := K.out.1
    refine bodyPost_ret (v := .tuple #[.agg zOrd.toArray, .int .i64 2]) (big.res_cell_tmp stOrd' Tryz.results13 rfl rfl HRz.cells rfl) rfl ?_
    rw [HEE.out]
    exact ⟨rfl, HB0.out.trans (K.out.2.2.2.mono (by omega))⟩
    -- ]]
  have hnp' : ((np : Int) == 0) = false := by simp; omega
  have HEE : Hid (ordE seed x = .ok (ordF seed (flt.dimsN x.types) np no)) := Lib.hid (by rw [HE.out, if_neg h10, if_neg (by omega)])
  clear HE
  go_upto_region 6 with fail
  clear c3 c2 c0
  have hG5 : GS (W0.alloc (.cells #[.int .i64 seed] 61)) W0.heap.size 61 seed (W0.alloc (.cells #[.int .i64 seed] 61)) := GS.start (Boxed.new W0 _ _)
  have hf5 : ∀ K, Fr K W0 (W0.alloc (.cells #[.int .i64 seed] 61)) := fun K => Fr.below ((Below.refl _ _).alloc (Nat.le_refl _) _)
  obtain ⟨W5, hW5⟩ : ∃ W, W0.alloc (.cells #[.int .i64 seed] 61) = W := ⟨_, rfl⟩
  have hl3 : W0.heap.size < W5.heap.size := by rw [← hW5]; simp
  have HB5 : Hid (Below w.heap.size w W5) := Lib.hid (by rw [← hW5]; exact HB0.out.alloc (by omega) _)
  rw [hW5] at hG5 hf5 ⊢
  obtain ⟨p, hp⟩ : ∃ p, W0.heap.size = p := ⟨_, rfl⟩
  have HP := Lib.hid hp
  rw [hp] at hG5 hl2 hl3 ⊢
  have HF5 := Lib.hid hf5
  have HG5 := Lib.hid hG5
  clear hW5 hG5 hf5 hp
  have c3 := (HX.out W5 (HF5.out _)).1
  go_wp2_with fail
  clear c3
  refine (rdec_any no (by omega) W5).mono ?_
  rintro e w6 ⟨rfl, hbd⟩
  have HG6 := Lib.hid (HG5.out.below hbd)
  have hf6 : ∀ K, Fr K W0 w6 := fun K => (HF5.out K).trans (Fr.below hbd)
  have HF6 := Lib.hid hf6
  have z6 := hbd.size
  clear hf6 hbd
  have hds := decS_size no
  have hcat : (⟨#[111]⟩ : ByteArray) ++ decS no = ordN no := rfl
  have HCT := Lib.hid hcat
  clear hcat
  go_upto_region 7 with (first
    | ((with_reducible refine wpList_buildL bOrd rfl _ rfl _ (ordL (ordN no) (.slice none 0 0) (-1) 0 0 0 (-1) 0 0 0 0 0) ?_ (ord_fillL (ordN no)) ?_); (rw [← HCT.out]; exact rfl))
    | ((with_reducible refine wpList_storeL stOrd' rfl _ _ rfl w6.heap.size zOrd (ordL (ordN no) (.slice none 0 0) (-1) 0 0 0 (-1) 0 0 0 0 0) ?_ ?_ ?_ ?_ ?_ (ordL_one rfl) ?_); exact rfl; exact rfl; exact World.alloc_heap_new w6 _; exact rfl; exact rfl; intro w8 k1 k2 k3 k4; have K := Lib.hid (And.intro k1 (And.intro k2 (And.intro k3 k4))); clear k1 k2 k3 k4))
  have hlo : p < w6.heap.size := by omega
  have hz8 : w8.heap.size = w6.heap.size + 1 := by rw [K.out.2.2.1]; simp
  obtain ⟨ob, hob⟩ : ∃ b, w6.heap.size = b := ⟨_, rfl⟩
  obtain ⟨B1, hB1⟩ : ∃ B, w8.heap.size = B := ⟨_, rfl⟩
  have hob1 : ob < B1 := by omega
  have hW5p := hl3
  have HPL : Hid (OPl W0 W5 p B1 ob) := Lib.hid ⟨HP.out, hl3, by omega, hob1⟩
  have HO0 : Hid (OSt 61 W0 W5 rb p B1 ob seed (ordL (ordN no) (.slice none 0 0) (-1) 0 0 0 (-1) 0 0 0 0 0) none 0 0 [] w8) := Lib.hid (by
    have hbl : Below w6.heap.size w6 w8 := ((Below.refl _ _).alloc (Nat.le_refl _) _).trans K.out.2.2.2
    refine ⟨HG6.out.below hbl, ?_, World.ownsRow_nil _ _ _ _, (HF6.out _).trans (Fr.below hbl), by omega⟩
    rw [← hob]
    exact K.out.1)
  rw [hob]
  have h5B : W5.heap.size ≤ ob := by omega
  clear K hlo hz8 hob hB1 HG6 HF6 HCT HG5 hl3 z6
  have hwp : w.heap.size < p := by omega
  obtain ⟨dm, hdm⟩ : ∃ d, flt.dimsN x.types = d := ⟨_, rfl⟩
  have HDI : Hid (∀ wr cs A k c l s, OSt 61 W0 W5 rb p B1 ob s cs A k c l wr → Calls Tryz.prog 31 #[.slice P.a2 nt P.c2] wr fun e w' => e = .returned (.int .i64 dm) ∧ wr = w') := Lib.hid (fun wr cs A k c l s ho => by
    have hb := HB5.out.trans (ho.gs.bel (B := w.heap.size) (by omega))
    have h := flt.rdims_any P.a2 P.c2 x.types wr w.heap.size (HH.out.types.below hb)
    rw [hdm, HNN.out.2.1] at h
    exact h)
  rw [hdm] at hd
  have HDM := Lib.hid hdm
  clear hdm
  go_upto_region 8 with fail
  go_loopw [8] (fun i wr => ∃ (k : Nat) (A : Option Addr) (c : Nat), k ≤ dm ∧ i = .int .i64 k ∧ Hid (OSt 61 W0 W5 rb p B1 ob (nx k seed) (ordL (ordN no) (.slice A k c) (-1) 0 0 0 (-1) 0 0 0 0 0) A k c ((loadTo seed k).map (.int .i64)) wr)) (fun i _ => dm - (intOf i).toNat)
  case atStart => exact ⟨0, none, 0, by omega, rfl, HO0⟩
  case round =>
    clear HO0
    obtain ⟨k, A, c, hk, rfl, HO⟩ := hrel
    have c2 := (HX.out _ HO.out.fr).2.1
    go_wp2_with fail
    refine (HDI.out _ _ _ _ _ _ _ HO.out).mono ?_
    rintro e w9 ⟨rfl, rfl⟩
    clear c2
    by_cases hlt : k < dm
    · have hk0 : (0 : Int) ≤ (k : Int) := by omega
      have hkd : (k : Int) < (dm : Int) := by omega
      -- [[
      go_wp2_with fail
      refine (rfrom_any p (nx k seed) 0 9 _ HO.out.gs.box (by omega) (by omega) (by omega)).mono ?_
      rintro e w9 ⟨rfl, hbx, hgr⟩
      obtain ⟨v, hv⟩ : ∃ v, frm (nx k seed) 0 9 = v := ⟨_, rfl⟩
      rw [hv]
      have Hv := Lib.hid hv
      have HQ := Lib.hid (HO.out.draw HPL.out hbx hgr)
      clear hbx hgr hv HO
      go_upto_region 11 with fail
      have ci := HQ.out.blk.cell (j := 1) rfl
      have bl : Below w9.heap.size w9 (w9.alloc (.cells #[.int .i64 v] 3)) := (Below.refl _ _).alloc (Nat.le_refl _) _
      have HA := Lib.hid (HQ.out.below bl)
      have hsz := HQ.out.size
      go_wp2_with (at_builtin; go_loud (refine wpList_app int_elem _ _ rfl B1 A k c ((loadTo seed k).map (.int .i64)) rfl HA.out.own ⟨w9.heap.size, 0, none⟩ 1 [.int .i64 v] rfl rfl (cell_one_new _ _ _) (fun u hu => by rw [List.mem_singleton] at hu; rw [hu]; rfl) (by omega) HA.out.size rfl ?_); intro g7 c7 w7 hown7 hg7 hx7; have H7 := Lib.hid (HA.out.app HPL.out hown7 hg7); clear hown7 hg7 hx7; have x7 := H7.out.blk.cell (j := 1) rfl; have f7 := H7.out.blk.frozen 1)
      have H8 := Lib.hid (H7.out.set HPL.out 1 (.slice (some ⟨g7, 0, none⟩) (k + 1) c7))
      refine ⟨⟨k + 1, some ⟨g7, 0, none⟩, c7, by omega, by go_num, Lib.hid ?_⟩, by simp [intOf]; omega⟩
      have h8 := H8.out
      rw [loadTo, List.map_append, Hv.out]
      exact h8
      -- ]]
    · have hkd : k = dm := by omega
      subst hkd
      clear hlt
      go_wp2_with fail
      refine (rfrom_any p (nx k seed) 0 2 _ HO.out.gs.box (by omega) (by omega) (by omega)).mono ?_
      rintro e w9 ⟨rfl, hbx, hgr⟩
      obtain ⟨kd, hkd⟩ : ∃ v, frm (nx k seed) 0 2 = v := ⟨_, rfl⟩
      have Bkd := frm_bd (s := nx k seed) (a := 0) (b := 2) (by omega)
      rw [hkd] at Bkd ⊢
      have HKD : Hid (kindF seed k = kd) := Lib.hid hkd
      have HQ := Lib.hid (HO.out.draw HPL.out hbx hgr)
      clear hbx hgr hkd HDI HO
      have HO : Hid (OSt 61 W0 W5 rb p B1 ob (sPick seed k) (ordL (ordN no) (.slice A k c) (-1) 0 0 0 (-1) 0 0 0 0 0) A k c ((loadTo seed k).map (.int .i64)) w9) := HQ
      clear HQ
      obtain ⟨pk, hpk⟩ : ∃ pk, (if kindF seed k = 0 then noStp else stpF (sPick seed k) np) = pk := ⟨_, rfl⟩
      obtain ⟨dp, hdp⟩ : ∃ dp, (if kindF seed k = 1 then noStp else stpF (sDrop seed k) np) = dp := ⟨_, rfl⟩
      have HPK := Lib.hid hpk
      have HDP := Lib.hid hdp
      clear hpk hdp
      go_upto_region 13 with fail
      go_upto_if 57 with fail
      go_cut [] (fun wx => OSt 61 W0 W5 rb p B1 ob (sDrop seed k) (ordL (ordN no) (.slice A k c) pk.place pk.opn pk.close pk.service (-1) 0 0 0 0 0) A k c ((loadTo seed k).map (.int .i64)) wx)
      case first => as_aux_lemma =>
        by_cases h0 : kd = 0
        · have h0' : (kd == 0) = true := by simp; exact h0
          have H0 : Hid (pk = noStp ∧ sDrop seed k = sPick seed k) := Lib.hid ⟨by rw [← HPK.out, HKD.out, if_pos h0], by unfold sDrop; rw [HKD.out, if_pos h0]⟩
          clear h0
          go_wp2_with fail
          go_meet
          rw [H0.out.1, H0.out.2]
          exact HO.out
        · have h0' : (kd == 0) = false := by simp; exact h0
          have H0 : Hid (pk = stpF (sPick seed k) np ∧ sDrop seed k = nx 4 (sPick seed k)) := Lib.hid ⟨by rw [← HPK.out, HKD.out, if_neg h0], by unfold sDrop; rw [HKD.out, if_neg h0]⟩
          have c0 := (HX.out _ HO.out.fr).2.2
          go_wp2_with fail
          refine (rstop_any p (sPick seed k) np _ HO.out.gs.box (by omega) hpl).mono ?_
          rintro e w10 ⟨rfl, hbx, hgr⟩
          obtain ⟨s, hs⟩ : ∃ s, stpF (sPick seed k) np = s := ⟨_, rfl⟩
          rw [hs]
          have HS := Lib.hid hs
          have HQ := Lib.hid (HO.out.draw HPL.out hbx hgr)
          clear hbx hgr hs
          have e2 := HQ.out.blk.cell (j := 2) rfl
          have e3 := HQ.out.blk.cell (j := 3) rfl
          have e4 := HQ.out.blk.cell (j := 4) rfl
          have e5 := HQ.out.blk.cell (j := 5) rfl
          have f2 := HQ.out.blk.frozen 2
          have f3 := HQ.out.blk.frozen 3
          have f4 := HQ.out.blk.frozen 4
          have f5 := HQ.out.blk.frozen 5
          simp only [stpV]
          go_wp2_with fail
          go_meet
          rw [H0.out.1, H0.out.2, HS.out]
          exact (((HQ.out.set HPL.out 2 (.int .i64 s.place)).set HPL.out 3 (.int .i64 s.opn)).set HPL.out 4 (.int .i64 s.close)).set HPL.out 5 (.int .i64 s.service)
      clear HO
      have HO := Lib.hid hcut
      clear hcut
      go_upto_region 15 with fail
      go_upto_if 66 with fail
      go_cut [] (fun wx => OSt 61 W0 W5 rb p B1 ob (sRest seed k) (ordL (ordN no) (.slice A k c) pk.place pk.opn pk.close pk.service dp.place dp.opn dp.close dp.service 0 0) A k c ((loadTo seed k).map (.int .i64)) wx)
      case first => as_aux_lemma =>
        by_cases h0 : kd = 1
        · have h0' : (kd == 1) = true := by simp; exact h0
          have H0 : Hid (dp = noStp ∧ sRest seed k = sDrop seed k) := Lib.hid ⟨by rw [← HDP.out, HKD.out, if_pos h0], by unfold sRest; rw [HKD.out, if_pos h0]⟩
          clear h0
          go_wp2_with fail
          go_meet
          rw [H0.out.1, H0.out.2]
          exact HO.out
        · have h0' : (kd == 1) = false := by simp; exact h0
          have H0 : Hid (dp = stpF (sDrop seed k) np ∧ sRest seed k = nx 4 (sDrop seed k)) := Lib.hid ⟨by rw [← HDP.out, HKD.out, if_neg h0], by unfold sRest; rw [HKD.out, if_neg h0]⟩
          have c0 := (HX.out _ HO.out.fr).2.2
          go_wp2_with fail
          refine (rstop_any p (sDrop seed k) np _ HO.out.gs.box (by omega) hpl).mono ?_
          rintro e w10 ⟨rfl, hbx, hgr⟩
          obtain ⟨s, hs⟩ : ∃ s, stpF (sDrop seed k) np = s := ⟨_, rfl⟩
          rw [hs]
          have HS := Lib.hid hs
          have HQ := Lib.hid (HO.out.draw HPL.out hbx hgr)
          clear hbx hgr hs
          have e6 := HQ.out.blk.cell (j := 6) rfl
          have e7 := HQ.out.blk.cell (j := 7) rfl
          have e8 := HQ.out.blk.cell (j := 8) rfl
          have e9 := HQ.out.blk.cell (j := 9) rfl
          have f6 := HQ.out.blk.frozen 6
          have f7 := HQ.out.blk.frozen 7
          have f8 := HQ.out.blk.frozen 8
          have f9 := HQ.out.blk.frozen 9
          simp only [stpV]
          go_wp2_with fail
          go_meet
          rw [H0.out.1, H0.out.2, HS.out]
          exact (((HQ.out.set HPL.out 6 (.int .i64 s.place)).set HPL.out 7 (.int .i64 s.opn)).set HPL.out 8 (.int .i64 s.close)).set HPL.out 9 (.int .i64 s.service)
      clear HO
      have HO := Lib.hid hcut
      clear hcut
      go_wp2_with fail
      refine (rfrom_any p (sRest seed k) 0 1 _ HO.out.gs.box (by omega) (by omega) (by omega)).mono ?_
      rintro e w11 ⟨rfl, hbx, hgr⟩
      have HQ := Lib.hid (HO.out.draw HPL.out hbx hgr)
      have e10 := HQ.out.blk.cell (j := 10) rfl
      have f10 := HQ.out.blk.frozen 10
      clear hbx hgr HO
      obtain ⟨sk, hsk⟩ : ∃ v, frm (sRest seed k) 0 1 = v := ⟨_, rfl⟩
      rw [hsk]
      have HSK := Lib.hid hsk
      clear hsk
      go_upto_region 18 with fail
      clear e10 f10
      have HO := Lib.hid (HQ.out.set HPL.out 10 (.int .i64 sk))
      clear HQ
      obtain ⟨pe, hpe⟩ : ∃ v, penF (frm (nx 1 (sRest seed k)) 0 3) = v := ⟨_, rfl⟩
      have HPE := Lib.hid hpe
      clear hpe
      go_wp2_with fail
      refine (rfrom_any p (nx 1 (sRest seed k)) 0 3 _ HO.out.gs.box (by omega) (by omega) (by omega)).mono ?_
      rintro e w12 ⟨rfl, hbx, hgr⟩
      have HQ := Lib.hid (HO.out.draw HPL.out hbx hgr)
      have e11 := HQ.out.blk.cell (j := 11) rfl
      have f11 := HQ.out.blk.frozen 11
      clear hbx hgr HO
      obtain ⟨pn, hpn⟩ : ∃ v, frm (nx 1 (sRest seed k)) 0 3 = v := ⟨_, rfl⟩
      have Bpn := frm_bd (s := nx 1 (sRest seed k)) (a := 0) (b := 3) (by omega)
      have HQE : Hid (penF pn = pe) := Lib.hid (by rw [← hpn]; exact HPE.out)
      rw [hpn] at Bpn ⊢
      clear hpn
      rcases (show pn = 0 ∨ pn = 1 ∨ pn = 2 ∨ pn = 3 by omega) with rfl | rfl | rfl | rfl
      · skip
        go_upto_region 26 with fail
        clear e11 f11
        have HO : Hid (OSt 61 W0 W5 rb p B1 ob (nx 2 (sRest seed k)) (ordL (ordN no) (.slice A k c) pk.place pk.opn pk.close pk.service dp.place dp.opn dp.close dp.service sk pe) A k c ((loadTo seed k).map (.int .i64)) (w12.setCell ⟨ob, 11, none⟩ (.int .i64 (-1)))) := Lib.hid (by
          rw [← HQE.out]
          exact HQ.out.set HPL.out 11 (.int .i64 (-1)))
        obtain ⟨wc, hwc⟩ : ∃ W, w12.setCell ⟨ob, 11, none⟩ (.int .i64 (-1)) = W := ⟨_, rfl⟩
        rw [hwc] at HO ⊢
        clear hwc HQ HQE
        have HRb : Hid (Blk wc rb 44 zOrd) := Lib.hid ((HR0.out.fr (HF5.out (fun _ => True)) trivial).kept HO.out.gs.grown (fun e => by injection e; omega))
        go_wp2_with (first
          | ((with_reducible refine wpList_loadG stOrd' _ rfl ⟨ob, 0, none⟩ (ordL (ordN no) (.slice A k c) pk.place pk.opn pk.close pk.service dp.place dp.opn dp.close dp.service sk pe) ?_ ?_ ?_ ?_ ?_); exact rfl; exact rfl; exact HO.out.blk.cells; exact rfl)
          | ((with_reducible refine wpList_storeL stOrd' rfl _ _ rfl rb zOrd (ordL (ordN no) (.slice A k c) pk.place pk.opn pk.close pk.service dp.place dp.opn dp.close dp.service sk pe) ?_ ?_ ?_ ?_ ?_ (ordL_one rfl) ?_); exact rfl; exact rfl; exact HRb.out; exact rfl; exact rfl; intro wz k1 k2 k3 k4; have K := Lib.hid (And.intro k1 (And.intro k2 (And.intro k3 k4))); clear k1 k2 k3 k4))
        have HRz : Blk wz rb 44 (ordL (ordN no) (.slice A k c) pk.place pk.opn pk.close pk.service dp.place dp.opn dp.close dp.service sk pe) := K.out.1
        have HV : ordF seed k np no = ⟨ordN no, loadTo seed k, pk, dp, sk, pe, 1, -1, -1, false⟩ := by
          unfold ordF
          rw [HPK.out, HDP.out, HSK.out, HPE.out]
        refine bodyPost_ret (v := .tuple #[.agg (ordL (ordN no) (.slice A k c) pk.place pk.opn pk.close pk.service dp.place dp.opn dp.close dp.service sk pe).toArray, .int .i64 0]) (big.res_cell_tmp stOrd' Tryz.results13 rfl rfl HRz.cells rfl) rfl ?_
        rw [HEE.out, HDM.out, HV]
        refine ⟨A, c, ?_, ?_, ?_⟩
        · simp only [OrdCells, ordL, loadTo_len]
        · simp only [loadTo_len]
          exact own_less (own_fr HO.out.own ⟨by rw [K.out.2.2.1]; exact Nat.le_refl _, fun q _ hq => K.out.2.1 q (by have h' : B1 ≤ q := hq; omega)⟩) (by omega)
        · exact (HB5.out.trans (HO.out.gs.bel (by omega))).trans (K.out.2.2.2.mono (by omega))
      · skip
        go_upto_region 26 with fail
        clear e11 f11
        have HO : Hid (OSt 61 W0 W5 rb p B1 ob (nx 2 (sRest seed k)) (ordL (ordN no) (.slice A k c) pk.place pk.opn pk.close pk.service dp.place dp.opn dp.close dp.service sk pe) A k c ((loadTo seed k).map (.int .i64)) (w12.setCell ⟨ob, 11, none⟩ (.int .i64 100))) := Lib.hid (by
          rw [← HQE.out]
          exact HQ.out.set HPL.out 11 (.int .i64 100))
        obtain ⟨wc, hwc⟩ : ∃ W, w12.setCell ⟨ob, 11, none⟩ (.int .i64 100) = W := ⟨_, rfl⟩
        rw [hwc] at HO ⊢
        clear hwc HQ HQE
        have HRb : Hid (Blk wc rb 44 zOrd) := Lib.hid ((HR0.out.fr (HF5.out (fun _ => True)) trivial).kept HO.out.gs.grown (fun e => by injection e; omega))
        go_wp2_with (first
          | ((with_reducible refine wpList_loadG stOrd' _ rfl ⟨ob, 0, none⟩ (ordL (ordN no) (.slice A k c) pk.place pk.opn pk.close pk.service dp.place dp.opn dp.close dp.service sk pe) ?_ ?_ ?_ ?_ ?_); exact rfl; exact rfl; exact HO.out.blk.cells; exact rfl)
          | ((with_reducible refine wpList_storeL stOrd' rfl _ _ rfl rb zOrd (ordL (ordN no) (.slice A k c) pk.place pk.opn pk.close pk.service dp.place dp.opn dp.close dp.service sk pe) ?_ ?_ ?_ ?_ ?_ (ordL_one rfl) ?_); exact rfl; exact rfl; exact HRb.out; exact rfl; exact rfl; intro wz k1 k2 k3 k4; have K := Lib.hid (And.intro k1 (And.intro k2 (And.intro k3 k4))); clear k1 k2 k3 k4))
        have HRz : Blk wz rb 44 (ordL (ordN no) (.slice A k c) pk.place pk.opn pk.close pk.service dp.place dp.opn dp.close dp.service sk pe) := K.out.1
        have HV : ordF seed k np no = ⟨ordN no, loadTo seed k, pk, dp, sk, pe, 1, -1, -1, false⟩ := by
          unfold ordF
          rw [HPK.out, HDP.out, HSK.out, HPE.out]
        refine bodyPost_ret (v := .tuple #[.agg (ordL (ordN no) (.slice A k c) pk.place pk.opn pk.close pk.service dp.place dp.opn dp.close dp.service sk pe).toArray, .int .i64 0]) (big.res_cell_tmp stOrd' Tryz.results13 rfl rfl HRz.cells rfl) rfl ?_
        rw [HEE.out, HDM.out, HV]
        refine ⟨A, c, ?_, ?_, ?_⟩
        · simp only [OrdCells, ordL, loadTo_len]
        · simp only [loadTo_len]
          exact own_less (own_fr HO.out.own ⟨by rw [K.out.2.2.1]; exact Nat.le_refl _, fun q _ hq => K.out.2.1 q (by have h' : B1 ≤ q := hq; omega)⟩) (by omega)
        · exact (HB5.out.trans (HO.out.gs.bel (by omega))).trans (K.out.2.2.2.mono (by omega))
      · skip
        go_upto_region 26 with fail
        clear e11 f11
        have HO : Hid (OSt 61 W0 W5 rb p B1 ob (nx 2 (sRest seed k)) (ordL (ordN no) (.slice A k c) pk.place pk.opn pk.close pk.service dp.place dp.opn dp.close dp.service sk pe) A k c ((loadTo seed k).map (.int .i64)) (w12.setCell ⟨ob, 11, none⟩ (.int .i64 500))) := Lib.hid (by
          rw [← HQE.out]
          exact HQ.out.set HPL.out 11 (.int .i64 500))
        obtain ⟨wc, hwc⟩ : ∃ W, w12.setCell ⟨ob, 11, none⟩ (.int .i64 500) = W := ⟨_, rfl⟩
        rw [hwc] at HO ⊢
        clear hwc HQ HQE
        have HRb : Hid (Blk wc rb 44 zOrd) := Lib.hid ((HR0.out.fr (HF5.out (fun _ => True)) trivial).kept HO.out.gs.grown (fun e => by injection e; omega))
        go_wp2_with (first
          | ((with_reducible refine wpList_loadG stOrd' _ rfl ⟨ob, 0, none⟩ (ordL (ordN no) (.slice A k c) pk.place pk.opn pk.close pk.service dp.place dp.opn dp.close dp.service sk pe) ?_ ?_ ?_ ?_ ?_); exact rfl; exact rfl; exact HO.out.blk.cells; exact rfl)
          | ((with_reducible refine wpList_storeL stOrd' rfl _ _ rfl rb zOrd (ordL (ordN no) (.slice A k c) pk.place pk.opn pk.close pk.service dp.place dp.opn dp.close dp.service sk pe) ?_ ?_ ?_ ?_ ?_ (ordL_one rfl) ?_); exact rfl; exact rfl; exact HRb.out; exact rfl; exact rfl; intro wz k1 k2 k3 k4; have K := Lib.hid (And.intro k1 (And.intro k2 (And.intro k3 k4))); clear k1 k2 k3 k4))
        have HRz : Blk wz rb 44 (ordL (ordN no) (.slice A k c) pk.place pk.opn pk.close pk.service dp.place dp.opn dp.close dp.service sk pe) := K.out.1
        have HV : ordF seed k np no = ⟨ordN no, loadTo seed k, pk, dp, sk, pe, 1, -1, -1, false⟩ := by
          unfold ordF
          rw [HPK.out, HDP.out, HSK.out, HPE.out]
        refine bodyPost_ret (v := .tuple #[.agg (ordL (ordN no) (.slice A k c) pk.place pk.opn pk.close pk.service dp.place dp.opn dp.close dp.service sk pe).toArray, .int .i64 0]) (big.res_cell_tmp stOrd' Tryz.results13 rfl rfl HRz.cells rfl) rfl ?_
        rw [HEE.out, HDM.out, HV]
        refine ⟨A, c, ?_, ?_, ?_⟩
        · simp only [OrdCells, ordL, loadTo_len]
        · simp only [loadTo_len]
          exact own_less (own_fr HO.out.own ⟨by rw [K.out.2.2.1]; exact Nat.le_refl _, fun q _ hq => K.out.2.1 q (by have h' : B1 ≤ q := hq; omega)⟩) (by omega)
        · exact (HB5.out.trans (HO.out.gs.bel (by omega))).trans (K.out.2.2.2.mono (by omega))
      · skip
        go_upto_region 26 with fail
        clear e11 f11
        have HO : Hid (OSt 61 W0 W5 rb p B1 ob (nx 2 (sRest seed k)) (ordL (ordN no) (.slice A k c) pk.place pk.opn pk.close pk.service dp.place dp.opn dp.close dp.service sk pe) A k c ((loadTo seed k).map (.int .i64)) (w12.setCell ⟨ob, 11, none⟩ (.int .i64 2000))) := Lib.hid (by
          rw [← HQE.out]
          exact HQ.out.set HPL.out 11 (.int .i64 2000))
        obtain ⟨wc, hwc⟩ : ∃ W, w12.setCell ⟨ob, 11, none⟩ (.int .i64 2000) = W := ⟨_, rfl⟩
        rw [hwc] at HO ⊢
        clear hwc HQ HQE
        have HRb : Hid (Blk wc rb 44 zOrd) := Lib.hid ((HR0.out.fr (HF5.out (fun _ => True)) trivial).kept HO.out.gs.grown (fun e => by injection e; omega))
        go_wp2_with (first
          | ((with_reducible refine wpList_loadG stOrd' _ rfl ⟨ob, 0, none⟩ (ordL (ordN no) (.slice A k c) pk.place pk.opn pk.close pk.service dp.place dp.opn dp.close dp.service sk pe) ?_ ?_ ?_ ?_ ?_); exact rfl; exact rfl; exact HO.out.blk.cells; exact rfl)
          | ((with_reducible refine wpList_storeL stOrd' rfl _ _ rfl rb zOrd (ordL (ordN no) (.slice A k c) pk.place pk.opn pk.close pk.service dp.place dp.opn dp.close dp.service sk pe) ?_ ?_ ?_ ?_ ?_ (ordL_one rfl) ?_); exact rfl; exact rfl; exact HRb.out; exact rfl; exact rfl; intro wz k1 k2 k3 k4; have K := Lib.hid (And.intro k1 (And.intro k2 (And.intro k3 k4))); clear k1 k2 k3 k4))
        have HRz : Blk wz rb 44 (ordL (ordN no) (.slice A k c) pk.place pk.opn pk.close pk.service dp.place dp.opn dp.close dp.service sk pe) := K.out.1
        have HV : ordF seed k np no = ⟨ordN no, loadTo seed k, pk, dp, sk, pe, 1, -1, -1, false⟩ := by
          unfold ordF
          rw [HPK.out, HDP.out, HSK.out, HPE.out]
        refine bodyPost_ret (v := .tuple #[.agg (ordL (ordN no) (.slice A k c) pk.place pk.opn pk.close pk.service dp.place dp.opn dp.close dp.service sk pe).toArray, .int .i64 0]) (big.res_cell_tmp stOrd' Tryz.results13 rfl rfl HRz.cells rfl) rfl ?_
        rw [HEE.out, HDM.out, HV]
        refine ⟨A, c, ?_, ?_, ?_⟩
        · simp only [OrdCells, ordL, loadTo_len]
        · simp only [loadTo_len]
          exact own_less (own_fr HO.out.own ⟨by rw [K.out.2.2.1]; exact Nat.le_refl _, fun q _ hq => K.out.2.1 q (by have h' : B1 ≤ q := hq; omega)⟩) (by omega)
        · exact (HB5.out.trans (HO.out.gs.bel (by omega))).trans (K.out.2.2.2.mono (by omega))
end Go.Proofs.YtamhjodppdodfaaGreatDoor.gen

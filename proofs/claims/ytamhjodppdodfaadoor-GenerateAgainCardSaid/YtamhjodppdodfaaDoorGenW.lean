/- Events that are drawn and accepted: the program. -/
import Derived.Test.YtamhjodppdodfaaDoorGenV
namespace Go.Proofs.YtamhjodppdodfaaDoor.evt
open Go.RowKit
open Go.Proofs.YtamhjodppdodfaaDoor.lib Go.Proofs.YtamhjodppdodfaaDoor.rd Go.Proofs.YtamhjodppdodfaaDoor.app Go.Proofs.YtamhjodppdodfaaDoor.els Go.Proofs.YtamhjodppdodfaaDoor.off Go.Proofs.YtamhjodppdodfaaDoor.typ Go.Proofs.YtamhjodppdodfaaDoor.big Go.Proofs.YtamhjodppdodfaaDoor.ins Go.Proofs.YtamhjodppdodfaaDoor.ord Go.Proofs.YtamhjodppdodfaaDoor.gen
set_option linter.unusedVariables false
set_option linter.unusedSimpArgs false

/-- The event drawn in n rounds. -/
def evG (x : Ins) (now : Int) : Nat → Int → Evt × Int
  | 0, s => (drawE 0 0 0 0 0, 7)
  | n + 1, s => if (evD x now (frm s 1 5) (nx 1 s)).2.1 = true ∧ chkF x now (evD x now (frm s 1 5) (nx 1 s)).1 = 0 then ((evD x now (frm s 1 5) (nx 1 s)).1, 0) else evG x now n (evD x now (frm s 1 5) (nx 1 s)).2.2
def evF (seed : Int) (x : Ins) (now : Int) : Evt × Int := if now < 0 ∨ 4096 < now then (drawE 0 0 0 0 0, 2) else evG x now 20 seed
theorem zeroO_fits : OrdFits zeroO := by unfold OrdFits StpFits zeroO; simp; decide
theorem ordQ_fits {s : Int} {x : Ins} (hp : x.net.places.length ≤ 1000000) : OrdFits (ordQ s x).1 := by
  unfold ordQ
  cases hE : ordE s x with
  | error k => exact zeroO_fits
  | ok o =>
    unfold ordE at hE
    split at hE
    · cases hE
    · split at hE
      · cases hE
      · injection hE with hE
        rw [← hE]
        exact ordF_fits _ _ _ _ (by omega) hp
theorem drawE_fits {now kind a b n : Int} (h0 : 0 ≤ now ∧ now ≤ 4096) (h1 : 0 ≤ kind ∧ kind ≤ 5) (h2 : 0 ≤ a ∧ a ≤ 1000000) (h3 : 0 ≤ b ∧ b ≤ 1000000) (h4 : -30 ≤ n ∧ n ≤ 60) : EvtFits (drawE now kind a b n) := by
  refine ⟨?_, ?_, ?_, ?_, ?_, zeroO_fits⟩
  · show _ ≤ now ∧ now ≤ _; omega
  · show _ ≤ kind ∧ kind ≤ _; omega
  · show _ ≤ a ∧ a ≤ _; omega
  · show _ ≤ b ∧ b ≤ _; omega
  · show _ ≤ n ∧ n ≤ _; omega
theorem evD_fits {x : Ins} {now kind s : Int} (h0 : 0 ≤ now ∧ now ≤ 4096) (h1 : 1 ≤ kind ∧ kind ≤ 5) (hp : x.net.places.length ≤ 1000000) (ho : x.orders.length ≤ 1000000) (ht : x.types.length ≤ 1000000) : EvtFits (evD x now kind s).1 := by
  unfold evD
  split
  · refine ⟨?_, by show _ ≤ (1 : Int) ∧ (1 : Int) ≤ _; omega, by show _ ≤ (0 : Int) ∧ (0 : Int) ≤ _; omega, by show _ ≤ (0 : Int) ∧ (0 : Int) ≤ _; omega, by show _ ≤ (0 : Int) ∧ (0 : Int) ≤ _; omega, ordQ_fits hp⟩
    show _ ≤ now ∧ now ≤ _
    omega
  · split
    · exact drawE_fits h0 (by omega) (oneV_bd _ _ ho) (by omega) (by omega)
    · split
      · have := frm_bd (s := oneS (oneS s x.net.places.length) x.net.places.length) (a := 1) (b := 60) (by omega)
        exact drawE_fits h0 (by omega) (oneV_bd _ _ hp) (oneV_bd _ _ hp) (by omega)
      · split
        · exact drawE_fits h0 (by omega) (oneV_bd _ _ ht) (by omega) (by omega)
        · have := frm_bd (s := oneS s x.orders.length) (a := -30) (b := 30) (by omega)
          exact drawE_fits h0 (by omega) (oneV_bd _ _ ho) (by omega) (by omega)
theorem evt_fill0 : Instr.fill ((#[(0, 1), (1, 1), (2, 1), (3, 1), (4, 1), (5, 16)] : Array (Nat × Nat))[·]?) (Value.agg (EvtCells (drawE 0 0 0 0 0) none 0).toArray).cells [] = some (EvtCells (drawE 0 0 0 0 0) none 0).toArray := by kernel_rfl
set_option maxRecDepth 20000 in
set_option maxHeartbeats 8000000 in
theorem gevent_any (seed : Int) (x : Ins) (P : InP) (now : Int) (w : World) (h : InAt w w.heap.size x P) (hF : insF x = []) :
    Calls Tryd.prog 7 #[.int .i64 seed, InV x P, .int .i64 now] w fun e w' => ∃ C c, e = .returned (.tuple #[.agg (EvtCells (evF seed x now).1 C c).toArray, .int .i64 (evF seed x now).2]) ∧ Below w.heap.size w w' := by
  obtain ⟨W0, hW0⟩ : ∃ W0, (w.alloc (.cells (insCs x P).toArray 30)).alloc (.cells (EvtCells (drawE 0 0 0 0 0) none 0).toArray 42) = W0 := ⟨_, rfl⟩
  have hB0 : Below w.heap.size w W0 := by rw [← hW0]; exact ((Below.refl _ _).alloc (Nat.le_refl _) _).alloc (by simp) _
  have z0 : W0.heap.size = w.heap.size + 2 := by rw [← hW0]; simp
  have b0 : Blk W0 w.heap.size 30 (insCs x P) := by
    rw [← hW0]
    exact (Blk.new w _ _).kept (World.grownBy_alloc _ _ none) (by simp)
  have b1 : Blk W0 (w.heap.size + 1) 42 (EvtCells (drawE 0 0 0 0 0) none 0) := by
    rw [← hW0]
    have h := Blk.new (w.alloc (.cells (insCs x P).toArray 30)) 42 (EvtCells (drawE 0 0 0 0 0) none 0)
    rw [show (w.alloc (.cells (insCs x P).toArray 30)).heap.size = w.heap.size + 1 by simp] at h
    exact h
  have hW1 : (w.alloc (.cells #[.slice P.a0 x.net.places.length P.c0, .slice P.a1 x.net.arcs.length P.c1, .slice P.a2 x.types.length P.c2, .slice P.a3 x.orders.length P.c3, .slice P.a4 x.apart.length P.c4, .slice P.a5 x.before.length P.c5] 30)).alloc (.cells #[.int .i64 0, .int .i64 0, .int .i64 0, .int .i64 0, .int .i64 0, .string ⟨#[]⟩, .slice none 0 0, .int .i64 0, .int .i64 0, .int .i64 0, .int .i64 0, .int .i64 0, .int .i64 0, .int .i64 0, .int .i64 0, .int .i64 0, .int .i64 0, .int .i64 0, .int .i64 0, .int .i64 0, .bool false] 42) = W0 := hW0
  have HW1 := Lib.hid hW1
  have HF := Lib.hid hF
  have HLM := Lib.hid (lim.lim_of hF)
  have HD3 : Hid (flt.dimsN x.types ≤ 3) := Lib.hid (lim.dims_few (par.insF_nil.1 hF).2.1)
  have HB := Lib.hid (And.intro b0 b1)
  have HI := Lib.hid (fun w' (h' : Below w.heap.size w w') => h.below h')
  obtain ⟨R, hR⟩ : ∃ R, evF seed x now = R := ⟨_, rfl⟩
  have HR := Lib.hid hR
  rw [hR]
  simp only [InV]
  clear h hF hW0 hW1 b0 b1 hR
  go_enter Tryd.func7, Tryd.ntmps7
  go_upto_region 1 with fail
  rw [HW1.out]
  clear HW1
  by_cases hn1 : now < 0
  · have HRR : Hid (R = (drawE 0 0 0 0 0, 2)) := Lib.hid (by rw [← HR.out]; unfold evF; rw [if_pos (.inl hn1)])
    clear HR
    go_wp2_with (first
      | ((with_reducible refine wpList_buildL bEvt rfl [] rfl [] (EvtCells (drawE 0 0 0 0 0) none 0) ?_ evt_fill0 ?_); exact rfl)
      | ((with_reducible refine wpList_storeL stEvt rfl _ _ rfl (w.heap.size + 1) (EvtCells (drawE 0 0 0 0 0) none 0) (EvtCells (drawE 0 0 0 0 0) none 0) ?_ ?_ ?_ ?_ ?_ (evtCells_one _ _ _) ?_); exact rfl; exact rfl; exact HB.out.2; exact rfl; exact rfl; intro wz k1 k2 k3 k4; have K := Lib.hid (And.intro k1 (And.intro k2 (And.intro k3 k4))); clear k1 k2 k3 k4))
    have HRz : Blk wz (w.heap.size + 1) 42 (EvtCells (drawE 0 0 0 0 0) none 0) := K.out.1
    refine bodyPost_ret (v := .tuple #[.agg (EvtCells (drawE 0 0 0 0 0) none 0).toArray, .int .i64 2]) (big.res_cell_tmp stEvt Tryd.results7 rfl rfl HRz.cells rfl) rfl ?_
    rw [HRR.out]
    first
      | exact ⟨_, _, rfl, (hB0).trans (K.out.2.2.2.mono (by omega))⟩
      | exact ⟨⟨_, _, rfl⟩, (hB0).trans (K.out.2.2.2.mono (by omega))⟩
  by_cases hn2 : 4096 < now
  · have HRR : Hid (R = (drawE 0 0 0 0 0, 2)) := Lib.hid (by rw [← HR.out]; unfold evF; rw [if_pos (.inr hn2)])
    clear HR
    go_wp2_with (first
      | ((with_reducible refine wpList_buildL bEvt rfl [] rfl [] (EvtCells (drawE 0 0 0 0 0) none 0) ?_ evt_fill0 ?_); exact rfl)
      | ((with_reducible refine wpList_storeL stEvt rfl _ _ rfl (w.heap.size + 1) (EvtCells (drawE 0 0 0 0 0) none 0) (EvtCells (drawE 0 0 0 0 0) none 0) ?_ ?_ ?_ ?_ ?_ (evtCells_one _ _ _) ?_); exact rfl; exact rfl; exact HB.out.2; exact rfl; exact rfl; intro wz k1 k2 k3 k4; have K := Lib.hid (And.intro k1 (And.intro k2 (And.intro k3 k4))); clear k1 k2 k3 k4))
    have HRz : Blk wz (w.heap.size + 1) 42 (EvtCells (drawE 0 0 0 0 0) none 0) := K.out.1
    refine bodyPost_ret (v := .tuple #[.agg (EvtCells (drawE 0 0 0 0 0) none 0).toArray, .int .i64 2]) (big.res_cell_tmp stEvt Tryd.results7 rfl rfl HRz.cells rfl) rfl ?_
    rw [HRR.out]
    first
      | exact ⟨_, _, rfl, (hB0).trans (K.out.2.2.2.mono (by omega))⟩
      | exact ⟨⟨_, _, rfl⟩, (hB0).trans (K.out.2.2.2.mono (by omega))⟩
  have HRG : Hid (evG x now 20 seed = R) := Lib.hid (by rw [← HR.out]; unfold evF; rw [if_neg (by omega)])
  clear HR
  go_upto_region 4 with fail
  obtain ⟨W1, hW1⟩ : ∃ W, W0.alloc (.cells #[.int .i64 seed] 48) = W := ⟨_, rfl⟩
  obtain ⟨p, hp⟩ : ∃ p, W0.heap.size = p := ⟨_, rfl⟩
  have HG1 : Hid (GS W1 p 48 seed W1) := Lib.hid (by rw [← hW1, ← hp]; exact GS.start (Boxed.new W0 _ _))
  have hbl : Below W0.heap.size W0 W1 := by rw [← hW1]; exact (Below.refl _ _).alloc (Nat.le_refl _) _
  have HX : Hid (∀ wr s, GS W1 p 48 s wr → Blk wr w.heap.size 30 (insCs x P) ∧ Blk wr (w.heap.size + 1) 42 (EvtCells (drawE 0 0 0 0 0) none 0) ∧ Below w.heap.size w wr) := Lib.hid (fun wr s hg => by
    have h1 := (HB.out.1.below hbl).kept hg.grown (fun e => by injection e; omega)
    have h2 := (HB.out.2.below hbl).kept hg.grown (fun e => by injection e; omega)
    exact ⟨h1, h2, (hB0.trans (hbl.mono (by omega))).trans (hg.bel (by omega))⟩)
  have hp2 : w.heap.size + 2 = p := by omega
  rw [hW1, hp2]
  clear hW1 hbl HB
  go_upto_region 5 with fail
  go_loopw [22] (fun i wr => ∃ (k : Nat) (s : Int), k ≤ 20 ∧ i = .int .i64 k ∧ Hid (evG x now (20 - k) s = R) ∧ Hid (GS W1 p 48 s wr)) (fun i _ => 20 - (intOf i).toNat)
  case atStart => exact ⟨0, seed, by omega, rfl, HRG, HG1⟩
  case round =>
    clear HRG HG1
    obtain ⟨k, s, hk, rfl, HRG, HG⟩ := hrel
    by_cases hlt : k < 20
    · have hk0 : (0 : Int) ≤ (k : Int) := by omega
      have hk20 : (k : Int) < 20 := by omega
      have hE : evG x now (20 - k) s = if (evD x now (frm s 1 5) (nx 1 s)).2.1 = true ∧ chkF x now (evD x now (frm s 1 5) (nx 1 s)).1 = 0 then ((evD x now (frm s 1 5) (nx 1 s)).1, 0) else evG x now (20 - (k + 1)) (evD x now (frm s 1 5) (nx 1 s)).2.2 := by
        rw [show 20 - k = (20 - (k + 1)) + 1 by omega]
        rfl
      rw [HRG.out] at hE
      have HE := Lib.hid hE
      clear hE HRG
      go_upto_region 6 with fail
      go_wp2_with fail
      refine (from_any p s 1 5 wr HG.out.box (by omega) (by omega) (by omega)).mono ?_
      rintro e5 w5 ⟨rfl, hbx, hgr⟩
      have HG5 := Lib.hid (HG.out.draw hbx hgr)
      obtain ⟨kd, hkd⟩ : ∃ kd, frm s 1 5 = kd := ⟨_, rfl⟩
      have hkb := frm_bd (s := s) (a := 1) (b := 5) (by omega)
      rw [hkd] at HE hkb ⊢
      clear hkd hbx hgr HG
      have hX5 := HX.out _ _ HG5.out
      have HX5 := Lib.hid hX5
      clear hX5
      go_wp2_with ((with_reducible refine wpList_loadG stIns _ rfl ⟨w.heap.size, 0, none⟩ (insCs (x) P) ?_ ?_ ?_ ?_ ?_); exact rfl; exact rfl; exact HX5.out.1.cells; exact rfl)
      refine (drawn_any p (nx 1 s) x P now kd w5 HG5.out.box w.heap.size (by omega) (HI.out _ HX5.out.2.2) (by have := HD3.out; omega) (by have := HLM.out.places; omega) (by have := HLM.out.orders; omega) (by have := HLM.out.types; omega) hkb (by omega)).mono ?_
      have hft := evD_fits (x := x) (now := now) (kind := kd) (s := nx 1 s) (by omega) hkb (by have := HLM.out.places; omega) (by have := HLM.out.orders; omega) (by have := HLM.out.types; omega)
      obtain ⟨r, hr⟩ : ∃ r, evD x now kd (nx 1 s) = r := ⟨_, rfl⟩
      rw [hr] at HE hft ⊢
      clear hr
      obtain ⟨v, ok, s'⟩ := r
      have HFT := Lib.hid hft
      rintro e6 w6 ⟨C, c, rfl, hI6, hbx, hgr⟩
      have HG6 := Lib.hid (HG5.out.draw hbx hgr)
      have HI6 := Lib.hid hI6
      clear hft hI6 hbx hgr HX5 HG5
      go_upto_region 8 with ((with_reducible refine wpList_storeL stEvt rfl _ _ rfl (w6.heap.size) (EvtCells (drawE 0 0 0 0 0) none 0) (EvtCells v C c) ?_ ?_ ?_ ?_ ?_ (evtCells_one _ _ _) ?_); exact rfl; exact rfl; exact Blk.new w6 _ _; exact rfl; exact rfl; intro wz k1 k2 k3 k4; have K := Lib.hid (And.intro k1 (And.intro k2 (And.intro k3 k4))); clear k1 k2 k3 k4)
      have bz : Below w6.heap.size w6 wz := ((Below.refl _ _).alloc (Nat.le_refl _) _).trans K.out.2.2.2
      have HGz := Lib.hid (HG6.out.below bz)
      have HQ : Hid (Blk wz w6.heap.size 42 (EvtCells v C c)) := Lib.hid K.out.1
      have HIz : Hid (Ints wz wz.heap.size C v.order.load) := Lib.hid ((HI6.out.below bz).more bz.size)
      obtain ⟨q, hq⟩ : ∃ q, w6.heap.size = q := ⟨_, rfl⟩
      rw [hq] at HQ ⊢
      have HXz := Lib.hid (HX.out _ _ HGz.out)
      have hp9 : p < wz.heap.size := HGz.out.box.lt
      clear K bz HG6 HI6 hq
      cases ok
      · have HRG : Hid (evG x now (20 - (k + 1)) s' = R) := Lib.hid (by rw [HE.out]; rfl)
        go_wp2_with fail
        exact ⟨⟨k + 1, s', by omega, by go_num, HRG, HGz⟩, by simp [intOf]; omega⟩
      · go_wp2_with (first
          | ((with_reducible refine wpList_loadG stIns _ rfl ⟨w.heap.size, 0, none⟩ (insCs (x) P) ?_ ?_ ?_ ?_ ?_); exact rfl; exact rfl; exact HXz.out.1.cells; exact rfl)
          | ((with_reducible refine wpList_loadG stEvt _ rfl ⟨q, 0, none⟩ (EvtCells v C c) ?_ ?_ ?_ ?_ ?_); exact rfl; exact rfl; exact HQ.out.cells; exact rfl))
        refine (echeck_any x P now v C c wz ((HI.out _ HXz.out.2.2).more (by omega)) HF.out HIz.out HFT.out).mono ?_
        rintro e7 w7 ⟨rfl, b7⟩
        have HG7 := Lib.hid (HGz.out.below b7)
        have HQ7 := Lib.hid (HQ.out.below b7)
        have HX7 := Lib.hid (HX.out _ _ HG7.out)
        obtain ⟨ck, hck⟩ : ∃ ck, chkF x now v = ck := ⟨_, rfl⟩
        have HE2 : Hid (R = if ck = 0 then (v, 0) else evG x now (20 - (k + 1)) s') := Lib.hid (by
          have h := HE.out
          simp only [true_and, hck] at h
          exact h)
        rw [hck]
        clear hck HE b7 HGz HQ HXz
        by_cases hc : ck = 0
        · have HRR : Hid (R = (v, 0)) := Lib.hid (by rw [HE2.out, if_pos hc])
          have hcc : (ck == 0) = true := by simp [hc]
          clear hc HE2
          go_wp2_with (first
            | ((with_reducible refine wpList_loadG stEvt _ rfl ⟨q, 0, none⟩ (EvtCells v C c) ?_ ?_ ?_ ?_ ?_); exact rfl; exact rfl; exact HQ7.out.cells; exact rfl)
            | ((with_reducible refine wpList_storeL stEvt rfl _ _ rfl (w.heap.size + 1) (EvtCells (drawE 0 0 0 0 0) none 0) (EvtCells v C c) ?_ ?_ ?_ ?_ ?_ (evtCells_one _ _ _) ?_); exact rfl; exact rfl; exact HX7.out.2.1; exact rfl; exact rfl; intro wz k1 k2 k3 k4; have K := Lib.hid (And.intro k1 (And.intro k2 (And.intro k3 k4))); clear k1 k2 k3 k4))
          have HRz : Blk wz (w.heap.size + 1) 42 (EvtCells v C c) := K.out.1
          refine bodyPost_ret (v := .tuple #[.agg (EvtCells v C c).toArray, .int .i64 0]) (big.res_cell_tmp stEvt Tryd.results7 rfl rfl HRz.cells rfl) rfl ?_
          rw [HRR.out]
          first
            | exact ⟨_, _, rfl, (HX7.out.2.2).trans (K.out.2.2.2.mono (by omega))⟩
            | exact ⟨⟨_, _, rfl⟩, (HX7.out.2.2).trans (K.out.2.2.2.mono (by omega))⟩
        · have HRG : Hid (evG x now (20 - (k + 1)) s' = R) := Lib.hid (by rw [HE2.out, if_neg hc])
          have hcc : (ck == 0) = false := by simp [hc]
          clear hc HE2
          go_wp2_with fail
          exact ⟨⟨k + 1, s', by omega, by go_num, HRG, HG7⟩, by simp [intOf]; omega⟩
    · have hkn : k = 20 := by omega
      subst hkn
      have HRR : Hid (R = (drawE 0 0 0 0 0, 7)) := Lib.hid HRG.out.symm
      have HXr := Lib.hid (HX.out _ _ HG.out)
      clear hlt
      go_wp2_with (first
        | ((with_reducible refine wpList_buildL bEvt rfl [] rfl [] (EvtCells (drawE 0 0 0 0 0) none 0) ?_ evt_fill0 ?_); exact rfl)
        | ((with_reducible refine wpList_storeL stEvt rfl _ _ rfl (w.heap.size + 1) (EvtCells (drawE 0 0 0 0 0) none 0) (EvtCells (drawE 0 0 0 0 0) none 0) ?_ ?_ ?_ ?_ ?_ (evtCells_one _ _ _) ?_); exact rfl; exact rfl; exact HXr.out.2.1; exact rfl; exact rfl; intro wz k1 k2 k3 k4; have K := Lib.hid (And.intro k1 (And.intro k2 (And.intro k3 k4))); clear k1 k2 k3 k4))
      have HRz : Blk wz (w.heap.size + 1) 42 (EvtCells (drawE 0 0 0 0 0) none 0) := K.out.1
      refine bodyPost_ret (v := .tuple #[.agg (EvtCells (drawE 0 0 0 0 0) none 0).toArray, .int .i64 7]) (big.res_cell_tmp stEvt Tryd.results7 rfl rfl HRz.cells rfl) rfl ?_
      rw [HRR.out]
      first
        | exact ⟨_, _, rfl, (HXr.out.2.2).trans (K.out.2.2.2.mono (by omega))⟩
        | exact ⟨⟨_, _, rfl⟩, (HXr.out.2.2).trans (K.out.2.2.2.mono (by omega))⟩
end Go.Proofs.YtamhjodppdodfaaDoor.evt

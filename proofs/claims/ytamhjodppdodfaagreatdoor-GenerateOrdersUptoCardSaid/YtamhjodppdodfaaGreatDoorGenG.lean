/- Arcs that are drawn: the reference. A block with a row that grows. -/
import Derived.Test.YtamhjodppdodfaaGreatDoorGenE
import Derived.Test.YtamhjodppdodfaaGreatDoorGenR
import Derived.Deep.RegionHeld3
import Derived.Deep.DeepCutAuto
namespace Go.Proofs.YtamhjodppdodfaaGreatDoor.gen
open Go.RowKit
open Go.Proofs.YtamhjodppdodfaaGreatDoor.lib Go.Proofs.YtamhjodppdodfaaGreatDoor.rd Go.Proofs.YtamhjodppdodfaaGreatDoor.app Go.Proofs.YtamhjodppdodfaaGreatDoor.els Go.Proofs.YtamhjodppdodfaaGreatDoor.typ Go.Proofs.YtamhjodppdodfaaGreatDoor.txt Go.Proofs.YtamhjodppdodfaaGreatDoor.big Go.Proofs.YtamhjodppdodfaaGreatDoor.off
set_option linter.unusedVariables false
set_option linter.unusedSimpArgs false

/-- Where a call that draws stands: its drawer, the block that it builds, the row that it builds. -/
structure BSt (T bt et : TypeId) (sz : Nat) (W : World) (p B1 ob : Nat) (s : Int) (cs : List Value) (A : Option Addr) (k c : Nat) (l : List Value) (wx : World) : Prop where
  gs : GS W p T s wx
  blk : Blk wx ob bt cs
  own : wx.ownsRow B1 et sz (.slice A k c) k l
  size : B1 ≤ wx.heap.size
/-- Where its blocks lie. -/
def BPl (W : World) (p B1 ob : Nat) : Prop := p < W.heap.size ∧ W.heap.size ≤ ob ∧ ob < B1
section
variable {T bt et : TypeId} {sz : Nat} {W wx wy : World} {p B1 ob : Nat} {s s' : Int} {cs : List Value} {A : Option Addr} {k c : Nat} {l : List Value}
theorem BSt.set (h : BSt T bt et sz W p B1 ob s cs A k c l wx) (hl : BPl W p B1 ob) (i : Nat) (u : Value) : BSt T bt et sz W p B1 ob s (cs.set i u) A k c l (wx.setCell ⟨ob, i, none⟩ u) := by
  obtain ⟨h2, h3, h4⟩ := hl
  exact ⟨h.gs.set h3 i u, h.blk.set i u, own_fr h.own (Fr.set (q := ob) wx i u (fun q hq => by have h' : B1 ≤ q := hq; omega)), by have := h.size; simp [World.setCell]; omega⟩
theorem BSt.drew (h : BSt T bt et sz W p B1 ob s cs A k c l wx) : BSt T bt et sz W p B1 ob s cs A k c l wx.drew := ⟨h.gs.drew, h.blk, h.own, h.size⟩
theorem BSt.draw (h : BSt T bt et sz W p B1 ob s cs A k c l wx) (hl : BPl W p B1 ob) (hb : Boxed wy p T (.int .i64 s')) (hg : wx.grownBy wy (some p)) : BSt T bt et sz W p B1 ob s' cs A k c l wy := by
  obtain ⟨h2, h3, h4⟩ := hl
  exact ⟨h.gs.draw hb hg, h.blk.kept hg (fun e => by injection e; omega), own_draw h.own (by omega) hg, Nat.le_trans h.size hg.size⟩
theorem BSt.below (h : BSt T bt et sz W p B1 ob s cs A k c l wx) (hb : Below wx.heap.size wx wy) : BSt T bt et sz W p B1 ob s cs A k c l wy :=
  ⟨h.gs.below hb, h.blk.below hb, own_below h.own hb, Nat.le_trans h.size hb.size⟩
theorem BSt.app {g n c' : Nat} {l' : List Value} (h : BSt T bt et sz W p B1 ob s cs A k c l wx) (hl : BPl W p B1 ob) (ho : wy.ownsRow B1 et sz (.slice (some ⟨g, 0, none⟩) n c') n l') (hg : wx.grownBy wy (Value.slice A k c).ownBlock) : BSt T bt et sz W p B1 ob s cs (some ⟨g, 0, none⟩) n c' l' wy := by
  obtain ⟨h2, h3, h4⟩ := hl
  have hne : ∀ q, q < B1 → some q ≠ (Value.slice A k c).ownBlock := fun q hq e => by have := (World.ownsRow.lt h.own q e.symm).1; omega
  exact ⟨h.gs.grow hg (fun q e => by have := (World.ownsRow.lt h.own q e).1; omega), h.blk.kept hg (hne _ h4), ho, Nat.le_trans h.size hg.size⟩
end
def arcL (i j m : Int) (tr : Value) : List Value := [.int .i64 i, .int .i64 j, .int .i64 0, .int .i64 m, tr, .slice none 0 0]
theorem arcL_one {i j m : Int} {tr : Value} (h : tr.oneCell' = true) : ∀ u ∈ arcL i j m tr, u.oneCell' = true := fun u hu => by
  simp only [arcL, List.mem_cons, List.not_mem_nil, or_false] at hu
  rcases hu with rfl | rfl | rfl | rfl | rfl | rfl
  all_goals first | rfl | exact h
theorem stArc' : StructOf 64 6 := ⟨⟨_, Tryz.underlying64⟩, by kernel_rfl⟩
/-- An arc that was drawn, handed back. -/
def ArcOut (T : TypeId) (p : Nat) (s : Int) (i j : Nat) (w : World) (e : Ending) (w' : World) : Prop := ∃ A c, e = .returned (.agg (ArcCells (arcF s i j) A c none 0).toArray) ∧ w'.ownsRow w.heap.size 87 2 (.slice A (arcF s i j).travel.length c) (arcF s i j).travel.length (pcs (arcF s i j).travel) ∧ Boxed w' p T (.int .i64 (arcN s)) ∧ w.grownBy w' (some p)
set_option maxRecDepth 20000 in
set_option maxHeartbeats 8000000 in
theorem rarc_any (p : Nat) (s : Int) (i j : Nat) (w : World) (h : Boxed w p 61 (.int .i64 s)) :
    Calls Tryz.prog 21 #[.pointer (some ⟨p, 0, none⟩), .int .i64 i, .int .i64 j] w (ArcOut 61 p s i j w) := by
  have hp := h.lt
  go_enter Tryz.func21, Tryz.ntmps21
  go_upto_region 1 with fail
  have HR1 : Hid (Blk (w.alloc (.cells #[.int .i64 0, .int .i64 0, .int .i64 0, .int .i64 0, .slice none 0 0, .slice none 0 0] 64)) w.heap.size 64 (arcL 0 0 0 (.slice none 0 0))) := Lib.hid (Blk.new w _ (arcL 0 0 0 (.slice none 0 0)))
  have HG1 := Lib.hid (GS.start (h.alloc (.cells #[.int .i64 0, .int .i64 0, .int .i64 0, .int .i64 0, .slice none 0 0, .slice none 0 0] 64)))
  have HW1 := Lib.hid ((GS.start h).alloc (.cells #[.int .i64 0, .int .i64 0, .int .i64 0, .int .i64 0, .slice none 0 0, .slice none 0 0] 64))
  obtain ⟨W1, hW1⟩ : ∃ W1, w.alloc (.cells #[.int .i64 0, .int .i64 0, .int .i64 0, .int .i64 0, .slice none 0 0, .slice none 0 0] 64) = W1 := ⟨_, rfl⟩
  rw [hW1] at HR1 HG1 HW1 ⊢
  have l1 := HR1.out.lt
  clear hW1 h
  go_wp2_with fail
  refine (rfrom_any p s 1 50 _ HG1.out.box (by omega) (by omega) (by omega)).mono ?_
  rintro e w2 ⟨rfl, hbx, hgr⟩
  obtain ⟨mi, hv⟩ : ∃ v, frm s 1 50 = v := ⟨_, rfl⟩
  rw [hv]
  have Hmi := Lib.hid hv
  have HG2 := Lib.hid (HG1.out.draw hbx hgr)
  clear hbx hv hgr
  go_upto_region 2 with fail
  obtain ⟨ob, hob⟩ : ∃ b, w2.heap.size = b := ⟨_, rfl⟩
  have z2 := HG2.out.size
  have HPL : Hid (BPl W1 p (ob + 1) ob) := Lib.hid ⟨by omega, by omega, by omega⟩
  have HO0 : Hid (BSt 61 64 87 2 W1 p (ob + 1) ob (nx 1 s) (arcL i j mi (.slice none 0 0)) none 0 0 [] (w2.alloc (.cells #[.int .i64 i, .int .i64 j, .int .i64 0, .int .i64 mi, .slice none 0 0, .slice none 0 0] 64))) := Lib.hid ⟨HG2.out.alloc _, by rw [← hob]; exact Blk.new w2 _ (arcL i j mi (.slice none 0 0)), World.ownsRow_nil _ _ _ _, by simp; omega⟩
  obtain ⟨w3, hw3⟩ : ∃ W, w2.alloc (.cells #[.int .i64 i, .int .i64 j, .int .i64 0, .int .i64 mi, .slice none 0 0, .slice none 0 0] 64) = W := ⟨_, rfl⟩
  rw [hw3] at HO0 ⊢
  rw [hob]
  have hl1 : w.heap.size < ob := by omega
  obtain ⟨B1, hB1⟩ : ∃ B, ob + 1 = B := ⟨_, rfl⟩
  have hob1 : ob < B1 := by omega
  rw [hB1] at HPL HO0
  clear hw3 hob z2 HG2 HG1 hB1
  go_wp2_with fail
  refine (rfrom_any p (nx 1 s) (1) (3) _ HO0.out.gs.box (by omega) (by omega) (by omega)).mono ?_
  rintro e w4 ⟨rfl, hbx, hgr⟩
  obtain ⟨n, hv⟩ : ∃ v, frm (nx 1 s) (1) (3) = v := ⟨_, rfl⟩
  have Bn := frm_bd (s := nx 1 s) (a := 1) (b := 3) (by omega)
  rw [hv] at Bn ⊢
  have Hn := Lib.hid hv
  have HO1 := Lib.hid (HO0.out.draw HPL.out hbx hgr)
  clear hbx hv hgr
  go_wp2_with fail
  refine (rfrom_any p (nx 2 s) (0) (50) _ HO1.out.gs.box (by omega) (by omega) (by omega)).mono ?_
  rintro e w5 ⟨rfl, hbx, hgr⟩
  obtain ⟨t0, hv⟩ : ∃ v, frm (nx 2 s) (0) (50) = v := ⟨_, rfl⟩
  have Bt0 := frm_bd (s := nx 2 s) (a := 0) (b := 50) (by omega)
  rw [hv] at Bt0 ⊢
  have Ht0 := Lib.hid hv
  have HO2 := Lib.hid (HO1.out.draw HPL.out hbx hgr)
  clear hbx hv hgr
  go_wp2_with fail
  refine (rfrom_any p (nx 3 s) (1) (60) _ HO2.out.gs.box (by omega) (by omega) (by omega)).mono ?_
  rintro e w6 ⟨rfl, hbx, hgr⟩
  obtain ⟨a0, hv⟩ : ∃ v, frm (nx 3 s) (1) (60) = v := ⟨_, rfl⟩
  have Ba0 := frm_bd (s := nx 3 s) (a := 1) (b := 60) (by omega)
  rw [hv] at Ba0 ⊢
  have Ha0 := Lib.hid hv
  have HO3 := Lib.hid (HO2.out.draw HPL.out hbx hgr)
  clear hbx hv hgr
  obtain ⟨N, hN⟩ : ∃ N : Nat, n = (N : Int) + 1 := ⟨n.toNat - 1, by omega⟩
  have HT : Hid (trvF (nx 1 s) = ptsTo ⟨t0, t0 + a0⟩ (nx 4 s) N) := Lib.hid (by
    have hn := Hn.out
    have ht := Ht0.out
    have ha := Ha0.out
    show ptsTo (pt0 (nx 1 s)) (nx 4 s) (trvN (nx 1 s)) = _
    have e1 : pt0 (nx 1 s) = ⟨t0, t0 + a0⟩ := by
      show (⟨frm (nx 2 s) 0 50, frm (nx 2 s) 0 50 + frm (nx 3 s) 1 60⟩ : Pt) = _
      rw [ht, ha]
    have e2 : trvN (nx 1 s) = N := by
      unfold trvN
      omega
    rw [e1, e2])
  have hN2 : N ≤ 2 := by omega
  subst hN
  go_upto_region 5 with fail
  have ci := HO3.out.blk.cell (j := 4) rfl
  have bl : Below w6.heap.size w6 (w6.alloc (.cells #[.int .i64 t0, .int .i64 (t0 + a0)] 87)) := (Below.refl _ _).alloc (Nat.le_refl _) _
  have HA := Lib.hid (HO3.out.below bl)
  have hsz := HO3.out.size
  go_upto_region 6 with (at_builtin; go_loud (refine wpList_app pt_elem _ _ rfl B1 none 0 0 [] rfl HA.out.own ⟨w6.heap.size, 0, none⟩ 1 [.int .i64 t0, .int .i64 (t0 + a0)] rfl rfl (two_new w6 (.int .i64 t0) (.int .i64 (t0 + a0)) _) (fun u hu => by simp only [List.mem_cons, List.not_mem_nil, or_false] at hu; rcases hu with rfl | rfl <;> rfl) (by omega) HA.out.size rfl ?_); intro g7 c7 w7 hown7 hg7 hx7; have H7 := Lib.hid (HA.out.app HPL.out hown7 hg7); clear hown7 hg7 hx7; have x7 := H7.out.blk.cell (j := 4) rfl; have f7 := H7.out.blk.frozen 4)
  have HO8 : Hid (BSt 61 64 87 2 W1 p B1 ob (ptsTo ⟨t0, t0 + a0⟩ (nx 4 s) 0).2.2 (arcL i j mi (.slice (some ⟨g7, 0, none⟩) 1 c7)) (some ⟨g7, 0, none⟩) 1 c7 (pcs (ptsTo ⟨t0, t0 + a0⟩ (nx 4 s) 0).1) (w7.setCell ⟨ob, 4, none⟩ (.slice (some ⟨g7, 0, none⟩) 1 c7))) := Lib.hid (H7.out.set HPL.out 4 (.slice (some ⟨g7, 0, none⟩) 1 c7))
  clear ci x7 f7 H7 HA bl hsz HO3 HO2 HO1 HO0
  go_upto_region 7 with fail
  go_loopw [9, 10, 11] (fun vt va vi wr => ∃ (k : Nat) (A : Option Addr) (c : Nat), k ≤ N ∧ vt = .int .i64 (ptsTo ⟨t0, t0 + a0⟩ (nx 4 s) k).2.1.t ∧ va = .int .i64 (ptsTo ⟨t0, t0 + a0⟩ (nx 4 s) k).2.1.a ∧ vi = .int .i64 ((k : Int) + 1) ∧ Hid (BSt 61 64 87 2 W1 p B1 ob (ptsTo ⟨t0, t0 + a0⟩ (nx 4 s) k).2.2 (arcL i j mi (.slice A (k + 1) c)) A (k + 1) c (pcs (ptsTo ⟨t0, t0 + a0⟩ (nx 4 s) k).1) wr)) (fun _ _ vi _ => N + 1 - (intOf vi).toNat)
  case atStart => exact ⟨0, some ⟨g7, 0, none⟩, c7, by omega, rfl, rfl, rfl, HO8⟩
  case round =>
    clear HO8
    obtain ⟨k, A, c, hk, rfl, rfl, rfl, HO⟩ := hrel
    have hbd := pts_bd ⟨t0, t0 + a0⟩ (nx 4 s) ⟨by show 0 ≤ t0; omega, by show t0 ≤ 50; omega, by show 0 ≤ t0 + a0; omega, by show t0 + a0 ≤ 110; omega⟩ k
    have hlen := pts_len ⟨t0, t0 + a0⟩ (nx 4 s) k
    by_cases hlt : k < N
    · obtain ⟨q, hq⟩ : ∃ q, (ptsTo ⟨t0, t0 + a0⟩ (nx 4 s) k).2.1 = q := ⟨_, rfl⟩
      obtain ⟨z, hz⟩ : ∃ z, (ptsTo ⟨t0, t0 + a0⟩ (nx 4 s) k).2.2 = z := ⟨_, rfl⟩
      obtain ⟨l, hl⟩ : ∃ l, (ptsTo ⟨t0, t0 + a0⟩ (nx 4 s) k).1 = l := ⟨_, rfl⟩
      have HNX : Hid (ptsTo ⟨t0, t0 + a0⟩ (nx 4 s) (k + 1) = (l ++ [ptNext q z], ptNext q z, nx 2 z)) := Lib.hid (by rw [ptsTo, hq, hz, hl])
      rw [hl] at HO hlen
      rw [hq] at hbd ⊢
      rw [hz] at HO
      have hk2 : (k : Int) + 1 < (N : Int) + 1 := by omega
      clear hq hz hl
      go_wp2_with fail
      refine (rfrom_any p (z) (10) (100) _ HO.out.gs.box (by omega) (by omega) (by omega)).mono ?_
      rintro e w9 ⟨rfl, hbx, hgr⟩
      obtain ⟨v1, hv⟩ : ∃ v, frm (z) (10) (100) = v := ⟨_, rfl⟩
      have Bv1 := frm_bd (s := z) (a := 10) (b := 100) (by omega)
      rw [hv] at Bv1 ⊢
      have Hv1 := Lib.hid hv
      have HO1 := Lib.hid (HO.out.draw HPL.out hbx hgr)
      clear hbx hv hgr
      go_upto_region 10 with fail
      go_wp2_with fail
      refine (rfrom_any p (nx 1 z) (0) (120) _ HO1.out.gs.box (by omega) (by omega) (by omega)).mono ?_
      rintro e wa ⟨rfl, hbx, hgr⟩
      obtain ⟨v2, hv⟩ : ∃ v, frm (nx 1 z) (0) (120) = v := ⟨_, rfl⟩
      have Bv2 := frm_bd (s := nx 1 z) (a := 0) (b := 120) (by omega)
      rw [hv] at Bv2 ⊢
      have Hv2 := Lib.hid hv
      have HO2 := Lib.hid (HO1.out.draw HPL.out hbx hgr)
      clear hbx hv hgr
      obtain ⟨nt, hnt⟩ : ∃ nt, q.t + v1 = nt := ⟨_, rfl⟩
      obtain ⟨na, hna⟩ : ∃ na, q.a + v2 = na := ⟨_, rfl⟩
      have HPN : Hid (ptNext q z = ⟨nt, if na < nt then nt else na⟩) := Lib.hid (by
        unfold ptNext
        rw [Hv1.out, Hv2.out, hnt, hna])
      have Bnt : 0 ≤ nt ∧ nt ≤ 1000 := by omega
      have Bna : 0 ≤ na ∧ na ≤ 1000 := by omega
      go_upto_region 11 with fail
      clear hnt hna
      by_cases hc : na < nt
      · have HPM : Hid (ptNext q z = ⟨nt, nt⟩) := Lib.hid (by rw [HPN.out, if_pos hc])
        go_upto_region 13 with fail
        have ci := HO2.out.blk.cell (j := 4) rfl
        have bl : Below wa.heap.size wa (wa.alloc (.cells #[.int .i64 nt, .int .i64 nt] 87)) := (Below.refl _ _).alloc (Nat.le_refl _) _
        have HA := Lib.hid (HO2.out.below bl)
        have hsz := HO2.out.size
        go_upto_region 8 with (at_builtin; go_loud (refine wpList_app pt_elem _ _ rfl B1 A (k + 1) c (pcs l) rfl HA.out.own ⟨wa.heap.size, 0, none⟩ 1 [.int .i64 nt, .int .i64 nt] rfl rfl (two_new wa (.int .i64 nt) (.int .i64 nt) _) (fun u hu => by simp only [List.mem_cons, List.not_mem_nil, or_false] at hu; rcases hu with rfl | rfl <;> rfl) (by omega) HA.out.size rfl ?_); intro g7 c7 w7 hown7 hg7 hx7; have H7 := Lib.hid (HA.out.app HPL.out hown7 hg7); clear hown7 hg7 hx7; have x7 := H7.out.blk.cell (j := 4) rfl; have f7 := H7.out.blk.frozen 4)
        have HO8 : Hid (BSt 61 64 87 2 W1 p B1 ob (ptsTo ⟨t0, t0 + a0⟩ (nx 4 s) (k + 1)).2.2 (arcL i j mi (.slice (some ⟨g7, 0, none⟩) (k + 1 + 1) c7)) (some ⟨g7, 0, none⟩) (k + 1 + 1) c7 (pcs (ptsTo ⟨t0, t0 + a0⟩ (nx 4 s) (k + 1)).1) (w7.setCell ⟨ob, 4, none⟩ (.slice (some ⟨g7, 0, none⟩) (k + 1 + 1) c7))) := Lib.hid (by
          have h := H7.out.set HPL.out 4 (.slice (some ⟨g7, 0, none⟩) (k + 1 + 1) c7)
          rw [HNX.out, pcs_append, HPM.out]
          exact h)
        clear ci x7 f7 H7 HA bl hsz
        go_wp2_with fail
        exact ⟨⟨k + 1, some ⟨g7, 0, none⟩, c7, by omega, by rw [HNX.out, HPM.out], by rw [HNX.out, HPM.out], by go_num, HO8⟩, by simp [intOf]; omega⟩
      · have HPM : Hid (ptNext q z = ⟨nt, na⟩) := Lib.hid (by rw [HPN.out, if_neg hc])
        go_upto_region 13 with fail
        have ci := HO2.out.blk.cell (j := 4) rfl
        have bl : Below wa.heap.size wa (wa.alloc (.cells #[.int .i64 nt, .int .i64 na] 87)) := (Below.refl _ _).alloc (Nat.le_refl _) _
        have HA := Lib.hid (HO2.out.below bl)
        have hsz := HO2.out.size
        go_upto_region 8 with (at_builtin; go_loud (refine wpList_app pt_elem _ _ rfl B1 A (k + 1) c (pcs l) rfl HA.out.own ⟨wa.heap.size, 0, none⟩ 1 [.int .i64 nt, .int .i64 na] rfl rfl (two_new wa (.int .i64 nt) (.int .i64 na) _) (fun u hu => by simp only [List.mem_cons, List.not_mem_nil, or_false] at hu; rcases hu with rfl | rfl <;> rfl) (by omega) HA.out.size rfl ?_); intro g7 c7 w7 hown7 hg7 hx7; have H7 := Lib.hid (HA.out.app HPL.out hown7 hg7); clear hown7 hg7 hx7; have x7 := H7.out.blk.cell (j := 4) rfl; have f7 := H7.out.blk.frozen 4)
        have HO8 : Hid (BSt 61 64 87 2 W1 p B1 ob (ptsTo ⟨t0, t0 + a0⟩ (nx 4 s) (k + 1)).2.2 (arcL i j mi (.slice (some ⟨g7, 0, none⟩) (k + 1 + 1) c7)) (some ⟨g7, 0, none⟩) (k + 1 + 1) c7 (pcs (ptsTo ⟨t0, t0 + a0⟩ (nx 4 s) (k + 1)).1) (w7.setCell ⟨ob, 4, none⟩ (.slice (some ⟨g7, 0, none⟩) (k + 1 + 1) c7))) := Lib.hid (by
          have h := H7.out.set HPL.out 4 (.slice (some ⟨g7, 0, none⟩) (k + 1 + 1) c7)
          rw [HNX.out, pcs_append, HPM.out]
          exact h)
        clear ci x7 f7 H7 HA bl hsz
        go_wp2_with fail
        exact ⟨⟨k + 1, some ⟨g7, 0, none⟩, c7, by omega, by rw [HNX.out, HPM.out], by rw [HNX.out, HPM.out], by go_num, HO8⟩, by simp [intOf]; omega⟩
    · have hkN : k = N := by omega
      subst hkN
      clear hlt
      have hk2 : ¬ (k : Int) + 1 < (k : Int) + 1 := by omega
      have HRb : Hid (Blk wr w.heap.size 64 (arcL 0 0 0 (.slice none 0 0))) := Lib.hid (HR1.out.kept HO.out.gs.grown (fun e => by injection e; omega))
      go_wp2_with (first
        | ((with_reducible refine wpList_loadG stArc' _ rfl ⟨ob, 0, none⟩ (arcL i j mi (.slice A (k + 1) c)) ?_ ?_ ?_ ?_ ?_); exact rfl; exact rfl; exact HO.out.blk.cells; exact rfl)
        | ((with_reducible refine wpList_storeL stArc' rfl _ _ rfl w.heap.size (arcL 0 0 0 (.slice none 0 0)) (arcL i j mi (.slice A (k + 1) c)) ?_ ?_ ?_ ?_ ?_ (arcL_one rfl) ?_); exact rfl; exact rfl; exact HRb.out; exact rfl; exact rfl; intro wz k1 k2 k3 k4; have K := Lib.hid (And.intro k1 (And.intro k2 (And.intro k3 k4))); clear k1 k2 k3 k4))
      have HRz : Blk wz w.heap.size 64 (arcL i j mi (.slice A (k + 1) c)) := K.out.1
      refine bodyPost_ret (v := .agg (arcL i j mi (.slice A (k + 1) c)).toArray) (big.res_cell stArc' Tryz.results21 rfl HRz.cells rfl) rfl ?_
      have hgw : GS w p 61 (arcN s) wr := ⟨by have h := HO.out.gs.box; unfold arcN; rw [HT.out]; exact h, HW1.out.grown.trans HO.out.gs.grown, hp⟩
      have htr : (arcF s i j).travel = (ptsTo ⟨t0, t0 + a0⟩ (nx 4 s) k).1 := by
        show (trvF (nx 1 s)).1 = _
        rw [HT.out]
      have hg2 := hgw.store (Nat.le_refl _) K.out.2.1 K.out.2.2.2
      refine ⟨A, c, ?_, ?_, hg2.box, hg2.grown⟩
      · simp only [ArcCells, arcF, Hmi.out, HT.out, hlen]
        rfl
      · rw [htr, hlen]
        exact own_less (own_fr HO.out.own ⟨by rw [K.out.2.2.1]; exact Nat.le_refl _, fun q _ hq => K.out.2.1 q (by have h' : B1 ≤ q := hq; omega)⟩) (by omega)
end Go.Proofs.YtamhjodppdodfaaGreatDoor.gen

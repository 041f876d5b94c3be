/- Stops that are drawn, on both sides. -/
import Derived.Test.YtamhjodppdodfaaDoorGenA
import Derived.Deep.RegionHeld3
namespace Go.Proofs.YtamhjodppdodfaaDoor.gen
open Go.RowKit
open Go.Proofs.YtamhjodppdodfaaDoor.lib Go.Proofs.YtamhjodppdodfaaDoor.rd Go.Proofs.YtamhjodppdodfaaDoor.app Go.Proofs.YtamhjodppdodfaaDoor.typ Go.Proofs.YtamhjodppdodfaaDoor.txt Go.Proofs.YtamhjodppdodfaaDoor.big
set_option linter.unusedVariables false
set_option linter.unusedSimpArgs false

theorem stStp : StructOf 38 4 := ⟨⟨_, Tryd.underlying38⟩, by kernel_rfl⟩
def stpV (s : Stp) : Value := .agg #[.int .i64 s.place, .int .i64 s.opn, .int .i64 s.close, .int .i64 s.service]
def stpC (a b c d : Int) : List Value := [.int .i64 a, .int .i64 b, .int .i64 c, .int .i64 d]
theorem stpC_one (a b c d : Int) : ∀ u ∈ stpC a b c d, u.oneCell' = true := fun u hu => by
  simp only [stpC, List.mem_cons, List.not_mem_nil, or_false] at hu
  rcases hu with rfl | rfl | rfl | rfl <;> rfl
set_option maxRecDepth 20000 in
set_option maxHeartbeats 4000000 in
theorem stop_any (p : Nat) (s : Int) (n : Nat) (w : World) (h : Boxed w p 48 (.int .i64 s)) (hn : 1 ≤ n) (hn9 : n ≤ 1000000) :
    Calls Tryd.prog 23 #[.pointer (some ⟨p, 0, none⟩), .int .i64 n] w (DrawOut 48 p (stpV (stpF s n)) (nx 4 s) w) := by
  have hp := h.lt
  have HG0 := Lib.hid (GS.start h)
  clear h
  go_enter Tryd.func23, Tryd.ntmps23
  go_upto_region 1 with fail
  have HG1 := Lib.hid (HG0.out.alloc (.cells #[.int .i64 0, .int .i64 0, .int .i64 0, .int .i64 0] 38))
  have HR1 : Hid (Blk (w.alloc (.cells #[.int .i64 0, .int .i64 0, .int .i64 0, .int .i64 0] 38)) w.heap.size 38 (stpC 0 0 0 0)) := Lib.hid (Blk.new w _ (stpC 0 0 0 0))
  obtain ⟨W1, hW1⟩ : ∃ W1, w.alloc (.cells #[.int .i64 0, .int .i64 0, .int .i64 0, .int .i64 0] 38) = W1 := ⟨_, rfl⟩
  rw [hW1] at HG1 HR1 ⊢
  have z1 := HG1.out.size
  have l1 := HR1.out.lt
  clear hW1 HG0
  go_wp2_with fail
  refine (from_any p (s) (0) ((n : Int) - 1) _ HG1.out.box (by omega) (by omega) (by omega)).mono ?_
  rintro e w2 ⟨rfl, hbx, hgr⟩
  obtain ⟨v0, hv⟩ : ∃ v, frm (s) (0) ((n : Int) - 1) = v := ⟨_, rfl⟩
  have Bv0 := frm_bd (s := s) (a := 0) (b := (n : Int) - 1) (by omega)
  rw [hv] at Bv0 ⊢
  have Hv0 := Lib.hid hv
  have Gv0 := Lib.hid (HG1.out.draw hbx hgr)
  clear hbx hv
  have HR2 := Lib.hid (HR1.out.kept hgr (fun e => by injection e; omega))
  clear hgr
  go_upto_region 2 with fail
  have HG3 := Lib.hid (Gv0.out.alloc (.cells #[.int .i64 v0, .int .i64 0, .int .i64 0, .int .i64 0] 38))
  have HB3 : Hid (Blk (w2.alloc (.cells #[.int .i64 v0, .int .i64 0, .int .i64 0, .int .i64 0] 38)) w2.heap.size 38 (stpC v0 0 0 0)) := Lib.hid (Blk.new w2 _ (stpC v0 0 0 0))
  have HR3 := Lib.hid (HR2.out.kept (World.grownBy_alloc w2 (.cells #[.int .i64 v0, .int .i64 0, .int .i64 0, .int .i64 0] 38) none) (by simp))
  obtain ⟨W3, hW3⟩ : ∃ W3, w2.alloc (.cells #[.int .i64 v0, .int .i64 0, .int .i64 0, .int .i64 0] 38) = W3 := ⟨_, rfl⟩
  obtain ⟨b, hb⟩ : ∃ b, w2.heap.size = b := ⟨_, rfl⟩
  have lb : w.heap.size < b := by rw [← hb]; exact HR2.out.lt
  rw [hW3] at HG3 HB3 HR3 ⊢
  rw [hb] at HB3 ⊢
  clear hW3 hb HR2 HR1 HG1
  -- the box b holds the place; the state is nx 1 s
  have zb := HB3.out.lt
  go_wp2_with fail
  refine (from_any p (nx 1 s) (0) (300) _ HG3.out.box (by omega) (by omega) (by omega)).mono ?_
  rintro e w4 ⟨rfl, hbx, hgr⟩
  obtain ⟨v1, hv⟩ : ∃ v, frm (nx 1 s) (0) (300) = v := ⟨_, rfl⟩
  have Bv1 := frm_bd (s := nx 1 s) (a := 0) (b := 300) (by omega)
  rw [hv] at Bv1 ⊢
  have Hv1 := Lib.hid hv
  have Gv1 := Lib.hid (HG3.out.draw hbx hgr)
  clear hbx hv
  have HB4 := Lib.hid (HB3.out.kept hgr (fun e => by injection e; omega))
  have HR4 := Lib.hid (HR3.out.kept hgr (fun e => by injection e; omega))
  have c1 : w4.cell? ⟨b, 1, none⟩ = some (.int .i64 0) := HB4.out.cell (j := 1) rfl
  have f1 := HB4.out.frozen 1
  clear hgr
  go_upto_region 3 with fail
  clear c1 f1
  have HG5 := Lib.hid (Gv1.out.set (b := b) (by omega) 1 (.int .i64 v1))
  have HB5 : Hid (Blk (w4.setCell ⟨b, 1, none⟩ (.int .i64 v1)) b 38 (stpC v0 v1 0 0)) := Lib.hid (HB4.out.set 1 (.int .i64 v1))
  have HR5 : Hid (Blk (w4.setCell ⟨b, 1, none⟩ (.int .i64 v1)) w.heap.size 38 (stpC 0 0 0 0)) := Lib.hid ((Below.heap_setCell w4 ⟨b, 1, none⟩ _ w.heap.size (show w.heap.size ≠ b by omega)).trans HR4.out)
  obtain ⟨W5, hW5⟩ : ∃ W, w4.setCell ⟨b, 1, none⟩ (.int .i64 v1) = W := ⟨_, rfl⟩
  rw [hW5] at HG5 HB5 HR5 ⊢
  have z5 := HB5.out.lt
  clear hW5 HB4 HR4 HB3 HR3 HG3 Gv1
  (refine wp_region_held_drew (S := (fun w' => w'.cell? ⟨b, 1, none⟩ = some (.int .i64 v1))) (by kernel_rfl) ?_ (fun hHeld => ?_))
  · exact HB5.out.cell (j := 1) rfl
  (refine wpAnyH_take (i := 0) (v := ?_) rfl (by kernel_rfl) (by kernel_rfl) (by kernel_rfl) (fun _ _ _ h => h) (Or.inl ⟨by kernel_rfl, ?_⟩) (by assumption) ?_; rotate_left; (focus (intro w hSw; (try dsimp only at hSw); go_simp; all_goals with_reducible rfl)); (try simp only [Act.put, List.getElem_toArray, List.getElem_cons_succ, List.getElem_cons_zero, List.setIfInBounds_toArray, List.set_cons_zero, List.set_cons_succ]))
  (refine wpAnyH_take (i := 1) (v := ?_) rfl (by kernel_rfl) (by kernel_rfl) (by kernel_rfl) (fun _ _ _ h => h) (Or.inl ⟨by kernel_rfl, ?_⟩) (by assumption) ?_; rotate_left; (focus (intro w hSw; (try dsimp only at hSw); go_simp; all_goals with_reducible rfl)); (try simp only [Act.put, List.getElem_toArray, List.getElem_cons_succ, List.getElem_cons_zero, List.setIfInBounds_toArray, List.set_cons_zero, List.set_cons_succ]))
  (refine wpAnyH_take (i := 2) (v := ?_) rfl (by kernel_rfl) (by kernel_rfl) (by kernel_rfl) (fun _ _ _ h => h) (Or.inl ⟨by kernel_rfl, ?_⟩) (by assumption) ?_; rotate_left; (focus (intro w hSw; (try dsimp only at hSw); go_simp; all_goals with_reducible rfl)); (try simp only [Act.put, List.getElem_toArray, List.getElem_cons_succ, List.getElem_cons_zero, List.setIfInBounds_toArray, List.set_cons_zero, List.set_cons_succ]))
  (refine wpAnyH_ready (rs := [3]) (by kernel_rfl) (by simp) ?_; refine AllReadyH.cons rfl (fun K hK => ?_) AllReadyH.nil)
  go_simp
  have HG6 := Lib.hid HG5.out.drew
  refine (from_any p (nx 2 s) (30) (400) _ HG6.out.box (by omega) (by omega) (by omega)).mono ?_
  rintro e w7 ⟨rfl, hbx, hgr⟩
  obtain ⟨v2, hv⟩ : ∃ v, frm (nx 2 s) (30) (400) = v := ⟨_, rfl⟩
  have Bv2 := frm_bd (s := nx 2 s) (a := 30) (b := 400) (by omega)
  rw [hv] at Bv2 ⊢
  have Hv2 := Lib.hid hv
  have Gv2 := Lib.hid (HG6.out.draw hbx hgr)
  clear hbx hv
  have HB7 := Lib.hid ((show Blk W5.drew b 38 (stpC v0 v1 0 0) from HB5.out).kept hgr (fun e => by injection e; omega))
  have HR7 := Lib.hid ((show Blk W5.drew w.heap.size 38 (stpC 0 0 0 0) from HR5.out).kept hgr (fun e => by injection e; omega))
  clear hgr
  refine hK.out _ _ ((HB7.out.cell (j := 1) rfl)) (fun hHeld => ?_)
  clear hK K
  (try simp only [Act.put, List.getElem_toArray, List.getElem_cons_succ, List.getElem_cons_zero, List.setIfInBounds_toArray, List.set_cons_zero, List.set_cons_succ])
  (refine wpAnyH_take (i := 4) (v := ?_) rfl (by kernel_rfl) (by kernel_rfl) (by kernel_rfl) (fun _ _ _ h => h) (Or.inl ⟨by kernel_rfl, ?_⟩) (by assumption) ?_; rotate_left; (focus (intro w hSw; (try dsimp only at hSw); go_simp; all_goals with_reducible rfl)); (try simp only [Act.put, List.getElem_toArray, List.getElem_cons_succ, List.getElem_cons_zero, List.setIfInBounds_toArray, List.set_cons_zero, List.set_cons_succ]))
  (refine wpAnyH_take (i := 5) (v := ?_) rfl (by kernel_rfl) (by kernel_rfl) (by kernel_rfl) (fun _ _ _ h => h) (Or.inl ⟨by kernel_rfl, ?_⟩) (by assumption) ?_; rotate_left; (focus (intro w hSw; (try dsimp only at hSw); go_simp; all_goals with_reducible rfl)); (try simp only [Act.put, List.getElem_toArray, List.getElem_cons_succ, List.getElem_cons_zero, List.setIfInBounds_toArray, List.set_cons_zero, List.set_cons_succ]))
  rw [wrapI (n := v1 + v2) (by omega) (by omega)]
  have c2 : w7.cell? ⟨b, 2, none⟩ = some (.int .i64 0) := HB7.out.cell (j := 2) rfl
  have f2 := HB7.out.frozen 2
  (refine wpAnyH_ready (rs := [6]) (by kernel_rfl) (by simp) ?_; refine AllReadyH.cons rfl (fun K hK => ?_) AllReadyH.nil)
  go_simp
  clear c2 f2
  have HG8 := Lib.hid (Gv2.out.set (b := b) (by omega) 2 (.int .i64 (v1 + v2)))
  have HB8 : Hid (Blk (w7.setCell ⟨b, 2, none⟩ (.int .i64 (v1 + v2))) b 38 (stpC v0 v1 (v1 + v2) 0)) := Lib.hid (HB7.out.set 2 (.int .i64 (v1 + v2)))
  have HR8 : Hid (Blk (w7.setCell ⟨b, 2, none⟩ (.int .i64 (v1 + v2))) w.heap.size 38 (stpC 0 0 0 0)) := Lib.hid ((Below.heap_setCell w7 ⟨b, 2, none⟩ _ w.heap.size (show w.heap.size ≠ b by omega)).trans HR7.out)
  refine hK.out _ _ ((HB8.out.cell (j := 1) rfl)) (fun hHeld => ?_)
  clear hK K
  (try simp only [Act.put, List.getElem_toArray, List.getElem_cons_succ, List.getElem_cons_zero, List.setIfInBounds_toArray, List.set_cons_zero, List.set_cons_succ])
  obtain ⟨W8, hW8⟩ : ∃ W, w7.setCell ⟨b, 2, none⟩ (.int .i64 (v1 + v2)) = W := ⟨_, rfl⟩
  rw [hW8] at HG8 HB8 HR8 ⊢
  clear hW8
  (refine wpAnyH_done (by kernel_rfl) ?_ _)
  have z8 := HB8.out.lt
  go_wp2_with fail
  refine (from_any p (nx 3 s) (0) (20) _ HG8.out.box (by omega) (by omega) (by omega)).mono ?_
  rintro e w9 ⟨rfl, hbx, hgr⟩
  obtain ⟨v3, hv⟩ : ∃ v, frm (nx 3 s) (0) (20) = v := ⟨_, rfl⟩
  have Bv3 := frm_bd (s := nx 3 s) (a := 0) (b := 20) (by omega)
  rw [hv] at Bv3 ⊢
  have Hv3 := Lib.hid hv
  have Gv3 := Lib.hid (HG8.out.draw hbx hgr)
  clear hbx hv
  have HB9 := Lib.hid (HB8.out.kept hgr (fun e => by injection e; omega))
  have HR9 := Lib.hid (HR8.out.kept hgr (fun e => by injection e; omega))
  have c3 : w9.cell? ⟨b, 3, none⟩ = some (.int .i64 0) := HB9.out.cell (j := 3) rfl
  have f3 := HB9.out.frozen 3
  clear hgr
  go_upto_region 5 with fail
  clear c3 f3
  have HGa := Lib.hid (Gv3.out.set (b := b) (by omega) 3 (.int .i64 v3))
  have HBa : Hid (Blk (w9.setCell ⟨b, 3, none⟩ (.int .i64 v3)) b 38 (stpC v0 v1 (v1 + v2) v3)) := Lib.hid (HB9.out.set 3 (.int .i64 v3))
  have HRa : Hid (Blk (w9.setCell ⟨b, 3, none⟩ (.int .i64 v3)) w.heap.size 38 (stpC 0 0 0 0)) := Lib.hid ((Below.heap_setCell w9 ⟨b, 3, none⟩ _ w.heap.size (show w.heap.size ≠ b by omega)).trans HR9.out)
  obtain ⟨Wa, hWa⟩ : ∃ W, w9.setCell ⟨b, 3, none⟩ (.int .i64 v3) = W := ⟨_, rfl⟩
  rw [hWa] at HGa HBa HRa ⊢
  clear hWa
  have HV : Hid (stpF s n = ⟨v0, v1, v1 + v2, v3⟩) := Lib.hid (by unfold stpF; rw [show frm s 0 ((n : Int) - 1) = v0 from Hv0.out, Hv1.out, Hv2.out, Hv3.out])
  go_wp2_with (first
    | ((with_reducible refine wpList_loadG stStp _ rfl ⟨b, 0, none⟩ (stpC v0 v1 (v1 + v2) v3) ?_ ?_ ?_ ?_ ?_); exact rfl; exact rfl; exact HBa.out.cells; exact rfl)
    | ((with_reducible refine wpList_storeL stStp rfl _ _ rfl w.heap.size (stpC 0 0 0 0) (stpC v0 v1 (v1 + v2) v3) ?_ ?_ ?_ ?_ ?_ (stpC_one _ _ _ _) ?_); exact rfl; exact rfl; exact HRa.out; exact rfl; exact rfl; intro wb k1 k2 k3 k4; have K := Lib.hid (And.intro k1 (And.intro k2 k4)); clear k1 k2 k3 k4))
  have HRb : Blk wb w.heap.size 38 (stpC v0 v1 (v1 + v2) v3) := K.out.1
  have r0 := HRb.cell (j := 0) rfl
  have r1 := HRb.cell (j := 1) rfl
  have r2 := HRb.cell (j := 2) rfl
  have r3 := HRb.cell (j := 3) rfl
  refine bodyPost_ret (v := stpV ⟨v0, v1, v1 + v2, v3⟩) (by simp [results, Tryd.results23, go_sem, stpV, r0, r1, r2, r3]) rfl ?_
  rw [HV.out]
  exact (HGa.out.store (Nat.le_refl _) K.out.2.1 K.out.2.2).out _
end Go.Proofs.YtamhjodppdodfaaDoor.gen

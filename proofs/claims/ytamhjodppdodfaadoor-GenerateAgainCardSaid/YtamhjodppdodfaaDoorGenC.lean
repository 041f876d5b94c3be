/- Types that are drawn, on both sides. Printed by genty.py. -/
import Derived.Test.YtamhjodppdodfaaDoorGenB
import Derived.Test.YtamhjodppdodfaaDoorBase
namespace Go.Proofs.YtamhjodppdodfaaDoor.gen
open Go.RowKit
open Go.Proofs.YtamhjodppdodfaaDoor.lib Go.Proofs.YtamhjodppdodfaaDoor.rd Go.Proofs.YtamhjodppdodfaaDoor.app Go.Proofs.YtamhjodppdodfaaDoor.typ Go.Proofs.YtamhjodppdodfaaDoor.txt Go.Proofs.YtamhjodppdodfaaDoor.big
set_option linter.unusedVariables false
set_option linter.unusedSimpArgs false

theorem stTy : StructOf 51 14 := ⟨⟨_, Tryd.underlying51⟩, by kernel_rfl⟩
def zTy : List Value := [.string ⟨#[]⟩, .int .i64 0, .int .i64 0, .int .i64 0, .slice none 0 0, .int .i64 0, .int .i64 0, .int .i64 0, .int .i64 0, .int .i64 0, .int .i64 0, .int .i64 0, .int .i64 0, .int .i64 0]
theorem bTy : BuildOf 51 (.agg zTy.toArray) #[(0, 1), (1, 1), (2, 1), (3, 1), (4, 1), (5, 1), (6, 1), (7, 1), (8, 1), (9, 1), (10, 1), (11, 1), (12, 1), (13, 1)] := ⟨⟨_, Tryd.underlying51, fun w => by kernel_rfl⟩, fun w => by kernel_rfl⟩
def tyL (nm : ByteArray) (a1 a2 a3 : Int) (c : Value) (a5 a7 a8 a9 a10 a11 a12 a13 : Int) : List Value := [.string nm, .int .i64 a1, .int .i64 a2, .int .i64 a3, c, .int .i64 a5, .int .i64 0, .int .i64 a7, .int .i64 a8, .int .i64 a9, .int .i64 a10, .int .i64 a11, .int .i64 a12, .int .i64 a13]
theorem tyL_one {nm : ByteArray} {a1 a2 a3 : Int} {c : Value} {a5 a7 a8 a9 a10 a11 a12 a13 : Int} (hc : c.oneCell' = true) : ∀ u ∈ tyL nm a1 a2 a3 c a5 a7 a8 a9 a10 a11 a12 a13, u.oneCell' = true := fun u hu => by
  simp only [tyL, List.mem_cons, List.not_mem_nil, or_false] at hu
  rcases hu with rfl | rfl | rfl | rfl | rfl | rfl | rfl | rfl | rfl | rfl | rfl | rfl | rfl | rfl
  all_goals first | rfl | exact hc
theorem ty_fill2 (nm : ByteArray) (v : Int) : Instr.fill ((#[(0, 1), (1, 1), (2, 1), (3, 1), (4, 1), (5, 1), (6, 1), (7, 1), (8, 1), (9, 1), (10, 1), (11, 1), (12, 1), (13, 1)] : Array (Nat × Nat))[·]?) (Value.agg zTy.toArray).cells [(0, .string nm), (1, .int .i64 v)] = some (tyL nm v 0 0 (.slice none 0 0) 0 0 0 0 0 0 0 0).toArray := by kernel_rfl
theorem ty_fill1 (nm : ByteArray) : Instr.fill ((#[(0, 1), (1, 1), (2, 1), (3, 1), (4, 1), (5, 1), (6, 1), (7, 1), (8, 1), (9, 1), (10, 1), (11, 1), (12, 1), (13, 1)] : Array (Nat × Nat))[·]?) (Value.agg zTy.toArray).cells [(0, .string nm)] = some (tyL nm 0 0 0 (.slice none 0 0) 0 0 0 0 0 0 0 0).toArray := by kernel_rfl
/-- The type that is drawn under a name. -/
def tyW (nm : ByteArray) (s : Int) (places : Nat) : Ty := ⟨nm, frm s 1 3, frm (nx 1 s) 0 (places - 1), frm (nx 1 s) 0 (places - 1), [frm (nx 2 s) 5 30], frm (nx 3 s) 0 3, 0, frm (nx 4 s) 0 100, frm (nx 4 s) 0 100 + frm (nx 5 s) 200 900, frm (nx 6 s) 100 400, frm (nx 7 s) 0 40, frm (nx 8 s) 0 500, frm (nx 9 s) 0 9, frm (nx 10 s) 0 5⟩
theorem tyF_W (s : Int) (i places : Nat) : tyF s i places = tyW (tyN i) s places := rfl
def TyOut (T : TypeId) (p : Nat) (t : Ty) (s' : Int) (w : World) (e : Ending) (w' : World) : Prop := ∃ g, e = .returned (.agg (TyCells t (some ⟨g, 0, none⟩) 1).toArray) ∧ w.heap.size ≤ g ∧ g < w'.heap.size ∧ w'.heap[g]? = some (.cells (t.cap.map (.int .i64)).toArray 3 (0, 0)) ∧ Boxed w' p T (.int .i64 s') ∧ w.grownBy w' (some p)

set_option maxRecDepth 20000 in
set_option maxHeartbeats 8000000 in
theorem vehicle_any (p : Nat) (s : Int) (nm : ByteArray) (n : Nat) (w : World) (h : Boxed w p 48 (.int .i64 s)) (hn : 1 ≤ n) (hn9 : n ≤ 1000000) :
    Calls Tryd.prog 9 #[.pointer (some ⟨p, 0, none⟩), .string nm, .int .i64 n] w (TyOut 48 p (tyW nm s n) (nx 11 s) w) := by
  have hp := h.lt
  have HG0 := Lib.hid (GS.start h)
  clear h
  go_enter Tryd.func9, Tryd.ntmps9
  go_upto_region 1 with fail
  have HG1 := Lib.hid (HG0.out.alloc (.cells #[.string ⟨#[]⟩, .int .i64 0, .int .i64 0, .int .i64 0, .slice none 0 0, .int .i64 0, .int .i64 0, .int .i64 0, .int .i64 0, .int .i64 0, .int .i64 0, .int .i64 0, .int .i64 0, .int .i64 0] 51))
  have HR1 : Hid (Blk (w.alloc (.cells #[.string ⟨#[]⟩, .int .i64 0, .int .i64 0, .int .i64 0, .slice none 0 0, .int .i64 0, .int .i64 0, .int .i64 0, .int .i64 0, .int .i64 0, .int .i64 0, .int .i64 0, .int .i64 0, .int .i64 0] 51)) w.heap.size 51 zTy) := Lib.hid (Blk.new w _ zTy)
  obtain ⟨W1, hW1⟩ : ∃ W1, w.alloc (.cells #[.string ⟨#[]⟩, .int .i64 0, .int .i64 0, .int .i64 0, .slice none 0 0, .int .i64 0, .int .i64 0, .int .i64 0, .int .i64 0, .int .i64 0, .int .i64 0, .int .i64 0, .int .i64 0, .int .i64 0] 51) = W1 := ⟨_, rfl⟩
  rw [hW1] at HG1 HR1 ⊢
  have z1 := HG1.out.size
  have l1 := HR1.out.lt
  clear hW1 HG0
  go_wp2_with fail
  refine (from_any p (s) (1) (3) _ HG1.out.box (by omega) (by omega) (by omega)).mono ?_
  rintro e w2 ⟨rfl, hbx, hgr⟩
  obtain ⟨v0, hv⟩ : ∃ v, frm (s) (1) (3) = v := ⟨_, rfl⟩
  have Bv0 := frm_bd (s := s) (a := 1) (b := 3) (by omega)
  rw [hv] at Bv0 ⊢
  have Hv0 := Lib.hid hv
  have Gv0 := Lib.hid (HG1.out.draw hbx hgr)
  clear hbx hv
  have HR2 := Lib.hid (HR1.out.kept hgr (fun e => by injection e; omega))
  clear hgr
  have lw2 := HR2.out.lt
  go_upto_region 2 with (first
    | ((with_reducible refine wpList_buildL bTy rfl _ rfl _ (tyL nm v0 0 0 (.slice none 0 0) 0 0 0 0 0 0 0 0) ?_ (ty_fill2 nm v0) ?_); exact rfl)
    | ((with_reducible refine wpList_storeL stTy rfl _ _ rfl w2.heap.size zTy (tyL nm v0 0 0 (.slice none 0 0) 0 0 0 0 0 0 0 0) ?_ ?_ ?_ ?_ ?_ (tyL_one rfl) ?_); exact rfl; exact rfl; exact World.alloc_heap_new w2 _; exact rfl; exact rfl; intro w3 k1 k2 k3 k4; have K := Lib.hid (And.intro k1 (And.intro k2 (And.intro k3 k4))); clear k1 k2 k3 k4))
  have HG3 := Lib.hid ((Gv0.out.alloc (.cells #[.string ⟨#[]⟩, .int .i64 0, .int .i64 0, .int .i64 0, .slice none 0 0, .int .i64 0, .int .i64 0, .int .i64 0, .int .i64 0, .int .i64 0, .int .i64 0, .int .i64 0, .int .i64 0, .int .i64 0] 51)).store (g := w2.heap.size) (by omega) K.out.2.1 K.out.2.2.2)
  have HB3 : Hid (Blk w3 w2.heap.size 51 (tyL nm v0 0 0 (.slice none 0 0) 0 0 0 0 0 0 0 0)) := Lib.hid K.out.1
  have HR3 : Hid (Blk w3 w.heap.size 51 zTy) := Lib.hid ((K.out.2.1 w.heap.size (by omega)).trans (HR2.out.kept (World.grownBy_alloc w2 (.cells #[.string ⟨#[]⟩, .int .i64 0, .int .i64 0, .int .i64 0, .slice none 0 0, .int .i64 0, .int .i64 0, .int .i64 0, .int .i64 0, .int .i64 0, .int .i64 0, .int .i64 0, .int .i64 0, .int .i64 0] 51) none) (by simp)))
  obtain ⟨b, hb⟩ : ∃ b, w2.heap.size = b := ⟨_, rfl⟩
  rw [hb] at HB3 lw2 ⊢
  have lb : w.heap.size < b := lw2
  clear hb K HR2 HR1 HG1 Gv0 
  go_wp2_with fail
  refine (from_any p (nx 1 s) (0) ((n : Int) - 1) _ HG3.out.box (by omega) (by omega) (by omega)).mono ?_
  rintro e w40 ⟨rfl, hbx, hgr⟩
  obtain ⟨v4, hv⟩ : ∃ v, frm (nx 1 s) (0) ((n : Int) - 1) = v := ⟨_, rfl⟩
  have Bv4 := frm_bd (s := nx 1 s) (a := 0) (b := (n : Int) - 1) (by omega)
  rw [hv] at Bv4 ⊢
  have Hv4 := Lib.hid hv
  have Gv4 := Lib.hid (HG3.out.draw hbx hgr)
  clear hbx hv
  have HB40 := Lib.hid (HB3.out.kept hgr (fun e => by injection e; omega))
  have HR40 := Lib.hid (HR3.out.kept hgr (fun e => by injection e; omega))
  clear hgr HG3 HB3 HR3
  have ci := HB40.out.cell (j := 2) rfl
  have fi := HB40.out.frozen 2
  go_upto_region 3 with fail
  clear ci fi
  have HG41 := Lib.hid (Gv4.out.set (b := b) (by omega) 2 (.int .i64 v4))
  have HB41 : Hid (Blk (w40.setCell ⟨b, 2, none⟩ (.int .i64 v4)) b 51 (tyL nm v0 v4 0 (.slice none 0 0) 0 0 0 0 0 0 0 0)) := Lib.hid (HB40.out.set 2 (.int .i64 v4))
  have HR41 : Hid (Blk (w40.setCell ⟨b, 2, none⟩ (.int .i64 v4)) w.heap.size 51 zTy) := Lib.hid ((Below.heap_setCell w40 ⟨b, 2, none⟩ _ w.heap.size (show w.heap.size ≠ b by omega)).trans HR40.out)
  obtain ⟨w41, hW⟩ : ∃ W, w40.setCell ⟨b, 2, none⟩ (.int .i64 v4) = W := ⟨_, rfl⟩
  rw [hW] at HG41 HB41 HR41  ⊢
  clear hW Gv4 HB40 HR40 
  have c2 := HB41.out.cell (j := 2) rfl
  have ci := HB41.out.cell (j := 3) rfl
  have fi := HB41.out.frozen 3
  go_upto_region 4 with fail
  clear ci fi c2
  have HG51 := Lib.hid (HG41.out.set (b := b) (by omega) 3 (.int .i64 v4))
  have HB51 : Hid (Blk (w41.setCell ⟨b, 3, none⟩ (.int .i64 v4)) b 51 (tyL nm v0 v4 v4 (.slice none 0 0) 0 0 0 0 0 0 0 0)) := Lib.hid (HB41.out.set 3 (.int .i64 v4))
  have HR51 : Hid (Blk (w41.setCell ⟨b, 3, none⟩ (.int .i64 v4)) w.heap.size 51 zTy) := Lib.hid ((Below.heap_setCell w41 ⟨b, 3, none⟩ _ w.heap.size (show w.heap.size ≠ b by omega)).trans HR41.out)
  obtain ⟨w51, hW⟩ : ∃ W, w41.setCell ⟨b, 3, none⟩ (.int .i64 v4) = W := ⟨_, rfl⟩
  rw [hW] at HG51 HB51 HR51  ⊢
  clear hW HG41 HB41 HR41 
  go_wp2_with fail
  refine (from_any p (nx 2 s) (5) (30) _ HG51.out.box (by omega) (by omega) (by omega)).mono ?_
  rintro e w60 ⟨rfl, hbx, hgr⟩
  obtain ⟨v6, hv⟩ : ∃ v, frm (nx 2 s) (5) (30) = v := ⟨_, rfl⟩
  have Bv6 := frm_bd (s := nx 2 s) (a := 5) (b := 30) (by omega)
  rw [hv] at Bv6 ⊢
  have Hv6 := Lib.hid hv
  have Gv6 := Lib.hid (HG51.out.draw hbx hgr)
  clear hbx hv
  have HB60 := Lib.hid (HB51.out.kept hgr (fun e => by injection e; omega))
  have HR60 := Lib.hid (HR51.out.kept hgr (fun e => by injection e; omega))
  clear hgr HG51 HB51 HR51
  have ci := HB60.out.cell (j := 4) rfl
  have fi := HB60.out.frozen 4
  have lc := HB60.out.lt
  have ca : (w60.alloc (.cells #[.int .i64 v6] 3)).cell? ⟨b, 4, none⟩ = some (.slice none 0 0) := (((Below.refl _ _).alloc (Nat.le_refl _) _).cell (p := ⟨b, 4, none⟩) lc).trans ci
  have fa : (w60.alloc (.cells #[.int .i64 v6] 3)).frozen? ⟨b, 4, none⟩ = false := (((Below.refl _ _).alloc (Nat.le_refl _) _).frozen (p := ⟨b, 4, none⟩) lc).trans fi
  clear ci fi
  go_upto_region 5 with fail
  clear ca fa
  obtain ⟨g, hg⟩ : ∃ g, w60.heap.size = g := ⟨_, rfl⟩
  rw [hg] at lc ⊢
  have lg : b < g := lc
  have hsz : (w60.setCell ⟨b, 4, none⟩ (.slice (some ⟨g, 0, none⟩) 1 1)).heap.size = g := by rw [← hg]; simp [World.setCell]
  clear hg
  have HG71 := Lib.hid (Gv6.out.set (b := b) (by omega) 4 (.slice (some ⟨g, 0, none⟩) 1 1))
  have HB71 : Hid (Blk (w60.setCell ⟨b, 4, none⟩ (.slice (some ⟨g, 0, none⟩) 1 1)) b 51 (tyL nm v0 v4 v4 (.slice (some ⟨g, 0, none⟩) 1 1) 0 0 0 0 0 0 0 0)) := Lib.hid (HB60.out.set 4 (.slice (some ⟨g, 0, none⟩) 1 1))
  have HR71 : Hid (Blk (w60.setCell ⟨b, 4, none⟩ (.slice (some ⟨g, 0, none⟩) 1 1)) w.heap.size 51 zTy) := Lib.hid ((Below.heap_setCell w60 ⟨b, 4, none⟩ _ w.heap.size (show w.heap.size ≠ b by omega)).trans HR60.out)
  obtain ⟨w71, hW⟩ : ∃ W, w60.setCell ⟨b, 4, none⟩ (.slice (some ⟨g, 0, none⟩) 1 1) = W := ⟨_, rfl⟩
  rw [hW] at HG71 HB71 HR71 hsz ⊢
  clear hW Gv6 HB60 HR60
  have HG75 := Lib.hid (HG71.out.alloc (.cells #[.int .i64 v6] 3))
  have HB75 := Lib.hid (HB71.out.kept (World.grownBy_alloc w71 (.cells #[.int .i64 v6] 3) none) (by simp))
  have HR75 := Lib.hid (HR71.out.kept (World.grownBy_alloc w71 (.cells #[.int .i64 v6] 3) none) (by simp))
  have HC75 : Hid (Blk (w71.alloc (.cells #[.int .i64 v6] 3)) g 3 [.int .i64 v6]) := Lib.hid (by rw [← hsz]; exact Blk.new w71 _ [.int .i64 v6])
  obtain ⟨wc, hW⟩ : ∃ W, w71.alloc (.cells #[.int .i64 v6] 3) = W := ⟨_, rfl⟩
  rw [hW] at HG75 HB75 HR75 HC75 ⊢
  clear hW hsz HG71 HB71 HR71
  go_wp2_with fail
  refine (from_any p (nx 3 s) (0) (3) _ HG75.out.box (by omega) (by omega) (by omega)).mono ?_
  rintro e w80 ⟨rfl, hbx, hgr⟩
  obtain ⟨v8, hv⟩ : ∃ v, frm (nx 3 s) (0) (3) = v := ⟨_, rfl⟩
  have Bv8 := frm_bd (s := nx 3 s) (a := 0) (b := 3) (by omega)
  rw [hv] at Bv8 ⊢
  have Hv8 := Lib.hid hv
  have Gv8 := Lib.hid (HG75.out.draw hbx hgr)
  clear hbx hv
  have HB80 := Lib.hid (HB75.out.kept hgr (fun e => by injection e; omega))
  have HR80 := Lib.hid (HR75.out.kept hgr (fun e => by injection e; omega))
  have HC80 := Lib.hid (HC75.out.kept hgr (fun e => by injection e; omega))
  clear hgr HG75 HB75 HR75
  have ci := HB80.out.cell (j := 5) rfl
  have fi := HB80.out.frozen 5
  go_upto_region 6 with fail
  clear ci fi
  have HG81 := Lib.hid (Gv8.out.set (b := b) (by omega) 5 (.int .i64 v8))
  have HB81 : Hid (Blk (w80.setCell ⟨b, 5, none⟩ (.int .i64 v8)) b 51 (tyL nm v0 v4 v4 (.slice (some ⟨g, 0, none⟩) 1 1) v8 0 0 0 0 0 0 0)) := Lib.hid (HB80.out.set 5 (.int .i64 v8))
  have HR81 : Hid (Blk (w80.setCell ⟨b, 5, none⟩ (.int .i64 v8)) w.heap.size 51 zTy) := Lib.hid ((Below.heap_setCell w80 ⟨b, 5, none⟩ _ w.heap.size (show w.heap.size ≠ b by omega)).trans HR80.out)
  have HC81 : Hid (Blk (w80.setCell ⟨b, 5, none⟩ (.int .i64 v8)) g 3 [.int .i64 v6]) := Lib.hid ((Below.heap_setCell w80 ⟨b, 5, none⟩ _ g (show g ≠ b by omega)).trans HC80.out)
  obtain ⟨w81, hW⟩ : ∃ W, w80.setCell ⟨b, 5, none⟩ (.int .i64 v8) = W := ⟨_, rfl⟩
  rw [hW] at HG81 HB81 HR81 HC81 ⊢
  clear hW Gv8 HB80 HR80 HC80
  go_wp2_with fail
  refine (from_any p (nx 4 s) (0) (100) _ HG81.out.box (by omega) (by omega) (by omega)).mono ?_
  rintro e w90 ⟨rfl, hbx, hgr⟩
  obtain ⟨v9, hv⟩ : ∃ v, frm (nx 4 s) (0) (100) = v := ⟨_, rfl⟩
  have Bv9 := frm_bd (s := nx 4 s) (a := 0) (b := 100) (by omega)
  rw [hv] at Bv9 ⊢
  have Hv9 := Lib.hid hv
  have Gv9 := Lib.hid (HG81.out.draw hbx hgr)
  clear hbx hv
  have HB90 := Lib.hid (HB81.out.kept hgr (fun e => by injection e; omega))
  have HR90 := Lib.hid (HR81.out.kept hgr (fun e => by injection e; omega))
  have HC90 := Lib.hid (HC81.out.kept hgr (fun e => by injection e; omega))
  clear hgr HG81 HB81 HR81
  have ci := HB90.out.cell (j := 7) rfl
  have fi := HB90.out.frozen 7
  go_upto_region 7 with fail
  clear ci fi
  have HG91 := Lib.hid (Gv9.out.set (b := b) (by omega) 7 (.int .i64 v9))
  have HB91 : Hid (Blk (w90.setCell ⟨b, 7, none⟩ (.int .i64 v9)) b 51 (tyL nm v0 v4 v4 (.slice (some ⟨g, 0, none⟩) 1 1) v8 v9 0 0 0 0 0 0)) := Lib.hid (HB90.out.set 7 (.int .i64 v9))
  have HR91 : Hid (Blk (w90.setCell ⟨b, 7, none⟩ (.int .i64 v9)) w.heap.size 51 zTy) := Lib.hid ((Below.heap_setCell w90 ⟨b, 7, none⟩ _ w.heap.size (show w.heap.size ≠ b by omega)).trans HR90.out)
  have HC91 : Hid (Blk (w90.setCell ⟨b, 7, none⟩ (.int .i64 v9)) g 3 [.int .i64 v6]) := Lib.hid ((Below.heap_setCell w90 ⟨b, 7, none⟩ _ g (show g ≠ b by omega)).trans HC90.out)
  obtain ⟨w91, hW⟩ : ∃ W, w90.setCell ⟨b, 7, none⟩ (.int .i64 v9) = W := ⟨_, rfl⟩
  rw [hW] at HG91 HB91 HR91 HC91 ⊢
  clear hW Gv9 HB90 HR90 HC90
  (refine wp_region_held_drew (S := (fun w' => w'.cell? ⟨b, 7, none⟩ = some (.int .i64 v9))) (by kernel_rfl) ?_ (fun hHeld => ?_))
  · exact HB91.out.cell (j := 7) rfl
  (refine wpAnyH_take (i := 0) (v := ?_) rfl (by kernel_rfl) (by kernel_rfl) (by kernel_rfl) (fun _ _ _ h => h) (Or.inl ⟨by kernel_rfl, ?_⟩) (by assumption) ?_; rotate_left; (focus (intro w hSw; (try dsimp only at hSw); go_simp; all_goals with_reducible rfl)); (try simp only [Act.put, List.getElem_toArray, List.getElem_cons_succ, List.getElem_cons_zero, List.setIfInBounds_toArray, List.set_cons_zero, List.set_cons_succ]))
  (refine wpAnyH_take (i := 1) (v := ?_) rfl (by kernel_rfl) (by kernel_rfl) (by kernel_rfl) (fun _ _ _ h => h) (Or.inl ⟨by kernel_rfl, ?_⟩) (by assumption) ?_; rotate_left; (focus (intro w hSw; (try dsimp only at hSw); go_simp; all_goals with_reducible rfl)); (try simp only [Act.put, List.getElem_toArray, List.getElem_cons_succ, List.getElem_cons_zero, List.setIfInBounds_toArray, List.set_cons_zero, List.set_cons_succ]))
  (refine wpAnyH_take (i := 2) (v := ?_) rfl (by kernel_rfl) (by kernel_rfl) (by kernel_rfl) (fun _ _ _ h => h) (Or.inl ⟨by kernel_rfl, ?_⟩) (by assumption) ?_; rotate_left; (focus (intro w hSw; (try dsimp only at hSw); go_simp; all_goals with_reducible rfl)); (try simp only [Act.put, List.getElem_toArray, List.getElem_cons_succ, List.getElem_cons_zero, List.setIfInBounds_toArray, List.set_cons_zero, List.set_cons_succ]))
  (refine wpAnyH_ready (rs := [3]) (by kernel_rfl) (by simp) ?_; refine AllReadyH.cons rfl (fun K hK => ?_) AllReadyH.nil)
  go_simp
  have HG100 := Lib.hid HG91.out.drew
  refine (from_any p (nx 5 s) (200) (900) _ HG100.out.box (by omega) (by omega) (by omega)).mono ?_
  rintro e w100 ⟨rfl, hbx, hgr⟩
  obtain ⟨v10, hv⟩ : ∃ v, frm (nx 5 s) (200) (900) = v := ⟨_, rfl⟩
  have Bv10 := frm_bd (s := nx 5 s) (a := 200) (b := 900) (by omega)
  rw [hv] at Bv10 ⊢
  have Hv10 := Lib.hid hv
  have Gv10 := Lib.hid (HG100.out.draw hbx hgr)
  clear hbx hv
  have HB100 := Lib.hid ((show Blk w91.drew b 51 (tyL nm v0 v4 v4 (.slice (some ⟨g, 0, none⟩) 1 1) v8 v9 0 0 0 0 0 0) from HB91.out).kept hgr (fun e => by injection e; omega))
  have HR100 := Lib.hid ((show Blk w91.drew w.heap.size 51 zTy from HR91.out).kept hgr (fun e => by injection e; omega))
  have HC100 := Lib.hid ((show Blk w91.drew g 3 [.int .i64 v6] from HC91.out).kept hgr (fun e => by injection e; omega))
  clear hgr HG91 HB91 HR91 HC91
  refine hK.out _ _ ((HB100.out.cell (j := 7) rfl)) (fun hHeld => ?_)
  clear hK K
  (try simp only [Act.put, List.getElem_toArray, List.getElem_cons_succ, List.getElem_cons_zero, List.setIfInBounds_toArray, List.set_cons_zero, List.set_cons_succ])
  (refine wpAnyH_take (i := 4) (v := ?_) rfl (by kernel_rfl) (by kernel_rfl) (by kernel_rfl) (fun _ _ _ h => h) (Or.inl ⟨by kernel_rfl, ?_⟩) (by assumption) ?_; rotate_left; (focus (intro w hSw; (try dsimp only at hSw); go_simp; all_goals with_reducible rfl)); (try simp only [Act.put, List.getElem_toArray, List.getElem_cons_succ, List.getElem_cons_zero, List.setIfInBounds_toArray, List.set_cons_zero, List.set_cons_succ]))
  (refine wpAnyH_take (i := 5) (v := ?_) rfl (by kernel_rfl) (by kernel_rfl) (by kernel_rfl) (fun _ _ _ h => h) (Or.inl ⟨by kernel_rfl, ?_⟩) (by assumption) ?_; rotate_left; (focus (intro w hSw; (try dsimp only at hSw); go_simp; all_goals with_reducible rfl)); (try simp only [Act.put, List.getElem_toArray, List.getElem_cons_succ, List.getElem_cons_zero, List.setIfInBounds_toArray, List.set_cons_zero, List.set_cons_succ]))
  rw [wrapI (n := v9 + v10) (by omega) (by omega)]
  have ci := HB100.out.cell (j := 8) rfl
  have fi := HB100.out.frozen 8
  (refine wpAnyH_ready (rs := [6]) (by kernel_rfl) (by simp) ?_; refine AllReadyH.cons rfl (fun K hK => ?_) AllReadyH.nil)
  go_simp
  clear ci fi
  have HG101 := Lib.hid (Gv10.out.set (b := b) (by omega) 8 (.int .i64 (v9 + v10)))
  have HB101 : Hid (Blk (w100.setCell ⟨b, 8, none⟩ (.int .i64 (v9 + v10))) b 51 (tyL nm v0 v4 v4 (.slice (some ⟨g, 0, none⟩) 1 1) v8 v9 (v9 + v10) 0 0 0 0 0)) := Lib.hid (HB100.out.set 8 (.int .i64 (v9 + v10)))
  have HR101 : Hid (Blk (w100.setCell ⟨b, 8, none⟩ (.int .i64 (v9 + v10))) w.heap.size 51 zTy) := Lib.hid ((Below.heap_setCell w100 ⟨b, 8, none⟩ _ w.heap.size (show w.heap.size ≠ b by omega)).trans HR100.out)
  have HC101 : Hid (Blk (w100.setCell ⟨b, 8, none⟩ (.int .i64 (v9 + v10))) g 3 [.int .i64 v6]) := Lib.hid ((Below.heap_setCell w100 ⟨b, 8, none⟩ _ g (show g ≠ b by omega)).trans HC100.out)
  refine hK.out _ _ ((HB101.out.cell (j := 7) rfl)) (fun hHeld => ?_)
  clear hK K
  (try simp only [Act.put, List.getElem_toArray, List.getElem_cons_succ, List.getElem_cons_zero, List.setIfInBounds_toArray, List.set_cons_zero, List.set_cons_succ])
  obtain ⟨w101, hW⟩ : ∃ W, w100.setCell ⟨b, 8, none⟩ (.int .i64 (v9 + v10)) = W := ⟨_, rfl⟩
  rw [hW] at HG101 HB101 HR101 HC101 ⊢
  clear hW Gv10 HB100 HR100 HC100
  (refine wpAnyH_done (by kernel_rfl) ?_ _)
  go_wp2_with fail
  refine (from_any p (nx 6 s) (100) (400) _ HG101.out.box (by omega) (by omega) (by omega)).mono ?_
  rintro e w110 ⟨rfl, hbx, hgr⟩
  obtain ⟨v11, hv⟩ : ∃ v, frm (nx 6 s) (100) (400) = v := ⟨_, rfl⟩
  have Bv11 := frm_bd (s := nx 6 s) (a := 100) (b := 400) (by omega)
  rw [hv] at Bv11 ⊢
  have Hv11 := Lib.hid hv
  have Gv11 := Lib.hid (HG101.out.draw hbx hgr)
  clear hbx hv
  have HB110 := Lib.hid (HB101.out.kept hgr (fun e => by injection e; omega))
  have HR110 := Lib.hid (HR101.out.kept hgr (fun e => by injection e; omega))
  have HC110 := Lib.hid (HC101.out.kept hgr (fun e => by injection e; omega))
  clear hgr HG101 HB101 HR101
  have ci := HB110.out.cell (j := 9) rfl
  have fi := HB110.out.frozen 9
  go_upto_region 9 with fail
  clear ci fi
  have HG111 := Lib.hid (Gv11.out.set (b := b) (by omega) 9 (.int .i64 v11))
  have HB111 : Hid (Blk (w110.setCell ⟨b, 9, none⟩ (.int .i64 v11)) b 51 (tyL nm v0 v4 v4 (.slice (some ⟨g, 0, none⟩) 1 1) v8 v9 (v9 + v10) v11 0 0 0 0)) := Lib.hid (HB110.out.set 9 (.int .i64 v11))
  have HR111 : Hid (Blk (w110.setCell ⟨b, 9, none⟩ (.int .i64 v11)) w.heap.size 51 zTy) := Lib.hid ((Below.heap_setCell w110 ⟨b, 9, none⟩ _ w.heap.size (show w.heap.size ≠ b by omega)).trans HR110.out)
  have HC111 : Hid (Blk (w110.setCell ⟨b, 9, none⟩ (.int .i64 v11)) g 3 [.int .i64 v6]) := Lib.hid ((Below.heap_setCell w110 ⟨b, 9, none⟩ _ g (show g ≠ b by omega)).trans HC110.out)
  obtain ⟨w111, hW⟩ : ∃ W, w110.setCell ⟨b, 9, none⟩ (.int .i64 v11) = W := ⟨_, rfl⟩
  rw [hW] at HG111 HB111 HR111 HC111 ⊢
  clear hW Gv11 HB110 HR110 HC110
  go_wp2_with fail
  refine (from_any p (nx 7 s) (0) (40) _ HG111.out.box (by omega) (by omega) (by omega)).mono ?_
  rintro e w120 ⟨rfl, hbx, hgr⟩
  obtain ⟨v12, hv⟩ : ∃ v, frm (nx 7 s) (0) (40) = v := ⟨_, rfl⟩
  have Bv12 := frm_bd (s := nx 7 s) (a := 0) (b := 40) (by omega)
  rw [hv] at Bv12 ⊢
  have Hv12 := Lib.hid hv
  have Gv12 := Lib.hid (HG111.out.draw hbx hgr)
  clear hbx hv
  have HB120 := Lib.hid (HB111.out.kept hgr (fun e => by injection e; omega))
  have HR120 := Lib.hid (HR111.out.kept hgr (fun e => by injection e; omega))
  have HC120 := Lib.hid (HC111.out.kept hgr (fun e => by injection e; omega))
  clear hgr HG111 HB111 HR111
  have ci := HB120.out.cell (j := 10) rfl
  have fi := HB120.out.frozen 10
  go_upto_region 10 with fail
  clear ci fi
  have HG121 := Lib.hid (Gv12.out.set (b := b) (by omega) 10 (.int .i64 v12))
  have HB121 : Hid (Blk (w120.setCell ⟨b, 10, none⟩ (.int .i64 v12)) b 51 (tyL nm v0 v4 v4 (.slice (some ⟨g, 0, none⟩) 1 1) v8 v9 (v9 + v10) v11 v12 0 0 0)) := Lib.hid (HB120.out.set 10 (.int .i64 v12))
  have HR121 : Hid (Blk (w120.setCell ⟨b, 10, none⟩ (.int .i64 v12)) w.heap.size 51 zTy) := Lib.hid ((Below.heap_setCell w120 ⟨b, 10, none⟩ _ w.heap.size (show w.heap.size ≠ b by omega)).trans HR120.out)
  have HC121 : Hid (Blk (w120.setCell ⟨b, 10, none⟩ (.int .i64 v12)) g 3 [.int .i64 v6]) := Lib.hid ((Below.heap_setCell w120 ⟨b, 10, none⟩ _ g (show g ≠ b by omega)).trans HC120.out)
  obtain ⟨w121, hW⟩ : ∃ W, w120.setCell ⟨b, 10, none⟩ (.int .i64 v12) = W := ⟨_, rfl⟩
  rw [hW] at HG121 HB121 HR121 HC121 ⊢
  clear hW Gv12 HB120 HR120 HC120
  go_wp2_with fail
  refine (from_any p (nx 8 s) (0) (500) _ HG121.out.box (by omega) (by omega) (by omega)).mono ?_
  rintro e w130 ⟨rfl, hbx, hgr⟩
  obtain ⟨v13, hv⟩ : ∃ v, frm (nx 8 s) (0) (500) = v := ⟨_, rfl⟩
  have Bv13 := frm_bd (s := nx 8 s) (a := 0) (b := 500) (by omega)
  rw [hv] at Bv13 ⊢
  have Hv13 := Lib.hid hv
  have Gv13 := Lib.hid (HG121.out.draw hbx hgr)
  clear hbx hv
  have HB130 := Lib.hid (HB121.out.kept hgr (fun e => by injection e; omega))
  have HR130 := Lib.hid (HR121.out.kept hgr (fun e => by injection e; omega))
  have HC130 := Lib.hid (HC121.out.kept hgr (fun e => by injection e; omega))
  clear hgr HG121 HB121 HR121
  have ci := HB130.out.cell (j := 11) rfl
  have fi := HB130.out.frozen 11
  go_upto_region 11 with fail
  clear ci fi
  have HG131 := Lib.hid (Gv13.out.set (b := b) (by omega) 11 (.int .i64 v13))
  have HB131 : Hid (Blk (w130.setCell ⟨b, 11, none⟩ (.int .i64 v13)) b 51 (tyL nm v0 v4 v4 (.slice (some ⟨g, 0, none⟩) 1 1) v8 v9 (v9 + v10) v11 v12 v13 0 0)) := Lib.hid (HB130.out.set 11 (.int .i64 v13))
  have HR131 : Hid (Blk (w130.setCell ⟨b, 11, none⟩ (.int .i64 v13)) w.heap.size 51 zTy) := Lib.hid ((Below.heap_setCell w130 ⟨b, 11, none⟩ _ w.heap.size (show w.heap.size ≠ b by omega)).trans HR130.out)
  have HC131 : Hid (Blk (w130.setCell ⟨b, 11, none⟩ (.int .i64 v13)) g 3 [.int .i64 v6]) := Lib.hid ((Below.heap_setCell w130 ⟨b, 11, none⟩ _ g (show g ≠ b by omega)).trans HC130.out)
  obtain ⟨w131, hW⟩ : ∃ W, w130.setCell ⟨b, 11, none⟩ (.int .i64 v13) = W := ⟨_, rfl⟩
  rw [hW] at HG131 HB131 HR131 HC131 ⊢
  clear hW Gv13 HB130 HR130 HC130
  go_wp2_with fail
  refine (from_any p (nx 9 s) (0) (9) _ HG131.out.box (by omega) (by omega) (by omega)).mono ?_
  rintro e w140 ⟨rfl, hbx, hgr⟩
  obtain ⟨v14, hv⟩ : ∃ v, frm (nx 9 s) (0) (9) = v := ⟨_, rfl⟩
  have Bv14 := frm_bd (s := nx 9 s) (a := 0) (b := 9) (by omega)
  rw [hv] at Bv14 ⊢
  have Hv14 := Lib.hid hv
  have Gv14 := Lib.hid (HG131.out.draw hbx hgr)
  clear hbx hv
  have HB140 := Lib.hid (HB131.out.kept hgr (fun e => by injection e; omega))
  have HR140 := Lib.hid (HR131.out.kept hgr (fun e => by injection e; omega))
  have HC140 := Lib.hid (HC131.out.kept hgr (fun e => by injection e; omega))
  clear hgr HG131 HB131 HR131
  have ci := HB140.out.cell (j := 12) rfl
  have fi := HB140.out.frozen 12
  go_upto_region 12 with fail
  clear ci fi
  have HG141 := Lib.hid (Gv14.out.set (b := b) (by omega) 12 (.int .i64 v14))
  have HB141 : Hid (Blk (w140.setCell ⟨b, 12, none⟩ (.int .i64 v14)) b 51 (tyL nm v0 v4 v4 (.slice (some ⟨g, 0, none⟩) 1 1) v8 v9 (v9 + v10) v11 v12 v13 v14 0)) := Lib.hid (HB140.out.set 12 (.int .i64 v14))
  have HR141 : Hid (Blk (w140.setCell ⟨b, 12, none⟩ (.int .i64 v14)) w.heap.size 51 zTy) := Lib.hid ((Below.heap_setCell w140 ⟨b, 12, none⟩ _ w.heap.size (show w.heap.size ≠ b by omega)).trans HR140.out)
  have HC141 : Hid (Blk (w140.setCell ⟨b, 12, none⟩ (.int .i64 v14)) g 3 [.int .i64 v6]) := Lib.hid ((Below.heap_setCell w140 ⟨b, 12, none⟩ _ g (show g ≠ b by omega)).trans HC140.out)
  obtain ⟨w141, hW⟩ : ∃ W, w140.setCell ⟨b, 12, none⟩ (.int .i64 v14) = W := ⟨_, rfl⟩
  rw [hW] at HG141 HB141 HR141 HC141 ⊢
  clear hW Gv14 HB140 HR140 HC140
  go_wp2_with fail
  refine (from_any p (nx 10 s) (0) (5) _ HG141.out.box (by omega) (by omega) (by omega)).mono ?_
  rintro e w150 ⟨rfl, hbx, hgr⟩
  obtain ⟨v15, hv⟩ : ∃ v, frm (nx 10 s) (0) (5) = v := ⟨_, rfl⟩
  have Bv15 := frm_bd (s := nx 10 s) (a := 0) (b := 5) (by omega)
  rw [hv] at Bv15 ⊢
  have Hv15 := Lib.hid hv
  have Gv15 := Lib.hid (HG141.out.draw hbx hgr)
  clear hbx hv
  have HB150 := Lib.hid (HB141.out.kept hgr (fun e => by injection e; omega))
  have HR150 := Lib.hid (HR141.out.kept hgr (fun e => by injection e; omega))
  have HC150 := Lib.hid (HC141.out.kept hgr (fun e => by injection e; omega))
  clear hgr HG141 HB141 HR141
  have ci := HB150.out.cell (j := 13) rfl
  have fi := HB150.out.frozen 13
  go_upto_region 13 with fail
  clear ci fi
  have HG151 := Lib.hid (Gv15.out.set (b := b) (by omega) 13 (.int .i64 v15))
  have HB151 : Hid (Blk (w150.setCell ⟨b, 13, none⟩ (.int .i64 v15)) b 51 (tyL nm v0 v4 v4 (.slice (some ⟨g, 0, none⟩) 1 1) v8 v9 (v9 + v10) v11 v12 v13 v14 v15)) := Lib.hid (HB150.out.set 13 (.int .i64 v15))
  have HR151 : Hid (Blk (w150.setCell ⟨b, 13, none⟩ (.int .i64 v15)) w.heap.size 51 zTy) := Lib.hid ((Below.heap_setCell w150 ⟨b, 13, none⟩ _ w.heap.size (show w.heap.size ≠ b by omega)).trans HR150.out)
  have HC151 : Hid (Blk (w150.setCell ⟨b, 13, none⟩ (.int .i64 v15)) g 3 [.int .i64 v6]) := Lib.hid ((Below.heap_setCell w150 ⟨b, 13, none⟩ _ g (show g ≠ b by omega)).trans HC150.out)
  obtain ⟨w151, hW⟩ : ∃ W, w150.setCell ⟨b, 13, none⟩ (.int .i64 v15) = W := ⟨_, rfl⟩
  rw [hW] at HG151 HB151 HR151 HC151 ⊢
  clear hW Gv15 HB150 HR150 HC150
  have HV : Hid (tyW nm s n = ⟨nm, v0, v4, v4, [v6], v8, 0, v9, v9 + v10, v11, v12, v13, v14, v15⟩) := Lib.hid (by unfold tyW; rw [Hv0.out, Hv4.out, Hv6.out, Hv8.out, Hv9.out, Hv10.out, Hv11.out, Hv12.out, Hv13.out, Hv14.out, Hv15.out])
  go_wp2_with (first
    | ((with_reducible refine wpList_loadG stTy _ rfl ⟨b, 0, none⟩ (tyL nm v0 v4 v4 (.slice (some ⟨g, 0, none⟩) 1 1) v8 v9 (v9 + v10) v11 v12 v13 v14 v15) ?_ ?_ ?_ ?_ ?_); exact rfl; exact rfl; exact HB151.out.cells; exact rfl)
    | ((with_reducible refine wpList_storeL stTy rfl _ _ rfl w.heap.size zTy (tyL nm v0 v4 v4 (.slice (some ⟨g, 0, none⟩) 1 1) v8 v9 (v9 + v10) v11 v12 v13 v14 v15) ?_ ?_ ?_ ?_ ?_ (tyL_one rfl) ?_); exact rfl; exact rfl; exact HR151.out; exact rfl; exact rfl; intro wz k1 k2 k3 k4; have K := Lib.hid (And.intro k1 (And.intro k2 (And.intro k3 k4))); clear k1 k2 k3 k4))
  have HRz : Blk wz w.heap.size 51 (tyL nm v0 v4 v4 (.slice (some ⟨g, 0, none⟩) 1 1) v8 v9 (v9 + v10) v11 v12 v13 v14 v15) := K.out.1
  have r0 := HRz.cell (j := 0) rfl
  have r1 := HRz.cell (j := 1) rfl
  have r2 := HRz.cell (j := 2) rfl
  have r3 := HRz.cell (j := 3) rfl
  have r4 := HRz.cell (j := 4) rfl
  have r5 := HRz.cell (j := 5) rfl
  have r6 := HRz.cell (j := 6) rfl
  have r7 := HRz.cell (j := 7) rfl
  have r8 := HRz.cell (j := 8) rfl
  have r9 := HRz.cell (j := 9) rfl
  have r10 := HRz.cell (j := 10) rfl
  have r11 := HRz.cell (j := 11) rfl
  have r12 := HRz.cell (j := 12) rfl
  have r13 := HRz.cell (j := 13) rfl
  have hgz : wz.heap[g]? = some (.cells #[.int .i64 v6] 3 (0, 0)) := (K.out.2.1 g (by omega)).trans HC151.out
  have hgs : g < wz.heap.size := (Array.getElem?_eq_some_iff.1 hgz).1
  have hG := HG151.out.store (Nat.le_refl _) K.out.2.1 K.out.2.2.2
  refine bodyPost_ret (v := .agg (tyL nm v0 v4 v4 (.slice (some ⟨g, 0, none⟩) 1 1) v8 v9 (v9 + v10) v11 v12 v13 v14 v15).toArray) (by simp [results, Tryd.results9, go_sem, tyL, r0, r1, r2, r3, r4, r5, r6, r7, r8, r9, r10, r11, r12, r13]) rfl ?_
  rw [HV.out]
  exact ⟨g, rfl, by omega, hgs, hgz, hG.box, hG.grown⟩
end Go.Proofs.YtamhjodppdodfaaDoor.gen

/- The examples of layer 13: little. -/
import Derived.Test.YtceceomaheobhaaGreatDoorLtlA
import Derived.Test.YtceceomaheobhaaGreatDoorBase
import Derived.Test.YtceceomaheobhaaGreatDoorOnlA
import Derived.RangeFuncBox
import Derived.Deep.DeepCutAuto
import Derived.Outline
namespace Go.Proofs.YtceceomaheobhaaGreatDoor.ins
open Go.RowKit
open Go.Proofs.YtceceomaheobhaaGreatDoor.lib Go.Proofs.YtceceomaheobhaaGreatDoor.rd Go.Proofs.YtceceomaheobhaaGreatDoor.typ Go.Proofs.YtceceomaheobhaaGreatDoor.big Go.Proofs.YtceceomaheobhaaGreatDoor.app
set_option linter.unusedVariables false
set_option linter.unusedSimpArgs false

theorem sOrd : StructOf 42 16 := ⟨⟨_, Tryz.underlying42⟩, by kernel_rfl⟩
theorem sTy : StructOf 53 14 := ⟨⟨_, Tryz.underlying53⟩, by kernel_rfl⟩
theorem sIns : StructOf 30 6 := ⟨⟨_, Tryz.underlying30⟩, by kernel_rfl⟩
def zOrd : List Value := [.string ⟨#[]⟩, .slice none 0 0, .int .i64 0, .int .i64 0, .int .i64 0, .int .i64 0, .int .i64 0, .int .i64 0, .int .i64 0, .int .i64 0, .int .i64 0, .int .i64 0, .int .i64 0, .int .i64 0, .int .i64 0, .bool false]
def zTy : List Value := [.string ⟨#[]⟩, .int .i64 0, .int .i64 0, .int .i64 0, .slice none 0 0, .int .i64 0, .int .i64 0, .int .i64 0, .int .i64 0, .int .i64 0, .int .i64 0, .int .i64 0, .int .i64 0, .int .i64 0]
theorem bOrd : BuildOf 42 (.agg zOrd.toArray) #[(0, 1), (1, 1), (2, 4), (6, 4), (10, 1), (11, 1), (12, 1), (13, 1), (14, 1), (15, 1)] := ⟨⟨_, Tryz.underlying42, fun w => by kernel_rfl⟩, fun w => by kernel_rfl⟩
theorem bTy : BuildOf 53 (.agg zTy.toArray) #[(0, 1), (1, 1), (2, 1), (3, 1), (4, 1), (5, 1), (6, 1), (7, 1), (8, 1), (9, 1), (10, 1), (11, 1), (12, 1), (13, 1)] := ⟨⟨_, Tryz.underlying53, fun w => by kernel_rfl⟩, fun w => by kernel_rfl⟩
theorem heap_old (W : World) (o : Obj) (k : Nat) (hk : k < W.heap.size) : (W.alloc o).heap[k]? = W.heap[k]? := Below.heap_alloc _ _ _ hk
def TBlk (w : World) (k : Nat) (t : Ty) (C : Option Addr) (c : Nat) : Prop := w.heap[k]? = some (.cells (TyCells t C c).toArray 53 (0, 0))
def IBlk (w : World) (k : Nat) (x : Int) : Prop := w.heap[k]? = some (.cells #[.int .i64 x] 3 (0, 0))
/-- Where little stands: the blocks that lie. -/
structure LtlA (w wx : World) : Prop where
  res : SixAt wx w.heap.size nilCs
  ld : IBlk wx (w.heap.size + 1) 1
  oa : ord.OrBlk wx (w.heap.size + 1 + 1) oaO (some ⟨w.heap.size + 1, 0, none⟩) 1
  bel : Below w.heap.size w wx
structure LtlB (o : Ord) (w wx : World) : Prop where
  a : LtlA w wx
  ob : ord.OrBlk wx (w.heap.size + 1 + 1 + 1) o (some ⟨w.heap.size + 1, 0, none⟩) 1
structure LtlC (w wx : World) : Prop where
  b : LtlB obO w wx
  cp : IBlk wx (w.heap.size + 1 + 1 + 1 + 1) 5
  ty : TBlk wx (w.heap.size + 1 + 1 + 1 + 1 + 1) vanI (some ⟨w.heap.size + 1 + 1 + 1 + 1, 0, none⟩) 1
theorem LtlA.keep {w wx wy : World} (h : LtlA w wx) (hk : ∀ k, k < w.heap.size + 1 + 1 + 1 → wy.heap[k]? = wx.heap[k]?) (hb : Below w.heap.size w wy) : LtlA w wy :=
  ⟨(hk _ (by omega)).trans h.res, (hk _ (by omega)).trans h.ld, (hk _ (by omega)).trans h.oa, hb⟩
def ob1O : Ord := { oaO with name := ⟨#[111, 98]⟩ }
theorem ordBlk_frozen {w : World} {k : Nat} {o : Ord} {C : Option Addr} {c : Nat} (h : ord.OrBlk w k o C c) (i : Nat) : w.frozen? ⟨k, i, none⟩ = false := by simp [World.frozen?, show w.heap[k]? = _ from h]
theorem tyCells_one (o : Ty) (C : Option Addr) (c : Nat) : ∀ u ∈ TyCells o C c, u.oneCell' = true := fun u hu => by
  simp only [TyCells, List.mem_cons, List.not_mem_nil, or_false] at hu
  rcases hu with rfl | rfl | rfl | rfl | rfl | rfl | rfl | rfl | rfl | rfl | rfl | rfl | rfl | rfl <;> rfl
theorem LtlB.set {w wx : World} {o o' : Ord} (h : LtlB o w wx) (i : Nat) (u : Value) (hs : wx.heap.size = w.heap.size + 1 + 1 + 1 + 1) (e : ((OrdCells o (some ⟨w.heap.size + 1, 0, none⟩) 1).toArray.setIfInBounds i u) = (OrdCells o' (some ⟨w.heap.size + 1, 0, none⟩) 1).toArray) : LtlB o' w (wx.setCell ⟨w.heap.size + 1 + 1 + 1, i, none⟩ u) := by
  refine ⟨h.a.keep (fun k hk => Below.heap_setCell _ _ _ _ (show k ≠ w.heap.size + 1 + 1 + 1 by omega)) (h.a.bel.setCell (p := ⟨w.heap.size + 1 + 1 + 1, i, none⟩) (show w.heap.size ≤ w.heap.size + 1 + 1 + 1 by omega) u), ?_⟩
  have h1 := heap_setCell_same wx (w.heap.size + 1 + 1 + 1) i _ _ u h.ob
  rw [e] at h1
  exact h1
theorem oa_fill (ad : Addr) : Instr.fill ((#[(0, 1), (1, 1), (2, 4), (6, 4), (10, 1), (11, 1), (12, 1), (13, 1), (14, 1), (15, 1)] : Array (Nat × Nat))[·]?) (Value.agg zOrd.toArray).cells [(0, .string ⟨#[111, 97]⟩), (1, .slice (some ad) 1 1), (2, .agg #[.int .i64 (-1), .int .i64 0, .int .i64 0, .int .i64 0]), (3, .agg #[.int .i64 0, .int .i64 0, .int .i64 50, .int .i64 0]), (5, .int .i64 (-1)), (6, .int .i64 1), (7, .int .i64 (-1)), (8, .int .i64 (-1))] = some (OrdCells oaO (some ad) 1).toArray := by kernel_rfl
theorem van_fill (ad : Addr) : Instr.fill ((#[(0, 1), (1, 1), (2, 1), (3, 1), (4, 1), (5, 1), (6, 1), (7, 1), (8, 1), (9, 1), (10, 1), (11, 1), (12, 1), (13, 1)] : Array (Nat × Nat))[·]?) (Value.agg zTy.toArray).cells [(0, .string ⟨#[118, 97, 110]⟩), (1, .int .i64 1), (4, .slice (some ad) 1 1), (8, .int .i64 100), (9, .int .i64 50)] = some (TyCells vanI (some ad) 1).toArray := by kernel_rfl
def ltlCs (k : Nat) : List Value := [.slice (some ⟨k, 0, none⟩) 1 1, .slice none 0 0, .slice (some ⟨k + 1, 0, none⟩) 1 1, .slice (some ⟨k + 1 + 1, 0, none⟩) 2 2, .slice (some ⟨k + 1 + 1 + 1, 0, none⟩) 1 1, .slice none 0 0]
theorem ltlCs_one (k : Nat) : ∀ u ∈ ltlCs k, u.oneCell' = true := fun u hu => by
  simp only [ltlCs, List.mem_cons, List.not_mem_nil, or_false] at hu
  rcases hu with rfl | rfl | rfl | rfl | rfl | rfl <;> rfl
def ltlP (k : Nat) : InP := ⟨some ⟨k, 0, none⟩, 1, none, 0, some ⟨k + 1, 0, none⟩, 1, some ⟨k + 1 + 1, 0, none⟩, 2, some ⟨k + 1 + 1 + 1, 0, none⟩, 1, none, 0⟩
theorem ty_elem : ElemOf 26 53 (.agg zTy.toArray) 14 136 := ⟨Tryz.underlying26, by kernel_rfl, rfl, by decide, by decide⟩
theorem ord_elem' : ElemOf 27 42 (.agg zOrd.toArray) 16 152 := ⟨Tryz.underlying27, by kernel_rfl, rfl, by decide, by decide⟩
theorem ty_range : (List.range (1 * 14)).map (fun i => (Value.agg zTy.toArray).cells[i % (Value.agg zTy.toArray).cells.size]!) = zTy := by kernel_rfl
theorem ord_range : (List.range (2 * 16)).map (fun i => (Value.agg zOrd.toArray).cells[i % (Value.agg zOrd.toArray).cells.size]!) = zOrd ++ zOrd := by kernel_rfl
theorem ty_fill (ad : Addr) : Instr.fill (fun i => some (i * 14, 14)) zTy.toArray [(0, .agg (TyCells vanI (some ad) 1).toArray)] = some (TyCells vanI (some ad) 1).toArray := by kernel_rfl
theorem ord_fill (ad : Addr) : Instr.fill (fun i => some (i * 16, 16)) (zOrd ++ zOrd).toArray [(0, .agg (OrdCells oaO (some ad) 1).toArray), (1, .agg (OrdCells obO (some ad) 1).toArray)] = some (OrdCells oaO (some ad) 1 ++ OrdCells obO (some ad) 1).toArray := by kernel_rfl
set_option maxRecDepth 20000 in
set_option maxHeartbeats 2000000 in
theorem little_any (w : World) : Calls Tryz.prog 17 #[] w (LittleOut w) := by
  go_enter Tryz.func17, Tryz.ntmps17
  go_upto_region 1 with fail
  go_cut [1] (fun p wx => p = .pointer (some ⟨w.heap.size + 1 + 1, 0, none⟩) ∧ LtlA w wx ∧ wx.heap.size = w.heap.size + 1 + 1 + 1)
  case first => as_aux_lemma =>
    have hb : (((w.alloc (.cells nilCs.toArray 30)).alloc (.cells #[.int .i64 1] 3)).alloc (.cells zOrd.toArray 42)).heap[w.heap.size + 1 + 1]? = some (.cells zOrd.toArray 42 (0, 0)) := by
      have h := World.alloc_heap_new ((w.alloc (.cells nilCs.toArray 30)).alloc (.cells #[.int .i64 1] 3)) (.cells zOrd.toArray 42)
      rw [World.size_alloc, World.size_alloc] at h
      exact h
    have hb0 : (((w.alloc (.cells nilCs.toArray 30)).alloc (.cells #[.int .i64 1] 3)).alloc (.cells zOrd.toArray 42)).heap[w.heap.size]? = some (.cells nilCs.toArray 30 (0, 0)) := by
      rw [heap_old _ _ _ (by simp <;> omega), heap_old _ _ _ (by simp)]
      exact World.alloc_heap_new w _
    have hb1 : (((w.alloc (.cells nilCs.toArray 30)).alloc (.cells #[.int .i64 1] 3)).alloc (.cells zOrd.toArray 42)).heap[w.heap.size + 1]? = some (.cells #[.int .i64 1] 3 (0, 0)) := by
      rw [heap_old _ _ _ (by simp)]
      have h := World.alloc_heap_new (w.alloc (.cells nilCs.toArray 30)) (.cells #[.int .i64 1] 3)
      rw [World.size_alloc] at h
      exact h
    have hB : Below w.heap.size w (((w.alloc (.cells nilCs.toArray 30)).alloc (.cells #[.int .i64 1] 3)).alloc (.cells zOrd.toArray 42)) := (((Below.refl _ _).alloc (Nat.le_refl _) _).alloc (by simp) _).alloc (by simp <;> omega) _
    have hS : (((w.alloc (.cells nilCs.toArray 30)).alloc (.cells #[.int .i64 1] 3)).alloc (.cells zOrd.toArray 42)).heap.size = w.heap.size + 1 + 1 + 1 := by simp
    have H := Lib.hid (And.intro hb (And.intro hb0 (And.intro hb1 (And.intro hB hS))))
    clear hb hb0 hb1 hB hS
    go_wp2_with (first
      | ((with_reducible refine wpList_buildL bOrd rfl _ rfl _ (OrdCells oaO (some ⟨w.heap.size + 1, 0, none⟩) 1) ?_ (oa_fill _) ?_); exact rfl)
      | ((with_reducible refine wpList_storeL (t := 42) sOrd rfl _ _ rfl (w.heap.size + 1 + 1) zOrd (OrdCells oaO (some ⟨w.heap.size + 1, 0, none⟩) 1) ?_ ?_ ?_ ?_ ?_ (ordCells_one _ _ _) ?_); exact rfl; exact rfl; exact H.out.1; exact rfl; exact rfl; intro w1 k1 k2 k3 k4; have K := Lib.hid (And.intro k1 (And.intro k2 (And.intro k3 k4))); clear k1 k2 k3 k4))
    go_meet
    obtain ⟨k1, k2, k3, k4⟩ := K.out
    refine ⟨rfl, ⟨(k2 _ (by omega)).trans H.out.2.1, (k2 _ (by omega)).trans H.out.2.2.1, k1, H.out.2.2.2.1.trans (k4.mono (by omega))⟩, k3.trans H.out.2.2.2.2⟩
  obtain ⟨h1, hA, hs⟩ := hcut
  subst h1
  have HA := Lib.hid hA
  have HS := Lib.hid hs
  clear hA hs
  go_upto_region 2 with fail
  go_cut [2] (fun p wx => p = .pointer (some ⟨w.heap.size + 1 + 1 + 1, 0, none⟩) ∧ LtlB oaO w wx ∧ wx.heap.size = w.heap.size + 1 + 1 + 1 + 1)
  case first => as_aux_lemma =>
    go_wp2_with (first
      | ((with_reducible refine wpList_loadB sOrd rfl _ rfl (w.heap.size + 1 + 1) (OrdCells oaO (some ⟨w.heap.size + 1, 0, none⟩) 1).toArray (0, 0) ?_ ?_ ?_ ?_); exact rfl; exact HA.out.oa; exact rfl)
      | ((with_reducible refine wpList_storeL (t := 42) sOrd rfl _ _ rfl wc.heap.size zOrd (OrdCells oaO (some ⟨w.heap.size + 1, 0, none⟩) 1) ?_ ?_ ?_ ?_ ?_ (ordCells_one _ _ _) ?_); exact rfl; exact rfl; exact World.alloc_heap_new wc _; exact rfl; exact rfl; intro w1 k1 k2 k3 k4; have K := Lib.hid (And.intro k1 (And.intro k2 (And.intro k3 k4))); clear k1 k2 k3 k4))
    go_meet
    obtain ⟨k1, k2, k3, k4⟩ := K.out
    have e := HS.out
    refine ⟨by rw [e], ⟨HA.out.keep (fun k hk => (k2 k (by omega)).trans (heap_old _ _ _ (by omega))) (((HA.out.bel.alloc (by omega) _).trans (k4.mono (by omega)))), ?_⟩, by rw [k3, World.size_alloc, e]⟩
    rw [e] at k1
    exact k1
  obtain ⟨h2, hB, hs⟩ := hcut
  subst h2
  clear HA HS
  have HB := Lib.hid hB
  have HS := Lib.hid hs
  obtain ⟨m0, -⟩ := hB.ob.cells
  have f0 := ordBlk_frozen hB.ob 0
  clear hB hs
  go_upto_region 3 with fail
  go_cut [] (fun wx => LtlB ob1O w wx ∧ wx.heap.size = w.heap.size + 1 + 1 + 1 + 1)
  case first => as_aux_lemma =>
    go_wp2
    go_meet
    exact ⟨HB.out.set 0 _ HS.out rfl, by simp [World.setCell, HS.out]⟩
  clear m0 f0 HB HS
  obtain ⟨hB, hs⟩ := hcut
  have HB := Lib.hid hB
  have HS := Lib.hid hs
  obtain ⟨-, -, -, -, -, -, -, -, -, -, -, m11, -⟩ := hB.ob.cells
  have f11 := ordBlk_frozen hB.ob 11
  clear hB hs
  go_upto_region 4 with fail
  go_cut [] (fun wx => LtlB obO w wx ∧ wx.heap.size = w.heap.size + 1 + 1 + 1 + 1)
  case first => as_aux_lemma =>
    go_wp2
    go_meet
    exact ⟨HB.out.set 11 _ HS.out rfl, by simp [World.setCell, HS.out]⟩
  clear m11 f11 HB HS
  obtain ⟨hB, hs⟩ := hcut
  have HB := Lib.hid hB
  have HS := Lib.hid hs
  clear hB hs
  go_upto_region 5 with fail
  go_cut [3] (fun p wx => p = .pointer (some ⟨w.heap.size + 1 + 1 + 1 + 1 + 1, 0, none⟩) ∧ LtlC w wx ∧ wx.heap.size = w.heap.size + 1 + 1 + 1 + 1 + 1 + 1)
  case first => as_aux_lemma =>
    go_wp2_with (first
      | ((with_reducible refine wpList_buildL bTy rfl _ rfl _ (TyCells vanI (some ⟨wc.heap.size, 0, none⟩) 1) ?_ (van_fill _) ?_); exact rfl)
      | ((with_reducible refine wpList_storeL (t := 53) sTy rfl _ _ rfl (wc.heap.size + 1) zTy (TyCells vanI (some ⟨wc.heap.size, 0, none⟩) 1) ?_ ?_ ?_ ?_ ?_ (tyCells_one _ _ _) ?_); exact rfl; exact rfl; (have h := World.alloc_heap_new (wc.alloc (.cells #[.int .i64 5] 3)) (.cells zTy.toArray 53); rw [World.size_alloc] at h; exact h); exact rfl; exact rfl; intro w1 k1 k2 k3 k4; have K := Lib.hid (And.intro k1 (And.intro k2 (And.intro k3 k4))); clear k1 k2 k3 k4))
    go_meet
    obtain ⟨k1, k2, k3, k4⟩ := K.out
    have e := HS.out
    have hk : ∀ k, k < wc.heap.size → w1.heap[k]? = wc.heap[k]? := fun k hk => (k2 k (by omega)).trans ((heap_old _ _ _ (by simp; omega)).trans (heap_old _ _ _ hk))
    have hcp : w1.heap[wc.heap.size]? = some (.cells #[.int .i64 5] 3 (0, 0)) := (k2 _ (by omega)).trans ((heap_old _ _ _ (by simp)).trans (World.alloc_heap_new wc _))
    have hbel : Below w.heap.size w w1 := ((HB.out.a.bel.alloc (by omega) _).alloc (by simp; omega) _).trans (k4.mono (by omega))
    refine ⟨by rw [e], ⟨⟨HB.out.a.keep (fun k hk' => hk k (by omega)) hbel, (hk _ (by omega)).trans HB.out.ob⟩, ?_, ?_⟩, by rw [k3, World.size_alloc, World.size_alloc, e]⟩
    · rw [e] at hcp
      exact hcp
    · rw [e] at k1
      exact k1
  obtain ⟨h3, hC, hs⟩ := hcut
  subst h3
  clear HB HS
  have HC := Lib.hid hC
  have HS := Lib.hid hs
  clear hC hs
  go_upto_region 6 with fail
  go_wp2_with (first
    | ((with_reducible refine wpList_loadB sTy rfl _ rfl (w.heap.size + 1 + 1 + 1 + 1 + 1) (TyCells vanI (some ⟨w.heap.size + 1 + 1 + 1 + 1, 0, none⟩) 1).toArray (0, 0) ?_ ?_ ?_ ?_); exact rfl; (rw [heap_old _ _ _ (by have := HS.out; omega)]; exact HC.out.ty); exact rfl)
    | ((with_reducible refine wpList_loadB sOrd rfl _ rfl (w.heap.size + 1 + 1) (OrdCells oaO (some ⟨w.heap.size + 1, 0, none⟩) 1).toArray (0, 0) ?_ ?_ ?_ ?_); exact rfl; (rw [heap_old _ _ _ (by have := HS.out; simp; omega), heap_old _ _ _ (by have := HS.out; omega)]; exact HC.out.b.a.oa); exact rfl)
    | ((with_reducible refine wpList_loadB sOrd rfl _ rfl (w.heap.size + 1 + 1 + 1) (OrdCells obO (some ⟨w.heap.size + 1, 0, none⟩) 1).toArray (0, 0) ?_ ?_ ?_ ?_); exact rfl; (rw [heap_old _ _ _ (by have := HS.out; simp; omega), heap_old _ _ _ (by have := HS.out; omega)]; exact HC.out.b.ob); exact rfl)
    | ((with_reducible refine wpList_bsliceL ty_elem rfl 1 _ rfl _ (TyCells vanI (some ⟨w.heap.size + 1 + 1 + 1 + 1, 0, none⟩) 1) zTy ?_ (by decide) (by decide) ty_range (ty_fill _) ?_); exact rfl)
    | ((with_reducible refine wpList_bsliceL ord_elem' rfl 2 _ rfl _ (OrdCells oaO (some ⟨w.heap.size + 1, 0, none⟩) 1 ++ OrdCells obO (some ⟨w.heap.size + 1, 0, none⟩) 1) (zOrd ++ zOrd) ?_ (by decide) (by decide) ord_range (ord_fill _) ?_); exact rfl)
    | ((with_reducible refine wpList_storeL sIns rfl _ _ rfl w.heap.size nilCs (ltlCs wc.heap.size) ?_ ?_ ?_ ?_ ?_ (ltlCs_one _) ?_); exact rfl; exact rfl; (rw [heap_old _ _ _ (by have := HS.out; simp; omega), heap_old _ _ _ (by have := HS.out; simp; omega), heap_old _ _ _ (by have := HS.out; simp; omega), heap_old _ _ _ (by have := HS.out; omega)]; exact HC.out.b.a.res); exact rfl; exact rfl; intro w1 k1 k2 k3 k4; have K := Lib.hid (And.intro k1 (And.intro k2 (And.intro k3 k4))); clear k1 k2 k3 k4))
  obtain ⟨k1, k2, k3, k4⟩ := K.out
  have e := HS.out
  have hsix : SixAt w1 w.heap.size (ltlCs wc.heap.size) := k1
  have c0 : w1.cell? ⟨w.heap.size, 0, none⟩ = some (.slice (some ⟨wc.heap.size, 0, none⟩) 1 1) := hsix.cell (j := 0) rfl
  have c1 : w1.cell? ⟨w.heap.size, 1, none⟩ = some (.slice none 0 0) := hsix.cell (j := 1) rfl
  have c2 : w1.cell? ⟨w.heap.size, 2, none⟩ = some (.slice (some ⟨wc.heap.size + 1, 0, none⟩) 1 1) := hsix.cell (j := 2) rfl
  have c3 : w1.cell? ⟨w.heap.size, 3, none⟩ = some (.slice (some ⟨wc.heap.size + 1 + 1, 0, none⟩) 2 2) := hsix.cell (j := 3) rfl
  have c4 : w1.cell? ⟨w.heap.size, 4, none⟩ = some (.slice (some ⟨wc.heap.size + 1 + 1 + 1, 0, none⟩) 1 1) := hsix.cell (j := 4) rfl
  have c5 : w1.cell? ⟨w.heap.size, 5, none⟩ = some (.slice none 0 0) := hsix.cell (j := 5) rfl
  refine bodyPost_ret (v := InV littleI (ltlP wc.heap.size)) (by simp [results, Tryz.results17, go_sem, InV, littleI, ltlP, c0, c1, c2, c3, c4, c5]) rfl ?_
  clear c0 c1 c2 c3 c4 c5 hsix
  have n9 := k2 (wc.heap.size + 1 + 1 + 1) (by omega)
  have n8 := k2 (wc.heap.size + 1 + 1) (by omega)
  have n7 := k2 (wc.heap.size + 1) (by omega)
  have n6 := k2 wc.heap.size (by omega)
  have n4 := k2 (w.heap.size + 1 + 1 + 1 + 1) (by omega)
  have n1 := k2 (w.heap.size + 1) (by omega)
  rw [heap_old _ _ _ (by simp; omega), heap_old _ _ _ (by simp; omega), heap_old _ _ _ (by simp; omega), heap_old _ _ _ (by omega), HC.out.cp] at n4
  rw [heap_old _ _ _ (by simp; omega), heap_old _ _ _ (by simp; omega), heap_old _ _ _ (by simp; omega), heap_old _ _ _ (by omega), HC.out.b.a.ld] at n1
  rw [heap_old _ _ _ (by simp; omega), heap_old _ _ _ (by simp; omega), heap_old _ _ _ (by simp), World.alloc_heap_new wc] at n6
  have q7 := fun (o o' : Obj) => World.alloc_heap_new (wc.alloc o) o'
  simp only [World.size_alloc] at q7
  rw [heap_old _ _ _ (by simp), heap_old _ _ _ (by simp), q7] at n7
  have q8 := fun (o o' o'' : Obj) => World.alloc_heap_new ((wc.alloc o).alloc o') o''
  simp only [World.size_alloc] at q8
  rw [heap_old _ _ _ (by simp), q8] at n8
  have q9 := fun (o o' o'' o3 : Obj) => World.alloc_heap_new (((wc.alloc o).alloc o').alloc o'') o3
  simp only [World.size_alloc] at q9
  rw [q9] at n9
  rw [World.size_alloc, World.size_alloc, World.size_alloc, World.size_alloc] at k3
  have i1 : Ints w1 w1.heap.size (some ⟨w.heap.size + 1, 0, none⟩) [1] := ints_blk n1 (by omega) (by decide)
  have i4 : Ints w1 w1.heap.size (some ⟨w.heap.size + 1 + 1 + 1 + 1, 0, none⟩) [5] := ints_blk n4 (by omega) (by decide)
  refine ⟨ltlP wc.heap.size, rfl, ⟨?_, RowAt.nil, ?_, ?_, ?_, RowAt.nil, Nat.le_refl 1, Nat.le_refl 2, Nat.le_refl 1, Nat.le_refl 0⟩, ?_⟩
  · exact row_blk (r := rStr) (cs := [.string hubS]) n6 (by omega) ⟨rfl, by decide⟩
  · exact row_blk (r := rTy) n7 (by omega) (rTy_mk i4 van_fits)
  · exact row_blk2 (r := rOrd) n8 (by omega) (rOrd_mk i1 oa_fits) (rOrd_mk i1 ob_fits)
  · exact row_blk (r := rPair rInt rInt) (cs := [.int .i64 0] ++ [.int .i64 1]) n9 (by omega) ⟨_, _, rfl, ⟨rfl, by decide⟩, ⟨rfl, by decide⟩⟩
  · exact ((((HC.out.b.a.bel.alloc (by omega) _).alloc (by simp; omega) _).alloc (by simp; omega) _).alloc (by simp; omega) _).trans k4
end Go.Proofs.YtceceomaheobhaaGreatDoor.ins

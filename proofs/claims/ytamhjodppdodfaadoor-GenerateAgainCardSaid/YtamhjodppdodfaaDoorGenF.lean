/- Orders that are drawn: the program. -/
import Derived.Test.YtamhjodppdodfaaDoorGenE
import Derived.Test.YtamhjodppdodfaaDoorFltX
import Derived.Test.YtamhjodppdodfaaDoorZ3
import Derived.Test.YtamhjodppdodfaaDoorZ4
import Derived.Test.YtamhjodppdodfaaDoorGenR
import Derived.Deep.RegionHeld3
import Derived.Deep.DeepCutAuto
namespace Go.Proofs.YtamhjodppdodfaaDoor.gen
open Go.RowKit
open Go.Proofs.YtamhjodppdodfaaDoor.lib Go.Proofs.YtamhjodppdodfaaDoor.rd Go.Proofs.YtamhjodppdodfaaDoor.app Go.Proofs.YtamhjodppdodfaaDoor.els Go.Proofs.YtamhjodppdodfaaDoor.typ Go.Proofs.YtamhjodppdodfaaDoor.txt Go.Proofs.YtamhjodppdodfaaDoor.big Go.Proofs.YtamhjodppdodfaaDoor.off Go.Proofs.YtamhjodppdodfaaDoor.ins Go.Proofs.YtamhjodppdodfaaDoor.ord
set_option linter.unusedVariables false
set_option linter.unusedSimpArgs false

theorem exec_buildL {t : TypeId} {z : Value} {places : Array (Nat × Nat)} (T : BuildOf t z places) {ρ : Operand → Value} {o : Oper} {w : World} (parts : List (Nat × Operand)) (ho : o.op = Op.build t parts.toArray) (vals : List (Nat × Value)) (cells : List Value)
    (hv : parts.map (fun p => (p.1, ρ p.2)) = vals) (hf : Instr.fill (places[·]?) z.cells vals = some cells.toArray) : Sem.run Tryd.prog (execOp ρ o) w = .ok (.value (.agg cells.toArray)) w := by
  have hr : (Instr.build t (parts.toArray.map fun p => (p.1, ρ p.2))).run Tryd.prog w = .ok (.agg cells.toArray) w := run_buildF T (by rw [List.map_toArray, hv]; exact hf) w
  unfold execOp
  simp only [ho, Sem.run_bind, hr, Result.andThen_ok, Sem.run_pure]
def zOrd : List Value := [.string ⟨#[]⟩, .slice none 0 0, .int .i64 0, .int .i64 0, .int .i64 0, .int .i64 0, .int .i64 0, .int .i64 0, .int .i64 0, .int .i64 0, .int .i64 0, .int .i64 0, .int .i64 0, .int .i64 0, .int .i64 0, .bool false]
theorem bOrd : BuildOf 40 (.agg zOrd.toArray) #[(0, 1), (1, 1), (2, 4), (6, 4), (10, 1), (11, 1), (12, 1), (13, 1), (14, 1), (15, 1)] := ⟨⟨_, Tryd.underlying40, fun w => by kernel_rfl⟩, fun w => by kernel_rfl⟩
/-- The cells of an order under construction. -/
def ordL (nm : ByteArray) (ld : Value) (p0 p1 p2 p3 d0 d1 d2 d3 sk pe : Int) : List Value := [.string nm, ld, .int .i64 p0, .int .i64 p1, .int .i64 p2, .int .i64 p3, .int .i64 d0, .int .i64 d1, .int .i64 d2, .int .i64 d3, .int .i64 sk, .int .i64 pe, .int .i64 1, .int .i64 (-1), .int .i64 (-1), .bool false]
theorem ordL_one {nm : ByteArray} {ld : Value} {p0 p1 p2 p3 d0 d1 d2 d3 sk pe : Int} (h : ld.oneCell' = true) : ∀ u ∈ ordL nm ld p0 p1 p2 p3 d0 d1 d2 d3 sk pe, u.oneCell' = true := fun u hu => by
  simp only [ordL, List.mem_cons, List.not_mem_nil, or_false] at hu
  rcases hu with rfl | rfl | rfl | rfl | rfl | rfl | rfl | rfl | rfl | rfl | rfl | rfl | rfl | rfl | rfl | rfl
  all_goals first | rfl | exact h
def ordV (nm : ByteArray) : List (Nat × Value) := [(0, .string nm), (2, .agg #[.int .i64 (-1), .int .i64 0, .int .i64 0, .int .i64 0]), (3, .agg #[.int .i64 (-1), .int .i64 0, .int .i64 0, .int .i64 0]), (6, .int .i64 1), (7, .int .i64 (-1)), (8, .int .i64 (-1))]
theorem ord_fillL (nm : ByteArray) : Instr.fill ((#[(0, 1), (1, 1), (2, 4), (6, 4), (10, 1), (11, 1), (12, 1), (13, 1), (14, 1), (15, 1)] : Array (Nat × Nat))[·]?) (Value.agg zOrd.toArray).cells (ordV nm) = some (ordL nm (.slice none 0 0) (-1) 0 0 0 (-1) 0 0 0 0 0).toArray := by kernel_rfl
theorem ordN_size (i : Nat) : (ordN i).size ≤ 100 := by
  unfold ordN
  rw [ByteArray.size_append]
  have := decS_size i
  show 1 + _ ≤ _
  omega
theorem loadTo_len (s : Int) : ∀ k, (loadTo s k).length = k
  | 0 => rfl
  | k + 1 => by rw [loadTo, List.length_append, loadTo_len s k]; rfl
/-- What Order answers. -/
def ordE (seed : Int) (x : Ins) : Except Int Ord := if 10 ≤ x.orders.length then .error 4 else if x.types.length = 0 ∨ x.net.places.length = 0 then .error 2 else .ok (ordF seed (flt.dimsN x.types) x.net.places.length x.orders.length)
def OrdOut (w : World) (r : Except Int Ord) (e : Ending) (w' : World) : Prop := match r with
  | .error k => e = .returned (.tuple #[.agg zOrd.toArray, .int .i64 k]) ∧ Below w.heap.size w w'
  | .ok o => ∃ A c, e = .returned (.tuple #[.agg (OrdCells o A c).toArray, .int .i64 0]) ∧ w'.ownsRow w.heap.size 3 1 (.slice A o.load.length c) o.load.length (o.load.map (.int .i64)) ∧ Below w.heap.size w w'
theorem GS.bel {W wx : World} {p B : Nat} {t : TypeId} {s : Int} (h : GS W p t s wx) (hB : B ≤ p) : Below B W wx := (Below.refl _ _).grown h.grown (by have := h.lt; omega) (fun k e => by injection e; omega)
/-- Where an order under construction stands: its drawer, its block, its load, the blocks that stay. -/
structure OSt (T : TypeId) (W0 W5 : World) (rb p B1 ob : Nat) (s : Int) (cs : List Value) (A : Option Addr) (k c : Nat) (l : List Value) (wx : World) : Prop where
  gs : GS W5 p T s wx
  blk : Blk wx ob 40 cs
  own : wx.ownsRow B1 3 1 (.slice A k c) k l
  fr : Fr (fun q => q < W0.heap.size ∧ q ≠ rb) W0 wx
  size : B1 ≤ wx.heap.size
/-- Where its blocks lie. -/
def OPl (W0 W5 : World) (p B1 ob : Nat) : Prop := W0.heap.size = p ∧ p < W5.heap.size ∧ W5.heap.size ≤ ob ∧ ob < B1
section
variable {T : TypeId} {W0 W5 wx wy : World} {rb p B1 ob : Nat} {s s' : Int} {cs : List Value} {A : Option Addr} {k c : Nat} {l : List Value}
theorem OSt.set (h : OSt T W0 W5 rb p B1 ob s cs A k c l wx) (hl : OPl W0 W5 p B1 ob) (i : Nat) (u : Value) : OSt T W0 W5 rb p B1 ob s (cs.set i u) A k c l (wx.setCell ⟨ob, i, none⟩ u) := by
  obtain ⟨h1, h2, h3, h4⟩ := hl
  exact ⟨h.gs.set h3 i u, h.blk.set i u, own_fr h.own (Fr.set (q := ob) wx i u (fun q hq => by have h' : B1 ≤ q := hq; omega)), h.fr.trans (Fr.set (q := ob) wx i u (fun q hq => by have := hq.1; omega)), by have := h.size; simp [World.setCell]; omega⟩
theorem OSt.drew (h : OSt T W0 W5 rb p B1 ob s cs A k c l wx) : OSt T W0 W5 rb p B1 ob s cs A k c l wx.drew := ⟨h.gs.drew, h.blk, h.own, h.fr.trans (Fr.drew wx), h.size⟩
theorem OSt.draw (h : OSt T W0 W5 rb p B1 ob s cs A k c l wx) (hl : OPl W0 W5 p B1 ob) (hb : Boxed wy p T (.int .i64 s')) (hg : wx.grownBy wy (some p)) : OSt T W0 W5 rb p B1 ob s' cs A k c l wy := by
  obtain ⟨h1, h2, h3, h4⟩ := hl
  exact ⟨h.gs.draw hb hg, h.blk.kept hg (fun e => by injection e; omega), own_draw h.own (by omega) hg, h.fr.trans (Fr.grown hg (fun q hq e => by have := hq.1; injection e; omega)), Nat.le_trans h.size hg.size⟩
end
set_option maxRecDepth 20000 in
set_option maxHeartbeats 8000000 in
theorem order_any (seed : Int) (x : Ins) (P : InP) (w : World) (h : InAt w w.heap.size x P) (hd : flt.dimsN x.types ≤ 1000) (hpl : x.net.places.length ≤ 1000000) :
    Calls Tryd.prog 11 #[.int .i64 seed, InV x P] w (OrdOut w (ordE seed x)) := by
  obtain ⟨W0, hW0⟩ : ∃ W0, (w.alloc (.cells (insCs x P).toArray 30)).alloc (.cells zOrd.toArray 40) = W0 := ⟨_, rfl⟩
  have hB0 : Below w.heap.size w W0 := by rw [← hW0]; exact ((Below.refl _ _).alloc (Nat.le_refl _) _).alloc (by simp) _
  have z0 : W0.heap.size = w.heap.size + 2 := by rw [← hW0]; simp
  have b0 : Blk W0 w.heap.size 30 (insCs x P) := by
    rw [← hW0]
    exact (Blk.new w _ (insCs x P)).kept (World.grownBy_alloc _ _ none) (by simp)
  have r0 : Blk W0 (w.heap.size + 1) 40 zOrd := by
    rw [← hW0]
    have h := Blk.new (w.alloc (.cells (insCs x P).toArray 30)) 40 zOrd
    rw [show (w.alloc (.cells (insCs x P).toArray 30)).heap.size = w.heap.size + 1 by simp] at h
    exact h
  obtain ⟨rb, hrb⟩ : ∃ r, w.heap.size + 1 = r := ⟨_, rfl⟩
  rw [hrb] at r0
  have hlr : w.heap.size < rb ∧ rb < W0.heap.size := ⟨by omega, by omega⟩
  have hl1 := hlr.1
  have hl2 := hlr.2
  have HRB := Lib.hid hrb
  clear z0 hlr hrb
  obtain ⟨no, hno⟩ : ∃ n, x.orders.length = n := ⟨_, rfl⟩
  obtain ⟨nt, hnt⟩ : ∃ n, x.types.length = n := ⟨_, rfl⟩
  obtain ⟨np, hnp⟩ : ∃ n, x.net.places.length = n := ⟨_, rfl⟩
  have HX := Lib.hid (fun w' (hf : Fr (fun q => q < W0.heap.size ∧ q ≠ rb) W0 w') => (show w'.cell? ⟨w.heap.size, 3, none⟩ = some (.slice P.a3 no P.c3) ∧ w'.cell? ⟨w.heap.size, 2, none⟩ = some (.slice P.a2 nt P.c2) ∧ w'.cell? ⟨w.heap.size, 0, none⟩ = some (.slice P.a0 np P.c0) from by
    have hb := b0.fr hf ⟨by omega, by omega⟩
    rw [← hno, ← hnt, ← hnp]
    exact ⟨hb.cell (j := 3) rfl, hb.cell (j := 2) rfl, hb.cell (j := 0) rfl⟩))
  have hW1 : (w.alloc (.cells #[.slice P.a0 x.net.places.length P.c0, .slice P.a1 x.net.arcs.length P.c1, .slice P.a2 x.types.length P.c2, .slice P.a3 x.orders.length P.c3, .slice P.a4 x.apart.length P.c4, .slice P.a5 x.before.length P.c5] 30)).alloc (.cells #[.string ⟨#[]⟩, .slice none 0 0, .int .i64 0, .int .i64 0, .int .i64 0, .int .i64 0, .int .i64 0, .int .i64 0, .int .i64 0, .int .i64 0, .int .i64 0, .int .i64 0, .int .i64 0, .int .i64 0, .int .i64 0, .bool false] 40) = W0 := hW0
  rw [hno, hnt, hnp] at hW1
  have HW1 := Lib.hid hW1
  have HB0 := Lib.hid hB0
  have HR0 := Lib.hid r0
  have HH := Lib.hid h
  have HE : Hid (ordE seed x = if 10 ≤ no then .error 4 else if nt = 0 ∨ np = 0 then .error 2 else .ok (ordF seed (flt.dimsN x.types) np no)) := Lib.hid (by unfold ordE; rw [hno, hnt, hnp])
  have HNN := Lib.hid (And.intro hno (And.intro hnt hnp))
  rw [hnp] at hpl
  simp only [InV]
  rw [hno, hnt, hnp]
  clear hW0 hW1 b0 r0 hB0 h hno hnt hnp
  obtain ⟨c3, c2, c0⟩ := HX.out W0 ⟨Nat.le_refl _, fun _ _ _ => rfl⟩
  go_enter Tryd.func11, Tryd.ntmps11
  go_upto_region 1 with fail
  rw [HW1.out, HRB.out]
  clear HW1 HRB
  by_cases h10 : 10 ≤ no
  · have h10' : (10 : Int) ≤ (no : Int) := by omega
    have HEE : Hid (ordE seed x = .error 4) := Lib.hid (by rw [HE.out, if_pos h10])
    -- [[
    go_wp2_with (first
      | ((with_reducible refine wpList_buildL bOrd rfl _ rfl _ zOrd ?_ (by kernel_rfl) ?_); exact rfl)
      | ((with_reducible refine wpList_storeL stOrd' rfl _ _ rfl rb zOrd zOrd ?_ ?_ ?_ ?_ ?_ (by decide) ?_); exact rfl; exact rfl; exact HR0.out; exact rfl; exact rfl; intro wz k1 k2 k3 k4; have K := Lib.hid (And.intro k1 (And.intro k2 (And.intro k3 k4))); clear k1 k2 k3 k4))
    have HRz : Blk wz rb 40 zOrd := K.out.1
    refine bodyPost_ret (v := .tuple #[.agg zOrd.toArray, .int .i64 4]) (big.res_cell_tmp stOrd' Tryd.results11 rfl rfl HRz.cells rfl) rfl ?_
    rw [HEE.out]
    exact ⟨rfl, HB0.out.trans (K.out.2.2.2.mono (by omega))⟩
    -- ]]
  have h10' : ¬ (10 : Int) ≤ (no : Int) := by omega
  by_cases hnt : nt = 0
  · have hnt' : ((nt : Int) == 0) = true := by rw [hnt]; rfl
    have HEE : Hid (ordE seed x = .error 2) := Lib.hid (by rw [HE.out, if_neg h10, if_pos (Or.inl hnt)])
    -- [[
    go_wp2_with (first
      | ((with_reducible refine wpList_buildL bOrd rfl _ rfl _ zOrd ?_ (by kernel_rfl) ?_); exact rfl)
      | ((with_reducible refine wpList_storeL stOrd' rfl _ _ rfl rb zOrd zOrd ?_ ?_ ?_ ?_ ?_ (by decide) ?_); exact rfl; exact rfl; exact HR0.out; exact rfl; exact rfl; intro wz k1 k2 k3 k4; have K := Lib.hid (And.intro k1 (And.intro k2 (And.intro k3 k4))); clear k1 k2 k3 k4))
    have HRz : Blk wz rb 40 zOrd := K.out.1
    refine bodyPost_ret (v := .tuple #[.agg zOrd.toArray, .int .i64 2]) (big.res_cell_tmp stOrd' Tryd.results11 rfl rfl HRz.cells rfl) rfl ?_
    rw [HEE.out]
    exact ⟨rfl, HB0.out.trans (K.out.2.2.2.mono (by omega))⟩
    -- ]]
  have hnt' : ((nt : Int) == 0) = false := by simp; omega
  by_cases hnp : np = 0
  · have hnp' : ((np : Int) == 0) = true := by rw [hnp]; rfl
    have HEE : Hid (ordE seed x = .error 2) := Lib.hid (by rw [HE.out, if_neg h10, if_pos (Or.inr hnp)])
    -- [[
    go_wp2_with (first
      | ((with_reducible refine wpList_buildL bOrd rfl _ rfl _ zOrd ?_ (by kernel_rfl) ?_); exact rfl)
      | ((with_reducible refine wpList_storeL stOrd' rfl _ _ rfl rb zOrd zOrd ?_ ?_ ?_ ?_ ?_ (by decide) ?_); exact rfl; exact rfl; exact HR0.out; exact rfl; exact rfl; intro wz k1 k2 k3 k4; have K := Lib.hid (And.intro k1 (And.intro k2 (And.intro k3 k4))); clear k1 k2 k3 k4))
    have HRz : Blk wz rb 40 zOrd := K.out.1
    refine bodyPost_ret (v := .tuple #[.agg zOrd.toArray, .int .i64 2]) (big.res_cell_tmp stOrd' Tryd.results11 rfl rfl HRz.cells rfl) rfl ?_
    rw [HEE.out]
    exact ⟨rfl, HB0.out.trans (K.out.2.2.2.mono (by omega))⟩
    -- ]]
  have hnp' : ((np : Int) == 0) = false := by simp; omega
  have HEE : Hid (ordE seed x = .ok (ordF seed (flt.dimsN x.types) np no)) := Lib.hid (by rw [HE.out, if_neg h10, if_neg (by omega)])
  clear HE
  go_upto_region 6 with fail
  clear c3 c2 c0
  have hG5 : GS (W0.alloc (.cells #[.int .i64 seed] 48)) W0.heap.size 48 seed (W0.alloc (.cells #[.int .i64 seed] 48)) := GS.start (Boxed.new W0 _ _)
  have hf5 : ∀ K, Fr K W0 (W0.alloc (.cells #[.int .i64 seed] 48)) := fun K => Fr.below ((Below.refl _ _).alloc (Nat.le_refl _) _)
  obtain ⟨W5, hW5⟩ : ∃ W, W0.alloc (.cells #[.int .i64 seed] 48) = W := ⟨_, rfl⟩
  have hl3 : W0.heap.size < W5.heap.size := by rw [← hW5]; simp
  have HB5 : Hid (Below w.heap.size w W5) := Lib.hid (by rw [← hW5]; exact HB0.out.alloc (by omega) _)
  rw [hW5] at hG5 hf5 ⊢
  obtain ⟨p, hp⟩ : ∃ p, W0.heap.size = p := ⟨_, rfl⟩
  have HP := Lib.hid hp
  rw [hp] at hG5 hl2 hl3 ⊢
  have HF5 := Lib.hid hf5
  have HG5 := Lib.hid hG5
  clear hW5 hG5 hf5 hp
  go_upto_region 7 with fail
  have hG6 := HG5.out.alloc (.cells #[.int .i64 (-1), .int .i64 0, .int .i64 0, .int .i64 0] 38)
  have hN6 : Blk (W5.alloc (.cells #[.int .i64 (-1), .int .i64 0, .int .i64 0, .int .i64 0] 38)) W5.heap.size 38 (stpC (-1) 0 0 0) := Blk.new W5 _ (stpC (-1) 0 0 0)
  have hf6 : ∀ K, Fr K W0 (W5.alloc (.cells #[.int .i64 (-1), .int .i64 0, .int .i64 0, .int .i64 0] 38)) := fun K => (HF5.out K).trans (Fr.below ((Below.refl _ _).alloc (Nat.le_refl _) _))
  obtain ⟨W6, hW6⟩ : ∃ W, W5.alloc (.cells #[.int .i64 (-1), .int .i64 0, .int .i64 0, .int .i64 0] 38) = W := ⟨_, rfl⟩
  obtain ⟨nb, hnb⟩ : ∃ p, W5.heap.size = p := ⟨_, rfl⟩
  rw [hW6] at hG6 hN6 hf6 ⊢
  have HNB : Hid (W5.heap.size ≤ nb) := Lib.hid (by omega)
  rw [hnb] at hN6 hl3 ⊢
  have HG6 := Lib.hid hG6
  have HN6 := Lib.hid hN6
  have HF6 := Lib.hid hf6
  have hl4 := hN6.lt
  clear hG6 hN6 hf6 hW6 HG5 hnb
  have hds := decS_size no
  go_cut [8] (fun v wx => v = .pointer (some ⟨W6.heap.size, 0, none⟩) ∧ GS W5 p 48 seed wx ∧ Blk wx W6.heap.size 40 (ordL (ordN no) (.slice none 0 0) (-1) 0 0 0 (-1) 0 0 0 0 0) ∧ Fr (fun q => q < W0.heap.size ∧ q ≠ rb) W0 wx)
  case first => as_aux_lemma =>
    -- [[
    have c3 := (HX.out W6 (HF6.out _)).1
    (refine wp_region_held_drew (S := (fun w' => w'.cell? ⟨w.heap.size, 3, none⟩ = some (.slice P.a3 no P.c3) ∧ CellsAt w' ⟨nb, 0, none⟩ (stpC (-1) 0 0 0))) (by kernel_rfl) ?_ (fun hHeld => ?_))
    · exact ⟨c3, HN6.out.cells⟩
    (refine wpAnyH_take (i := 0) (v := ?_) rfl (by kernel_rfl) (by kernel_rfl) (by kernel_rfl) (fun _ _ _ h => h) (Or.inl ⟨by kernel_rfl, ?_⟩) (by assumption) ?_; rotate_left; (focus (intro w hSw; (try dsimp only at hSw); go_simp; all_goals with_reducible rfl)); (try simp only [Act.put, List.getElem_toArray, List.getElem_cons_succ, List.getElem_cons_zero, List.setIfInBounds_toArray, List.set_cons_zero, List.set_cons_succ]))
    (refine wpAnyH_take (i := 1) (v := ?_) rfl (by kernel_rfl) (by kernel_rfl) (by kernel_rfl) (fun _ _ _ h => h) (Or.inl ⟨by kernel_rfl, ?_⟩) (by assumption) ?_; rotate_left; (focus (intro w hSw; (try dsimp only at hSw); go_simp; all_goals with_reducible rfl)); (try simp only [Act.put, List.getElem_toArray, List.getElem_cons_succ, List.getElem_cons_zero, List.setIfInBounds_toArray, List.set_cons_zero, List.set_cons_succ]))
    (refine wpAnyH_take (i := 2) (v := ?_) rfl (by kernel_rfl) (by kernel_rfl) (by kernel_rfl) (fun _ _ _ h => h) (Or.inl ⟨by kernel_rfl, ?_⟩) (by assumption) ?_; rotate_left; (focus (intro w hSw; (try dsimp only at hSw); go_simp; all_goals with_reducible rfl)); (try simp only [Act.put, List.getElem_toArray, List.getElem_cons_succ, List.getElem_cons_zero, List.setIfInBounds_toArray, List.set_cons_zero, List.set_cons_succ]))
    (refine wpAnyH_take (i := 5) (v := _) rfl (by kernel_rfl) (by kernel_rfl) (by kernel_rfl) (fun _ _ _ h => h) (Or.inl ⟨by kernel_rfl, fun _ hSw => exec_loadS stStp rfl rfl hSw.2 rfl⟩) (by assumption) ?_; (try simp only [Act.put, List.getElem_toArray, List.getElem_cons_succ, List.getElem_cons_zero, List.setIfInBounds_toArray, List.set_cons_zero, List.set_cons_succ]))
    (refine wpAnyH_take (i := 6) (v := _) rfl (by kernel_rfl) (by kernel_rfl) (by kernel_rfl) (fun _ _ _ h => h) (Or.inl ⟨by kernel_rfl, fun _ hSw => exec_loadS stStp rfl rfl hSw.2 rfl⟩) (by assumption) ?_; (try simp only [Act.put, List.getElem_toArray, List.getElem_cons_succ, List.getElem_cons_zero, List.setIfInBounds_toArray, List.set_cons_zero, List.set_cons_succ]))
    have hal : Below W6.heap.size W6 (W6.alloc (.cells zOrd.toArray 40)) := (Below.refl _ _).alloc (Nat.le_refl _) _
    have HFa : Hid (Fr (fun q => q < W0.heap.size ∧ q ≠ rb) W0 (W6.alloc (.cells zOrd.toArray 40))) := Lib.hid ((HF6.out _).trans (Fr.below hal))
    have HNa : Hid (Blk (W6.alloc (.cells zOrd.toArray 40)) nb 38 (stpC (-1) 0 0 0)) := Lib.hid (HN6.out.below hal)
    have HAa : Hid (Blk (W6.alloc (.cells zOrd.toArray 40)) W6.heap.size 40 zOrd) := Lib.hid (Blk.new W6 _ zOrd)
    have HGa := Lib.hid (HG6.out.alloc (.cells zOrd.toArray 40))
    refine wpAnyH_ready (rs := [3, 8]) (by kernel_rfl) (by simp) ?_
    refine AllReadyH.cons rfl (fun K hK => ?_) (AllReadyH.cons rfl (fun K hK => ?_) AllReadyH.nil)
    · go_simp
      refine (dec_any no (by omega) W6.drew).mono ?_
      rintro e w1 ⟨rfl, rfl⟩
      refine hK.out _ _ ((⟨c3, HN6.out.cells⟩)) (fun hHeld => ?_)
      clear hK K
      (try simp only [Act.put, List.getElem_toArray, List.getElem_cons_succ, List.getElem_cons_zero, List.setIfInBounds_toArray, List.set_cons_zero, List.set_cons_succ])
      (refine wpAnyH_take (i := 4) (v := ?_) rfl (by kernel_rfl) (by kernel_rfl) (by kernel_rfl) (fun _ _ _ h => h) (Or.inl ⟨by kernel_rfl, ?_⟩) (by assumption) ?_; rotate_left; (focus (intro w hSw; (try dsimp only at hSw); go_simp; rw [if_neg (show ¬ 9223372036854775807 < 1 + (decS no).size by omega)]; try with_reducible rfl)); (try simp only [Act.put, List.getElem_toArray, List.getElem_cons_succ, List.getElem_cons_zero, List.setIfInBounds_toArray, List.set_cons_zero, List.set_cons_succ]))
      rw [show (⟨#[111]⟩ : ByteArray) ++ decS no = ordN no from rfl]
      (refine wpAnyH_take (i := 7) (v := _) rfl (by kernel_rfl) (by kernel_rfl) (by kernel_rfl) (fun _ _ _ h => h) (Or.inl ⟨by kernel_rfl, fun _ hSw => exec_buildL bOrd _ rfl (ordV (ordN no)) (ordL (ordN no) (.slice none 0 0) (-1) 0 0 0 (-1) 0 0 0 0 0) rfl (ord_fillL (ordN no))⟩) (by assumption) ?_; (try simp only [Act.put, List.getElem_toArray, List.getElem_cons_succ, List.getElem_cons_zero, List.setIfInBounds_toArray, List.set_cons_zero, List.set_cons_succ]))
      (refine wpAnyH_ready (rs := [8]) (by kernel_rfl) (by simp) ?_; refine AllReadyH.cons rfl (fun K hK => ?_) AllReadyH.nil)
      go_simp
      refine hK.out _ _ ((⟨(HX.out _ HFa.out).1, HNa.out.cells⟩)) (fun hHeld => ?_)
      clear hK K
      (try simp only [Act.put, List.getElem_toArray, List.getElem_cons_succ, List.getElem_cons_zero, List.setIfInBounds_toArray, List.set_cons_zero, List.set_cons_succ])
      (refine wpAnyH_ready (rs := [9]) (by kernel_rfl) (by simp) ?_; refine AllReadyH.cons rfl (fun K hK => ?_) AllReadyH.nil)
      refine step_storeL stOrd' rfl _ _ rfl W6.heap.size zOrd (ordL (ordN no) (.slice none 0 0) (-1) 0 0 0 (-1) 0 0 0 0 0) rfl rfl HAa.out rfl rfl (ordL_one rfl) ?_
      intro w8 k1 k2 k3 k4
      have hfr : Fr (fun q => q < W6.heap.size) (W6.alloc (.cells zOrd.toArray 40)) w8 := ⟨by rw [k3]; exact Nat.le_refl _, fun q _ hq => k2 q (by omega)⟩
      have k5 : Below W6.heap.size (W6.alloc (.cells zOrd.toArray 40)) w8 := by first | exact k4 | exact ((Below.refl _ _).drew).trans k4
      have HG8 := Lib.hid (HGa.out.store (g := W6.heap.size) (by have := HG6.out.size; omega) k2 k5)
      have HB8 : Hid (Blk w8 W6.heap.size 40 (ordL (ordN no) (.slice none 0 0) (-1) 0 0 0 (-1) 0 0 0 0 0)) := Lib.hid k1
      have HF8 := Lib.hid (HFa.out.trans (hfr.weak (fun q h => by have := h.1; have := HG6.out.lt; have := HP.out; omega)))
      have HN8 := Lib.hid (HNa.out.fr hfr hl4)
      clear k1 k2 k3 k4 k5 hfr
      refine hK.out _ _ ((⟨(HX.out _ HF8.out).1, HN8.out.cells⟩)) (fun hHeld => ?_)
      clear hK K
      (try simp only [Act.put, List.getElem_toArray, List.getElem_cons_succ, List.getElem_cons_zero, List.setIfInBounds_toArray, List.set_cons_zero, List.set_cons_succ])
      (refine wpAnyH_done (by kernel_rfl) ?_ _)
      go_wp2
      go_meet
      exact ⟨rfl, HG8.out, HB8.out, HF8.out⟩
    · go_simp
      refine hK.out _ _ ((⟨(HX.out _ HFa.out).1, HNa.out.cells⟩)) (fun hHeld => ?_)
      clear hK K
      (try simp only [Act.put, List.getElem_toArray, List.getElem_cons_succ, List.getElem_cons_zero, List.setIfInBounds_toArray, List.set_cons_zero, List.set_cons_succ])
      (refine wpAnyH_ready (rs := [3]) (by kernel_rfl) (by simp) ?_; refine AllReadyH.cons rfl (fun K hK => ?_) AllReadyH.nil)
      go_simp
      refine (dec_any no (by omega) _).mono ?_
      rintro e w1 ⟨rfl, rfl⟩
      refine hK.out _ _ ((⟨(HX.out _ HFa.out).1, HNa.out.cells⟩)) (fun hHeld => ?_)
      clear hK K
      (try simp only [Act.put, List.getElem_toArray, List.getElem_cons_succ, List.getElem_cons_zero, List.setIfInBounds_toArray, List.set_cons_zero, List.set_cons_succ])
      (refine wpAnyH_take (i := 4) (v := ?_) rfl (by kernel_rfl) (by kernel_rfl) (by kernel_rfl) (fun _ _ _ h => h) (Or.inl ⟨by kernel_rfl, ?_⟩) (by assumption) ?_; rotate_left; (focus (intro w hSw; (try dsimp only at hSw); go_simp; rw [if_neg (show ¬ 9223372036854775807 < 1 + (decS no).size by omega)]; try with_reducible rfl)); (try simp only [Act.put, List.getElem_toArray, List.getElem_cons_succ, List.getElem_cons_zero, List.setIfInBounds_toArray, List.set_cons_zero, List.set_cons_succ]))
      rw [show (⟨#[111]⟩ : ByteArray) ++ decS no = ordN no from rfl]
      (refine wpAnyH_take (i := 7) (v := _) rfl (by kernel_rfl) (by kernel_rfl) (by kernel_rfl) (fun _ _ _ h => h) (Or.inl ⟨by kernel_rfl, fun _ hSw => exec_buildL bOrd _ rfl (ordV (ordN no)) (ordL (ordN no) (.slice none 0 0) (-1) 0 0 0 (-1) 0 0 0 0 0) rfl (ord_fillL (ordN no))⟩) (by assumption) ?_; (try simp only [Act.put, List.getElem_toArray, List.getElem_cons_succ, List.getElem_cons_zero, List.setIfInBounds_toArray, List.set_cons_zero, List.set_cons_succ]))
      (refine wpAnyH_ready (rs := [9]) (by kernel_rfl) (by simp) ?_; refine AllReadyH.cons rfl (fun K hK => ?_) AllReadyH.nil)
      refine step_storeL stOrd' rfl _ _ rfl W6.heap.size zOrd (ordL (ordN no) (.slice none 0 0) (-1) 0 0 0 (-1) 0 0 0 0 0) rfl rfl HAa.out rfl rfl (ordL_one rfl) ?_
      intro w8 k1 k2 k3 k4
      have hfr : Fr (fun q => q < W6.heap.size) (W6.alloc (.cells zOrd.toArray 40)) w8 := ⟨by rw [k3]; exact Nat.le_refl _, fun q _ hq => k2 q (by omega)⟩
      have k5 : Below W6.heap.size (W6.alloc (.cells zOrd.toArray 40)) w8 := by first | exact k4 | exact ((Below.refl _ _).drew).trans k4
      have HG8 := Lib.hid (HGa.out.store (g := W6.heap.size) (by have := HG6.out.size; omega) k2 k5)
      have HB8 : Hid (Blk w8 W6.heap.size 40 (ordL (ordN no) (.slice none 0 0) (-1) 0 0 0 (-1) 0 0 0 0 0)) := Lib.hid k1
      have HF8 := Lib.hid (HFa.out.trans (hfr.weak (fun q h => by have := h.1; have := HG6.out.lt; have := HP.out; omega)))
      have HN8 := Lib.hid (HNa.out.fr hfr hl4)
      clear k1 k2 k3 k4 k5 hfr
      refine hK.out _ _ ((⟨(HX.out _ HF8.out).1, HN8.out.cells⟩)) (fun hHeld => ?_)
      clear hK K
      (try simp only [Act.put, List.getElem_toArray, List.getElem_cons_succ, List.getElem_cons_zero, List.setIfInBounds_toArray, List.set_cons_zero, List.set_cons_succ])
      (refine wpAnyH_done (by kernel_rfl) ?_ _)
      go_wp2
      go_meet
      exact ⟨rfl, HG8.out, HB8.out, HF8.out⟩
    -- ]]
  obtain ⟨hv8, hG8, hB8, hF8⟩ := hcut
  subst hv8
  have hlo : nb < W6.heap.size := hl4
  obtain ⟨ob, hob⟩ : ∃ b, W6.heap.size = b := ⟨_, rfl⟩
  rw [hob] at hB8 hlo ⊢
  have HG8 := Lib.hid hG8
  have HB8 := Lib.hid hB8
  have HF8 := Lib.hid hF8
  clear hG8 hB8 hF8 hob HG6 HN6 HF6 hl4
  have c2 := (HX.out _ HF8.out).2.1
  obtain ⟨dm, hdm⟩ : ∃ d, flt.dimsN x.types = d := ⟨_, rfl⟩
  have hwp : w.heap.size < p := by omega
  have HDI : Hid (Calls Tryd.prog 22 #[.slice P.a2 nt P.c2] wc fun e w' => e = .returned (.int .i64 dm) ∧ wc = w') := Lib.hid (by
    have hb := HB5.out.trans (HG8.out.bel (B := w.heap.size) (by omega))
    have h := flt.dims_any P.a2 P.c2 x.types wc w.heap.size (HH.out.types.below hb)
    rw [hdm, HNN.out.2.1] at h
    exact h)
  rw [hdm] at hd
  have HDM := Lib.hid hdm
  clear hdm
  go_wp2_with fail
  refine HDI.out.mono ?_
  rintro e w9 ⟨rfl, rfl⟩
  clear c2
  obtain ⟨B1, hB1⟩ : ∃ B, wc.heap.size = B := ⟨_, rfl⟩
  have hob1 : ob < B1 := by rw [← hB1]; exact HB8.out.lt
  have HZ8 : Hid (B1 ≤ wc.heap.size) := Lib.hid (by omega)
  have hW5p := HG8.out.lt
  have h5B : W5.heap.size ≤ nb := HNB.out
  clear hB1
  go_wp2_with fail
  go_loopw [44] (fun i wr => ∃ (k : Nat) (A : Option Addr) (c : Nat), k ≤ dm ∧ i = .int .i64 k ∧ Hid (GS W5 p 48 (nx k seed) wr) ∧ Hid (Blk wr ob 40 (ordL (ordN no) (.slice A k c) (-1) 0 0 0 (-1) 0 0 0 0 0)) ∧ Hid (wr.ownsRow B1 3 1 (.slice A k c) k ((loadTo seed k).map (.int .i64))) ∧ Hid (Fr (fun q => q < W0.heap.size ∧ q ≠ rb) W0 wr) ∧ Hid (B1 ≤ wr.heap.size)) (fun i _ => dm - (intOf i).toNat)
  case atStart => exact ⟨0, none, 0, by omega, rfl, HG8, HB8, Lib.hid (World.ownsRow_nil _ _ _ _), HF8, HZ8⟩
  case round =>
    clear HG8 HB8 HF8 HZ8
    obtain ⟨k, A, c, hk, rfl, HG, HB, HO, HF, HZ⟩ := hrel
    have hBz := HZ.out
    by_cases hlt : k < dm
    · have hk0 : (0 : Int) ≤ (k : Int) := by omega
      have hkd : (k : Int) < (dm : Int) := by omega
      -- [[
      go_upto_region 10 with fail
      have ci : wr.drew.cell? ⟨ob, 1, none⟩ = some (.slice A k c) := HB.out.cell (j := 1) rfl
      (refine wp_region_held_drew (S := (fun _ => True)) (by kernel_rfl) ?_ (fun hHeld => ?_))
      · trivial
      (refine wpAnyH_take (i := 0) (v := ?_) rfl (by kernel_rfl) (by kernel_rfl) (by kernel_rfl) (fun _ _ _ h => h) (Or.inl ⟨by kernel_rfl, ?_⟩) (by assumption) ?_; rotate_left; (focus (intro w hSw; (try dsimp only at hSw); go_simp; all_goals with_reducible rfl)); (try simp only [Act.put, List.getElem_toArray, List.getElem_cons_succ, List.getElem_cons_zero, List.setIfInBounds_toArray, List.set_cons_zero, List.set_cons_succ]))
      (refine wpAnyH_take (i := 2) (v := ?_) rfl (by kernel_rfl) (by kernel_rfl) (by kernel_rfl) (fun _ _ _ h => h) (Or.inl ⟨by kernel_rfl, ?_⟩) (by assumption) ?_; rotate_left; (focus (intro w hSw; (try dsimp only at hSw); go_simp; all_goals with_reducible rfl)); (try simp only [Act.put, List.getElem_toArray, List.getElem_cons_succ, List.getElem_cons_zero, List.setIfInBounds_toArray, List.set_cons_zero, List.set_cons_succ]))
      refine wpAnyH_ready (rs := [1, 3]) (by kernel_rfl) (by simp) ?_
      refine AllReadyH.cons rfl (fun K hK => ?_) (AllReadyH.cons rfl (fun K hK => ?_) AllReadyH.nil)
      · go_simp
        clear ci
        refine hK.out _ _ (trivial) (fun hHeld => ?_)
        clear hK K
        (try simp only [Act.put, List.getElem_toArray, List.getElem_cons_succ, List.getElem_cons_zero, List.setIfInBounds_toArray, List.set_cons_zero, List.set_cons_succ])
        (refine wpAnyH_ready (rs := [3]) (by kernel_rfl) (by simp) ?_; refine AllReadyH.cons rfl (fun K hK => ?_) AllReadyH.nil)
        go_simp
        refine (from_any p (nx k seed) 0 9 wr.drew (show Boxed wr.drew p _ _ from HG.out.box) (by omega) (by omega) (by omega)).mono ?_
        rintro e w9 ⟨rfl, hbx, hgr0⟩
        have hgr : wr.grownBy w9 (some p) := ⟨hgr0.os, hgr0.tape, hgr0.output, hgr0.size, hgr0.block⟩
        obtain ⟨v, hv⟩ : ∃ v, frm (nx k seed) 0 9 = v := ⟨_, rfl⟩
        rw [hv]
        have Hv := Lib.hid hv
        have HG9 := Lib.hid (HG.out.draw hbx hgr)
        have HB9 := Lib.hid (HB.out.kept hgr (fun e => by injection e; omega))
        have HO9 := Lib.hid (own_draw HO.out (by omega) hgr)
        have HF9 := Lib.hid (HF.out.trans (Fr.grown hgr (fun q h e => by have h1 := h.1; have h2 := HP.out; injection e; omega)))
        have hz9 : B1 ≤ w9.heap.size := Nat.le_trans hBz hgr.size
        clear hbx hgr hgr0 hv
        refine hK.out _ _ (trivial) (fun hHeld => ?_)
        clear hK K
        (try simp only [Act.put, List.getElem_toArray, List.getElem_cons_succ, List.getElem_cons_zero, List.setIfInBounds_toArray, List.set_cons_zero, List.set_cons_succ])
        have bl : Below w9.heap.size w9 (w9.alloc (.cells #[.int .i64 v] 3)) := (Below.refl _ _).alloc (Nat.le_refl _) _
        have HGa := Lib.hid (HG9.out.below bl)
        have HBa := Lib.hid (HB9.out.below bl)
        have HOa := Lib.hid (own_below HO9.out bl)
        have HFa := Lib.hid (HF9.out.trans (Fr.below bl))
        have hza : B1 ≤ (w9.alloc (.cells #[.int .i64 v] 3)).heap.size := Nat.le_trans hz9 bl.size
        (refine wpAnyH_ready (rs := [4]) (by kernel_rfl) (by simp) ?_; refine AllReadyH.cons rfl (fun K hK => ?_) AllReadyH.nil)
        go_simp
        refine hK.out _ _ (trivial) (fun hHeld => ?_)
        clear hK K
        (try simp only [Act.put, List.getElem_toArray, List.getElem_cons_succ, List.getElem_cons_zero, List.setIfInBounds_toArray, List.set_cons_zero, List.set_cons_succ])
        (refine wpAnyH_ready (rs := [5]) (by kernel_rfl) (by simp) ?_; refine AllReadyH.cons rfl (fun K hK => ?_) AllReadyH.nil)
        refine step_app int_elem _ _ rfl B1 A k c ((loadTo seed k).map (.int .i64)) rfl HOa.out ⟨w9.heap.size, 0, none⟩ 1 [.int .i64 v] rfl rfl (cell_one_new _ _ _) (fun u hu => by rw [List.mem_singleton] at hu; rw [hu]; rfl) (by omega) hza rfl ?_
        intro g7 c7 w7 hown7 hg7 hx7
        have HG7 := Lib.hid (HGa.out.grow hg7 (fun q e => by have := (World.ownsRow.lt HOa.out q e).1; omega))
        have hne : ∀ q, q < B1 → some q ≠ (Value.slice A k c).ownBlock := fun q hq e => by have := (World.ownsRow.lt HOa.out q e.symm).1; omega
        have HB7 := Lib.hid (HBa.out.kept hg7 (hne _ (by omega)))
        have HF7 := Lib.hid (HFa.out.trans (Fr.grown hg7 (fun q h => hne q (by have h1 := h.1; have h2 := HP.out; omega))))
        have HO7 : Hid (w7.ownsRow B1 3 1 (.slice (some ⟨g7, 0, none⟩) (k + 1) c7) (k + 1) ((loadTo seed (k + 1)).map (.int .i64))) := Lib.hid (by rw [loadTo, List.map_append, Hv.out]; exact hown7)
        have hz7 := hg7.size
        clear hown7 hg7 hx7 hne
        refine hK.out _ _ (trivial) (fun hHeld => ?_)
        clear hK K
        (try simp only [Act.put, List.getElem_toArray, List.getElem_cons_succ, List.getElem_cons_zero, List.setIfInBounds_toArray, List.set_cons_zero, List.set_cons_succ])
        (refine wpAnyH_take (i := 6) (v := ?_) rfl (by kernel_rfl) (by kernel_rfl) (by kernel_rfl) (fun _ _ _ h => h) (Or.inl ⟨by kernel_rfl, ?_⟩) (by assumption) ?_; rotate_left; (focus (intro w hSw; (try dsimp only at hSw); go_simp; all_goals with_reducible rfl)); (try simp only [Act.put, List.getElem_toArray, List.getElem_cons_succ, List.getElem_cons_zero, List.setIfInBounds_toArray, List.set_cons_zero, List.set_cons_succ]))
        have ci := HB7.out.cell (j := 1) rfl
        have fi := HB7.out.frozen 1
        (refine wpAnyH_ready (rs := [7]) (by kernel_rfl) (by simp) ?_; refine AllReadyH.cons rfl (fun K hK => ?_) AllReadyH.nil)
        go_simp
        clear ci fi
        have hzz : B1 ≤ (w7.setCell ⟨ob, 1, none⟩ (.slice (some ⟨g7, 0, none⟩) (k + 1) c7)).heap.size := by simp [World.setCell]; omega
        have HGb := Lib.hid (HG7.out.set (b := ob) (by omega) 1 (.slice (some ⟨g7, 0, none⟩) (k + 1) c7))
        have HBb : Hid (Blk (w7.setCell ⟨ob, 1, none⟩ (.slice (some ⟨g7, 0, none⟩) (k + 1) c7)) ob 40 (ordL (ordN no) (.slice (some ⟨g7, 0, none⟩) (k + 1) c7) (-1) 0 0 0 (-1) 0 0 0 0 0)) := Lib.hid (HB7.out.set 1 _)
        have HOb := Lib.hid (own_fr HO7.out (Fr.set (q := ob) w7 1 (.slice (some ⟨g7, 0, none⟩) (k + 1) c7) (fun q h => by have h' : B1 ≤ q := h; omega)))
        have HFb := Lib.hid (HF7.out.trans (Fr.set (q := ob) w7 1 (.slice (some ⟨g7, 0, none⟩) (k + 1) c7) (fun q h => by have h1 := h.1; have h2 := HP.out; omega)))
        have HZb := Lib.hid hzz
        clear hzz
        refine hK.out _ _ (trivial) (fun hHeld => ?_)
        clear hK K
        (try simp only [Act.put, List.getElem_toArray, List.getElem_cons_succ, List.getElem_cons_zero, List.setIfInBounds_toArray, List.set_cons_zero, List.set_cons_succ])
        (refine wpAnyH_done (by kernel_rfl) ?_ _)
        go_wp2
        exact ⟨⟨k + 1, some ⟨g7, 0, none⟩, c7, by omega, by go_num, HGb, HBb, HOb, HFb, HZb⟩, by simp [intOf]; omega⟩
      · clear ci
        go_simp
        refine (from_any p (nx k seed) 0 9 wr.drew (show Boxed wr.drew p _ _ from HG.out.box) (by omega) (by omega) (by omega)).mono ?_
        rintro e w9 ⟨rfl, hbx, hgr0⟩
        have hgr : wr.grownBy w9 (some p) := ⟨hgr0.os, hgr0.tape, hgr0.output, hgr0.size, hgr0.block⟩
        obtain ⟨v, hv⟩ : ∃ v, frm (nx k seed) 0 9 = v := ⟨_, rfl⟩
        rw [hv]
        have Hv := Lib.hid hv
        have HG9 := Lib.hid (HG.out.draw hbx hgr)
        have HB9 := Lib.hid (HB.out.kept hgr (fun e => by injection e; omega))
        have HO9 := Lib.hid (own_draw HO.out (by omega) hgr)
        have HF9 := Lib.hid (HF.out.trans (Fr.grown hgr (fun q h e => by have h1 := h.1; have h2 := HP.out; injection e; omega)))
        have hz9 : B1 ≤ w9.heap.size := Nat.le_trans hBz hgr.size
        clear hbx hgr hgr0 hv
        refine hK.out _ _ (trivial) (fun hHeld => ?_)
        clear hK K
        (try simp only [Act.put, List.getElem_toArray, List.getElem_cons_succ, List.getElem_cons_zero, List.setIfInBounds_toArray, List.set_cons_zero, List.set_cons_succ])
        refine wpAnyH_ready (rs := [1, 4]) (by kernel_rfl) (by simp) ?_
        refine AllReadyH.cons rfl (fun K hK => ?_) (AllReadyH.cons rfl (fun K hK => ?_) AllReadyH.nil)
        · have ci := HB9.out.cell (j := 1) rfl
          go_simp
          clear ci
          refine hK.out _ _ (trivial) (fun hHeld => ?_)
          clear hK K
          (try simp only [Act.put, List.getElem_toArray, List.getElem_cons_succ, List.getElem_cons_zero, List.setIfInBounds_toArray, List.set_cons_zero, List.set_cons_succ])
          have bl : Below w9.heap.size w9 (w9.alloc (.cells #[.int .i64 v] 3)) := (Below.refl _ _).alloc (Nat.le_refl _) _
          have HGa := Lib.hid (HG9.out.below bl)
          have HBa := Lib.hid (HB9.out.below bl)
          have HOa := Lib.hid (own_below HO9.out bl)
          have HFa := Lib.hid (HF9.out.trans (Fr.below bl))
          have hza : B1 ≤ (w9.alloc (.cells #[.int .i64 v] 3)).heap.size := Nat.le_trans hz9 bl.size
          (refine wpAnyH_ready (rs := [4]) (by kernel_rfl) (by simp) ?_; refine AllReadyH.cons rfl (fun K hK => ?_) AllReadyH.nil)
          go_simp
          refine hK.out _ _ (trivial) (fun hHeld => ?_)
          clear hK K
          (try simp only [Act.put, List.getElem_toArray, List.getElem_cons_succ, List.getElem_cons_zero, List.setIfInBounds_toArray, List.set_cons_zero, List.set_cons_succ])
          (refine wpAnyH_ready (rs := [5]) (by kernel_rfl) (by simp) ?_; refine AllReadyH.cons rfl (fun K hK => ?_) AllReadyH.nil)
          refine step_app int_elem _ _ rfl B1 A k c ((loadTo seed k).map (.int .i64)) rfl HOa.out ⟨w9.heap.size, 0, none⟩ 1 [.int .i64 v] rfl rfl (cell_one_new _ _ _) (fun u hu => by rw [List.mem_singleton] at hu; rw [hu]; rfl) (by omega) hza rfl ?_
          intro g7 c7 w7 hown7 hg7 hx7
          have HG7 := Lib.hid (HGa.out.grow hg7 (fun q e => by have := (World.ownsRow.lt HOa.out q e).1; omega))
          have hne : ∀ q, q < B1 → some q ≠ (Value.slice A k c).ownBlock := fun q hq e => by have := (World.ownsRow.lt HOa.out q e.symm).1; omega
          have HB7 := Lib.hid (HBa.out.kept hg7 (hne _ (by omega)))
          have HF7 := Lib.hid (HFa.out.trans (Fr.grown hg7 (fun q h => hne q (by have h1 := h.1; have h2 := HP.out; omega))))
          have HO7 : Hid (w7.ownsRow B1 3 1 (.slice (some ⟨g7, 0, none⟩) (k + 1) c7) (k + 1) ((loadTo seed (k + 1)).map (.int .i64))) := Lib.hid (by rw [loadTo, List.map_append, Hv.out]; exact hown7)
          have hz7 := hg7.size
          clear hown7 hg7 hx7 hne
          refine hK.out _ _ (trivial) (fun hHeld => ?_)
          clear hK K
          (try simp only [Act.put, List.getElem_toArray, List.getElem_cons_succ, List.getElem_cons_zero, List.setIfInBounds_toArray, List.set_cons_zero, List.set_cons_succ])
          (refine wpAnyH_take (i := 6) (v := ?_) rfl (by kernel_rfl) (by kernel_rfl) (by kernel_rfl) (fun _ _ _ h => h) (Or.inl ⟨by kernel_rfl, ?_⟩) (by assumption) ?_; rotate_left; (focus (intro w hSw; (try dsimp only at hSw); go_simp; all_goals with_reducible rfl)); (try simp only [Act.put, List.getElem_toArray, List.getElem_cons_succ, List.getElem_cons_zero, List.setIfInBounds_toArray, List.set_cons_zero, List.set_cons_succ]))
          have ci := HB7.out.cell (j := 1) rfl
          have fi := HB7.out.frozen 1
          (refine wpAnyH_ready (rs := [7]) (by kernel_rfl) (by simp) ?_; refine AllReadyH.cons rfl (fun K hK => ?_) AllReadyH.nil)
          go_simp
          clear ci fi
          have hzz : B1 ≤ (w7.setCell ⟨ob, 1, none⟩ (.slice (some ⟨g7, 0, none⟩) (k + 1) c7)).heap.size := by simp [World.setCell]; omega
          have HGb := Lib.hid (HG7.out.set (b := ob) (by omega) 1 (.slice (some ⟨g7, 0, none⟩) (k + 1) c7))
          have HBb : Hid (Blk (w7.setCell ⟨ob, 1, none⟩ (.slice (some ⟨g7, 0, none⟩) (k + 1) c7)) ob 40 (ordL (ordN no) (.slice (some ⟨g7, 0, none⟩) (k + 1) c7) (-1) 0 0 0 (-1) 0 0 0 0 0)) := Lib.hid (HB7.out.set 1 _)
          have HOb := Lib.hid (own_fr HO7.out (Fr.set (q := ob) w7 1 (.slice (some ⟨g7, 0, none⟩) (k + 1) c7) (fun q h => by have h' : B1 ≤ q := h; omega)))
          have HFb := Lib.hid (HF7.out.trans (Fr.set (q := ob) w7 1 (.slice (some ⟨g7, 0, none⟩) (k + 1) c7) (fun q h => by have h1 := h.1; have h2 := HP.out; omega)))
          have HZb := Lib.hid hzz
          clear hzz
          refine hK.out _ _ (trivial) (fun hHeld => ?_)
          clear hK K
          (try simp only [Act.put, List.getElem_toArray, List.getElem_cons_succ, List.getElem_cons_zero, List.setIfInBounds_toArray, List.set_cons_zero, List.set_cons_succ])
          (refine wpAnyH_done (by kernel_rfl) ?_ _)
          go_wp2
          exact ⟨⟨k + 1, some ⟨g7, 0, none⟩, c7, by omega, by go_num, HGb, HBb, HOb, HFb, HZb⟩, by simp [intOf]; omega⟩
        · skip
          have bl : Below w9.heap.size w9 (w9.alloc (.cells #[.int .i64 v] 3)) := (Below.refl _ _).alloc (Nat.le_refl _) _
          have HGa := Lib.hid (HG9.out.below bl)
          have HBa := Lib.hid (HB9.out.below bl)
          have HOa := Lib.hid (own_below HO9.out bl)
          have HFa := Lib.hid (HF9.out.trans (Fr.below bl))
          have hza : B1 ≤ (w9.alloc (.cells #[.int .i64 v] 3)).heap.size := Nat.le_trans hz9 bl.size
          have ci := HBa.out.cell (j := 1) rfl
          go_simp
          refine hK.out _ _ (trivial) (fun hHeld => ?_)
          clear hK K
          (try simp only [Act.put, List.getElem_toArray, List.getElem_cons_succ, List.getElem_cons_zero, List.setIfInBounds_toArray, List.set_cons_zero, List.set_cons_succ])
          (refine wpAnyH_ready (rs := [1]) (by kernel_rfl) (by simp) ?_; refine AllReadyH.cons rfl (fun K hK => ?_) AllReadyH.nil)
          go_simp
          clear ci
          refine hK.out _ _ (trivial) (fun hHeld => ?_)
          clear hK K
          (try simp only [Act.put, List.getElem_toArray, List.getElem_cons_succ, List.getElem_cons_zero, List.setIfInBounds_toArray, List.set_cons_zero, List.set_cons_succ])
          (refine wpAnyH_ready (rs := [5]) (by kernel_rfl) (by simp) ?_; refine AllReadyH.cons rfl (fun K hK => ?_) AllReadyH.nil)
          refine step_app int_elem _ _ rfl B1 A k c ((loadTo seed k).map (.int .i64)) rfl HOa.out ⟨w9.heap.size, 0, none⟩ 1 [.int .i64 v] rfl rfl (cell_one_new _ _ _) (fun u hu => by rw [List.mem_singleton] at hu; rw [hu]; rfl) (by omega) hza rfl ?_
          intro g7 c7 w7 hown7 hg7 hx7
          have HG7 := Lib.hid (HGa.out.grow hg7 (fun q e => by have := (World.ownsRow.lt HOa.out q e).1; omega))
          have hne : ∀ q, q < B1 → some q ≠ (Value.slice A k c).ownBlock := fun q hq e => by have := (World.ownsRow.lt HOa.out q e.symm).1; omega
          have HB7 := Lib.hid (HBa.out.kept hg7 (hne _ (by omega)))
          have HF7 := Lib.hid (HFa.out.trans (Fr.grown hg7 (fun q h => hne q (by have h1 := h.1; have h2 := HP.out; omega))))
          have HO7 : Hid (w7.ownsRow B1 3 1 (.slice (some ⟨g7, 0, none⟩) (k + 1) c7) (k + 1) ((loadTo seed (k + 1)).map (.int .i64))) := Lib.hid (by rw [loadTo, List.map_append, Hv.out]; exact hown7)
          have hz7 := hg7.size
          clear hown7 hg7 hx7 hne
          refine hK.out _ _ (trivial) (fun hHeld => ?_)
          clear hK K
          (try simp only [Act.put, List.getElem_toArray, List.getElem_cons_succ, List.getElem_cons_zero, List.setIfInBounds_toArray, List.set_cons_zero, List.set_cons_succ])
          (refine wpAnyH_take (i := 6) (v := ?_) rfl (by kernel_rfl) (by kernel_rfl) (by kernel_rfl) (fun _ _ _ h => h) (Or.inl ⟨by kernel_rfl, ?_⟩) (by assumption) ?_; rotate_left; (focus (intro w hSw; (try dsimp only at hSw); go_simp; all_goals with_reducible rfl)); (try simp only [Act.put, List.getElem_toArray, List.getElem_cons_succ, List.getElem_cons_zero, List.setIfInBounds_toArray, List.set_cons_zero, List.set_cons_succ]))
          have ci := HB7.out.cell (j := 1) rfl
          have fi := HB7.out.frozen 1
          (refine wpAnyH_ready (rs := [7]) (by kernel_rfl) (by simp) ?_; refine AllReadyH.cons rfl (fun K hK => ?_) AllReadyH.nil)
          go_simp
          clear ci fi
          have hzz : B1 ≤ (w7.setCell ⟨ob, 1, none⟩ (.slice (some ⟨g7, 0, none⟩) (k + 1) c7)).heap.size := by simp [World.setCell]; omega
          have HGb := Lib.hid (HG7.out.set (b := ob) (by omega) 1 (.slice (some ⟨g7, 0, none⟩) (k + 1) c7))
          have HBb : Hid (Blk (w7.setCell ⟨ob, 1, none⟩ (.slice (some ⟨g7, 0, none⟩) (k + 1) c7)) ob 40 (ordL (ordN no) (.slice (some ⟨g7, 0, none⟩) (k + 1) c7) (-1) 0 0 0 (-1) 0 0 0 0 0)) := Lib.hid (HB7.out.set 1 _)
          have HOb := Lib.hid (own_fr HO7.out (Fr.set (q := ob) w7 1 (.slice (some ⟨g7, 0, none⟩) (k + 1) c7) (fun q h => by have h' : B1 ≤ q := h; omega)))
          have HFb := Lib.hid (HF7.out.trans (Fr.set (q := ob) w7 1 (.slice (some ⟨g7, 0, none⟩) (k + 1) c7) (fun q h => by have h1 := h.1; have h2 := HP.out; omega)))
          have HZb := Lib.hid hzz
          clear hzz
          refine hK.out _ _ (trivial) (fun hHeld => ?_)
          clear hK K
          (try simp only [Act.put, List.getElem_toArray, List.getElem_cons_succ, List.getElem_cons_zero, List.setIfInBounds_toArray, List.set_cons_zero, List.set_cons_succ])
          (refine wpAnyH_done (by kernel_rfl) ?_ _)
          go_wp2
          exact ⟨⟨k + 1, some ⟨g7, 0, none⟩, c7, by omega, by go_num, HGb, HBb, HOb, HFb, HZb⟩, by simp [intOf]; omega⟩
      -- ]]
    · have hkd : k = dm := by omega
      subst hkd
      clear hlt
      go_wp2_with fail
      refine (from_any p (nx k seed) 0 2 _ HG.out.box (by omega) (by omega) (by omega)).mono ?_
      rintro e w9 ⟨rfl, hbx, hgr⟩
      obtain ⟨kd, hkd⟩ : ∃ v, frm (nx k seed) 0 2 = v := ⟨_, rfl⟩
      have Bkd := frm_bd (s := nx k seed) (a := 0) (b := 2) (by omega)
      rw [hkd] at Bkd ⊢
      have HKD : Hid (kindF seed k = kd) := Lib.hid hkd
      have HPL : Hid (OPl W0 W5 p B1 ob) := Lib.hid ⟨HP.out, hW5p, by omega, hob1⟩
      have HO : Hid (OSt 48 W0 W5 rb p B1 ob (sPick seed k) (ordL (ordN no) (.slice A k c) (-1) 0 0 0 (-1) 0 0 0 0 0) A k c ((loadTo seed k).map (.int .i64)) w9) := Lib.hid ((OSt.mk HG.out HB.out HO.out HF.out HZ.out).draw HPL.out hbx hgr)
      clear hbx hgr hkd HG HB HF HZ hBz HDI
      obtain ⟨pk, hpk⟩ : ∃ pk, (if kindF seed k = 0 then noStp else stpF (sPick seed k) np) = pk := ⟨_, rfl⟩
      obtain ⟨dp, hdp⟩ : ∃ dp, (if kindF seed k = 1 then noStp else stpF (sDrop seed k) np) = dp := ⟨_, rfl⟩
      have HPK := Lib.hid hpk
      have HDP := Lib.hid hdp
      clear hpk hdp
      go_upto_region 13 with fail
      go_upto_if 57 with fail
      go_cut [] (fun wx => OSt 48 W0 W5 rb p B1 ob (sDrop seed k) (ordL (ordN no) (.slice A k c) pk.place pk.opn pk.close pk.service (-1) 0 0 0 0 0) A k c ((loadTo seed k).map (.int .i64)) wx)
      case first => as_aux_lemma =>
        by_cases h0 : kd = 0
        · have h0' : ¬ 0 < kd := by omega
          have H0 : Hid (pk = noStp ∧ sDrop seed k = sPick seed k) := Lib.hid ⟨by rw [← HPK.out, HKD.out, if_pos h0], by unfold sDrop; rw [HKD.out, if_pos h0]⟩
          clear h0
          go_wp2_with fail
          go_meet
          rw [H0.out.1, H0.out.2]
          exact HO.out
        · have h0' : 0 < kd := by omega
          have H0 : Hid (pk = stpF (sPick seed k) np ∧ sDrop seed k = nx 4 (sPick seed k)) := Lib.hid ⟨by rw [← HPK.out, HKD.out, if_neg h0], by unfold sDrop; rw [HKD.out, if_neg h0]⟩
          have c0 := (HX.out _ HO.out.fr).2.2
          go_wp2_with fail
          refine (stop_any p (sPick seed k) np _ HO.out.gs.box (by omega) hpl).mono ?_
          rintro e w10 ⟨rfl, hbx, hgr⟩
          obtain ⟨s, hs⟩ : ∃ s, stpF (sPick seed k) np = s := ⟨_, rfl⟩
          rw [hs]
          have HS := Lib.hid hs
          have HQ := Lib.hid (HO.out.draw HPL.out hbx hgr)
          clear hbx hgr hs
          have e2 := HQ.out.blk.cell (j := 2) rfl
          have e3 := HQ.out.blk.cell (j := 3) rfl
          have e4 := HQ.out.blk.cell (j := 4) rfl
          have e5 := HQ.out.blk.cell (j := 5) rfl
          have f2 := HQ.out.blk.frozen 2
          have f3 := HQ.out.blk.frozen 3
          have f4 := HQ.out.blk.frozen 4
          have f5 := HQ.out.blk.frozen 5
          simp only [stpV]
          go_wp2_with fail
          go_meet
          rw [H0.out.1, H0.out.2, HS.out]
          exact (((HQ.out.set HPL.out 2 (.int .i64 s.place)).set HPL.out 3 (.int .i64 s.opn)).set HPL.out 4 (.int .i64 s.close)).set HPL.out 5 (.int .i64 s.service)
      clear HO
      have HO := Lib.hid hcut
      clear hcut
      go_upto_region 15 with fail
      go_upto_if 66 with fail
      go_cut [] (fun wx => OSt 48 W0 W5 rb p B1 ob (sRest seed k) (ordL (ordN no) (.slice A k c) pk.place pk.opn pk.close pk.service dp.place dp.opn dp.close dp.service 0 0) A k c ((loadTo seed k).map (.int .i64)) wx)
      case first => as_aux_lemma =>
        by_cases h0 : kd = 1
        · have h0' : (kd == 1) = true := by simp; exact h0
          have H0 : Hid (dp = noStp ∧ sRest seed k = sDrop seed k) := Lib.hid ⟨by rw [← HDP.out, HKD.out, if_pos h0], by unfold sRest; rw [HKD.out, if_pos h0]⟩
          clear h0
          go_wp2_with fail
          go_meet
          rw [H0.out.1, H0.out.2]
          exact HO.out
        · have h0' : (kd == 1) = false := by simp; exact h0
          have H0 : Hid (dp = stpF (sDrop seed k) np ∧ sRest seed k = nx 4 (sDrop seed k)) := Lib.hid ⟨by rw [← HDP.out, HKD.out, if_neg h0], by unfold sRest; rw [HKD.out, if_neg h0]⟩
          have c0 := (HX.out _ HO.out.fr).2.2
          go_wp2_with fail
          refine (stop_any p (sDrop seed k) np _ HO.out.gs.box (by omega) hpl).mono ?_
          rintro e w10 ⟨rfl, hbx, hgr⟩
          obtain ⟨s, hs⟩ : ∃ s, stpF (sDrop seed k) np = s := ⟨_, rfl⟩
          rw [hs]
          have HS := Lib.hid hs
          have HQ := Lib.hid (HO.out.draw HPL.out hbx hgr)
          clear hbx hgr hs
          have e6 := HQ.out.blk.cell (j := 6) rfl
          have e7 := HQ.out.blk.cell (j := 7) rfl
          have e8 := HQ.out.blk.cell (j := 8) rfl
          have e9 := HQ.out.blk.cell (j := 9) rfl
          have f6 := HQ.out.blk.frozen 6
          have f7 := HQ.out.blk.frozen 7
          have f8 := HQ.out.blk.frozen 8
          have f9 := HQ.out.blk.frozen 9
          simp only [stpV]
          go_wp2_with fail
          go_meet
          rw [H0.out.1, H0.out.2, HS.out]
          exact (((HQ.out.set HPL.out 6 (.int .i64 s.place)).set HPL.out 7 (.int .i64 s.opn)).set HPL.out 8 (.int .i64 s.close)).set HPL.out 9 (.int .i64 s.service)
      clear HO
      have HO := Lib.hid hcut
      clear hcut
      go_wp2_with fail
      refine (from_any p (sRest seed k) 0 1 _ HO.out.gs.box (by omega) (by omega) (by omega)).mono ?_
      rintro e w11 ⟨rfl, hbx, hgr⟩
      have HQ := Lib.hid (HO.out.draw HPL.out hbx hgr)
      have e10 := HQ.out.blk.cell (j := 10) rfl
      have f10 := HQ.out.blk.frozen 10
      clear hbx hgr HO
      obtain ⟨sk, hsk⟩ : ∃ v, frm (sRest seed k) 0 1 = v := ⟨_, rfl⟩
      rw [hsk]
      have HSK := Lib.hid hsk
      clear hsk
      go_upto_region 18 with fail
      clear e10 f10
      have HO := Lib.hid (HQ.out.set HPL.out 10 (.int .i64 sk))
      clear HQ
      obtain ⟨pe, hpe⟩ : ∃ v, penF (frm (nx 1 (sRest seed k)) 0 3) = v := ⟨_, rfl⟩
      have HPE := Lib.hid hpe
      clear hpe
      go_cut [] (fun wx => OSt 48 W0 W5 rb p B1 ob (nx 2 (sRest seed k)) (ordL (ordN no) (.slice A k c) pk.place pk.opn pk.close pk.service dp.place dp.opn dp.close dp.service sk pe) A k c ((loadTo seed k).map (.int .i64)) wx)
      case first => as_aux_lemma =>
        go_wp2_with fail
        refine (from_any p (nx 1 (sRest seed k)) 0 3 _ HO.out.gs.box (by omega) (by omega) (by omega)).mono ?_
        rintro e w12 ⟨rfl, hbx, hgr⟩
        have HQ := Lib.hid (HO.out.draw HPL.out hbx hgr)
        have e11 := HQ.out.blk.cell (j := 11) rfl
        have f11 := HQ.out.blk.frozen 11
        clear hbx hgr HO
        obtain ⟨pn, hpn⟩ : ∃ v, frm (nx 1 (sRest seed k)) 0 3 = v := ⟨_, rfl⟩
        have Bpn := frm_bd (s := nx 1 (sRest seed k)) (a := 0) (b := 3) (by omega)
        have HQE : Hid (penF pn = pe) := Lib.hid (by rw [← hpn]; exact HPE.out)
        rw [hpn] at Bpn ⊢
        clear hpn
        rcases (show pn = 0 ∨ pn = 1 ∨ pn = 2 ∨ pn = 3 by omega) with rfl | rfl | rfl | rfl
        · have i0 : ∀ w, (Instr.index 71 (.agg #[.int .i64 (-1), .int .i64 100, .int .i64 500, .int .i64 2000]) (.int .i64 0)).run Tryd.prog w = .ok (.int .i64 (-1)) w := fun _ => by kernel_rfl
          go_wp2_with fail
          go_meet
          rw [← HQE.out]
          exact HQ.out.set HPL.out 11 (.int .i64 (-1))
        · have i1 : ∀ w, (Instr.index 71 (.agg #[.int .i64 (-1), .int .i64 100, .int .i64 500, .int .i64 2000]) (.int .i64 1)).run Tryd.prog w = .ok (.int .i64 100) w := fun _ => by kernel_rfl
          go_wp2_with fail
          go_meet
          rw [← HQE.out]
          exact HQ.out.set HPL.out 11 (.int .i64 100)
        · have i2 : ∀ w, (Instr.index 71 (.agg #[.int .i64 (-1), .int .i64 100, .int .i64 500, .int .i64 2000]) (.int .i64 2)).run Tryd.prog w = .ok (.int .i64 500) w := fun _ => by kernel_rfl
          go_wp2_with fail
          go_meet
          rw [← HQE.out]
          exact HQ.out.set HPL.out 11 (.int .i64 500)
        · have i3 : ∀ w, (Instr.index 71 (.agg #[.int .i64 (-1), .int .i64 100, .int .i64 500, .int .i64 2000]) (.int .i64 3)).run Tryd.prog w = .ok (.int .i64 2000) w := fun _ => by kernel_rfl
          go_wp2_with fail
          go_meet
          rw [← HQE.out]
          exact HQ.out.set HPL.out 11 (.int .i64 2000)
      clear HO
      have HO := Lib.hid hcut
      clear hcut
      have HRb : Hid (Blk wc rb 40 zOrd) := Lib.hid ((HR0.out.fr (HF5.out (fun _ => True)) trivial).kept HO.out.gs.grown (fun e => by injection e; omega))
      go_wp2_with (first
        | ((with_reducible refine wpList_loadG stOrd' _ rfl ⟨ob, 0, none⟩ (ordL (ordN no) (.slice A k c) pk.place pk.opn pk.close pk.service dp.place dp.opn dp.close dp.service sk pe) ?_ ?_ ?_ ?_ ?_); exact rfl; exact rfl; exact HO.out.blk.cells; exact rfl)
        | ((with_reducible refine wpList_storeL stOrd' rfl _ _ rfl rb zOrd (ordL (ordN no) (.slice A k c) pk.place pk.opn pk.close pk.service dp.place dp.opn dp.close dp.service sk pe) ?_ ?_ ?_ ?_ ?_ (ordL_one rfl) ?_); exact rfl; exact rfl; exact HRb.out; exact rfl; exact rfl; intro wz k1 k2 k3 k4; have K := Lib.hid (And.intro k1 (And.intro k2 (And.intro k3 k4))); clear k1 k2 k3 k4))
      have HRz : Blk wz rb 40 (ordL (ordN no) (.slice A k c) pk.place pk.opn pk.close pk.service dp.place dp.opn dp.close dp.service sk pe) := K.out.1
      have HV : ordF seed k np no = ⟨ordN no, loadTo seed k, pk, dp, sk, pe, 1, -1, -1, false⟩ := by
        unfold ordF
        rw [HPK.out, HDP.out, HSK.out, HPE.out]
      refine bodyPost_ret (v := .tuple #[.agg (ordL (ordN no) (.slice A k c) pk.place pk.opn pk.close pk.service dp.place dp.opn dp.close dp.service sk pe).toArray, .int .i64 0]) (big.res_cell_tmp stOrd' Tryd.results11 rfl rfl HRz.cells rfl) rfl ?_
      rw [HEE.out, HDM.out, HV]
      refine ⟨A, c, ?_, ?_, ?_⟩
      · simp only [OrdCells, ordL, loadTo_len]
      · simp only [loadTo_len]
        exact own_less (own_fr HO.out.own ⟨by rw [K.out.2.2.1]; exact Nat.le_refl _, fun q _ hq => K.out.2.1 q (by have h' : B1 ≤ q := hq; omega)⟩) (by omega)
      · exact (HB5.out.trans (HO.out.gs.bel (by omega))).trans (K.out.2.2.2.mono (by omega))
end Go.Proofs.YtamhjodppdodfaaDoor.gen

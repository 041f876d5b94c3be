/- Events that concern an order. The program. -/
import Derived.Test.YtamhjodppdodfaaDoorEvtC
import Derived.Test.YtamhjodppdodfaaDoorClnO
import Derived.Test.YtamhjodppdodfaaDoorLimP
import Derived.Test.YtamhjodppdodfaaDoorSlwC
import Derived.Test.YtamhjodppdodfaaDoorAddBz
import Derived.Deep.RegionHeld3
namespace Go.Proofs.YtamhjodppdodfaaDoor.evt
open Go.RowKit
open Go.Proofs.YtamhjodppdodfaaDoor.lib Go.Proofs.YtamhjodppdodfaaDoor.rd Go.Proofs.YtamhjodppdodfaaDoor.app Go.Proofs.YtamhjodppdodfaaDoor.els Go.Proofs.YtamhjodppdodfaaDoor.off Go.Proofs.YtamhjodppdodfaaDoor.typ Go.Proofs.YtamhjodppdodfaaDoor.big Go.Proofs.YtamhjodppdodfaaDoor.ins Go.Proofs.YtamhjodppdodfaaDoor.ord Go.Proofs.YtamhjodppdodfaaDoor.gen
set_option linter.unusedVariables false
set_option linter.unusedSimpArgs false

/-- What an event makes of an order. -/
def conF (x : Ins) (e : Evt) : Except Int Ins := if ¬ thrF x e.a = 0 then .error (thrF x e.a) else match x.orders[e.a.toNat]? with
  | none => .error 7
  | some o => if e.kind = 2 then .ok { x with orders := x.orders.set e.a.toNat { o with off := true } }
    else if shfB o.pick e.n && shfB o.drop e.n then .ok { x with orders := x.orders.set e.a.toNat (shfO o e.n) } else .error 2
/-- What is handed back: an instance, or an error and anything. -/
def HapOut (w : World) (r : Except Int Ins) (e : Ending) (w' : World) : Prop := match r with
  | .error k => ∃ Y Q, e = .returned (.tuple #[InV Y Q, .int .i64 k]) ∧ Below w.heap.size w w'
  | .ok Y => ∃ Q, e = .returned (.tuple #[InV Y Q, .int .i64 0]) ∧ InAt w' w'.heap.size Y Q ∧ Below w.heap.size w w'
theorem EG.keep2 {X : Type} {r : Off X} {w w2 w3 : World} {B : Nat} {cs : List Value} {xs : List X} (h : EG r w2 (fun b => b < B) cs xs) (h2 : Below B w w2) (h3 : Below B w w3) (hs : w2.heap.size ≤ w3.heap.size) : EG r w3 (fun b => b < B) cs xs :=
  h.keep hs (fun b _ hp => ⟨hp, (h3.block b hp).trans (h2.block b hp).symm⟩)
theorem chk_good {s : Stp} (h : win.chk s.place s.opn s.close s.service = 0) : goodS s := by
  unfold win.chk at h
  split at h
  · rename_i h'
    exact h'
  · cases h
/-- The stops of an instance that is accepted. -/
theorem good_of {x : Ins} (h : insF x = []) : ∀ o ∈ x.orders, goodS o.pick ∧ goodS o.drop := fun o ho => by
  obtain ⟨hN, hT, hO, hR⟩ := par.insF_nil.1 h
  unfold insO at hO
  obtain ⟨h1, h2⟩ := (par.ofltsTo_nil x.orders.length).1 hO
  obtain ⟨j, hj⟩ := List.mem_iff_getElem?.1 ho
  have he := h2 j o (List.getElem?_eq_some_iff.1 hj).1 hj
  unfold ord.errsO at he
  have e8 := par.pushIf_nil.1 he
  have e7 := par.pushIf_nil.1 e8.1
  have e6 := par.pushIf_nil.1 e7.1
  have hw := e6.2
  unfold ord.winB at hw
  simp only [Bool.and_eq_true, beq_iff_eq] at hw
  exact ⟨chk_good hw.1, chk_good hw.2⟩
theorem thr_err (x : Ins) (k : Int) : thrF x k = 0 ∨ thrF x k = 7 ∨ thrF x k = 9 := by
  unfold thrF
  split
  · exact .inr (.inl rfl)
  · split
    · exact .inr (.inl rfl)
    · split
      · exact .inr (.inr rfl)
      · exact .inl rfl
/-- An order that is there. -/
theorem thr_ok {x : Ins} {k : Int} (h : thrF x k = 0) : ∃ (j : Nat) (o : Ord), k = j ∧ x.orders[j]? = some o ∧ o.off = false := by
  unfold thrF at h
  split at h
  · cases h
  · rename_i h1
    split at h
    · cases h
    · rename_i o ho
      split at h
      · cases h
      · rename_i h2
        exact ⟨k.toNat, o, by omega, ho, by simpa using h2⟩
theorem insCs_ord (x : Ins) (P : InP) (os : List Ord) (A : Option Addr) (N c : Nat) (h : os.length = N) : (insCs x P).set 3 (.slice A N c) = insCs { x with orders := os } ⟨P.a0, P.c0, P.a1, P.c1, P.a2, P.c2, A, c, P.a4, P.c4, P.a5, P.c5⟩ := by
  subst h
  rfl
theorem ord_at {w : World} {x : Ins} {P : InP} {os : List Ord} {A : Option Addr} {c : Nat} (h : InAt w w.heap.size x P) (hr : RowAt rOrd w w.heap.size A os) (hc : os.length ≤ c) : InAt w w.heap.size { x with orders := os } ⟨P.a0, P.c0, P.a1, P.c1, P.a2, P.c2, A, c, P.a4, P.c4, P.a5, P.c5⟩ :=
  ⟨h.places, h.arcs, h.types, hr, h.apart, h.before, h.capT, hc, h.capA, h.capB⟩
/-- Where an event about an order stands: its boxes, and the orders, copied. -/
structure ConSt (x : Ins) (P : InP) (e : Evt) (C : Option Addr) (c : Nat) (w : World) (N g d : Nat) (CS : List Value) (xs : List Ord) (wx : World) : Prop where
  own : wx.ownsRow (w.heap.size + 3) 40 16 (.slice (some ⟨g, 0, none⟩) N d) N CS
  els : EG oOrd wx (fun b => b < w.heap.size) CS xs
  len : xs.length = N
  bx : Blk wx w.heap.size 30 ((insCs x P).set 3 (.slice (some ⟨g, 0, none⟩) N d))
  be : Blk wx (w.heap.size + 1) 42 (EvtCells e C c)
  br : Blk wx (w.heap.size + 2) 30 nilCs
  bel : Below w.heap.size w wx
section
variable {x : Ins} {P : InP} {e : Evt} {C : Option Addr} {c : Nat} {w wx wy : World} {N g d : Nat} {CS : List Value} {xs : List Ord}
theorem ConSt.lo (h : ConSt x P e C c w N g d CS xs wx) : w.heap.size + 3 ≤ g ∧ g < wx.heap.size := World.ownsRow.lt h.own g rfl
theorem ConSt.below (h : ConSt x P e C c w N g d CS xs wx) (hb : Below wx.heap.size wx wy) : ConSt x P e C c w N g d CS xs wy :=
  ⟨own_below h.own hb, h.els.below hb, h.len, h.bx.below hb, h.be.below hb, h.br.below hb, h.bel.trans (hb.mono (by have := h.lo; omega))⟩
/-- Cells of the orders' row are written. -/
theorem ConSt.cells {xs' : List Ord} {o : Nat} {vs : List Value} (h : ConSt x P e C c w N g d CS xs wx) (hl : xs'.length = N) (he : EG oOrd wx (fun b => b < w.heap.size) (setM CS o vs) xs') :
    ConSt x P e C c w N g d (setM CS o vs) xs' (wx.setCells g o vs) := by
  have hlo := h.lo
  obtain ⟨h1, h2⟩ := own_setCells vs o wx CS h.own
  refine ⟨h1, he.keep h2.size (fun b hb hp => ⟨hp, h2.block b hb (fun e => by injection e; omega)⟩), hl, h.bx.kept h2 (fun e => by injection e; omega), h.be.kept h2 (fun e => by injection e; omega), h.br.kept h2 (fun e => by injection e; omega), ?_⟩
  exact h.bel.grown h2 (by omega) (fun q e => by injection e; omega)
theorem ConSt.elem {j : Nat} {o : Ord} (h : ConSt x P e C c w N g d CS xs wx) (hj : xs[j]? = some o) : ∃ C0 c0, CellsAt wx ⟨g, j * 16, none⟩ (OrdCells o C0 c0) ∧ OrdFits o ∧ IntsOff wx (fun b => b < w.heap.size) C0 o.load ∧ wx.there g (j * 16) 16 := by
  have hkl := (List.getElem?_eq_some_iff.1 hj).1
  obtain ⟨cc, h3, h4, h5⟩ := h.els.at_ hj
  obtain ⟨C0, c0, rfl, h0, hf⟩ := oOrd_at h3
  have hll := h.len
  have hcl := h.own.1
  refine ⟨C0, c0, fun i u hu => ?_, hf, h0, own_there h.own (by omega)⟩
  have hi : i < 16 := (List.getElem?_eq_some_iff.1 hu).1
  rw [Addr.add_mid, h.own.cellAt (j * 16 + i) (by omega)]
  exact h5 i u hu
end
theorem shfR_ok {o : Ord} {n : Int} (h : (shfB o.pick n && shfB o.drop n) = true) : shfR o n = (shfO o n, 0) := by
  rw [Bool.and_eq_true] at h
  unfold shfR shfO
  rw [if_pos h.1, if_pos h.2, show shfT o.drop n = shfS o.drop n by unfold shfT; rw [if_pos h.2]]
theorem shfR_bad {o : Ord} {n : Int} (h : (shfB o.pick n && shfB o.drop n) = false) : (shfR o n).2 = 2 := by
  unfold shfR
  split
  · rename_i h1
    rw [h1, Bool.true_and] at h
    show (if shfB o.drop n = true then (0 : Int) else 2) = 2
    rw [if_neg (by rw [h]; decide)]
  · rfl
theorem shfT_fits {s : Stp} {n : Int} (hg : goodS s) (hf : StpFits s) : StpFits (shfT s n) ∧ StpFits zeroS := by
  have hz : StpFits zeroS := by unfold StpFits zeroS; simp only; omega
  refine ⟨?_, hz⟩
  unfold shfT
  split
  · rename_i h
    unfold shfB at h
    have h' := of_decide_eq_true h
    unfold shfS
    split
    · exact hf
    · rename_i hp
      unfold goodS win.Good at hg
      unfold StpFits at hf ⊢
      simp only
      omega
  · exact hz
theorem shfR_fits {o : Ord} {n : Int} (h1 : goodS o.pick) (h2 : goodS o.drop) (hf : OrdFits o) : OrdFits (shfR o n).1 := by
  obtain ⟨f0, f1, f2, f3⟩ := hf
  obtain ⟨a1, a2⟩ := shfT_fits (n := n) h1 f1
  obtain ⟨a3, _⟩ := shfT_fits (n := n) h2 f2
  unfold shfR
  split
  · rename_i h
    have e : shfT o.pick n = shfS o.pick n := by unfold shfT; rw [if_pos h]
    rw [e] at a1
    exact ⟨f0, a1, a3, f3⟩
  · exact ⟨f0, a2, f2, f3⟩
theorem step_loadS {t : TypeId} {n : Nat} (T : StructOf t n) {o : Oper} {a : Act} {w : World} {ops : Array Oper} {K : Act → World → Prop} {Q : Exit → Act → World → Prop} {E' : Prop} (hgd : o.guard = none) (p : Operand) (ho : o.op = Op.load t p)
    (ad : Addr) (cs : List Value) (hp : a.eval p = .pointer (some ad)) (hc : CellsAt w ad cs) (hn : cs.length = n) (h : K (a.put o.dst (.agg cs.toArray)) w) :
    if Region.wanted o (yielded ops a.tmps) = true then Oper.wp Tryd.prog o a w K Q else E' := by
  have hw : Region.wanted o (yielded ops a.tmps) = true := by simp [Region.wanted, hgd]
  rw [if_pos hw]
  have hr := run_loadS T hc hn
  unfold Oper.wp execOp
  simp only [ho, hp, Sem.run_bind, hr, Result.andThen_ok, Sem.run_pure]
  exact h
set_option maxRecDepth 20000 in
set_option maxHeartbeats 8000000 in
theorem concerns_any (x : Ins) (P : InP) (e : Evt) (C : Option Addr) (c : Nat) (w : World) (h : InAt w w.heap.size x P) (hF : insF x = []) (hn : -9223372036854775808 ≤ e.n ∧ e.n ≤ 9223372036854775807) :
    Calls Tryd.prog 37 #[InV x P, .agg (EvtCells e C c).toArray] w (HapOut w (conF x e)) := by
  show Calls Tryd.prog 37 #[InV x P, .agg #[.int .i64 e.at_, .int .i64 e.kind, .int .i64 e.a, .int .i64 e.b, .int .i64 e.n, .string e.order.name, .slice C e.order.load.length c, .int .i64 e.order.pick.place, .int .i64 e.order.pick.opn, .int .i64 e.order.pick.close, .int .i64 e.order.pick.service, .int .i64 e.order.drop.place, .int .i64 e.order.drop.opn, .int .i64 e.order.drop.close, .int .i64 e.order.drop.service, .int .i64 e.order.skills, .int .i64 e.order.penalty, .int .i64 e.order.split, .int .i64 e.order.last, .int .i64 e.order.now, .bool e.order.off]] w _
  have HG := Lib.hid (good_of hF)
  have HN := Lib.hid hn
  have hl10 := (lim.lim_of hF).orders
  obtain ⟨W0, hW0⟩ : ∃ W0, ((w.alloc (.cells (insCs x P).toArray 30)).alloc (.cells (EvtCells e C c).toArray 42)).alloc (.cells nilCs.toArray 30) = W0 := ⟨_, rfl⟩
  have hB0 : Below w.heap.size w W0 := by rw [← hW0]; exact (((Below.refl _ _).alloc (Nat.le_refl _) _).alloc (by simp) _).alloc (by simp; omega) _
  have z0 : W0.heap.size = w.heap.size + 3 := by rw [← hW0]; simp
  have b0 : Blk W0 w.heap.size 30 (insCs x P) := by
    rw [← hW0]
    exact ((Blk.new w _ _).kept (World.grownBy_alloc _ _ none) (by simp)).kept (World.grownBy_alloc _ _ none) (by simp)
  have b1 : Blk W0 (w.heap.size + 1) 42 (EvtCells e C c) := by
    rw [← hW0]
    have h := Blk.new (w.alloc (.cells (insCs x P).toArray 30)) 42 (EvtCells e C c)
    rw [show (w.alloc (.cells (insCs x P).toArray 30)).heap.size = w.heap.size + 1 by simp] at h
    exact h.kept (World.grownBy_alloc _ _ none) (by simp)
  have b2 : Blk W0 (w.heap.size + 2) 30 nilCs := by
    rw [← hW0]
    have h := Blk.new ((w.alloc (.cells (insCs x P).toArray 30)).alloc (.cells (EvtCells e C c).toArray 42)) 30 nilCs
    rw [show ((w.alloc (.cells (insCs x P).toArray 30)).alloc (.cells (EvtCells e C c).toArray 42)).heap.size = w.heap.size + 2 by simp] at h
    exact h
  have hW1 : ((w.alloc (.cells #[.slice P.a0 x.net.places.length P.c0, .slice P.a1 x.net.arcs.length P.c1, .slice P.a2 x.types.length P.c2, .slice P.a3 x.orders.length P.c3, .slice P.a4 x.apart.length P.c4, .slice P.a5 x.before.length P.c5] 30)).alloc (.cells #[.int .i64 e.at_, .int .i64 e.kind, .int .i64 e.a, .int .i64 e.b, .int .i64 e.n, .string e.order.name, .slice C e.order.load.length c, .int .i64 e.order.pick.place, .int .i64 e.order.pick.opn, .int .i64 e.order.pick.close, .int .i64 e.order.pick.service, .int .i64 e.order.drop.place, .int .i64 e.order.drop.opn, .int .i64 e.order.drop.close, .int .i64 e.order.drop.service, .int .i64 e.order.skills, .int .i64 e.order.penalty, .int .i64 e.order.split, .int .i64 e.order.last, .int .i64 e.order.now, .bool e.order.off] 42)).alloc (.cells #[.slice none 0 0, .slice none 0 0, .slice none 0 0, .slice none 0 0, .slice none 0 0, .slice none 0 0] 30) = W0 := hW0
  have HX := Lib.hid (fun w' (h' : Below W0.heap.size W0 w') => And.intro (b0.below h') (And.intro (b1.below h') (b2.below h')))
  have HI := Lib.hid (fun w' (h' : Below w.heap.size w w') => h.go h')
  have HW1 := Lib.hid hW1
  have C0 := Below.refl W0.heap.size W0
  clear hW0 hW1 b0 b1 b2
  simp only [InV]
  obtain ⟨r, hr⟩ : ∃ r, conF x e = r := ⟨_, rfl⟩
  have HR := Lib.hid hr
  rw [hr]
  obtain ⟨N, hNN⟩ : ∃ N, x.orders.length = N := ⟨_, rfl⟩
  have HNN := Lib.hid hNN
  rw [hNN] at HW1 hl10 ⊢
  have HOR := Lib.hid h.orders
  have c1 := (HX.out _ C0).2.1.cell (j := 2) rfl
  clear h hF hn hr hNN
  go_enter Tryd.func37, Tryd.ntmps37
  go_upto_region 1 with fail
  rw [HW1.out]
  clear HW1
  go_wp2_with ((with_reducible refine wpList_loadG stIns _ rfl ⟨w.heap.size, 0, none⟩ (insCs (x) P) ?_ ?_ ?_ ?_ ?_); exact rfl; exact rfl; exact (HX.out _ C0).1.cells; exact rfl)
  refine (there_any x P e.a W0 (HI.out _ hB0)).mono ?_
  rintro e1 w1 ⟨rfl, b1⟩
  have HB1 := Lib.hid b1
  have HX1 := Lib.hid (HX.out _ b1)
  have HBW := Lib.hid (hB0.trans (b1.mono (by omega)))
  clear c1 b1
  by_cases ht : thrF x e.a = 0
  rotate_left
  · have HRR : Hid (r = .error (thrF x e.a)) := Lib.hid (by rw [← HR.out]; unfold conF; rw [if_pos ht])
    obtain ⟨k, hk⟩ : ∃ k, thrF x e.a = k := ⟨_, rfl⟩
    have hkk : (k != 0) = true := by rw [← hk]; simp [ht]
    rw [hk] at HRR ⊢
    clear hk ht HR
    go_wp2_with (first
      | ((with_reducible refine wpList_loadG stIns _ rfl ⟨w.heap.size, 0, none⟩ (insCs (x) P) ?_ ?_ ?_ ?_ ?_); exact rfl; exact rfl; exact HX1.out.1.cells; exact rfl)
      | ((with_reducible refine wpList_storeL stIns rfl _ _ rfl (w.heap.size + 2) nilCs (insCs (x) P) ?_ ?_ ?_ ?_ ?_ (insCs_one _ _) ?_); exact rfl; exact rfl; exact HX1.out.2.2; exact rfl; exact rfl; intro wz k1 k2 k3 k4; have K := Lib.hid (And.intro k1 (And.intro k2 (And.intro k3 k4))); clear k1 k2 k3 k4))
    have HRz : Blk wz (w.heap.size + 2) 30 (insCs (x) P) := K.out.1
    refine bodyPost_ret (v := .tuple #[.agg (insCs (x) P).toArray, .int .i64 k]) (big.res_cell_tmp stIns Tryd.results37 rfl rfl HRz.cells rfl) rfl ?_
    rw [HRR.out]
    exact ⟨x, P, rfl, HBW.out.trans (K.out.2.2.2.mono (by omega))⟩
  rw [ht]
  obtain ⟨j, o, hj, ho, hoff⟩ := thr_ok ht
  have hjN : j < N := by rw [← HNN.out]; exact (List.getElem?_eq_some_iff.1 ho).1
  have HG9 := Lib.hid (HG.out o (List.mem_of_getElem? ho))
  have HR2 : Hid (r = if e.kind = 2 then .ok { x with orders := x.orders.set j { o with off := true } } else if shfB o.pick e.n && shfB o.drop e.n then .ok { x with orders := x.orders.set j (shfO o e.n) } else .error 2) := Lib.hid (by
    rw [← HR.out]
    unfold conF
    rw [if_neg (fun h => h ht), hj, Int.toNat_natCast, ho])
  have HO := Lib.hid ho
  have x3 : w1.cell? ⟨w.heap.size, 3, none⟩ = some (.slice P.a3 N P.c3) := by rw [← HNN.out]; exact HX1.out.1.cell (j := 3) rfl
  have f3 := HX1.out.1.frozen 3
  clear ht HR ho hoff HG
  go_wp2_with fail
  have hcl := cloneO_any P.a3 P.c3 x.orders w.heap.size w1 HBW.out.size (HOR.out.below HBW.out) (by rw [HNN.out]; omega)
  rw [HNN.out] at hcl
  refine hcl.mono ?_
  rintro e2 w2 ⟨A', c', CS, rfl, hown, hels, b2⟩
  obtain ⟨g, cap, hv, hgb, hglt⟩ := hown.form (by omega)
  obtain rfl : A' = some ⟨g, 0, none⟩ := by injection hv
  have hz1 : w.heap.size + 3 ≤ w1.heap.size := by have := HB1.out.size; omega
  have hX2 := HX.out _ (HB1.out.trans (b2.mono HB1.out.size))
  have x3 : w2.cell? ⟨w.heap.size, 3, none⟩ = some (.slice P.a3 N P.c3) := by rw [← HNN.out]; exact hX2.1.cell (j := 3) rfl
  have f3 := hX2.1.frozen 3
  go_upto_region 5 with fail
  obtain ⟨W3, hW3⟩ : ∃ W, w2.setCell ⟨w.heap.size, 3, none⟩ (.slice (some ⟨g, 0, none⟩) N c') = W := ⟨_, rfl⟩
  rw [hW3]
  have HS : Hid (ConSt x P e C c w N g c' CS x.orders W3) := Lib.hid (by
    have hgr := grownBy_set w2 w.heap.size 3 (.slice (some ⟨g, 0, none⟩) N c')
    rw [← hW3]
    refine ⟨own_less (ownsRow_setCell_below hown (by show w.heap.size < w1.heap.size; omega) _) hz1, hels.keep hgr.size (fun b hb hp => ⟨hp, hgr.block b hb (fun e => by injection e; omega)⟩), HNN.out, hX2.1.set 3 _, hX2.2.1.kept hgr (fun e => by injection e; omega), hX2.2.2.kept hgr (fun e => by injection e; omega), ?_⟩
    exact (HBW.out.trans (b2.mono HBW.out.size)).setCell (p := ⟨w.heap.size, 3, none⟩) (Nat.le_refl _) _)
  clear hW3 hown hels b2 hX2 x3 f3 hcl hz1 hgb hglt
  have x3 : W3.cell? ⟨w.heap.size, 3, none⟩ = some (.slice (some ⟨g, 0, none⟩) N c') := HS.out.bx.cell (j := 3) rfl
  have e1 := HS.out.be.cell (j := 1) rfl
  have e2 := HS.out.be.cell (j := 2) rfl
  have hj0 : (0 : Int) ≤ (j : Int) := by omega
  have hjn : (j : Int) < (N : Int) := by omega
  obtain ⟨C0, c0, hce, hof, hio, hth⟩ := HS.out.elem HO.out
  have HE := Lib.hid (And.intro hce (And.intro hof (And.intro hio hth)))
  clear hce hof hio hth
  obtain ⟨kb, hkb⟩ : ∃ b, (e.kind == 2) = b := ⟨_, rfl⟩
  have HKB : Hid ((e.kind = 2) ↔ kb = true) := Lib.hid (by rw [← hkb]; simp)
  cases kb
  · have HR3 : Hid (r = if shfB o.pick e.n && shfB o.drop e.n then .ok { x with orders := x.orders.set j (shfO o e.n) } else .error 2) := Lib.hid (by rw [HR2.out, if_neg (fun h => by have := HKB.out.1 h; cases this)])
    clear HR2
    obtain ⟨o', ho'⟩ : ∃ o', (shfR o e.n).1 = o' := ⟨_, rfl⟩
    obtain ⟨kk, hkk⟩ : ∃ kk, (shfR o e.n).2 = kk := ⟨_, rfl⟩
    have HFT : Hid (OrdFits o' ∧ o'.load = o.load) := Lib.hid (by
      rw [← ho']
      refine ⟨shfR_fits HG9.out.1 HG9.out.2 HE.out.2.1, ?_⟩
      unfold shfR
      split <;> rfl)
    have HRR : Hid ((r = .ok { x with orders := x.orders.set j o' } ∧ kk = 0) ∨ (r = .error 2 ∧ kk = 2)) := Lib.hid (by
      rw [HR3.out, ← ho', ← hkk]
      cases hb : shfB o.pick e.n && shfB o.drop e.n
      · exact .inr ⟨rfl, shfR_bad hb⟩
      · rw [shfR_ok hb]
        exact .inl ⟨rfl, rfl⟩)
    have HSH : Hid (∀ w, Calls Tryd.prog 47 #[.agg (OrdCells o C0 c0).toArray, .int .i64 e.n] w fun e1 w' => e1 = .returned (.tuple #[.agg (OrdCells o' C0 c0).toArray, .int .i64 kk]) ∧ Below w.heap.size w w') := Lib.hid (fun w => by
      have h := shifted_any o C0 c0 e.n w HG9.out.1 HG9.out.2 HN.out
      rw [ho', hkk] at h
      exact h)
    clear HR3 ho' hkk
    go_upto_region 10 with fail
    clear x3 e1 e2
    have HSS : Hid (∀ w', Below W3.heap.size W3 w' → w'.cell? ⟨w.heap.size + 1, 4, none⟩ = some (.int .i64 e.n)) := Lib.hid (fun w' hb => (HS.out.be.below hb).cell (j := 4) rfl)
    (refine wp_region_held_drew (S := (fun w' => w'.cell? ⟨w.heap.size + 1, 4, none⟩ = some (.int .i64 e.n))) (by kernel_rfl) ?_ (fun hHeld => ?_))
    · exact HSS.out _ (Below.refl _ _).drew
    (refine wpAnyH_take (i := 0) (v := ?_) rfl (by kernel_rfl) (by kernel_rfl) (by kernel_rfl) (fun _ _ _ h => h) (Or.inl ⟨by kernel_rfl, ?_⟩) (by assumption) ?_; rotate_left; (focus (intro w hSw; (try dsimp only at hSw); go_simp; all_goals with_reducible rfl)); (try simp only [Act.put, List.getElem_toArray, List.getElem_cons_succ, List.getElem_cons_zero, List.setIfInBounds_toArray, List.set_cons_zero, List.set_cons_succ]))
    (refine wpAnyH_take (i := 1) (v := ?_) rfl (by kernel_rfl) (by kernel_rfl) (by kernel_rfl) (fun _ _ _ h => h) (Or.inl ⟨by kernel_rfl, ?_⟩) (by assumption) ?_; rotate_left; (focus (intro w hSw; (try dsimp only at hSw); go_simp; all_goals with_reducible rfl)); (try simp only [Act.put, List.getElem_toArray, List.getElem_cons_succ, List.getElem_cons_zero, List.setIfInBounds_toArray, List.set_cons_zero, List.set_cons_succ]))
    (refine wpAnyH_take (i := 2) (v := ?_) rfl (by kernel_rfl) (by kernel_rfl) (by kernel_rfl) (fun _ _ _ h => h) (Or.inl ⟨by kernel_rfl, ?_⟩) (by assumption) ?_; rotate_left; (focus (intro w hSw; (try dsimp only at hSw); go_simp; all_goals with_reducible rfl)); (try simp only [Act.put, List.getElem_toArray, List.getElem_cons_succ, List.getElem_cons_zero, List.setIfInBounds_toArray, List.set_cons_zero, List.set_cons_succ]))
    (refine wpAnyH_take (i := 4) (v := ?_) rfl (by kernel_rfl) (by kernel_rfl) (by kernel_rfl) (fun _ _ _ h => h) (Or.inl ⟨by kernel_rfl, ?_⟩) (by assumption) ?_; rotate_left; (focus (intro w hSw; (try dsimp only at hSw); go_simp; all_goals with_reducible rfl)); (try simp only [Act.put, List.getElem_toArray, List.getElem_cons_succ, List.getElem_cons_zero, List.setIfInBounds_toArray, List.set_cons_zero, List.set_cons_succ]))
    (refine wpAnyH_take (i := 5) (v := ?_) rfl (by kernel_rfl) (by kernel_rfl) (by kernel_rfl) (fun _ _ _ h => h) (Or.inl ⟨by kernel_rfl, ?_⟩) (by assumption) ?_; rotate_left; (focus (intro w hSw; (try dsimp only at hSw); go_simp; all_goals with_reducible rfl)); (try simp only [Act.put, List.getElem_toArray, List.getElem_cons_succ, List.getElem_cons_zero, List.setIfInBounds_toArray, List.set_cons_zero, List.set_cons_succ]))
    (refine wpAnyH_ready (rs := [3]) (by kernel_rfl) (by simp) ?_; refine AllReadyH.cons rfl (fun K hK => ?_) AllReadyH.nil)
    refine step_loadS stOrd' rfl _ rfl ⟨g, j * 16, none⟩ (OrdCells o C0 c0) rfl HE.out.1 rfl ?_
    refine hK.out _ _ (HSS.out _ (Below.refl _ _).drew) (fun hHeld => ?_)
    clear hK K
    (try simp only [Act.put, List.getElem_toArray, List.getElem_cons_succ, List.getElem_cons_zero, List.setIfInBounds_toArray, List.set_cons_zero, List.set_cons_succ])
    (refine wpAnyH_ready (rs := [6]) (by kernel_rfl) (by simp) ?_; refine AllReadyH.cons rfl (fun K hK => ?_) AllReadyH.nil)
    go_simp
    refine (HSH.out _).mono ?_
    rintro e5 w5 ⟨rfl, b5⟩
    have B5 : Below W3.heap.size W3 w5 := ((Below.refl _ _).drew).trans b5
    have HS5 := Lib.hid (HS.out.below B5)
    clear b5
    refine hK.out _ _ (HSS.out _ B5) (fun hHeld => ?_)
    clear hK K
    (try simp only [Act.put, List.getElem_toArray, List.getElem_cons_succ, List.getElem_cons_zero, List.setIfInBounds_toArray, List.set_cons_zero, List.set_cons_succ])
    (refine wpAnyH_take (i := 7) (v := ?_) rfl (by kernel_rfl) (by kernel_rfl) (by kernel_rfl) (fun _ _ _ h => h) (Or.inl ⟨by kernel_rfl, ?_⟩) (by assumption) ?_; rotate_left; (focus (intro w hSw; (try dsimp only at hSw); go_simp; all_goals with_reducible rfl)); (try simp only [Act.put, List.getElem_toArray, List.getElem_cons_succ, List.getElem_cons_zero, List.setIfInBounds_toArray, List.set_cons_zero, List.set_cons_succ]))
    (refine wpAnyH_take (i := 8) (v := ?_) rfl (by kernel_rfl) (by kernel_rfl) (by kernel_rfl) (fun _ _ _ h => h) (Or.inl ⟨by kernel_rfl, ?_⟩) (by assumption) ?_; rotate_left; (focus (intro w hSw; (try dsimp only at hSw); go_simp; all_goals with_reducible rfl)); (try simp only [Act.put, List.getElem_toArray, List.getElem_cons_succ, List.getElem_cons_zero, List.setIfInBounds_toArray, List.set_cons_zero, List.set_cons_succ]))
    (refine wpAnyH_take (i := 9) (v := ?_) rfl (by kernel_rfl) (by kernel_rfl) (by kernel_rfl) (fun _ _ _ h => h) (Or.inl ⟨by kernel_rfl, ?_⟩) (by assumption) ?_; rotate_left; (focus (intro w hSw; (try dsimp only at hSw); go_simp; all_goals with_reducible rfl)); (try simp only [Act.put, List.getElem_toArray, List.getElem_cons_succ, List.getElem_cons_zero, List.setIfInBounds_toArray, List.set_cons_zero, List.set_cons_succ]))
    (refine wpAnyH_take (i := 10) (v := ?_) rfl (by kernel_rfl) (by kernel_rfl) (by kernel_rfl) (fun _ _ _ h => h) (Or.inl ⟨by kernel_rfl, ?_⟩) (by assumption) ?_; rotate_left; (focus (intro w hSw; (try dsimp only at hSw); go_simp; all_goals with_reducible rfl)); (try simp only [Act.put, List.getElem_toArray, List.getElem_cons_succ, List.getElem_cons_zero, List.setIfInBounds_toArray, List.set_cons_zero, List.set_cons_succ]))
    (refine wpAnyH_ready (rs := [11]) (by kernel_rfl) (by simp) ?_; refine AllReadyH.cons rfl (fun K hK => ?_) AllReadyH.nil)
    refine step_storeM stOrd' rfl _ _ rfl g (j * 16) (OrdCells o' C0 c0) rfl rfl (own_there HS5.out.own (by have h1 := HS5.out.own.1; omega)) rfl (ordCells_one _ _ _) ?_
    have HS6 : Hid (ConSt x P e C c w N g c' (setM CS (j * 16) (OrdCells o' C0 c0)) (x.orders.set j o') (w5.setCells g (j * 16) (OrdCells o' C0 c0))) := Lib.hid (by
      refine HS5.out.cells (by rw [List.length_set]; exact HNN.out) ?_
      refine EG.put (r := oOrd) HS5.out.els (by rw [HNN.out]; exact hjN) rfl (oOrd_mk (t := o') ?_ HFT.out.1)
      rw [HFT.out.2]
      exact intsOff_keep HE.out.2.2.1 B5.size (fun b hb hp => ⟨hp, B5.block b hb⟩))
    obtain ⟨W6, hW6⟩ : ∃ W, w5.setCells g (j * 16) (OrdCells o' C0 c0) = W := ⟨_, rfl⟩
    rw [hW6] at HS6 ⊢
    clear hW6 HS5 B5 HSS
    refine hK.out _ _ ((HS6.out.be.cell (j := 4) rfl)) (fun hHeld => ?_)
    clear hK K
    (try simp only [Act.put, List.getElem_toArray, List.getElem_cons_succ, List.getElem_cons_zero, List.setIfInBounds_toArray, List.set_cons_zero, List.set_cons_succ])
    (refine wpAnyH_take (i := 12) (v := ?_) rfl (by kernel_rfl) (by kernel_rfl) (by kernel_rfl) (fun _ _ _ h => h) (Or.inl ⟨by kernel_rfl, ?_⟩) (by assumption) ?_; rotate_left; (focus (intro w hSw; (try dsimp only at hSw); go_simp; all_goals with_reducible rfl)); (try simp only [Act.put, List.getElem_toArray, List.getElem_cons_succ, List.getElem_cons_zero, List.setIfInBounds_toArray, List.set_cons_zero, List.set_cons_succ]))
    (refine wpAnyH_done (by kernel_rfl) ?_ _)
    have HB4 : Hid (Blk W6 w.heap.size 30 (insCs { x with orders := x.orders.set j o' } ⟨P.a0, P.c0, P.a1, P.c1, P.a2, P.c2, some ⟨g, 0, none⟩, c', P.a4, P.c4, P.a5, P.c5⟩)) := Lib.hid (by
      have h := HS6.out.bx
      rw [insCs_ord x P (x.orders.set j o') _ N c' (by rw [List.length_set]; exact HNN.out)] at h
      exact h)
    go_wp2_with (first
      | ((with_reducible refine wpList_loadG stIns _ rfl ⟨w.heap.size, 0, none⟩ (insCs ({ x with orders := x.orders.set j o' }) ⟨P.a0, P.c0, P.a1, P.c1, P.a2, P.c2, some ⟨g, 0, none⟩, c', P.a4, P.c4, P.a5, P.c5⟩) ?_ ?_ ?_ ?_ ?_); exact rfl; exact rfl; exact HB4.out.cells; exact rfl)
      | ((with_reducible refine wpList_storeL stIns rfl _ _ rfl (w.heap.size + 2) nilCs (insCs ({ x with orders := x.orders.set j o' }) ⟨P.a0, P.c0, P.a1, P.c1, P.a2, P.c2, some ⟨g, 0, none⟩, c', P.a4, P.c4, P.a5, P.c5⟩) ?_ ?_ ?_ ?_ ?_ (insCs_one _ _) ?_); exact rfl; exact rfl; exact HS6.out.br; exact rfl; exact rfl; intro wz k1 k2 k3 k4; have K := Lib.hid (And.intro k1 (And.intro k2 (And.intro k3 k4))); clear k1 k2 k3 k4))
    have HRz : Blk wz (w.heap.size + 2) 30 (insCs { x with orders := x.orders.set j o' } ⟨P.a0, P.c0, P.a1, P.c1, P.a2, P.c2, some ⟨g, 0, none⟩, c', P.a4, P.c4, P.a5, P.c5⟩) := K.out.1
    refine bodyPost_ret (v := .tuple #[.agg (insCs { x with orders := x.orders.set j o' } ⟨P.a0, P.c0, P.a1, P.c1, P.a2, P.c2, some ⟨g, 0, none⟩, c', P.a4, P.c4, P.a5, P.c5⟩).toArray, .int .i64 kk]) (big.res_cell_tmp stIns Tryd.results37 rfl rfl HRz.cells rfl) rfl ?_
    have hbz : Below w.heap.size w wz := HS6.out.bel.trans (K.out.2.2.2.mono (by omega))
    rcases HRR.out with ⟨h1, h2⟩ | ⟨h1, h2⟩
    · rw [h1, h2]
      refine ⟨_, rfl, ord_at (HI.out _ hbz) ?_ ?_, hbz⟩
      · have hgz : W6.heap.size ≤ wz.heap.size := by rw [K.out.2.2.1]; exact Nat.le_refl _
        have hown := own_skip HS6.out.own HS6.out.br (by decide) K.out.2.1
        have hels := EG.keep2 HS6.out.els HS6.out.bel hbz hgz
        exact EG.row (by rw [HS6.out.len]; exact hown) hels (by rw [HS6.out.len]; omega)
      · rw [HS6.out.len]
        exact own_len_cap HS6.out.own
    · rw [h1, h2]
      exact ⟨_, _, rfl, hbz⟩
  · have HRR : Hid (r = .ok { x with orders := x.orders.set j { o with off := true } }) := Lib.hid (by rw [HR2.out, if_pos (HKB.out.2 rfl)])
    clear HR2
    have y15 : W3.cell? ⟨g, j * 16 + 15, none⟩ = some (.bool o.off) := HE.out.1 15 _ rfl
    have f15 := HS.out.own.frozenAt (j * 16 + 15)
    go_upto_region 8 with fail
    obtain ⟨W4, hW4⟩ : ∃ W, W3.setCell ⟨g, j * 16 + 15, none⟩ (.bool true) = W := ⟨_, rfl⟩
    rw [hW4]
    have HS4 : Hid (ConSt x P e C c w N g c' (setM CS (j * 16 + 15) [.bool true]) (x.orders.set j { o with off := true }) W4) := Lib.hid (by
      rw [← hW4]
      refine HS.out.cells (o := j * 16 + 15) (vs := [.bool true]) (by rw [List.length_set]; exact HNN.out) ?_
      refine EG.mod (r := oOrd) HS.out.els (by rw [HNN.out]; exact hjN) (show 15 < 16 by decide) ?_
      obtain ⟨D, dd, hc, hi, hf⟩ := oOrd_at (HS.out.els.2 j o HO.out)
      rw [hc]
      exact oOrd_mk (t := { o with off := true }) hi hf)
    clear hW4 y15 f15 x3 e1 e2
    have HB4 : Hid (Blk W4 w.heap.size 30 (insCs { x with orders := x.orders.set j { o with off := true } } ⟨P.a0, P.c0, P.a1, P.c1, P.a2, P.c2, some ⟨g, 0, none⟩, c', P.a4, P.c4, P.a5, P.c5⟩)) := Lib.hid (by
      have h := HS4.out.bx
      rw [insCs_ord x P (x.orders.set j { o with off := true }) _ N c' (by rw [List.length_set]; exact HNN.out)] at h
      exact h)
    go_wp2_with (first
      | ((with_reducible refine wpList_loadG stIns _ rfl ⟨w.heap.size, 0, none⟩ (insCs ({ x with orders := x.orders.set j { o with off := true } }) ⟨P.a0, P.c0, P.a1, P.c1, P.a2, P.c2, some ⟨g, 0, none⟩, c', P.a4, P.c4, P.a5, P.c5⟩) ?_ ?_ ?_ ?_ ?_); exact rfl; exact rfl; exact HB4.out.cells; exact rfl)
      | ((with_reducible refine wpList_storeL stIns rfl _ _ rfl (w.heap.size + 2) nilCs (insCs ({ x with orders := x.orders.set j { o with off := true } }) ⟨P.a0, P.c0, P.a1, P.c1, P.a2, P.c2, some ⟨g, 0, none⟩, c', P.a4, P.c4, P.a5, P.c5⟩) ?_ ?_ ?_ ?_ ?_ (insCs_one _ _) ?_); exact rfl; exact rfl; exact HS4.out.br; exact rfl; exact rfl; intro wz k1 k2 k3 k4; have K := Lib.hid (And.intro k1 (And.intro k2 (And.intro k3 k4))); clear k1 k2 k3 k4))
    have HRz : Blk wz (w.heap.size + 2) 30 (insCs ({ x with orders := x.orders.set j { o with off := true } }) ⟨P.a0, P.c0, P.a1, P.c1, P.a2, P.c2, some ⟨g, 0, none⟩, c', P.a4, P.c4, P.a5, P.c5⟩) := K.out.1
    refine bodyPost_ret (v := .tuple #[.agg (insCs ({ x with orders := x.orders.set j { o with off := true } }) ⟨P.a0, P.c0, P.a1, P.c1, P.a2, P.c2, some ⟨g, 0, none⟩, c', P.a4, P.c4, P.a5, P.c5⟩).toArray, .int .i64 0]) (big.res_cell_tmp stIns Tryd.results37 rfl rfl HRz.cells rfl) rfl ?_
    rw [HRR.out]
    have hbz : Below w.heap.size w wz := HS4.out.bel.trans (K.out.2.2.2.mono (by omega))
    refine ⟨_, rfl, ord_at (HI.out _ hbz) ?_ ?_, hbz⟩
    · have hgz : W4.heap.size ≤ wz.heap.size := by rw [K.out.2.2.1]; exact Nat.le_refl _
      have hown := own_skip HS4.out.own HS4.out.br (by decide) K.out.2.1
      have hels := EG.keep2 HS4.out.els HS4.out.bel hbz hgz
      exact EG.row (by rw [HS4.out.len]; exact hown) hels (by rw [HS4.out.len]; omega)
    · rw [HS4.out.len]
      exact own_len_cap HS4.out.own
end Go.Proofs.YtamhjodppdodfaaDoor.evt

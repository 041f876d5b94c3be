import Derived.Test.YtofabhenmplkoaaGreatDoorGenX
import Derived.Test.YtofabhenmplkoaaGreatDoorSlwX
import Derived.Deep.RegionHeld3
set_option linter.unusedVariables false
set_option linter.unusedSimpArgs false
/- Events that concern an order. The program. -/
namespace Go.Proofs.YtofabhenmplkoaaGreatDoor.evt
open Go.RowKit
open lib rd app els off typ big ins ord gen
def conF (x : Ins) (e : Evt) : Except Int Ins := if ¬ thrF x e.a = 0 then .error (thrF x e.a) else match x.orders[e.a.toNat]? with
 | none => .error 7
 | some o => if e.kind = 2 then .ok { x with orders := x.orders.set e.a.toNat { o with off := true } }
  else if shfB o.pick e.n && shfB o.drop e.n then .ok { x with orders := x.orders.set e.a.toNat (shfO o e.n) } else .error 2
def HapOut (w : World) (B : Nat) (r : Except Int Ins) (e : Ending) (w' : World) : Prop := match r with
 | .error k => ∃ Y Q, e = .returned (.tuple #[InV Y Q, .int .i64 k]) ∧ Below w.heap.size w w'
 | .ok Y => ∃ Q, e = .returned (.tuple #[InV Y Q, .int .i64 0]) ∧ InFr w' B w.heap.size Y Q ∧ Below w.heap.size w w'
theorem EG.keep2 {X : Type} {r : Off X} {w w2 w3 : World} {B : Nat} {cs : List Value} {xs : List X} (h : EG r w2 (fun b => b < B) cs xs) (h2 : Below B w w2) (h3 : Below B w w3) (hs : w2.heap.size ≤ w3.heap.size) : EG r w3 (fun b => b < B) cs xs :=
 h.keep hs (fun b _ hp => ⟨hp, (h3.block b hp).trans (h2.block b hp).symm⟩)
theorem chk_good {s : Stp} (h : win.chk s.place s.opn s.close s.service = 0) : goodS s := by
 unfold win.chk at h
 split at h
 ·rename_i h'
  exact h'
 ·cases h
theorem good_of {x : Ins} (h : insF x = []) : ∀ o ∈ x.orders, goodS o.pick ∧ goodS o.drop := fun o ho => by
 obtain ⟨hN, hT, hO, hR⟩ := par.insF_nil.1 h
 unfold insO at hO
 obtain ⟨h1, h2⟩ := (par.ofltsTo_nil x.orders.length).1 hO
 obtain ⟨j, hj⟩ := List.mem_iff_getElem?.1 ho
 have he := h2 j o (List.getElem?_eq_some_iff.1 hj).1 hj
 unfold ord.errsO at he
 have e8 := par.pushIf_nil.1 he
 have e7 := par.pushIf_nil.1 e8.1
 have e6 := par.pushIf_nil.1 e7.1
 have hw := e6.2
 unfold ord.winB at hw
 simp only [Bool.and_eq_true, beq_iff_eq] at hw
 exact ⟨chk_good hw.1, chk_good hw.2⟩
theorem thr_ok {x : Ins} {k : Int} (h : thrF x k = 0) : ∃ (j : Nat) (o : Ord), k = j ∧ x.orders[j]? = some o ∧ o.off = false := by
 unfold thrF at h
 split at h
 ·cases h
 ·rename_i h1
  split at h
  ·cases h
  ·rename_i o ho
   split at h
   ·cases h
   ·rename_i h2
    exact ⟨k.toNat, o, by omega, ho, by simpa using h2⟩
theorem insCs_ord (x : Ins) (P : InP) (os : List Ord) (A : Option Addr) (N c : Nat) (h : os.length = N) : (insCs x P).set 3 (.slice A N c) = insCs { x with orders := os } ⟨P.a0, P.c0, P.a1, P.c1, P.a2, P.c2, A, c, P.a4, P.c4, P.a5, P.c5⟩ := by
 subst h
 rfl
theorem ord_at {w : World} {x : Ins} {P : InP} {os : List Ord} {A : Option Addr} {c : Nat} (h : InAt w w.heap.size x P) (hr : RowAt rOrd w w.heap.size A os) (hc : os.length ≤ c) : InAt w w.heap.size { x with orders := os } ⟨P.a0, P.c0, P.a1, P.c1, P.a2, P.c2, A, c, P.a4, P.c4, P.a5, P.c5⟩ :=
 ⟨h.places, h.arcs, h.types, hr, h.apart, h.before, h.capT, hc, h.capA, h.capB⟩
structure ConSt (B : Nat) (x : Ins) (P : InP) (e : Evt) (C : Option Addr) (c : Nat) (w : World) (N g d : Nat) (CS : List Value) (xs : List Ord) (wx : World) : Prop where
 own : wx.ownsRow (w.heap.size + 3) 35 16 (.slice (some ⟨g, 0, none⟩) N d) N CS
 els : EG oOrd wx (fun b => b < B) CS xs
 hB : B ≤ w.heap.size
 len : xs.length = N
 bx : Blk wx w.heap.size 30 ((insCs x P).set 3 (.slice (some ⟨g, 0, none⟩) N d))
 be : Blk wx (w.heap.size + 1) 37 (z8 e C c)
 br : Blk wx (w.heap.size + 2) 30 nilCs
 bel : Below w.heap.size w wx
section
variable {B : Nat} {x : Ins} {P : InP} {e : Evt} {C : Option Addr} {c : Nat} {w wx wy : World} {N g d : Nat} {CS : List Value} {xs : List Ord}
theorem ConSt.lo (h : ConSt B x P e C c w N g d CS xs wx) : w.heap.size + 3 ≤ g ∧ g < wx.heap.size := World.ownsRow.lt h.own g rfl
theorem ConSt.below (h : ConSt B x P e C c w N g d CS xs wx) (hb : Below wx.heap.size wx wy) : ConSt B x P e C c w N g d CS xs wy :=
 ⟨own_below h.own hb, h.els.below hb, h.hB, h.len, h.bx.below hb, h.be.below hb, h.br.below hb, h.bel.trans (hb.mono (by have := h.lo; omega))⟩
theorem ConSt.cells {xs' : List Ord} {o : Nat} {vs : List Value} (h : ConSt B x P e C c w N g d CS xs wx) (hl : xs'.length = N) (he : EG oOrd wx (fun b => b < B) (setM CS o vs) xs') :
  ConSt B x P e C c w N g d (setM CS o vs) xs' (wx.setCells g o vs) := by
 have hlo := h.lo
 have hBB := h.hB
 obtain ⟨h1, h2⟩ := own_setCells vs o wx CS h.own
 refine ⟨h1, he.keep h2.size (fun b hb hp => ⟨hp, h2.block b hb (fun e => by injection e; omega)⟩), hBB, hl, h.bx.kept h2 (fun e => by injection e; omega), h.be.kept h2 (fun e => by injection e; omega), h.br.kept h2 (fun e => by injection e; omega), ?_⟩
 exact h.bel.grown h2 (by omega) (fun q e => by injection e; omega)
theorem ConSt.elem {j : Nat} {o : Ord} (h : ConSt B x P e C c w N g d CS xs wx) (hj : xs[j]? = some o) : ∃ C0 c0, CellsAt wx ⟨g, j * 16, none⟩ (zA o C0 c0) ∧ yL o ∧ yM wx (fun b => b < B) C0 o.load ∧ wx.there g (j * 16) 16 := by
 have hkl := (List.getElem?_eq_some_iff.1 hj).1
 obtain ⟨cc, h3, h4, h5⟩ := h.els.at_ hj
 obtain ⟨C0, c0, rfl, h0, hf⟩ := oOrd_at h3
 have hll := h.len
 have hcl := h.own.1
 refine ⟨C0, c0, fun i u hu => ?_, hf, h0, own_there h.own (by omega)⟩
 have hi : i < 16 := (List.getElem?_eq_some_iff.1 hu).1
 rw [Addr.add_mid, h.own.cellAt (j * 16 + i) (by omega)]
 exact h5 i u hu
end
theorem con_fr {B N c' : Nat} {x : Ins} {P : InP} {w wz : World} {A : Option Addr} {CS : List Value} {os : List Ord} (hA : InAt w B x P) (hB : B ≤ w.heap.size) (hbz : Below w.heap.size w wz) (hown : wz.ownsRow (w.heap.size + 3) 35 16 (.slice A N c') N CS) (hels : EG oOrd wz (fun b => b < B) CS os) (hlen : os.length = N) (hN : N ≤ 1000000) :
  InFr wz B w.heap.size { x with orders := os } ⟨P.a0, P.c0, P.a1, P.c1, P.a2, P.c2, A, c', P.a4, P.c4, P.a5, P.c5⟩ := fun w' hs hk => by
 have hsz := hbz.size
 have hi := (hA.blocks (w' := w') (fun b hb => (hk b (by omega) (.inl hb)).trans (hbz.block b (by omega)))).more (show B ≤ w'.heap.size by omega)
 have ho := own_fr hown (w' := w') ⟨hs, fun b hb hp => hk b hb (.inr (by have h : w.heap.size + 3 ≤ b := hp; omega))⟩
 have he := hels.keep hs (fun b hb hp => ⟨hp, hk b hb (.inl hp)⟩)
 exact ord_at hi (EG.row (by rw [hlen]; exact ho) he (by omega)) (by rw [hlen]; exact own_len_cap ho)
theorem shfR_ok {o : Ord} {n : Int} (h : (shfB o.pick n && shfB o.drop n) = true) : shfR o n = (shfO o n, 0) := by
 rw [Bool.and_eq_true] at h
 unfold shfR shfO
 rw [if_pos h.1, if_pos h.2, show shfT o.drop n = shfS o.drop n by unfold shfT; rw [if_pos h.2]]
theorem shfR_bad {o : Ord} {n : Int} (h : (shfB o.pick n && shfB o.drop n) = false) : (shfR o n).2 = 2 := by
 unfold shfR
 split
 ·rename_i h1
  rw [h1, Bool.true_and] at h
  show (if shfB o.drop n = true then (0 : Int) else 2) = 2
  rw [if_neg (by rw [h]; decide)]
 ·rfl
theorem shfT_fits {s : Stp} {n : Int} (hg : goodS s) (hf : StpFits s) : StpFits (shfT s n) ∧ StpFits zeroS := by
 have hz : StpFits zeroS := by unfold StpFits zeroS; simp only; omega
 refine ⟨?_, hz⟩
 unfold shfT
 split
 ·rename_i h
  unfold shfB at h
  have h' := of_decide_eq_true h
  unfold shfS
  split
  ·exact hf
  ·rename_i hp
   unfold goodS win.Good at hg
   unfold StpFits at hf ⊢
   simp only
   omega
 ·exact hz
theorem shfR_fits {o : Ord} {n : Int} (h1 : goodS o.pick) (h2 : goodS o.drop) (hf : yL o) : yL (shfR o n).1 := by
 obtain ⟨f0, f1, f2, f3⟩ := hf
 obtain ⟨a1, a2⟩ := shfT_fits (n := n) h1 f1
 obtain ⟨a3, _⟩ := shfT_fits (n := n) h2 f2
 unfold shfR
 split
 ·rename_i h
  have e : shfT o.pick n = shfS o.pick n := by unfold shfT; rw [if_pos h]
  rw [e] at a1
  exact ⟨f0, a1, a3, f3⟩
 ·exact ⟨f0, a2, f2, f3⟩
theorem step_loadS {t : TypeId} {n : Nat} (T : StructOf t n) {o : Oper} {a : Act} {w : World} {ops : Array Oper} {K : Act → World → Prop} {Q : Exit → Act → World → Prop} {E' : Prop} (hgd : o.guard = none) (p : Operand) (ho : o.op = Op.load t p)
  (ad : Addr) (cs : List Value) (hp : a.eval p = .pointer (some ad)) (hc : CellsAt w ad cs) (hn : cs.length = n) (h : K (a.put o.dst (.agg cs.toArray)) w) :
  if Region.wanted o (yielded ops a.tmps) = true then Oper.wp Tryz.prog o a w K Q else E' := by
 have hw : Region.wanted o (yielded ops a.tmps) = true := by simp [Region.wanted, hgd]
 rw [if_pos hw]
 have hr := run_loadS T hc hn
 unfold Oper.wp execOp
 simp only [ho, hp, Sem.run_bind, hr, Result.andThen_ok, Sem.run_pure]
 exact h
set_option maxRecDepth 20000 in
set_option maxHeartbeats 8000000 in
theorem concerns_any (x : Ins) (P : InP) (e : Evt) (C : Option Addr) (c : Nat) (B : Nat) (w : World) (hB : B ≤ w.heap.size) (hA : InAt w B x P) (hF : insF x = []) (hn : -9223372036854775808 ≤ e.n ∧ e.n ≤ 9223372036854775807) :
  Calls Tryz.prog 106 #[InV x P, .agg (z8 e C c).toArray] w (HapOut w B (conF x e)) := by
 have h : InAt w w.heap.size x P := hA.more hB
 have HA := Lib.hid hA
 show Calls Tryz.prog 106 #[InV x P, .agg #[.int .i64 e.at_, .int .i64 e.kind, .int .i64 e.a, .int .i64 e.b, .int .i64 e.n, .string e.order.name, .slice C e.order.load.length c, .int .i64 e.order.pick.place, .int .i64 e.order.pick.opn, .int .i64 e.order.pick.close, .int .i64 e.order.pick.service, .int .i64 e.order.drop.place, .int .i64 e.order.drop.opn, .int .i64 e.order.drop.close, .int .i64 e.order.drop.service, .int .i64 e.order.skills, .int .i64 e.order.penalty, .int .i64 e.order.split, .int .i64 e.order.last, .int .i64 e.order.now, .bool e.order.off]] w _
 have HG := Lib.hid (good_of hF)
 have HN := Lib.hid hn
 have hl10 := (lim.lim_of hF).orders
 obtain ⟨W0, hW0⟩ : ∃ W0, ((w.alloc (.cells (insCs x P).toArray 30)).alloc (.cells (z8 e C c).toArray 37)).alloc (.cells nilCs.toArray 30) = W0 := ⟨_, rfl⟩
 have hB0 : Below w.heap.size w W0 := by rw [← hW0]; exact (((Below.refl _ _).alloc (Nat.le_refl _) _).alloc (by simp) _).alloc (by simp; omega) _
 have z0 : W0.heap.size = w.heap.size + 3 := by rw [← hW0]; simp
 have b0 : Blk W0 w.heap.size 30 (insCs x P) := by
  rw [← hW0]
  exact ((Blk.new w _ _).kept (World.grownBy_alloc _ _ none) (by simp)).kept (World.grownBy_alloc _ _ none) (by simp)
 have b1 : Blk W0 (w.heap.size + 1) 37 (z8 e C c) := by
  rw [← hW0]
  have h := Blk.new (w.alloc (.cells (insCs x P).toArray 30)) 37 (z8 e C c)
  rw [show (w.alloc (.cells (insCs x P).toArray 30)).heap.size = w.heap.size + 1 by simp] at h
  exact h.kept (World.grownBy_alloc _ _ none) (by simp)
 have b2 : Blk W0 (w.heap.size + 2) 30 nilCs := by
  rw [← hW0]
  have h := Blk.new ((w.alloc (.cells (insCs x P).toArray 30)).alloc (.cells (z8 e C c).toArray 37)) 30 nilCs
  rw [show ((w.alloc (.cells (insCs x P).toArray 30)).alloc (.cells (z8 e C c).toArray 37)).heap.size = w.heap.size + 2 by simp] at h
  exact h
 have hW1 : ((w.alloc (.cells #[.slice P.a0 x.net.places.length P.c0, .slice P.a1 x.net.arcs.length P.c1, .slice P.a2 x.types.length P.c2, .slice P.a3 x.orders.length P.c3, .slice P.a4 x.apart.length P.c4, .slice P.a5 x.before.length P.c5] 30)).alloc (.cells #[.int .i64 e.at_, .int .i64 e.kind, .int .i64 e.a, .int .i64 e.b, .int .i64 e.n, .string e.order.name, .slice C e.order.load.length c, .int .i64 e.order.pick.place, .int .i64 e.order.pick.opn, .int .i64 e.order.pick.close, .int .i64 e.order.pick.service, .int .i64 e.order.drop.place, .int .i64 e.order.drop.opn, .int .i64 e.order.drop.close, .int .i64 e.order.drop.service, .int .i64 e.order.skills, .int .i64 e.order.penalty, .int .i64 e.order.split, .int .i64 e.order.last, .int .i64 e.order.now, .bool e.order.off] 37)).alloc (.cells #[.slice none 0 0, .slice none 0 0, .slice none 0 0, .slice none 0 0, .slice none 0 0, .slice none 0 0] 30) = W0 := hW0
 have HX := Lib.hid (fun w' (h' : Below W0.heap.size W0 w') => And.intro (b0.below h') (And.intro (b1.below h') (b2.below h')))
 have HI := Lib.hid (fun w' (h' : Below w.heap.size w w') => h.go h')
 have HW1 := Lib.hid hW1
 have C0 := Below.refl W0.heap.size W0
 clear hW0 hW1 b0 b1 b2
 simp only [InV]
 obtain ⟨r, hr⟩ : ∃ r, conF x e = r := ⟨_, rfl⟩
 have HR := Lib.hid hr
 rw [hr]
 obtain ⟨N, hNN⟩ : ∃ N, x.orders.length = N := ⟨_, rfl⟩
 have HNN := Lib.hid hNN
 rw [hNN] at HW1 hl10 ⊢
 have HOR := Lib.hid hA.orders
 have c1 := (HX.out _ C0).2.1.cell (j := 2) rfl
 clear h hA hF hn hr hNN
 go_enter Tryz.func106, Tryz.ntmps106
 go_upto_region 1 with fail
 rw [HW1.out]
 clear HW1
 go_wp2_with ((with_reducible refine zH stIns _ rfl ⟨w.heap.size, 0, none⟩ (insCs (x) P) ?_ ?_ ?_ ?_ ?_); exact rfl; exact rfl; exact (HX.out _ C0).1.cells; exact rfl)
 refine (there_any x P e.a W0 (HI.out _ hB0)).mono ?_
 rintro e1 w1 ⟨rfl, b1⟩
 have HB1 := Lib.hid b1
 have HX1 := Lib.hid (HX.out _ b1)
 have HBW := Lib.hid (hB0.trans (b1.mono (by omega)))
 clear c1 b1
 by_cases ht : thrF x e.a = 0
 rotate_left
 ·have HRR : Hid (r = .error (thrF x e.a)) := Lib.hid (by rw [← HR.out]; unfold conF; rw [if_pos ht])
  obtain ⟨k, hk⟩ : ∃ k, thrF x e.a = k := ⟨_, rfl⟩
  have hkk : (k != 0) = true := by rw [← hk]; simp [ht]
  rw [hk] at HRR ⊢
  clear hk ht HR
  go_wp2_with (first
   | ((with_reducible refine zH stIns _ rfl ⟨w.heap.size, 0, none⟩ (insCs (x) P) ?_ ?_ ?_ ?_ ?_); exact rfl; exact rfl; exact HX1.out.1.cells; exact rfl)
   | ((with_reducible refine zJ stIns rfl _ _ rfl (w.heap.size + 2) nilCs (insCs (x) P) ?_ ?_ ?_ ?_ ?_ (zT _ _) ?_); exact rfl; exact rfl; exact HX1.out.2.2; exact rfl; exact rfl; intro wz k1 k2 k3 k4; have K := lib.h4 k1 k2 k3 k4; clear k1 k2 k3 k4))
  have HRz : Blk wz (w.heap.size + 2) 30 (insCs (x) P) := K.out.1
  refine bodyPost_ret (v := .tuple #[.agg (insCs (x) P).toArray, .int .i64 k]) (big.zK stIns Tryz.results106 rfl rfl HRz.cells rfl) rfl ?_
  rw [HRR.out]
  exact ⟨x, P, rfl, HBW.out.trans (K.out.2.2.2.mono (by omega))⟩
 rw [ht]
 obtain ⟨j, o, hj, ho, hoff⟩ := thr_ok ht
 have hjN : j < N := by rw [← HNN.out]; exact (List.getElem?_eq_some_iff.1 ho).1
 have HG9 := Lib.hid (HG.out o (List.mem_of_getElem? ho))
 have HR2 : Hid (r = if e.kind = 2 then .ok { x with orders := x.orders.set j { o with off := true } } else if shfB o.pick e.n && shfB o.drop e.n then .ok { x with orders := x.orders.set j (shfO o e.n) } else .error 2) := Lib.hid (by
  rw [← HR.out]
  unfold conF
  rw [if_neg (fun h => h ht), hj, Int.toNat_natCast, ho])
 have HO := Lib.hid ho
 have x3 : w1.cell? ⟨w.heap.size, 3, none⟩ = some (.slice P.a3 N P.c3) := by rw [← HNN.out]; exact HX1.out.1.cell (j := 3) rfl
 have f3 := HX1.out.1.frozen 3
 clear ht HR ho hoff HG
 go_wp2_with fail
 have hcl := cloneO_any P.a3 P.c3 x.orders B w1 (Nat.le_trans hB HBW.out.size) (HOR.out.below (HBW.out.mono hB)) (by rw [HNN.out]; omega)
 rw [HNN.out] at hcl
 refine hcl.mono ?_
 rintro e2 w2 ⟨A', c', CS, rfl, hown, hels, b2⟩
 obtain ⟨g, cap, hv, hgb, hglt⟩ := hown.form (by omega)
 obtain rfl : A' = some ⟨g, 0, none⟩ := by injection hv
 have hz1 : w.heap.size + 3 ≤ w1.heap.size := by have := HB1.out.size; omega
 have hX2 := HX.out _ (HB1.out.trans (b2.mono HB1.out.size))
 have x3 : w2.cell? ⟨w.heap.size, 3, none⟩ = some (.slice P.a3 N P.c3) := by rw [← HNN.out]; exact hX2.1.cell (j := 3) rfl
 have f3 := hX2.1.frozen 3
 go_upto_region 5 with fail
 obtain ⟨W3, hW3⟩ : ∃ W, w2.setCell ⟨w.heap.size, 3, none⟩ (.slice (some ⟨g, 0, none⟩) N c') = W := ⟨_, rfl⟩
 rw [hW3]
 have HS : Hid (ConSt B x P e C c w N g c' CS x.orders W3) := Lib.hid (by
  have hgr := yH w2 w.heap.size 3 (.slice (some ⟨g, 0, none⟩) N c')
  rw [← hW3]
  refine ⟨zY (ownsRow_setCell_below hown (by show w.heap.size < w1.heap.size; omega) _) hz1, hels.keep hgr.size (fun b hb hp => ⟨hp, hgr.block b hb (fun e => by injection e; omega)⟩), hB, HNN.out, hX2.1.set 3 _, hX2.2.1.kept hgr (fun e => by injection e; omega), hX2.2.2.kept hgr (fun e => by injection e; omega), ?_⟩
  exact (HBW.out.trans (b2.mono HBW.out.size)).setCell (p := ⟨w.heap.size, 3, none⟩) (Nat.le_refl _) _)
 clear hW3 hown hels b2 hX2 x3 f3 hcl hz1 hgb hglt
 have x3 : W3.cell? ⟨w.heap.size, 3, none⟩ = some (.slice (some ⟨g, 0, none⟩) N c') := HS.out.bx.cell (j := 3) rfl
 have e1 := HS.out.be.cell (j := 1) rfl
 have e2 := HS.out.be.cell (j := 2) rfl
 have hj0 : (0 : Int) ≤ (j : Int) := by omega
 have hjn : (j : Int) < (N : Int) := by omega
 obtain ⟨C0, c0, hce, hof, hio, hth⟩ := HS.out.elem HO.out
 have HE := Lib.hid (And.intro hce (And.intro hof (And.intro hio hth)))
 clear hce hof hio hth
 obtain ⟨kb, hkb⟩ : ∃ b, (e.kind == 2) = b := ⟨_, rfl⟩
 have HKB : Hid ((e.kind = 2) ↔ kb = true) := Lib.hid (by rw [← hkb]; simp)
 cases kb
 ·have HR3 : Hid (r = if shfB o.pick e.n && shfB o.drop e.n then .ok { x with orders := x.orders.set j (shfO o e.n) } else .error 2) := Lib.hid (by rw [HR2.out, if_neg (fun h => by have := HKB.out.1 h; cases this)])
  clear HR2
  obtain ⟨o', ho'⟩ : ∃ o', (shfR o e.n).1 = o' := ⟨_, rfl⟩
  obtain ⟨kk, hkk⟩ : ∃ kk, (shfR o e.n).2 = kk := ⟨_, rfl⟩
  have HFT : Hid (yL o' ∧ o'.load = o.load) := Lib.hid (by
   rw [← ho']
   refine ⟨shfR_fits HG9.out.1 HG9.out.2 HE.out.2.1, ?_⟩
   unfold shfR
   split <;> rfl)
  have HRR : Hid ((r = .ok { x with orders := x.orders.set j o' } ∧ kk = 0) ∨ (r = .error 2 ∧ kk = 2)) := Lib.hid (by
   rw [HR3.out, ← ho', ← hkk]
   cases hb : shfB o.pick e.n && shfB o.drop e.n
   ·exact .inr ⟨rfl, shfR_bad hb⟩
   ·rw [shfR_ok hb]
    exact .inl ⟨rfl, rfl⟩)
  have HSH : Hid (∀ w, Calls Tryz.prog 166 #[.agg (zA o C0 c0).toArray, .int .i64 e.n] w fun e1 w' => e1 = .returned (.tuple #[.agg (zA o' C0 c0).toArray, .int .i64 kk]) ∧ Below w.heap.size w w') := Lib.hid (fun w => by
   have h := shifted_any o C0 c0 e.n w HG9.out.1 HG9.out.2 HN.out
   rw [ho', hkk] at h
   exact h)
  clear HR3 ho' hkk
  go_upto_region 10 with fail
  clear x3 e1 e2
  have HSS : Hid (∀ w', Below W3.heap.size W3 w' → w'.cell? ⟨w.heap.size + 1, 4, none⟩ = some (.int .i64 e.n)) := Lib.hid (fun w' hb => (HS.out.be.below hb).cell (j := 4) rfl)
  (refine wp_region_held_drew (S := (fun w' => w'.cell? ⟨w.heap.size + 1, 4, none⟩ = some (.int .i64 e.n))) (by kernel_rfl) ?_ (fun hHeld => ?_))
  ·exact HSS.out _ (Below.refl _ _).drew
  (refine lib.tk 0 ?_ rfl (by kernel_rfl) (fun _ _ _ h => h) ?_ (by assumption) ?_; rotate_left; (focus (intro w hSw; (try dsimp only at hSw); go_simp; all_goals with_reducible rfl)); (try simp only [lib.hly]))
  (refine lib.tk 1 ?_ rfl (by kernel_rfl) (fun _ _ _ h => h) ?_ (by assumption) ?_; rotate_left; (focus (intro w hSw; (try dsimp only at hSw); go_simp; all_goals with_reducible rfl)); (try simp only [lib.hly]))
  (refine lib.tk 2 ?_ rfl (by kernel_rfl) (fun _ _ _ h => h) ?_ (by assumption) ?_; rotate_left; (focus (intro w hSw; (try dsimp only at hSw); go_simp; all_goals with_reducible rfl)); (try simp only [lib.hly]))
  (refine lib.tk 4 ?_ rfl (by kernel_rfl) (fun _ _ _ h => h) ?_ (by assumption) ?_; rotate_left; (focus (intro w hSw; (try dsimp only at hSw); go_simp; all_goals with_reducible rfl)); (try simp only [lib.hly]))
  (refine lib.tk 5 ?_ rfl (by kernel_rfl) (fun _ _ _ h => h) ?_ (by assumption) ?_; rotate_left; (focus (intro w hSw; (try dsimp only at hSw); go_simp; all_goals with_reducible rfl)); (try simp only [lib.hly]))
  (refine wpAnyH_ready (rs := [3]) (by kernel_rfl) (by simp) ?_; refine AllReadyH.cons rfl (fun K hK => ?_) AllReadyH.nil)
  refine step_loadS stOrd' rfl _ rfl ⟨g, j * 16, none⟩ (zA o C0 c0) rfl HE.out.1 rfl ?_
  refine hK.out _ _ (HSS.out _ (Below.refl _ _).drew) (fun hHeld => ?_)
  clear hK K
  (try simp only [lib.hly])
  (refine wpAnyH_ready (rs := [6]) (by kernel_rfl) (by simp) ?_; refine AllReadyH.cons rfl (fun K hK => ?_) AllReadyH.nil)
  go_simp
  refine (HSH.out _).mono ?_
  rintro e5 w5 ⟨rfl, b5⟩
  have B5 : Below W3.heap.size W3 w5 := ((Below.refl _ _).drew).trans b5
  have HS5 := Lib.hid (HS.out.below B5)
  clear b5
  refine hK.out _ _ (HSS.out _ B5) (fun hHeld => ?_)
  clear hK K
  (try simp only [lib.hly])
  (refine lib.tk 7 ?_ rfl (by kernel_rfl) (fun _ _ _ h => h) ?_ (by assumption) ?_; rotate_left; (focus (intro w hSw; (try dsimp only at hSw); go_simp; all_goals with_reducible rfl)); (try simp only [lib.hly]))
  (refine lib.tk 8 ?_ rfl (by kernel_rfl) (fun _ _ _ h => h) ?_ (by assumption) ?_; rotate_left; (focus (intro w hSw; (try dsimp only at hSw); go_simp; all_goals with_reducible rfl)); (try simp only [lib.hly]))
  (refine lib.tk 9 ?_ rfl (by kernel_rfl) (fun _ _ _ h => h) ?_ (by assumption) ?_; rotate_left; (focus (intro w hSw; (try dsimp only at hSw); go_simp; all_goals with_reducible rfl)); (try simp only [lib.hly]))
  (refine lib.tk 10 ?_ rfl (by kernel_rfl) (fun _ _ _ h => h) ?_ (by assumption) ?_; rotate_left; (focus (intro w hSw; (try dsimp only at hSw); go_simp; all_goals with_reducible rfl)); (try simp only [lib.hly]))
  (refine wpAnyH_ready (rs := [11]) (by kernel_rfl) (by simp) ?_; refine AllReadyH.cons rfl (fun K hK => ?_) AllReadyH.nil)
  refine yF stOrd' rfl _ _ rfl g (j * 16) (zA o' C0 c0) rfl rfl (own_there HS5.out.own (by have h1 := HS5.out.own.1; omega)) rfl (zR _ _ _) ?_
  have HS6 : Hid (ConSt B x P e C c w N g c' (setM CS (j * 16) (zA o' C0 c0)) (x.orders.set j o') (w5.setCells g (j * 16) (zA o' C0 c0))) := Lib.hid (by
   refine HS5.out.cells (by rw [List.length_set]; exact HNN.out) ?_
   refine EG.put (r := oOrd) HS5.out.els (by rw [HNN.out]; exact hjN) rfl (oOrd_mk (t := o') ?_ HFT.out.1)
   rw [HFT.out.2]
   exact zU HE.out.2.2.1 B5.size (fun b hb hp => ⟨hp, B5.block b hb⟩))
  obtain ⟨W6, hW6⟩ : ∃ W, w5.setCells g (j * 16) (zA o' C0 c0) = W := ⟨_, rfl⟩
  rw [hW6] at HS6 ⊢
  clear hW6 HS5 B5 HSS
  refine hK.out _ _ ((HS6.out.be.cell (j := 4) rfl)) (fun hHeld => ?_)
  clear hK K
  (try simp only [lib.hly])
  (refine lib.tk 12 ?_ rfl (by kernel_rfl) (fun _ _ _ h => h) ?_ (by assumption) ?_; rotate_left; (focus (intro w hSw; (try dsimp only at hSw); go_simp; all_goals with_reducible rfl)); (try simp only [lib.hly]))
  (refine wpAnyH_done (by kernel_rfl) ?_ _)
  have HB4 : Hid (Blk W6 w.heap.size 30 (insCs { x with orders := x.orders.set j o' } ⟨P.a0, P.c0, P.a1, P.c1, P.a2, P.c2, some ⟨g, 0, none⟩, c', P.a4, P.c4, P.a5, P.c5⟩)) := Lib.hid (by
   have h := HS6.out.bx
   rw [insCs_ord x P (x.orders.set j o') _ N c' (by rw [List.length_set]; exact HNN.out)] at h
   exact h)
  go_wp2_with (first
   | ((with_reducible refine zH stIns _ rfl ⟨w.heap.size, 0, none⟩ (insCs ({ x with orders := x.orders.set j o' }) ⟨P.a0, P.c0, P.a1, P.c1, P.a2, P.c2, some ⟨g, 0, none⟩, c', P.a4, P.c4, P.a5, P.c5⟩) ?_ ?_ ?_ ?_ ?_); exact rfl; exact rfl; exact HB4.out.cells; exact rfl)
   | ((with_reducible refine zJ stIns rfl _ _ rfl (w.heap.size + 2) nilCs (insCs ({ x with orders := x.orders.set j o' }) ⟨P.a0, P.c0, P.a1, P.c1, P.a2, P.c2, some ⟨g, 0, none⟩, c', P.a4, P.c4, P.a5, P.c5⟩) ?_ ?_ ?_ ?_ ?_ (zT _ _) ?_); exact rfl; exact rfl; exact HS6.out.br; exact rfl; exact rfl; intro wz k1 k2 k3 k4; have K := lib.h4 k1 k2 k3 k4; clear k1 k2 k3 k4))
  have HRz : Blk wz (w.heap.size + 2) 30 (insCs { x with orders := x.orders.set j o' } ⟨P.a0, P.c0, P.a1, P.c1, P.a2, P.c2, some ⟨g, 0, none⟩, c', P.a4, P.c4, P.a5, P.c5⟩) := K.out.1
  refine bodyPost_ret (v := .tuple #[.agg (insCs { x with orders := x.orders.set j o' } ⟨P.a0, P.c0, P.a1, P.c1, P.a2, P.c2, some ⟨g, 0, none⟩, c', P.a4, P.c4, P.a5, P.c5⟩).toArray, .int .i64 kk]) (big.zK stIns Tryz.results106 rfl rfl HRz.cells rfl) rfl ?_
  have hbz : Below w.heap.size w wz := HS6.out.bel.trans (K.out.2.2.2.mono (by omega))
  rcases HRR.out with ⟨h1, h2⟩ | ⟨h1, h2⟩
  ·rw [h1, h2]
   have hgz : W6.heap.size ≤ wz.heap.size := by rw [K.out.2.2.1]; exact Nat.le_refl _
   have hown := own_skip HS6.out.own HS6.out.br (by decide) K.out.2.1
   have hels := EG.keep2 HS6.out.els (HS6.out.bel.mono hB) (hbz.mono hB) hgz
   exact ⟨_, rfl, con_fr HA.out hB hbz hown hels HS6.out.len (by omega), hbz⟩
  ·rw [h1, h2]
   exact ⟨_, _, rfl, hbz⟩
 ·have HRR : Hid (r = .ok { x with orders := x.orders.set j { o with off := true } }) := Lib.hid (by rw [HR2.out, if_pos (HKB.out.2 rfl)])
  clear HR2
  have y15 : W3.cell? ⟨g, j * 16 + 15, none⟩ = some (.bool o.off) := HE.out.1 15 _ rfl
  have f15 := HS.out.own.frozenAt (j * 16 + 15)
  go_upto_region 8 with fail
  obtain ⟨W4, hW4⟩ : ∃ W, W3.setCell ⟨g, j * 16 + 15, none⟩ (.bool true) = W := ⟨_, rfl⟩
  rw [hW4]
  have HS4 : Hid (ConSt B x P e C c w N g c' (setM CS (j * 16 + 15) [.bool true]) (x.orders.set j { o with off := true }) W4) := Lib.hid (by
   rw [← hW4]
   refine HS.out.cells (o := j * 16 + 15) (vs := [.bool true]) (by rw [List.length_set]; exact HNN.out) ?_
   refine EG.mod (r := oOrd) HS.out.els (by rw [HNN.out]; exact hjN) (show 15 < 16 by decide) ?_
   obtain ⟨D, dd, hc, hi, hf⟩ := oOrd_at (HS.out.els.2 j o HO.out)
   rw [hc]
   exact oOrd_mk (t := { o with off := true }) hi hf)
  clear hW4 y15 f15 x3 e1 e2
  have HB4 : Hid (Blk W4 w.heap.size 30 (insCs { x with orders := x.orders.set j { o with off := true } } ⟨P.a0, P.c0, P.a1, P.c1, P.a2, P.c2, some ⟨g, 0, none⟩, c', P.a4, P.c4, P.a5, P.c5⟩)) := Lib.hid (by
   have h := HS4.out.bx
   rw [insCs_ord x P (x.orders.set j { o with off := true }) _ N c' (by rw [List.length_set]; exact HNN.out)] at h
   exact h)
  go_wp2_with (first
   | ((with_reducible refine zH stIns _ rfl ⟨w.heap.size, 0, none⟩ (insCs ({ x with orders := x.orders.set j { o with off := true } }) ⟨P.a0, P.c0, P.a1, P.c1, P.a2, P.c2, some ⟨g, 0, none⟩, c', P.a4, P.c4, P.a5, P.c5⟩) ?_ ?_ ?_ ?_ ?_); exact rfl; exact rfl; exact HB4.out.cells; exact rfl)
   | ((with_reducible refine zJ stIns rfl _ _ rfl (w.heap.size + 2) nilCs (insCs ({ x with orders := x.orders.set j { o with off := true } }) ⟨P.a0, P.c0, P.a1, P.c1, P.a2, P.c2, some ⟨g, 0, none⟩, c', P.a4, P.c4, P.a5, P.c5⟩) ?_ ?_ ?_ ?_ ?_ (zT _ _) ?_); exact rfl; exact rfl; exact HS4.out.br; exact rfl; exact rfl; intro wz k1 k2 k3 k4; have K := lib.h4 k1 k2 k3 k4; clear k1 k2 k3 k4))
  have HRz : Blk wz (w.heap.size + 2) 30 (insCs ({ x with orders := x.orders.set j { o with off := true } }) ⟨P.a0, P.c0, P.a1, P.c1, P.a2, P.c2, some ⟨g, 0, none⟩, c', P.a4, P.c4, P.a5, P.c5⟩) := K.out.1
  refine bodyPost_ret (v := .tuple #[.agg (insCs ({ x with orders := x.orders.set j { o with off := true } }) ⟨P.a0, P.c0, P.a1, P.c1, P.a2, P.c2, some ⟨g, 0, none⟩, c', P.a4, P.c4, P.a5, P.c5⟩).toArray, .int .i64 0]) (big.zK stIns Tryz.results106 rfl rfl HRz.cells rfl) rfl ?_
  rw [HRR.out]
  have hbz : Below w.heap.size w wz := HS4.out.bel.trans (K.out.2.2.2.mono (by omega))
  have hgz : W4.heap.size ≤ wz.heap.size := by rw [K.out.2.2.1]; exact Nat.le_refl _
  have hown := own_skip HS4.out.own HS4.out.br (by decide) K.out.2.1
  have hels := EG.keep2 HS4.out.els (HS4.out.bel.mono hB) (hbz.mono hB) hgz
  exact ⟨_, rfl, con_fr HA.out hB hbz hown hels HS4.out.len (by omega), hbz⟩
end Go.Proofs.YtofabhenmplkoaaGreatDoor.evt

/- What an event does to an instance; which events can be applied. The program. -/
namespace Go.Proofs.YtofabhenmplkoaaGreatDoor.evt
open Go.RowKit
open lib rd app els off typ big ins ord gen
structure TcSt (B : Nat) (x : Ins) (P : InP) (e : Evt) (C : Option Addr) (c : Nat) (w : World) (N g d : Nat) (CS : List Value) (xs : List Ty) (wx : World) : Prop where
 own : wx.ownsRow (w.heap.size + 3) 56 14 (.slice (some ⟨g, 0, none⟩) N d) N CS
 els : EG oTy wx (fun b => b < B) CS xs
 hB : B ≤ w.heap.size
 len : xs.length = N
 bx : Blk wx w.heap.size 30 ((insCs x P).set 2 (.slice (some ⟨g, 0, none⟩) N d))
 be : Blk wx (w.heap.size + 1) 37 (z8 e C c)
 br : Blk wx (w.heap.size + 2) 30 nilCs
 bel : Below w.heap.size w wx
section
variable {B : Nat} {x : Ins} {P : InP} {e : Evt} {C : Option Addr} {c : Nat} {w wx wy : World} {N g d : Nat} {CS : List Value} {xs : List Ty}
theorem TcSt.lo (h : TcSt B x P e C c w N g d CS xs wx) : w.heap.size + 3 ≤ g ∧ g < wx.heap.size := World.ownsRow.lt h.own g rfl
theorem TcSt.below (h : TcSt B x P e C c w N g d CS xs wx) (hb : Below wx.heap.size wx wy) : TcSt B x P e C c w N g d CS xs wy :=
 ⟨own_below h.own hb, h.els.below hb, h.hB, h.len, h.bx.below hb, h.be.below hb, h.br.below hb, h.bel.trans (hb.mono (by have := h.lo; omega))⟩
theorem TcSt.cells {xs' : List Ty} {o : Nat} {vs : List Value} (h : TcSt B x P e C c w N g d CS xs wx) (hl : xs'.length = N) (he : EG oTy wx (fun b => b < B) (setM CS o vs) xs') :
  TcSt B x P e C c w N g d (setM CS o vs) xs' (wx.setCells g o vs) := by
 have hlo := h.lo
 have hBB := h.hB
 obtain ⟨h1, h2⟩ := own_setCells vs o wx CS h.own
 refine ⟨h1, he.keep h2.size (fun b hb hp => ⟨hp, h2.block b hb (fun e => by injection e; omega)⟩), hBB, hl, h.bx.kept h2 (fun e => by injection e; omega), h.be.kept h2 (fun e => by injection e; omega), h.br.kept h2 (fun e => by injection e; omega), ?_⟩
 exact h.bel.grown h2 (by omega) (fun q e => by injection e; omega)
theorem TcSt.elem {j : Nat} {o : Ty} (h : TcSt B x P e C c w N g d CS xs wx) (hj : xs[j]? = some o) : ∃ C0 c0, CellsAt wx ⟨g, j * 14, none⟩ (zG o C0 c0) ∧ TyFits o ∧ yM wx (fun b => b < B) C0 o.cap ∧ wx.there g (j * 14) 14 := by
 have hkl := (List.getElem?_eq_some_iff.1 hj).1
 obtain ⟨cc, h3, h4, h5⟩ := h.els.at_ hj
 obtain ⟨C0, c0, rfl, h0, hf⟩ := oTy_at h3
 have hll := h.len
 have hcl := h.own.1
 refine ⟨C0, c0, fun i u hu => ?_, hf, h0, own_there h.own (by omega)⟩
 have hi : i < 14 := (List.getElem?_eq_some_iff.1 hu).1
 rw [Addr.add_mid, h.own.cellAt (j * 14 + i) (by omega)]
 exact h5 i u hu
end
theorem insCs_ty (x : Ins) (P : InP) (ts : List Ty) (A : Option Addr) (N c : Nat) (h : ts.length = N) : (insCs x P).set 2 (.slice A N c) = insCs { x with types := ts } ⟨P.a0, P.c0, P.a1, P.c1, A, c, P.a3, P.c3, P.a4, P.c4, P.a5, P.c5⟩ := by
 subst h
 rfl
theorem ty_at' {w : World} {x : Ins} {P : InP} {ts : List Ty} {A : Option Addr} {c : Nat} (h : InAt w w.heap.size x P) (hr : RowAt rTy w w.heap.size A ts) (hc : ts.length ≤ c) : InAt w w.heap.size { x with types := ts } ⟨P.a0, P.c0, P.a1, P.c1, A, c, P.a3, P.c3, P.a4, P.c4, P.a5, P.c5⟩ :=
 ⟨h.places, h.arcs, hr, h.orders, h.apart, h.before, hc, h.capO, h.capA, h.capB⟩
theorem insCs_net (x : Ins) (P : InP) (N : Net) (A0 A1 : Option Addr) (n0 c0 n1 c1 : Nat) (h0 : N.places.length = n0) (h1 : N.arcs.length = n1) : ((insCs x P).set 0 (.slice A0 n0 c0)).set 1 (.slice A1 n1 c1) = insCs { x with net := N } ⟨A0, c0, A1, c1, P.a2, P.c2, P.a3, P.c3, P.a4, P.c4, P.a5, P.c5⟩ := by
 subst h0
 subst h1
 rfl
theorem net_at' {w : World} {x : Ins} {P : InP} {N : Net} {A : Option Addr} {c : Nat} (h : InAt w w.heap.size x P) (hr : RowAt rArc w w.heap.size A N.arcs) (hp : N.places = x.net.places) : InAt w w.heap.size { x with net := N } ⟨P.a0, P.c0, A, c, P.a2, P.c2, P.a3, P.c3, P.a4, P.c4, P.a5, P.c5⟩ :=
 ⟨by show RowAt rStr w w.heap.size P.a0 N.places; rw [hp]; exact h.places, hr, h.types, h.orders, h.apart, h.before, h.capT, h.capO, h.capA, h.capB⟩
theorem ty_fr {B N c' : Nat} {x : Ins} {P : InP} {w wz : World} {A : Option Addr} {CS : List Value} {ts : List Ty} (hA : InAt w B x P) (hB : B ≤ w.heap.size) (hbz : Below w.heap.size w wz) (hown : wz.ownsRow (w.heap.size + 3) 56 14 (.slice A N c') N CS) (hels : EG oTy wz (fun b => b < B) CS ts) (hlen : ts.length = N) (hN : N ≤ 1000000) :
  InFr wz B w.heap.size { x with types := ts } ⟨P.a0, P.c0, P.a1, P.c1, A, c', P.a3, P.c3, P.a4, P.c4, P.a5, P.c5⟩ := fun w' hs hk => by
 have hsz := hbz.size
 have hi := (hA.blocks (w' := w') (fun b hb => (hk b (by omega) (.inl hb)).trans (hbz.block b (by omega)))).more (show B ≤ w'.heap.size by omega)
 have ho := own_fr hown (w' := w') ⟨hs, fun b hb hp => hk b hb (.inr (by have h : w.heap.size + 3 ≤ b := hp; omega))⟩
 have he := hels.keep hs (fun b hb hp => ⟨hp, hk b hb (.inl hp)⟩)
 exact ty_at' hi (EG.row (by rw [hlen]; exact ho) he (by omega)) (by rw [hlen]; exact own_len_cap ho)
theorem net_fr {B c : Nat} {x : Ins} {P : InP} {w wz : World} {A : Option Addr} {N : Net} (hA : InAt w B x P) (hB : B ≤ w.heap.size) (hbz : Below w.heap.size w wz) (hrow : yK oArc wz (fun b => b < B ∨ w.heap.size + 3 ≤ b) A N.arcs) (hp : N.places = x.net.places) :
  InFr wz B w.heap.size { x with net := N } ⟨P.a0, P.c0, A, c, P.a2, P.c2, P.a3, P.c3, P.a4, P.c4, P.a5, P.c5⟩ := fun w' hs hk => by
 have hsz := hbz.size
 have hi := (hA.blocks (w' := w') (fun b hb => (hk b (by omega) (.inl hb)).trans (hbz.block b (by omega)))).more (show B ≤ w'.heap.size by omega)
 have hr := (hrow.keep (P' := fun _ => True) hs (fun b hb hp => ⟨trivial, hk b hb (by rcases hp with h | h <;> omega)⟩)).row
 exact net_at' hi hr hp
theorem slw_places {N N' : Net} {f t at_ n : Int} (h : slwF N f t at_ n = .ok N') : N'.places = N.places := by
 unfold slwF at h
 split at h
 ·cases h
 ·split at h
  ·cases h
  ·split at h
   ·cases h
   ·split at h
    ·injection h with h
     rw [← h]
    ·cases h
theorem lim_add {x : Ins} (o : Ord) (h : Lim x) : x.orders.length < 10 → Lim (addI x o) := fun hl =>
 ⟨h.places, h.arcs, h.points, h.few, h.net, h.types, by show (x.orders ++ [o]).length ≤ 20; rw [List.length_append]; show _ + 1 ≤ 20; omega, h.apart, h.before⟩
theorem hap_con {x : Ins} {e : Evt} (h1 : ¬ e.kind = 1) (h3 : ¬ e.kind = 3) (h4 : ¬ e.kind = 4) : hapF x e = conF x e := by
 unfold hapF conF
 rw [if_neg h1, if_neg h3, if_neg h4]
 by_cases ht : thrF x e.a = 0
 ·rw [if_neg (fun h => h ht), if_neg (fun h => h ht)]
  cases x.orders[e.a.toNat]? <;> rfl
 ·rw [if_pos ht, if_pos ht]
def hapK (r : Except Int Ins) : Int := match r with
 | .error k => k
 | .ok _ => 0
theorem slow_of {x : Ins} (h : insF x = []) : ∀ a ∈ x.net.arcs, a.slow.length ≤ 500 ∧ ∀ p ∈ a.slow, -1000000 ≤ p.a ∧ p.a ≤ 1000000 := fun a ha => by
 obtain ⟨hN, hT, hO, hR⟩ := par.insF_nil.1 h
 unfold insN at hN
 obtain ⟨j, hj⟩ := List.mem_iff_getElem?.1 ha
 have h1 := (lim.netTo_nil _ hN).2 j a (List.getElem?_eq_some_iff.1 hj).1 hj
 unfold net.arcE at h1
 rw [List.append_eq_nil_iff, List.append_eq_nil_iff, List.map_eq_nil_iff] at h1
 have h2 := h1.2
 have key : ∀ k, net.slTo a.slow k = [] → a.slow.length ≤ 16 ∧ ∀ (i : Nat) p, i < k → a.slow[i]? = some p → net.slBad a.slow i p = false := by
  intro k
  induction k with
  | zero =>
   intro h
   unfold net.slTo at h
   split at h
   ·cases h
   ·exact ⟨by omega, fun i p hi => absurd hi (by omega)⟩
  | succ k ih =>
   intro h
   rw [net.slTo, List.append_eq_nil_iff] at h
   obtain ⟨g1, g2⟩ := ih h.1
   refine ⟨g1, fun i p hi hp => ?_⟩
   rcases Nat.lt_or_ge i k with hlt | hge
   ·exact g2 i p hlt hp
   ·obtain rfl : i = k := by omega
    have h3 := h.2
    unfold net.slAt at h3
    rw [hp] at h3
    have h4 : net.slP a.slow i p = [] := h3
    unfold net.slP at h4
    split at h4
    ·cases h4
    ·rename_i h5
     simpa using h5
 obtain ⟨g1, g2⟩ := key _ h2
 refine ⟨by omega, fun p hp => ?_⟩
 obtain ⟨i, hi⟩ := List.mem_iff_getElem?.1 hp
 have h3 := g2 i p (List.getElem?_eq_some_iff.1 hi).1 hi
 unfold net.slBad win.tickB at h3
 simp only [Bool.or_eq_false_iff] at h3
 simp at h3
 omega
theorem cnt_of {x : Ins} (h : insF x = []) : ∀ t ∈ x.types, 0 ≤ t.count ∧ t.count ≤ 10 := fun t ht => by
 obtain ⟨hN, hT, hO, hR⟩ := par.insF_nil.1 h
 unfold insT at hT
 obtain ⟨j, hj⟩ := List.mem_iff_getElem?.1 ht
 have key : ∀ k, flt.fltsTo ((x.net.places.length : Int) - 1) x.types k = [] → ∀ (i : Nat) t, i < k → x.types[i]? = some t → flt.errsL ((x.net.places.length : Int) - 1) x.types i t (flt.dimsN x.types) = [] := by
  intro k
  induction k with
  | zero => intro _ i t hi; omega
  | succ k ih =>
   intro hk i t hi ht
   rw [flt.fltsTo, List.append_eq_nil_iff] at hk
   rcases Nat.lt_or_ge i k with h | h
   ·exact ih hk.1 i t h ht
   ·obtain rfl : i = k := by omega
    have h3 := hk.2
    unfold flt.fltsAt at h3
    rw [ht] at h3
    exact List.map_eq_nil_iff.1 h3
 have h0 := key _ hT j t (List.getElem?_eq_some_iff.1 hj).1 hj
 unfold flt.errsL at h0
 have hp : ∀ {xs : List Int} {r : Bool} {u : Int}, flt.pushIf xs r u = [] → xs = [] ∧ r = true := fun {xs r u} h => by
  unfold flt.pushIf at h
  cases r
  ·simp at h
  ·exact ⟨by simpa using h, rfl⟩
 have h7 := (hp (hp (hp (hp (hp (hp (hp h0).1).1).1).1).1).1).2
 unfold flt.inB at h7
 simpa using h7
set_option maxRecDepth 20000 in
set_option maxHeartbeats 8000000 in
theorem happens_any (x : Ins) (P : InP) (e : Evt) (C : Option Addr) (c : Nat) (B : Nat) (w : World) (hB : B ≤ w.heap.size) (hA : InAt w B x P) (hF : insF x = []) (hC : Ints w B C e.order.load) (hf : yN e) :
  Calls Tryz.prog 46 #[InV x P, .agg (z8 e C c).toArray] w (HapOut w B (hapF x e)) := by
 have h : InAt w w.heap.size x P := hA.more hB
 have HA := Lib.hid hA
 show Calls Tryz.prog 46 #[InV x P, .agg #[.int .i64 e.at_, .int .i64 e.kind, .int .i64 e.a, .int .i64 e.b, .int .i64 e.n, .string e.order.name, .slice C e.order.load.length c, .int .i64 e.order.pick.place, .int .i64 e.order.pick.opn, .int .i64 e.order.pick.close, .int .i64 e.order.pick.service, .int .i64 e.order.drop.place, .int .i64 e.order.drop.opn, .int .i64 e.order.drop.close, .int .i64 e.order.drop.service, .int .i64 e.order.skills, .int .i64 e.order.penalty, .int .i64 e.order.split, .int .i64 e.order.last, .int .i64 e.order.now, .bool e.order.off]] w _
 have HF := Lib.hid hF
 have HFT := Lib.hid hf
 have HCC := Lib.hid hC
 have HLM := Lib.hid (lim.lim_of hF)
 have HOW := Lib.hid h
 obtain ⟨W0, hW0⟩ : ∃ W0, ((w.alloc (.cells (insCs x P).toArray 30)).alloc (.cells (z8 e C c).toArray 37)).alloc (.cells nilCs.toArray 30) = W0 := ⟨_, rfl⟩
 have hB0 : Below w.heap.size w W0 := by rw [← hW0]; exact (((Below.refl _ _).alloc (Nat.le_refl _) _).alloc (by simp) _).alloc (by simp; omega) _
 have z0 : W0.heap.size = w.heap.size + 3 := by rw [← hW0]; simp
 have b0 : Blk W0 w.heap.size 30 (insCs x P) := by
  rw [← hW0]
  exact ((Blk.new w _ _).kept (World.grownBy_alloc _ _ none) (by simp)).kept (World.grownBy_alloc _ _ none) (by simp)
 have b1 : Blk W0 (w.heap.size + 1) 37 (z8 e C c) := by
  rw [← hW0]
  have h := Blk.new (w.alloc (.cells (insCs x P).toArray 30)) 37 (z8 e C c)
  rw [show (w.alloc (.cells (insCs x P).toArray 30)).heap.size = w.heap.size + 1 by simp] at h
  exact h.kept (World.grownBy_alloc _ _ none) (by simp)
 have b2 : Blk W0 (w.heap.size + 2) 30 nilCs := by
  rw [← hW0]
  have h := Blk.new ((w.alloc (.cells (insCs x P).toArray 30)).alloc (.cells (z8 e C c).toArray 37)) 30 nilCs
  rw [show ((w.alloc (.cells (insCs x P).toArray 30)).alloc (.cells (z8 e C c).toArray 37)).heap.size = w.heap.size + 2 by simp] at h
  exact h
 have hW1 : ((w.alloc (.cells #[.slice P.a0 x.net.places.length P.c0, .slice P.a1 x.net.arcs.length P.c1, .slice P.a2 x.types.length P.c2, .slice P.a3 x.orders.length P.c3, .slice P.a4 x.apart.length P.c4, .slice P.a5 x.before.length P.c5] 30)).alloc (.cells #[.int .i64 e.at_, .int .i64 e.kind, .int .i64 e.a, .int .i64 e.b, .int .i64 e.n, .string e.order.name, .slice C e.order.load.length c, .int .i64 e.order.pick.place, .int .i64 e.order.pick.opn, .int .i64 e.order.pick.close, .int .i64 e.order.pick.service, .int .i64 e.order.drop.place, .int .i64 e.order.drop.opn, .int .i64 e.order.drop.close, .int .i64 e.order.drop.service, .int .i64 e.order.skills, .int .i64 e.order.penalty, .int .i64 e.order.split, .int .i64 e.order.last, .int .i64 e.order.now, .bool e.order.off] 37)).alloc (.cells #[.slice none 0 0, .slice none 0 0, .slice none 0 0, .slice none 0 0, .slice none 0 0, .slice none 0 0] 30) = W0 := hW0
 have HX := Lib.hid (fun w' (h' : Below W0.heap.size W0 w') => And.intro (b0.below h') (And.intro (b1.below h') (b2.below h')))
 have HI := Lib.hid (fun w' (h' : Below w.heap.size w w') => h.go h')
 have HW1 := Lib.hid hW1
 have C0 := Below.refl W0.heap.size W0
 clear hW0 hW1 b0 b1 b2
 simp only [InV]
 obtain ⟨r, hr⟩ : ∃ r, hapF x e = r := ⟨_, rfl⟩
 have HR := Lib.hid hr
 rw [hr]
 have HX0 := Lib.hid (HX.out _ C0)
 have e1 := HX0.out.2.1.cell (j := 1) rfl
 clear h hA hF hr hC hf
 go_enter Tryz.func46, Tryz.ntmps46
 go_upto_region 1 with fail
 rw [HW1.out]
 clear HW1
 obtain ⟨k1, hk1⟩ : ∃ b, (e.kind == 1) = b := ⟨_, rfl⟩
 obtain ⟨k3, hk3⟩ : ∃ b, (e.kind == 3) = b := ⟨_, rfl⟩
 obtain ⟨k4, hk4⟩ : ∃ b, (e.kind == 4) = b := ⟨_, rfl⟩
 have HK : Hid ((e.kind = 1 ↔ k1 = true) ∧ (e.kind = 3 ↔ k3 = true) ∧ (e.kind = 4 ↔ k4 = true)) := Lib.hid ⟨by rw [← hk1]; simp, by rw [← hk3]; simp, by rw [← hk4]; simp⟩
 cases k1
 rotate_left
 ·have hkk := HK.out.1.2 rfl
  have HR1 : Hid (r = if e.order.off then .error 9 else if (addR x e.order).2 = 0 then .ok (addR x e.order).1 else .error (addR x e.order).2) := Lib.hid (by
   rw [← HR.out]
   unfold hapF
   rw [if_pos hkk])
  clear HR hkk
  have e20 := HX0.out.2.1.cell (j := 20) rfl
  obtain ⟨b, hb⟩ : ∃ b, e.order.off = b := ⟨_, rfl⟩
  cases b
  ·have HR2 : Hid (r = if (addR x e.order).2 = 0 then .ok (addR x e.order).1 else .error (addR x e.order).2) := Lib.hid (by rw [HR1.out, hb]; rfl)
   clear HR1
   go_wp2_with (first
    | ((with_reducible refine zH stIns _ rfl ⟨w.heap.size, 0, none⟩ (insCs (x) P) ?_ ?_ ?_ ?_ ?_); exact rfl; exact rfl; exact HX0.out.1.cells; exact rfl)
    | ((with_reducible refine zH stOrd' _ rfl ⟨(w.heap.size + 1), 5, none⟩ (zA e.order C c) ?_ ?_ ?_ ?_ ?_); exact rfl; exact rfl; exact (ord_evt HX0.out.2.1); exact rfl))
   clear e20
   refine (addF_any x P e.order C c B W0 (Nat.le_trans hB hB0.size) (HA.out.below (hB0.mono hB)) (HCC.out.below (hB0.mono hB)) HFT.out.2.2.2.2.2 (lim_add e.order HLM.out)).mono ?_
   rintro e2 w1 ⟨P1, rfl, hI1, b1⟩
   obtain ⟨Y, hY⟩ : ∃ Y, (addR x e.order).1 = Y := ⟨_, rfl⟩
   obtain ⟨k, hk⟩ : ∃ k, (addR x e.order).2 = k := ⟨_, rfl⟩
   rw [hY, hk] at HR2
   rw [hY] at hI1
   rw [hY, hk]
   have HX1 := Lib.hid (HX.out _ b1)
   have HB1 := Lib.hid (hB0.trans (b1.mono (by omega)))
   have HI1 := Lib.hid hI1
   clear hI1 hY hk b1
   go_wp2_with ((with_reducible refine zJ stIns rfl _ _ rfl (w.heap.size + 2) nilCs (insCs (Y) P1) ?_ ?_ ?_ ?_ ?_ (zT _ _) ?_); exact rfl; exact rfl; exact HX1.out.2.2; exact rfl; exact rfl; intro wz k1 k2 k3 k4; have K := lib.h4 k1 k2 k3 k4; clear k1 k2 k3 k4)
   by_cases hk0 : k = 0
   ·have HRR : Hid (r = .ok Y) := Lib.hid (by rw [HR2.out, if_pos hk0])
    subst hk0
    have HRz : Blk wz (w.heap.size + 2) 30 (insCs (Y) P1) := K.out.1
    refine bodyPost_ret (v := .tuple #[.agg (insCs (Y) P1).toArray, .int .i64 0]) (big.zK stIns Tryz.results46 rfl rfl HRz.cells rfl) rfl ?_
    have hgz : w1.heap.size ≤ wz.heap.size := by rw [K.out.2.2.1]; exact Nat.le_refl _
    have hbz : Below w.heap.size w wz := (HB1.out).trans (K.out.2.2.2.mono (by omega))
    rw [HRR.out]
    exact ⟨_, rfl, (InFr.keep HI1.out hgz (fun b hb hp => K.out.2.1 b (by rcases hp with h | h <;> omega))).weak (Nat.le_refl _) (by omega), hbz⟩
   ·have HRR : Hid (r = .error k) := Lib.hid (by rw [HR2.out, if_neg hk0])
    have HRz : Blk wz (w.heap.size + 2) 30 (insCs (Y) P1) := K.out.1
    refine bodyPost_ret (v := .tuple #[.agg (insCs (Y) P1).toArray, .int .i64 k]) (big.zK stIns Tryz.results46 rfl rfl HRz.cells rfl) rfl ?_
    rw [HRR.out]
    exact ⟨_, _, rfl, (HB1.out).trans (K.out.2.2.2.mono (by omega))⟩
  ·have HRR : Hid (r = .error 9) := Lib.hid (by rw [HR1.out, hb]; rfl)
   clear HR1
   go_wp2_with (first
    | ((with_reducible refine zH stIns _ rfl ⟨w.heap.size, 0, none⟩ (insCs (x) P) ?_ ?_ ?_ ?_ ?_); exact rfl; exact rfl; exact HX0.out.1.cells; exact rfl)
    | ((with_reducible refine zJ stIns rfl _ _ rfl (w.heap.size + 2) nilCs (insCs (x) P) ?_ ?_ ?_ ?_ ?_ (zT _ _) ?_); exact rfl; exact rfl; exact HX0.out.2.2; exact rfl; exact rfl; intro wz k1 k2 k3 k4; have K := lib.h4 k1 k2 k3 k4; clear k1 k2 k3 k4))
   have HRz : Blk wz (w.heap.size + 2) 30 (insCs (x) P) := K.out.1
   refine bodyPost_ret (v := .tuple #[.agg (insCs (x) P).toArray, .int .i64 9]) (big.zK stIns Tryz.results46 rfl rfl HRz.cells rfl) rfl ?_
   rw [HRR.out]
   exact ⟨_, _, rfl, (hB0).trans (K.out.2.2.2.mono (by omega))⟩
 cases k3
 rotate_left
 ·have hkk := HK.out.2.1.2 rfl
  have hk1' : ¬ e.kind = 1 := fun h => by have := HK.out.1.1 h; cases this
  have HR1 : Hid (r = if ¬ (1 ≤ e.n ∧ e.n ≤ 4096) then .error 2 else match slwF x.net e.a e.b e.at_ e.n with
    | .error k => .error k
    | .ok N => .ok { x with net := N }) := Lib.hid (by
   rw [← HR.out]
   unfold hapF
   rw [if_neg hk1', if_pos hkk]
   by_cases hn : 1 ≤ e.n ∧ e.n ≤ 4096
   ·rw [if_neg (fun h => h hn), if_neg (fun h => h hn)]
    cases slwF x.net e.a e.b e.at_ e.n <;> rfl
   ·rw [if_pos hn, if_pos hn])
  clear HR hkk hk1'
  have e4 := HX0.out.2.1.cell (j := 4) rfl
  by_cases hn1 : e.n < 1
  ·have HRR : Hid (r = .error 2) := Lib.hid (by rw [HR1.out, if_pos (by omega)])
   clear HR1
   go_wp2_with (first
    | ((with_reducible refine zH stIns _ rfl ⟨w.heap.size, 0, none⟩ (insCs (x) P) ?_ ?_ ?_ ?_ ?_); exact rfl; exact rfl; exact HX0.out.1.cells; exact rfl)
    | ((with_reducible refine zJ stIns rfl _ _ rfl (w.heap.size + 2) nilCs (insCs (x) P) ?_ ?_ ?_ ?_ ?_ (zT _ _) ?_); exact rfl; exact rfl; exact HX0.out.2.2; exact rfl; exact rfl; intro wz k1 k2 k3 k4; have K := lib.h4 k1 k2 k3 k4; clear k1 k2 k3 k4))
   have HRz : Blk wz (w.heap.size + 2) 30 (insCs (x) P) := K.out.1
   refine bodyPost_ret (v := .tuple #[.agg (insCs (x) P).toArray, .int .i64 2]) (big.zK stIns Tryz.results46 rfl rfl HRz.cells rfl) rfl ?_
   rw [HRR.out]
   exact ⟨_, _, rfl, (hB0).trans (K.out.2.2.2.mono (by omega))⟩
  by_cases hn2 : 4096 < e.n
  ·have HRR : Hid (r = .error 2) := Lib.hid (by rw [HR1.out, if_pos (by omega)])
   clear HR1
   go_wp2_with (first
    | ((with_reducible refine zH stIns _ rfl ⟨w.heap.size, 0, none⟩ (insCs (x) P) ?_ ?_ ?_ ?_ ?_); exact rfl; exact rfl; exact HX0.out.1.cells; exact rfl)
    | ((with_reducible refine zJ stIns rfl _ _ rfl (w.heap.size + 2) nilCs (insCs (x) P) ?_ ?_ ?_ ?_ ?_ (zT _ _) ?_); exact rfl; exact rfl; exact HX0.out.2.2; exact rfl; exact rfl; intro wz k1 k2 k3 k4; have K := lib.h4 k1 k2 k3 k4; clear k1 k2 k3 k4))
   have HRz : Blk wz (w.heap.size + 2) 30 (insCs (x) P) := K.out.1
   refine bodyPost_ret (v := .tuple #[.agg (insCs (x) P).toArray, .int .i64 2]) (big.zK stIns Tryz.results46 rfl rfl HRz.cells rfl) rfl ?_
   rw [HRR.out]
   exact ⟨_, _, rfl, (hB0).trans (K.out.2.2.2.mono (by omega))⟩
  obtain ⟨s, hs⟩ : ∃ s, slwF x.net e.a e.b e.at_ e.n = s := ⟨_, rfl⟩
  have HR2 : Hid ((∀ k, s = .error k → r = .error k) ∧ ∀ N, s = .ok N → r = .ok { x with net := N }) := Lib.hid (by
   rw [HR1.out, if_neg (by omega), hs]
   exact ⟨fun k h => by rw [h], fun N h => by rw [h]⟩)
  have HS := Lib.hid hs
  clear HR1 hs
  have x0 := HX0.out.1.cell (j := 0) rfl
  have x1 := HX0.out.1.cell (j := 1) rfl
  have e0 := HX0.out.2.1.cell (j := 0) rfl
  have e2 := HX0.out.2.1.cell (j := 2) rfl
  have e3 := HX0.out.2.1.cell (j := 3) rfl
  go_wp2_with fail
  refine (slower_any x.net P.a0 P.c0 P.a1 P.c1 e.a e.b e.at_ e.n B W0 (Nat.le_trans hB hB0.size) (HA.out.below (hB0.mono hB)).arcs (by have := HLM.out.arcs; omega) (slow_of HF.out)).mono ?_
  rw [HS.out]
  intro e5 w1 h2
  clear x0 x1 e0 e2 e3 e4
  rcases s with k | N'
  ·obtain ⟨rfl, b1⟩ := h2
   have HRR : Hid (r = .error k) := Lib.hid (HR2.out.1 k rfl)
   have HX1 := Lib.hid (HX.out _ b1)
   have HB1 := Lib.hid (hB0.trans (b1.mono (by omega)))
   clear b1
   have p0 := HX1.out.1.cell (j := 0) rfl
   have p1 := HX1.out.1.cell (j := 1) rfl
   have g0 := HX1.out.1.frozen 0
   have g1 := HX1.out.1.frozen 1
   go_upto_region 11 with fail
   clear p0 p1 g0 g1
   obtain ⟨W4, hW4⟩ : ∃ W, (w1.setCell ⟨w.heap.size, 0, none⟩ (.slice none 0 0)).setCell ⟨w.heap.size, 1, none⟩ (.slice none 0 0) = W := ⟨_, rfl⟩
   rw [hW4]
   have X4 : Hid (Blk W4 w.heap.size 30 (insCs { x with net := (⟨[], []⟩ : Net) } ⟨none, 0, none, 0, P.a2, P.c2, P.a3, P.c3, P.a4, P.c4, P.a5, P.c5⟩)) := Lib.hid (by
    rw [← hW4, ← insCs_net x P (⟨[], []⟩ : Net) none none (0) 0 (0) 0 (rfl) (rfl)]
    exact (HX1.out.1.set 0 (.slice none 0 0)).set 1 (.slice none 0 0))
   have R4 : Hid (Blk W4 (w.heap.size + 2) 30 nilCs) := Lib.hid (by rw [← hW4]; exact blk_other (blk_other HX1.out.2.2 (by omega) _ _) (by omega) _ _)
   have B4 : Hid (Below w.heap.size w W4) := Lib.hid (by rw [← hW4]; exact (HB1.out.setCell (p := ⟨w.heap.size, 0, none⟩) (Nat.le_refl _) _).setCell (p := ⟨w.heap.size, 1, none⟩) (Nat.le_refl _) _)
   have HK4 : Hid (∀ b, b ≠ w.heap.size → W4.heap[b]? = w1.heap[b]?) := Lib.hid (fun b hb => by rw [← hW4]; exact (Below.heap_setCell _ ⟨w.heap.size, 1, none⟩ _ b hb).trans (Below.heap_setCell _ ⟨w.heap.size, 0, none⟩ _ b hb))
   have HZ4 : Hid (W4.heap.size = w1.heap.size) := Lib.hid (by rw [← hW4]; simp [World.setCell])
   clear hW4
   go_wp2_with (first
    | ((with_reducible refine zH stIns _ rfl ⟨w.heap.size, 0, none⟩ (insCs ({ x with net := (⟨[], []⟩ : Net) }) ⟨none, 0, none, 0, P.a2, P.c2, P.a3, P.c3, P.a4, P.c4, P.a5, P.c5⟩) ?_ ?_ ?_ ?_ ?_); exact rfl; exact rfl; exact X4.out.cells; exact rfl)
    | ((with_reducible refine zJ stIns rfl _ _ rfl (w.heap.size + 2) nilCs (insCs ({ x with net := (⟨[], []⟩ : Net) }) ⟨none, 0, none, 0, P.a2, P.c2, P.a3, P.c3, P.a4, P.c4, P.a5, P.c5⟩) ?_ ?_ ?_ ?_ ?_ (zT _ _) ?_); exact rfl; exact rfl; exact R4.out; exact rfl; exact rfl; intro wz k1 k2 k3 k4; have K := lib.h4 k1 k2 k3 k4; clear k1 k2 k3 k4))
   have HRz : Blk wz (w.heap.size + 2) 30 (insCs ({ x with net := (⟨[], []⟩ : Net) }) ⟨none, 0, none, 0, P.a2, P.c2, P.a3, P.c3, P.a4, P.c4, P.a5, P.c5⟩) := K.out.1
   refine bodyPost_ret (v := .tuple #[.agg (insCs ({ x with net := (⟨[], []⟩ : Net) }) ⟨none, 0, none, 0, P.a2, P.c2, P.a3, P.c3, P.a4, P.c4, P.a5, P.c5⟩).toArray, .int .i64 k]) (big.zK stIns Tryz.results46 rfl rfl HRz.cells rfl) rfl ?_
   rw [HRR.out]
   exact ⟨_, _, rfl, (B4.out).trans (K.out.2.2.2.mono (by omega))⟩
  ·obtain ⟨A9, c9, rfl, hrow, b1⟩ := h2
   have HRR : Hid (r = .ok { x with net := N' }) := Lib.hid (HR2.out.2 N' rfl)
   have HROW := Lib.hid hrow
   have HPL := Lib.hid (slw_places HS.out)
   have HX1 := Lib.hid (HX.out _ b1)
   have HB1 := Lib.hid (hB0.trans (b1.mono (by omega)))
   clear b1 hrow
   have p0 := HX1.out.1.cell (j := 0) rfl
   have p1 := HX1.out.1.cell (j := 1) rfl
   have g0 := HX1.out.1.frozen 0
   have g1 := HX1.out.1.frozen 1
   go_upto_region 11 with fail
   clear p0 p1 g0 g1
   obtain ⟨W4, hW4⟩ : ∃ W, (w1.setCell ⟨w.heap.size, 0, none⟩ (.slice P.a0 N'.places.length P.c0)).setCell ⟨w.heap.size, 1, none⟩ (.slice A9 N'.arcs.length c9) = W := ⟨_, rfl⟩
   rw [hW4]
   have X4 : Hid (Blk W4 w.heap.size 30 (insCs { x with net := N' } ⟨P.a0, P.c0, A9, c9, P.a2, P.c2, P.a3, P.c3, P.a4, P.c4, P.a5, P.c5⟩)) := Lib.hid (by
    rw [← hW4, ← insCs_net x P N' P.a0 A9 (N'.places.length) P.c0 (N'.arcs.length) c9 (rfl) (rfl)]
    exact (HX1.out.1.set 0 (.slice P.a0 N'.places.length P.c0)).set 1 (.slice A9 N'.arcs.length c9))
   have R4 : Hid (Blk W4 (w.heap.size + 2) 30 nilCs) := Lib.hid (by rw [← hW4]; exact blk_other (blk_other HX1.out.2.2 (by omega) _ _) (by omega) _ _)
   have B4 : Hid (Below w.heap.size w W4) := Lib.hid (by rw [← hW4]; exact (HB1.out.setCell (p := ⟨w.heap.size, 0, none⟩) (Nat.le_refl _) _).setCell (p := ⟨w.heap.size, 1, none⟩) (Nat.le_refl _) _)
   have HK4 : Hid (∀ b, b ≠ w.heap.size → W4.heap[b]? = w1.heap[b]?) := Lib.hid (fun b hb => by rw [← hW4]; exact (Below.heap_setCell _ ⟨w.heap.size, 1, none⟩ _ b hb).trans (Below.heap_setCell _ ⟨w.heap.size, 0, none⟩ _ b hb))
   have HZ4 : Hid (W4.heap.size = w1.heap.size) := Lib.hid (by rw [← hW4]; simp [World.setCell])
   clear hW4
   go_wp2_with (first
    | ((with_reducible refine zH stIns _ rfl ⟨w.heap.size, 0, none⟩ (insCs ({ x with net := N' }) ⟨P.a0, P.c0, A9, c9, P.a2, P.c2, P.a3, P.c3, P.a4, P.c4, P.a5, P.c5⟩) ?_ ?_ ?_ ?_ ?_); exact rfl; exact rfl; exact X4.out.cells; exact rfl)
    | ((with_reducible refine zJ stIns rfl _ _ rfl (w.heap.size + 2) nilCs (insCs ({ x with net := N' }) ⟨P.a0, P.c0, A9, c9, P.a2, P.c2, P.a3, P.c3, P.a4, P.c4, P.a5, P.c5⟩) ?_ ?_ ?_ ?_ ?_ (zT _ _) ?_); exact rfl; exact rfl; exact R4.out; exact rfl; exact rfl; intro wz k1 k2 k3 k4; have K := lib.h4 k1 k2 k3 k4; clear k1 k2 k3 k4))
   have HRz : Blk wz (w.heap.size + 2) 30 (insCs ({ x with net := N' }) ⟨P.a0, P.c0, A9, c9, P.a2, P.c2, P.a3, P.c3, P.a4, P.c4, P.a5, P.c5⟩) := K.out.1
   refine bodyPost_ret (v := .tuple #[.agg (insCs ({ x with net := N' }) ⟨P.a0, P.c0, A9, c9, P.a2, P.c2, P.a3, P.c3, P.a4, P.c4, P.a5, P.c5⟩).toArray, .int .i64 0]) (big.zK stIns Tryz.results46 rfl rfl HRz.cells rfl) rfl ?_
   have hgz : W4.heap.size ≤ wz.heap.size := by rw [K.out.2.2.1]; exact Nat.le_refl _
   have hbz : Below w.heap.size w wz := (B4.out).trans (K.out.2.2.2.mono (by omega))
   rw [HRR.out]
   exact ⟨_, rfl, net_fr HA.out hB hbz (HROW.out.keep (by rw [← HZ4.out]; exact hgz) (fun b hb hp => ⟨by rcases hp with h | h <;> omega, (K.out.2.1 b (by rcases hp with h | h <;> omega)).trans (HK4.out b (by rcases hp with h | h <;> omega))⟩)) HPL.out, hbz⟩
 cases k4
 rotate_left
 ·have hkk := HK.out.2.2.2 rfl
  have hk1' : ¬ e.kind = 1 := fun h => by have := HK.out.1.1 h; cases this
  have hk3' : ¬ e.kind = 3 := fun h => by have := HK.out.2.1.1 h; cases this
  have HR1 : Hid (r = (if e.a < 0 ∨ (x.types.length : Int) ≤ e.a then .error 7 else match x.types[e.a.toNat]? with
    | none => .error 7
    | some t => if t.count = 0 then .error 22 else .ok { x with types := x.types.set e.a.toNat { t with count := t.count - 1 } })) := Lib.hid (by
   rw [← HR.out]
   unfold hapF
   rw [if_neg hk1', if_neg hk3', if_pos hkk]
   by_cases hz : (e.a < 0 ∨ (x.types.length : Int) ≤ e.a)
   ·rw [if_pos hz, if_pos hz]
   ·rw [if_neg hz, if_neg hz]
    cases x.types[e.a.toNat]? <;> rfl)
  clear HR hkk hk1' hk3'
  obtain ⟨N, hNN⟩ : ∃ N, x.types.length = N := ⟨_, rfl⟩
  rw [hNN] at HR1
  have HNN := Lib.hid hNN
  have x2 : W0.cell? ⟨w.heap.size, 2, none⟩ = some (.slice P.a2 N P.c2) := by rw [← hNN]; exact HX0.out.1.cell (j := 2) rfl
  have f2 := HX0.out.1.frozen 2
  have e2 := HX0.out.2.1.cell (j := 2) rfl
  have hN20 : N ≤ 20 := by rw [← hNN]; exact HLM.out.types
  clear hNN
  by_cases ha1 : e.a < 0
  ·have HRR : Hid (r = .error 7) := Lib.hid (by rw [HR1.out, if_pos (.inl ha1)])
   clear HR1
   go_wp2_with (first
    | ((with_reducible refine zH stIns _ rfl ⟨w.heap.size, 0, none⟩ (insCs (x) P) ?_ ?_ ?_ ?_ ?_); exact rfl; exact rfl; exact HX0.out.1.cells; exact rfl)
    | ((with_reducible refine zJ stIns rfl _ _ rfl (w.heap.size + 2) nilCs (insCs (x) P) ?_ ?_ ?_ ?_ ?_ (zT _ _) ?_); exact rfl; exact rfl; exact HX0.out.2.2; exact rfl; exact rfl; intro wz k1 k2 k3 k4; have K := lib.h4 k1 k2 k3 k4; clear k1 k2 k3 k4))
   have HRz : Blk wz (w.heap.size + 2) 30 (insCs (x) P) := K.out.1
   refine bodyPost_ret (v := .tuple #[.agg (insCs (x) P).toArray, .int .i64 7]) (big.zK stIns Tryz.results46 rfl rfl HRz.cells rfl) rfl ?_
   rw [HRR.out]
   exact ⟨_, _, rfl, (hB0).trans (K.out.2.2.2.mono (by omega))⟩
  by_cases ha2 : (N : Int) ≤ e.a
  ·have HRR : Hid (r = .error 7) := Lib.hid (by rw [HR1.out, if_pos (.inr ha2)])
   clear HR1
   go_wp2_with (first
    | ((with_reducible refine zH stIns _ rfl ⟨w.heap.size, 0, none⟩ (insCs (x) P) ?_ ?_ ?_ ?_ ?_); exact rfl; exact rfl; exact HX0.out.1.cells; exact rfl)
    | ((with_reducible refine zJ stIns rfl _ _ rfl (w.heap.size + 2) nilCs (insCs (x) P) ?_ ?_ ?_ ?_ ?_ (zT _ _) ?_); exact rfl; exact rfl; exact HX0.out.2.2; exact rfl; exact rfl; intro wz k1 k2 k3 k4; have K := lib.h4 k1 k2 k3 k4; clear k1 k2 k3 k4))
   have HRz : Blk wz (w.heap.size + 2) 30 (insCs (x) P) := K.out.1
   refine bodyPost_ret (v := .tuple #[.agg (insCs (x) P).toArray, .int .i64 7]) (big.zK stIns Tryz.results46 rfl rfl HRz.cells rfl) rfl ?_
   rw [HRR.out]
   exact ⟨_, _, rfl, (hB0).trans (K.out.2.2.2.mono (by omega))⟩
  obtain ⟨j, hj⟩ : ∃ j : Nat, e.a = j := ⟨e.a.toNat, by omega⟩
  have hjN : j < N := by omega
  obtain ⟨t, ht⟩ : ∃ t, x.types[j]? = some t := ⟨_, List.getElem?_eq_getElem (by rw [HNN.out]; exact hjN)⟩
  have HR2 : Hid (r = if t.count = 0 then .error 22 else .ok { x with types := x.types.set j { t with count := t.count - 1 } }) := Lib.hid (by
   rw [HR1.out, if_neg (by omega), hj, Int.toNat_natCast, ht])
  have hcb := cnt_of HF.out t (List.mem_of_getElem? ht)
  have HT := Lib.hid ht
  obtain ⟨ad, cs0, hA, hadb, hat, hcs⟩ := ((HI.out _ hB0).types).elem ht
  obtain ⟨D, dd, rfl, hI, hf⟩ := rTy_at hat
  have y1 : W0.cell? ⟨(ad.add (j * 14)).block, (ad.add (j * 14)).off + 1, none⟩ = some (.int .i64 t.count) := by rw [← add_split, ← add_of_add]; exact hcs 1 _ rfl
  rw [hA] at x2
  rw [hj] at e2
  have hj0 : (0 : Int) ≤ (j : Int) := by omega
  have hjn : (j : Int) < (N : Int) := by omega
  clear HR1 ha1 ha2 ht hat hcs hI hf
  by_cases hc0 : t.count = 0
  ·have HRR : Hid (r = .error 22) := Lib.hid (by rw [HR2.out, if_pos hc0])
   have hcc : (t.count == 0) = true := by simp [hc0]
   clear HR2 hc0
   go_wp2_with (first
    | ((with_reducible refine zH stIns _ rfl ⟨w.heap.size, 0, none⟩ (insCs (x) P) ?_ ?_ ?_ ?_ ?_); exact rfl; exact rfl; exact HX0.out.1.cells; exact rfl)
    | ((with_reducible refine zJ stIns rfl _ _ rfl (w.heap.size + 2) nilCs (insCs (x) P) ?_ ?_ ?_ ?_ ?_ (zT _ _) ?_); exact rfl; exact rfl; exact HX0.out.2.2; exact rfl; exact rfl; intro wz k1 k2 k3 k4; have K := lib.h4 k1 k2 k3 k4; clear k1 k2 k3 k4))
   have HRz : Blk wz (w.heap.size + 2) 30 (insCs (x) P) := K.out.1
   refine bodyPost_ret (v := .tuple #[.agg (insCs (x) P).toArray, .int .i64 22]) (big.zK stIns Tryz.results46 rfl rfl HRz.cells rfl) rfl ?_
   rw [HRR.out]
   exact ⟨_, _, rfl, (hB0).trans (K.out.2.2.2.mono (by omega))⟩
  have HRR : Hid (r = .ok { x with types := x.types.set j { t with count := t.count - 1 } }) := Lib.hid (by rw [HR2.out, if_neg hc0])
  have hcc : (t.count == 0) = false := by simp [hc0]
  clear HR2 hc0
  go_wp2_with fail
  have hcl := cloneT_any P.a2 P.c2 x.types B W0 (Nat.le_trans hB hB0.size) (HA.out.types.below (hB0.mono hB)) (by rw [HNN.out]; omega)
  rw [HNN.out, hA] at hcl
  refine hcl.mono ?_
  rintro e9 w2 ⟨A', c', CS, rfl, hown, hels, b2⟩
  obtain ⟨g, cap, hv, hgb, hglt⟩ := hown.form (by omega)
  obtain rfl : A' = some ⟨g, 0, none⟩ := by injection hv
  have hX2 := HX.out _ b2
  have x2 : w2.cell? ⟨w.heap.size, 2, none⟩ = some (.slice (some ad) N P.c2) := by rw [← HNN.out, ← hA]; exact hX2.1.cell (j := 2) rfl
  have f2 := hX2.1.frozen 2
  clear y1
  go_upto_region 18 with fail
  obtain ⟨W3, hW3⟩ : ∃ W, w2.setCell ⟨w.heap.size, 2, none⟩ (.slice (some ⟨g, 0, none⟩) N c') = W := ⟨_, rfl⟩
  rw [hW3]
  have HS : Hid (TcSt B x P e C c w N g c' CS x.types W3) := Lib.hid (by
   have hgr := yH w2 w.heap.size 2 (.slice (some ⟨g, 0, none⟩) N c')
   rw [← hW3]
   refine ⟨zY (ownsRow_setCell_below hown (by show w.heap.size < W0.heap.size; omega) _) (by omega), hels.keep hgr.size (fun b hb hp => ⟨hp, hgr.block b hb (fun e => by injection e; omega)⟩), hB, HNN.out, hX2.1.set 2 _, hX2.2.1.kept hgr (fun e => by injection e; omega), hX2.2.2.kept hgr (fun e => by injection e; omega), ?_⟩
   exact (hB0.trans (b2.mono hB0.size)).setCell (p := ⟨w.heap.size, 2, none⟩) (Nat.le_refl _) _)
  clear hW3 hown hels b2 hX2 x2 f2 hcl hgb hglt
  obtain ⟨D1, d1, hce, hof, hio, hth⟩ := HS.out.elem HT.out
  have x2 : W3.cell? ⟨w.heap.size, 2, none⟩ = some (.slice (some ⟨g, 0, none⟩) N c') := HS.out.bx.cell (j := 2) rfl
  have e2 : W3.cell? ⟨w.heap.size + 1, 2, none⟩ = some (.int .i64 j) := by rw [← hj]; exact HS.out.be.cell (j := 2) rfl
  have y1 : W3.cell? ⟨g, j * 14 + 1, none⟩ = some (.int .i64 t.count) := hce 1 _ rfl
  have f1 := HS.out.own.frozenAt (j * 14 + 1)
  obtain ⟨hcb1, hcb2⟩ := hcb
  clear hce hof hio hth
  go_upto_region 19 with fail
  obtain ⟨W4, hW4⟩ : ∃ W, W3.setCell ⟨g, j * 14 + 1, none⟩ (.int .i64 (t.count - 1)) = W := ⟨_, rfl⟩
  rw [hW4]
  have HS4 : Hid (TcSt B x P e C c w N g c' (setM CS (j * 14 + 1) [.int .i64 (t.count - 1)]) (x.types.set j { t with count := t.count - 1 }) W4) := Lib.hid (by
   rw [← hW4]
   refine HS.out.cells (o := j * 14 + 1) (vs := [.int .i64 (t.count - 1)]) (by rw [List.length_set]; exact HNN.out) ?_
   refine EG.mod (r := oTy) HS.out.els (by rw [HNN.out]; exact hjN) (show 1 < 14 by decide) ?_
   obtain ⟨D, dd, hc, hi, hf⟩ := oTy_at (HS.out.els.2 j t HT.out)
   rw [hc]
   refine oTy_mk (t := { t with count := t.count - 1 }) hi ?_
   unfold TyFits at hf ⊢
   simp only
   omega)
  clear hW4 y1 f1 x2 e2
  have HB4 : Hid (Blk W4 w.heap.size 30 (insCs { x with types := x.types.set j { t with count := t.count - 1 } } ⟨P.a0, P.c0, P.a1, P.c1, some ⟨g, 0, none⟩, c', P.a3, P.c3, P.a4, P.c4, P.a5, P.c5⟩)) := Lib.hid (by
   have h := HS4.out.bx
   rw [insCs_ty x P (x.types.set j { t with count := t.count - 1 }) _ N c' (by rw [List.length_set]; exact HNN.out)] at h
   exact h)
  go_wp2_with (first
   | ((with_reducible refine zH stIns _ rfl ⟨w.heap.size, 0, none⟩ (insCs ({ x with types := x.types.set j { t with count := t.count - 1 } }) ⟨P.a0, P.c0, P.a1, P.c1, some ⟨g, 0, none⟩, c', P.a3, P.c3, P.a4, P.c4, P.a5, P.c5⟩) ?_ ?_ ?_ ?_ ?_); exact rfl; exact rfl; exact HB4.out.cells; exact rfl)
   | ((with_reducible refine zJ stIns rfl _ _ rfl (w.heap.size + 2) nilCs (insCs ({ x with types := x.types.set j { t with count := t.count - 1 } }) ⟨P.a0, P.c0, P.a1, P.c1, some ⟨g, 0, none⟩, c', P.a3, P.c3, P.a4, P.c4, P.a5, P.c5⟩) ?_ ?_ ?_ ?_ ?_ (zT _ _) ?_); exact rfl; exact rfl; exact HS4.out.br; exact rfl; exact rfl; intro wz k1 k2 k3 k4; have K := lib.h4 k1 k2 k3 k4; clear k1 k2 k3 k4))
  have HRz : Blk wz (w.heap.size + 2) 30 (insCs ({ x with types := x.types.set j { t with count := t.count - 1 } }) ⟨P.a0, P.c0, P.a1, P.c1, some ⟨g, 0, none⟩, c', P.a3, P.c3, P.a4, P.c4, P.a5, P.c5⟩) := K.out.1
  refine bodyPost_ret (v := .tuple #[.agg (insCs ({ x with types := x.types.set j { t with count := t.count - 1 } }) ⟨P.a0, P.c0, P.a1, P.c1, some ⟨g, 0, none⟩, c', P.a3, P.c3, P.a4, P.c4, P.a5, P.c5⟩).toArray, .int .i64 0]) (big.zK stIns Tryz.results46 rfl rfl HRz.cells rfl) rfl ?_
  have hgz : W4.heap.size ≤ wz.heap.size := by rw [K.out.2.2.1]; exact Nat.le_refl _
  have hbz : Below w.heap.size w wz := (HS4.out.bel).trans (K.out.2.2.2.mono (by omega))
  rw [HRR.out]
  exact ⟨_, rfl, ty_fr HA.out hB hbz (own_skip HS4.out.own HS4.out.br (by decide) K.out.2.1) (EG.keep2 HS4.out.els (HS4.out.bel.mono hB) (hbz.mono hB) hgz) HS4.out.len (by omega), hbz⟩
 ·have HR1 : Hid (conF x e = r) := Lib.hid (by
   rw [← hap_con (fun h => by have := HK.out.1.1 h; cases this) (fun h => by have := HK.out.2.1.1 h; cases this) (fun h => by have := HK.out.2.2.1 h; cases this)]
   exact HR.out)
  clear HR
  go_wp2_with (first
   | ((with_reducible refine zH stIns _ rfl ⟨w.heap.size, 0, none⟩ (insCs (x) P) ?_ ?_ ?_ ?_ ?_); exact rfl; exact rfl; exact HX0.out.1.cells; exact rfl)
   | ((with_reducible refine zH stEvt _ rfl ⟨(w.heap.size + 1), 0, none⟩ (z8 e C c) ?_ ?_ ?_ ?_ ?_); exact rfl; exact rfl; exact HX0.out.2.1.cells; exact rfl))
  refine (concerns_any x P e C c B W0 (Nat.le_trans hB hB0.size) (HA.out.below (hB0.mono hB)) HF.out HFT.out.2.2.2.2.1).mono ?_
  rw [HR1.out]
  intro e2 w1 h2
  rcases r with k | Y
  ·obtain ⟨Y, P1, rfl, b1⟩ := h2
   have HX1 := Lib.hid (HX.out _ b1)
   have HB1 := Lib.hid (hB0.trans (b1.mono (by omega)))
   clear b1 HR1
   go_wp2_with ((with_reducible refine zJ stIns rfl _ _ rfl (w.heap.size + 2) nilCs (insCs (Y) P1) ?_ ?_ ?_ ?_ ?_ (zT _ _) ?_); exact rfl; exact rfl; exact HX1.out.2.2; exact rfl; exact rfl; intro wz k1 k2 k3 k4; have K := lib.h4 k1 k2 k3 k4; clear k1 k2 k3 k4)
   have HRz : Blk wz (w.heap.size + 2) 30 (insCs Y P1) := K.out.1
   refine bodyPost_ret (v := .tuple #[.agg (insCs Y P1).toArray, .int .i64 k]) (big.zK stIns Tryz.results46 rfl rfl HRz.cells rfl) rfl ?_
   exact ⟨_, _, rfl, HB1.out.trans (K.out.2.2.2.mono (by omega))⟩
  ·obtain ⟨P1, rfl, hI1, b1⟩ := h2
   have HX1 := Lib.hid (HX.out _ b1)
   have HB1 := Lib.hid (hB0.trans (b1.mono (by omega)))
   have HI1 := Lib.hid hI1
   clear b1 HR1 hI1
   go_wp2_with ((with_reducible refine zJ stIns rfl _ _ rfl (w.heap.size + 2) nilCs (insCs (Y) P1) ?_ ?_ ?_ ?_ ?_ (zT _ _) ?_); exact rfl; exact rfl; exact HX1.out.2.2; exact rfl; exact rfl; intro wz k1 k2 k3 k4; have K := lib.h4 k1 k2 k3 k4; clear k1 k2 k3 k4)
   have HRz : Blk wz (w.heap.size + 2) 30 (insCs Y P1) := K.out.1
   refine bodyPost_ret (v := .tuple #[.agg (insCs Y P1).toArray, .int .i64 0]) (big.zK stIns Tryz.results46 rfl rfl HRz.cells rfl) rfl ?_
   have hgz : w1.heap.size ≤ wz.heap.size := by rw [K.out.2.2.1]; exact Nat.le_refl _
   exact ⟨_, rfl, (InFr.keep HI1.out hgz (fun b hb hp => K.out.2.1 b (by rcases hp with h | h <;> omega))).weak (Nat.le_refl _) (by omega), HB1.out.trans (K.out.2.2.2.mono (by omega))⟩
end Go.Proofs.YtofabhenmplkoaaGreatDoor.evt

/- Which events can be applied. The program. -/
namespace Go.Proofs.YtofabhenmplkoaaGreatDoor.evt
open Go.RowKit
open lib rd app els off typ big ins ord gen
theorem HapOut.err {w w' : World} {B : Nat} {r : Except Int Ins} {e : Ending} (h : HapOut w B r e w') : ∃ Y Q, e = .returned (.tuple #[InV Y Q, .int .i64 (hapK r)]) ∧ Below w.heap.size w w' := by
 rcases r with k | Y
 ·exact h
 ·obtain ⟨Q, h1, h2, h3⟩ := h
  exact ⟨Y, Q, h1, h3⟩
theorem chk_hap {x : Ins} {now : Int} {e : Evt} : chkF x now e = if alwF now e = 0 then hapK (hapF x e) else alwF now e := by
 unfold chkF
 by_cases h : alwF now e = 0
 ·rw [if_neg (fun g => g h), if_pos h]
  cases hapF x e <;> rfl
 ·rw [if_pos h, if_neg h]
set_option maxRecDepth 20000 in
set_option maxHeartbeats 8000000 in
theorem echeck_any (x : Ins) (P : InP) (now : Int) (e : Evt) (C : Option Addr) (c : Nat) (w : World) (h : InAt w w.heap.size x P) (hF : insF x = []) (hC : Ints w w.heap.size C e.order.load) (hf : yN e) :
  Calls Tryz.prog 15 #[InV x P, .int .i64 now, .agg (z8 e C c).toArray] w fun en w' => en = .returned (.int .i64 (chkF x now e)) ∧ Below w.heap.size w w' := by
 show Calls Tryz.prog 15 #[InV x P, .int .i64 now, .agg #[.int .i64 e.at_, .int .i64 e.kind, .int .i64 e.a, .int .i64 e.b, .int .i64 e.n, .string e.order.name, .slice C e.order.load.length c, .int .i64 e.order.pick.place, .int .i64 e.order.pick.opn, .int .i64 e.order.pick.close, .int .i64 e.order.pick.service, .int .i64 e.order.drop.place, .int .i64 e.order.drop.opn, .int .i64 e.order.drop.close, .int .i64 e.order.drop.service, .int .i64 e.order.skills, .int .i64 e.order.penalty, .int .i64 e.order.split, .int .i64 e.order.last, .int .i64 e.order.now, .bool e.order.off]] w _
 obtain ⟨W0, hW0⟩ : ∃ W0, (w.alloc (.cells (insCs x P).toArray 30)).alloc (.cells (z8 e C c).toArray 37) = W0 := ⟨_, rfl⟩
 have hB0 : Below w.heap.size w W0 := by rw [← hW0]; exact ((Below.refl _ _).alloc (Nat.le_refl _) _).alloc (by simp) _
 have z0 : W0.heap.size = w.heap.size + 2 := by rw [← hW0]; simp
 have b0 : Blk W0 w.heap.size 30 (insCs x P) := by
  rw [← hW0]
  exact (Blk.new w _ _).kept (World.grownBy_alloc _ _ none) (by simp)
 have b1 : Blk W0 (w.heap.size + 1) 37 (z8 e C c) := by
  rw [← hW0]
  have h := Blk.new (w.alloc (.cells (insCs x P).toArray 30)) 37 (z8 e C c)
  rw [show (w.alloc (.cells (insCs x P).toArray 30)).heap.size = w.heap.size + 1 by simp] at h
  exact h
 have hW1 : (w.alloc (.cells #[.slice P.a0 x.net.places.length P.c0, .slice P.a1 x.net.arcs.length P.c1, .slice P.a2 x.types.length P.c2, .slice P.a3 x.orders.length P.c3, .slice P.a4 x.apart.length P.c4, .slice P.a5 x.before.length P.c5] 30)).alloc (.cells #[.int .i64 e.at_, .int .i64 e.kind, .int .i64 e.a, .int .i64 e.b, .int .i64 e.n, .string e.order.name, .slice C e.order.load.length c, .int .i64 e.order.pick.place, .int .i64 e.order.pick.opn, .int .i64 e.order.pick.close, .int .i64 e.order.pick.service, .int .i64 e.order.drop.place, .int .i64 e.order.drop.opn, .int .i64 e.order.drop.close, .int .i64 e.order.drop.service, .int .i64 e.order.skills, .int .i64 e.order.penalty, .int .i64 e.order.split, .int .i64 e.order.last, .int .i64 e.order.now, .bool e.order.off] 37) = W0 := hW0
 have HX := Lib.hid (fun w' (h' : Below W0.heap.size W0 w') => And.intro (b0.below h') (b1.below h'))
 have HI := Lib.hid (fun w' (h' : Below w.heap.size w w') => h.go h')
 have HW1 := Lib.hid hW1
 have HF := Lib.hid hF
 have HFT := Lib.hid hf
 have HCC := Lib.hid hC
 have C0 := Below.refl W0.heap.size W0
 clear hW0 hW1 b0 b1 h hF hC hf
 simp only [InV]
 obtain ⟨r, hr⟩ : ∃ r, chkF x now e = r := ⟨_, rfl⟩
 have HR : Hid (r = if alwF now e = 0 then hapK (hapF x e) else alwF now e) := Lib.hid (by rw [← hr]; exact chk_hap)
 rw [hr]
 clear hr
 go_enter Tryz.func15, Tryz.ntmps15
 go_upto_region 1 with fail
 rw [HW1.out]
 clear HW1
 go_wp2_with ((with_reducible refine zH stEvt _ rfl ⟨(w.heap.size + 1), 0, none⟩ (z8 e C c) ?_ ?_ ?_ ?_ ?_); exact rfl; exact rfl; exact (HX.out _ C0).2.cells; exact rfl)
 refine (allowed_any now e C c W0).mono ?_
 rintro e2 w1 ⟨rfl, b1⟩
 have HB1 := Lib.hid b1
 have HBW := Lib.hid (hB0.trans (b1.mono (by omega)))
 have HX1 := Lib.hid (HX.out _ b1)
 clear b1
 obtain ⟨k, hk⟩ : ∃ k, alwF now e = k := ⟨_, rfl⟩
 rw [hk] at HR ⊢
 clear hk
 by_cases hk0 : k = 0
 ·have HR2 : Hid (r = hapK (hapF x e)) := Lib.hid (by rw [HR.out, if_pos hk0])
  have hkk : (k != 0) = false := by simp [hk0]
  clear HR hk0
  go_wp2_with (first
   | ((with_reducible refine zH stIns _ rfl ⟨w.heap.size, 0, none⟩ (insCs (x) P) ?_ ?_ ?_ ?_ ?_); exact rfl; exact rfl; exact HX1.out.1.cells; exact rfl)
   | ((with_reducible refine zH stEvt _ rfl ⟨(w.heap.size + 1), 0, none⟩ (z8 e C c) ?_ ?_ ?_ ?_ ?_); exact rfl; exact rfl; exact HX1.out.2.cells; exact rfl))
  refine (happens_any x P e C c w1.heap.size w1 (Nat.le_refl _) (HI.out _ HBW.out) HF.out ((HCC.out.below HBW.out).more HBW.out.size) HFT.out).mono ?_
  intro e3 w2 h2
  obtain ⟨Y, Q, rfl, b2⟩ := h2.err
  rw [← HR2.out]
  clear h2
  have HB2 := Lib.hid (HBW.out.trans (b2.mono HBW.out.size))
  clear b2
  go_wp2_with fail
  go_ret
  exact ⟨rfl, HB2.out.alloc HB2.out.size _⟩
 ·have HR2 : Hid (r = k) := Lib.hid (by rw [HR.out, if_neg hk0])
  have hkk : (k != 0) = true := by simp [hk0]
  clear HR hk0
  go_wp2_with fail
  go_ret
  exact ⟨by rw [HR2.out]; rfl, HBW.out⟩
end Go.Proofs.YtofabhenmplkoaaGreatDoor.evt

/- The instance after an event. The program. -/
namespace Go.Proofs.YtofabhenmplkoaaGreatDoor.evt
open Go.RowKit
open lib rd app els off typ big ins ord gen
def appF (x : Ins) (e : Evt) : Ins × Int := if ¬ alwF 0 e = 0 then (nilI, alwF 0 e) else match hapF x e with
 | .error k => (nilI, k)
 | .ok y => (y, 0)
def AplOut (w : World) (B : Nat) (r : Ins × Int) (e : Ending) (w' : World) : Prop := ∃ P, e = .returned (.tuple #[InV r.1 P, .int .i64 r.2]) ∧ InFr w' B w.heap.size r.1 P ∧ Below w.heap.size w w'
theorem slw_err {N : Net} {f t at_ n k : Int} (h : slwF N f t at_ n = .error k) : k ≠ 0 := by
 have key : ∀ j k, slwTo N.arcs f t at_ n j = .error k → k ≠ 0 := by
  intro j
  induction j with
  | zero => intro k h; cases h
  | succ j ih =>
   intro k h
   rw [slwTo] at h
   split at h
   ·rename_i e he
    injection h with h
    rw [← h]
    exact ih e he
   ·split at h
    ·cases h
    ·split at h
     ·split at h
      ·rename_i e he
       injection h with h
       rw [← h]
       rcases late_err he with h' | h' <;> rw [h'] <;> decide
      ·cases h
     ·cases h
 unfold slwF at h
 split at h
 ·injection h with h; rw [← h]; decide
 ·split at h
  ·injection h with h; rw [← h]; decide
  ·split at h
   ·rename_i e he
    injection h with h
    rw [← h]
    exact key _ e he
   ·split at h
    ·cases h
    ·injection h with h; rw [← h]; decide
theorem hap_err {x : Ins} {e : Evt} {k : Int} (h : hapF x e = .error k) : k ≠ 0 := by
 unfold hapF at h
 split at h
 ·split at h
  ·injection h with h; rw [← h]; decide
  ·split at h
   ·cases h
   ·rename_i h9
    injection h with h
    rw [← h]
    exact h9
 ·split at h
  ·split at h
   ·injection h with h; rw [← h]; decide
   ·split at h
    ·rename_i k' hk'
     injection h with h
     rw [← h]
     exact slw_err hk'
    ·cases h
  ·split at h
   ·split at h
    ·injection h with h; rw [← h]; decide
    ·split at h
     ·injection h with h; rw [← h]; decide
     ·split at h
      ·injection h with h; rw [← h]; decide
      ·cases h
   ·split at h
    ·rename_i h9
     injection h with h
     rw [← h]
     exact h9
    ·split at h
     ·injection h with h; rw [← h]; decide
     ·split at h
      ·cases h
      ·split at h
       ·cases h
       ·injection h with h; rw [← h]; decide
set_option maxRecDepth 20000 in
set_option maxHeartbeats 8000000 in
theorem apply_any (x : Ins) (P : InP) (e : Evt) (C : Option Addr) (c : Nat) (B : Nat) (w : World) (hB : B ≤ w.heap.size) (hA : InAt w B x P) (hF : insF x = []) (hC : Ints w B C e.order.load) (hf : yN e) :
  Calls Tryz.prog 17 #[InV x P, .agg (z8 e C c).toArray] w (AplOut w B (appF x e)) := by
 have h : InAt w w.heap.size x P := hA.more hB
 have HA := Lib.hid hA
 show Calls Tryz.prog 17 #[InV x P, .agg #[.int .i64 e.at_, .int .i64 e.kind, .int .i64 e.a, .int .i64 e.b, .int .i64 e.n, .string e.order.name, .slice C e.order.load.length c, .int .i64 e.order.pick.place, .int .i64 e.order.pick.opn, .int .i64 e.order.pick.close, .int .i64 e.order.pick.service, .int .i64 e.order.drop.place, .int .i64 e.order.drop.opn, .int .i64 e.order.drop.close, .int .i64 e.order.drop.service, .int .i64 e.order.skills, .int .i64 e.order.penalty, .int .i64 e.order.split, .int .i64 e.order.last, .int .i64 e.order.now, .bool e.order.off]] w _
 have HF := Lib.hid hF
 have HFT := Lib.hid hf
 have HCC := Lib.hid hC
 obtain ⟨W0, hW0⟩ : ∃ W0, ((w.alloc (.cells (insCs x P).toArray 30)).alloc (.cells (z8 e C c).toArray 37)).alloc (.cells nilCs.toArray 30) = W0 := ⟨_, rfl⟩
 have hB0 : Below w.heap.size w W0 := by rw [← hW0]; exact (((Below.refl _ _).alloc (Nat.le_refl _) _).alloc (by simp) _).alloc (by simp; omega) _
 have z0 : W0.heap.size = w.heap.size + 3 := by rw [← hW0]; simp
 have b0 : Blk W0 w.heap.size 30 (insCs x P) := by
  rw [← hW0]
  exact ((Blk.new w _ _).kept (World.grownBy_alloc _ _ none) (by simp)).kept (World.grownBy_alloc _ _ none) (by simp)
 have b1 : Blk W0 (w.heap.size + 1) 37 (z8 e C c) := by
  rw [← hW0]
  have h := Blk.new (w.alloc (.cells (insCs x P).toArray 30)) 37 (z8 e C c)
  rw [show (w.alloc (.cells (insCs x P).toArray 30)).heap.size = w.heap.size + 1 by simp] at h
  exact h.kept (World.grownBy_alloc _ _ none) (by simp)
 have b2 : Blk W0 (w.heap.size + 2) 30 nilCs := by
  rw [← hW0]
  have h := Blk.new ((w.alloc (.cells (insCs x P).toArray 30)).alloc (.cells (z8 e C c).toArray 37)) 30 nilCs
  rw [show ((w.alloc (.cells (insCs x P).toArray 30)).alloc (.cells (z8 e C c).toArray 37)).heap.size = w.heap.size + 2 by simp] at h
  exact h
 have hW1 : ((w.alloc (.cells #[.slice P.a0 x.net.places.length P.c0, .slice P.a1 x.net.arcs.length P.c1, .slice P.a2 x.types.length P.c2, .slice P.a3 x.orders.length P.c3, .slice P.a4 x.apart.length P.c4, .slice P.a5 x.before.length P.c5] 30)).alloc (.cells #[.int .i64 e.at_, .int .i64 e.kind, .int .i64 e.a, .int .i64 e.b, .int .i64 e.n, .string e.order.name, .slice C e.order.load.length c, .int .i64 e.order.pick.place, .int .i64 e.order.pick.opn, .int .i64 e.order.pick.close, .int .i64 e.order.pick.service, .int .i64 e.order.drop.place, .int .i64 e.order.drop.opn, .int .i64 e.order.drop.close, .int .i64 e.order.drop.service, .int .i64 e.order.skills, .int .i64 e.order.penalty, .int .i64 e.order.split, .int .i64 e.order.last, .int .i64 e.order.now, .bool e.order.off] 37)).alloc (.cells #[.slice none 0 0, .slice none 0 0, .slice none 0 0, .slice none 0 0, .slice none 0 0, .slice none 0 0] 30) = W0 := hW0
 have HX := Lib.hid (fun w' (h' : Below W0.heap.size W0 w') => And.intro (b0.below h') (And.intro (b1.below h') (b2.below h')))
 have HI := Lib.hid (fun w' (h' : Below w.heap.size w w') => h.go h')
 have HW1 := Lib.hid hW1
 have C0 := Below.refl W0.heap.size W0
 clear hW0 hW1 b0 b1 b2
 simp only [InV]
 obtain ⟨r, hr⟩ : ∃ r, appF x e = r := ⟨_, rfl⟩
 have HR := Lib.hid hr
 rw [hr]
 have HX0 := Lib.hid (HX.out _ C0)
 clear h hA hF hr hC hf
 go_enter Tryz.func17, Tryz.ntmps17
 go_upto_region 1 with fail
 rw [HW1.out]
 clear HW1
 go_wp2_with ((with_reducible refine zH stEvt _ rfl ⟨(w.heap.size + 1), 0, none⟩ (z8 e C c) ?_ ?_ ?_ ?_ ?_); exact rfl; exact rfl; exact HX0.out.2.1.cells; exact rfl)
 refine (allowed_any 0 e C c W0).mono ?_
 rintro e2 w1 ⟨rfl, b1⟩
 have HBW := Lib.hid (hB0.trans (b1.mono (by omega)))
 have HX1 := Lib.hid (HX.out _ b1)
 have hz1 : w.heap.size + 3 ≤ w1.heap.size := by have := b1.size; omega
 clear b1 HX0
 obtain ⟨k, hk⟩ : ∃ k, alwF 0 e = k := ⟨_, rfl⟩
 have HR1 : Hid (r = if ¬ k = 0 then (nilI, k) else match hapF x e with
  | .error k => (nilI, k)
  | .ok y => (y, 0)) := Lib.hid (by rw [← HR.out, ← hk]; rfl)
 rw [hk]
 clear hk HR
 by_cases hk0 : k = 0
 rotate_left
 ·have HRR : Hid (r = (nilI, k)) := Lib.hid (by rw [HR1.out, if_pos hk0])
  have hkk : (k != 0) = true := by simp [hk0]
  clear HR1 hk0
  go_wp2_with ((with_reducible refine zJ stIns rfl _ _ rfl (w.heap.size + 2) nilCs (insCs (nilI) nilP) ?_ ?_ ?_ ?_ ?_ (zT _ _) ?_); exact rfl; exact rfl; exact HX1.out.2.2; exact rfl; exact rfl; intro wz k1 k2 k3 k4; have K := lib.h4 k1 k2 k3 k4; clear k1 k2 k3 k4)
  have HRz : Blk wz (w.heap.size + 2) 30 (insCs (nilI) nilP) := K.out.1
  refine bodyPost_ret (v := .tuple #[.agg (insCs (nilI) nilP).toArray, .int .i64 k]) (big.zK stIns Tryz.results17 rfl rfl HRz.cells rfl) rfl ?_
  rw [HRR.out]
  exact ⟨nilP, rfl, InFr.nil, HBW.out.trans (K.out.2.2.2.mono (by omega))⟩
 have HR2 : Hid (r = match hapF x e with
  | .error k => (nilI, k)
  | .ok y => (y, 0)) := Lib.hid (by rw [HR1.out, if_neg (fun h => h hk0)])
 have hkk : (k != 0) = false := by simp [hk0]
 clear HR1 hk0
 go_wp2_with (first
  | ((with_reducible refine zH stIns _ rfl ⟨w.heap.size, 0, none⟩ (insCs (x) P) ?_ ?_ ?_ ?_ ?_); exact rfl; exact rfl; exact HX1.out.1.cells; exact rfl)
  | ((with_reducible refine zH stEvt _ rfl ⟨(w.heap.size + 1), 0, none⟩ (z8 e C c) ?_ ?_ ?_ ?_ ?_); exact rfl; exact rfl; exact HX1.out.2.1.cells; exact rfl))
 refine (happens_any x P e C c B w1 (Nat.le_trans hB HBW.out.size) (HA.out.below (HBW.out.mono hB)) HF.out (HCC.out.below (HBW.out.mono hB)) HFT.out).mono ?_
 obtain ⟨q, hq⟩ : ∃ q, hapF x e = q := ⟨_, rfl⟩
 rw [hq] at HR2 ⊢
 have HQ := Lib.hid hq
 clear hq
 intro e3 w2 h2
 rcases q with kk | Y
 ·obtain ⟨Y, Q, rfl, b2⟩ := h2
  have hke : (kk != 0) = true := by simp [hap_err HQ.out]
  have HRR : Hid (r = (nilI, kk)) := Lib.hid HR2.out
  go_upto_region 5 with fail
  obtain ⟨w3, hw3⟩ : ∃ W, w2.alloc (.cells (insCs (Y) Q).toArray 30) = W := ⟨_, rfl⟩
  have hw3' : w2.alloc (.cells #[.slice Q.a0 (Y).net.places.length Q.c0, .slice Q.a1 (Y).net.arcs.length Q.c1, .slice Q.a2 (Y).types.length Q.c2, .slice Q.a3 (Y).orders.length Q.c3, .slice Q.a4 (Y).apart.length Q.c4, .slice Q.a5 (Y).before.length Q.c5] 30) = w3 := hw3
  rw [hw3']
  have k1' : SixAt w3 w2.heap.size (insCs (Y) Q) := by rw [← hw3]; exact World.alloc_heap_new _ _
  have bx : Below w2.heap.size w2 w3 := by rw [← hw3]; exact (Below.refl _ _).alloc (Nat.le_refl _) _
  clear hw3 hw3'
  have HX3 := Lib.hid (And.intro ((HX1.out.2.2.below b2).below bx) True.intro)
  have HB3 := Lib.hid (HBW.out.trans ((b2.trans (bx.mono b2.size)).mono HBW.out.size))
  clear b2 bx k1' HX1 HR2
  go_wp2_with ((with_reducible refine zJ stIns rfl _ _ rfl (w.heap.size + 2) nilCs (insCs (nilI) nilP) ?_ ?_ ?_ ?_ ?_ (zT _ _) ?_); exact rfl; exact rfl; exact HX3.out.1; exact rfl; exact rfl; intro wz k1 k2 k3 k4; have K := lib.h4 k1 k2 k3 k4; clear k1 k2 k3 k4)
  have HRz : Blk wz (w.heap.size + 2) 30 (insCs (nilI) nilP) := K.out.1
  refine bodyPost_ret (v := .tuple #[.agg (insCs (nilI) nilP).toArray, .int .i64 kk]) (big.zK stIns Tryz.results17 rfl rfl HRz.cells rfl) rfl ?_
  rw [HRR.out]
  exact ⟨nilP, rfl, InFr.nil, HB3.out.trans (K.out.2.2.2.mono (by omega))⟩
 ·obtain ⟨Q, rfl, hfr, b2⟩ := h2
  have HRR : Hid (r = (Y, 0)) := Lib.hid HR2.out
  go_upto_region 5 with fail
  obtain ⟨w3, hw3⟩ : ∃ W, w2.alloc (.cells (insCs (Y) Q).toArray 30) = W := ⟨_, rfl⟩
  have hw3' : w2.alloc (.cells #[.slice Q.a0 (Y).net.places.length Q.c0, .slice Q.a1 (Y).net.arcs.length Q.c1, .slice Q.a2 (Y).types.length Q.c2, .slice Q.a3 (Y).orders.length Q.c3, .slice Q.a4 (Y).apart.length Q.c4, .slice Q.a5 (Y).before.length Q.c5] 30) = w3 := hw3
  rw [hw3']
  have k1' : SixAt w3 w2.heap.size (insCs (Y) Q) := by rw [← hw3]; exact World.alloc_heap_new _ _
  have bx : Below w2.heap.size w2 w3 := by rw [← hw3]; exact (Below.refl _ _).alloc (Nat.le_refl _) _
  clear hw3 hw3'
  have HX3 := Lib.hid (And.intro ((HX1.out.2.2.below b2).below bx) (And.intro k1' (hfr.below bx)))
  have HB3 := Lib.hid (HBW.out.trans ((b2.trans (bx.mono b2.size)).mono HBW.out.size))
  obtain ⟨g, hg⟩ : ∃ g, w2.heap.size = g := ⟨_, rfl⟩
  rw [hg] at HX3 ⊢
  clear b2 bx k1' HX1 HR2 hfr hg
  go_wp2_with (first
   | ((with_reducible refine zH stIns _ rfl ⟨g, 0, none⟩ (insCs (Y) Q) ?_ ?_ ?_ ?_ ?_); exact rfl; exact rfl; exact HX3.out.2.1.cells; exact rfl)
   | ((with_reducible refine zJ stIns rfl _ _ rfl (w.heap.size + 2) nilCs (insCs (Y) Q) ?_ ?_ ?_ ?_ ?_ (zT _ _) ?_); exact rfl; exact rfl; exact HX3.out.1; exact rfl; exact rfl; intro wz k1 k2 k3 k4; have K := lib.h4 k1 k2 k3 k4; clear k1 k2 k3 k4))
  have HRz : Blk wz (w.heap.size + 2) 30 (insCs (Y) Q) := K.out.1
  refine bodyPost_ret (v := .tuple #[.agg (insCs (Y) Q).toArray, .int .i64 0]) (big.zK stIns Tryz.results17 rfl rfl HRz.cells rfl) rfl ?_
  rw [HRR.out]
  have hgz : w3.heap.size ≤ wz.heap.size := by rw [K.out.2.2.1]; exact Nat.le_refl _
  exact ⟨Q, rfl, (InFr.keep HX3.out.2.2 hgz (fun b hb hp => K.out.2.1 b (by rcases hp with h | h <;> omega))).weak (Nat.le_refl _) (by omega), HB3.out.trans (K.out.2.2.2.mono (by omega))⟩
theorem ad_block (a : Addr) (i : Nat) : (a.add i).block = a.block := by unfold Addr.add; split <;> rfl
theorem app_bad {x : Ins} {e : Evt} {k : Int} (h : chkF x 0 e = k) (hk : ¬ k = 0) : appF x e = (nilI, k) := by
 unfold chkF at h
 unfold appF
 by_cases ha : alwF 0 e = 0
 ·rw [if_neg (fun g => g ha)] at h ⊢
  cases hh : hapF x e with
  | error q => rw [hh] at h; dsimp only at h ⊢; rw [h]
  | ok y => rw [hh] at h; exact absurd h.symm hk
 ·rw [if_pos ha] at h ⊢
  rw [h]
theorem app_good {x : Ins} {e : Evt} (h : chkF x 0 e = 0) : ∃ y, hapF x e = .ok y ∧ appF x e = (y, 0) ∧ 1 ≤ e.kind ∧ e.kind ≤ 5 := by
 unfold chkF at h
 unfold appF
 by_cases ha : alwF 0 e = 0
 ·rw [if_neg (fun g => g ha)] at h ⊢
  have hk : 1 ≤ e.kind ∧ e.kind ≤ 5 := by
   apply Classical.byContradiction
   intro hc
   unfold alwF at ha
   by_cases h1 : ¬ tkB e.at_ = true
   ·rw [if_pos h1] at ha; cases ha
   rw [if_neg h1] at ha
   by_cases h2 : e.at_ < 0
   ·rw [if_pos h2] at ha; cases ha
   rw [if_neg h2, if_pos hc] at ha
   cases ha
  cases hh : hapF x e with
  | error q => rw [hh] at h; exact absurd h (hap_err hh)
  | ok y => exact ⟨y, rfl, rfl, hk⟩
 ·rw [if_pos ha] at h
  exact absurd h ha
end Go.Proofs.YtofabhenmplkoaaGreatDoor.evt

import Derived.Test.YthefooacfcagbaaGreatDoorRsqX
import Derived.Test.YthefooacfcagbaaGreatDoorLinA
/- The reference's lines: an instance passed by value, whose rows grow. -/
namespace Go.Proofs.YthefooacfcagbaaGreatDoor.spc
open Go.RowKit
open lib rd app els typ big gen off
open ins (InP InAt InV)
open txt (in64 By strV strV_of elem_str push_one Strs numL)
set_option linter.unusedVariables false
set_option linter.unusedSimpArgs false
structure XKeep (G : Nat → Option Nat) (w w' : World) : Prop where
 os : w'.os = w.os
 tape : w'.tape = w.tape
 output : w'.output = w.output
 size : w.heap.size ≤ w'.heap.size
 block : ∀ q, q < w.heap.size → (∀ i, G i ≠ some q) → w'.heap[q]? = w.heap[q]?
def GSub (G : Nat → Option Nat) (w : World) (G' : Nat → Option Nat) : Prop := ∀ i g, G' i = some g → (∃ j, G j = some g) ∨ w.heap.size ≤ g
theorem GSub.refl (G : Nat → Option Nat) (w : World) : GSub G w G := fun i g h => .inl ⟨i, h⟩
theorem XKeep.of_below {G : Nat → Option Nat} {w w' : World} (h : Below w.heap.size w w') : XKeep G w w' := ⟨h.os, h.tape, h.output, h.size, fun q hq _ => h.block q hq⟩
theorem XKeep.trans {G G1 : Nat → Option Nat} {w w1 w2 : World} (h : XKeep G w w1) (k : XKeep G1 w1 w2) (hs : GSub G w G1) : XKeep G w w2 :=
 ⟨k.os.trans h.os, k.tape.trans h.tape, k.output.trans h.output, Nat.le_trans h.size k.size, fun q hq hn => (k.block q (Nat.lt_of_lt_of_le hq h.size) (fun i e => by
  rcases hs i q e with ⟨j, hj⟩ | hj
  ·exact hn j hj
  ·omega)).trans (h.block q hq hn)⟩
abbrev Zn (Z : Nat → Prop) (H : Nat) (q : Nat) : Prop := Z q ∧ q ≠ H ∧ q ≠ H + 1
def XvOut (G : Nat → Option Nat) (Z : Nat → Prop) (o : Option Ins) (w : World) (e : Ending) (w' : World) : Prop :=
 (∃ x' P' G', o = some x' ∧ e = .returned (.tuple #[InV x' P', .bool true]) ∧ XG G' w' Z x' P' ∧ XKeep G w w' ∧ GSub G w G') ∨ (o = none ∧ Below w.heap.size w w' ∧ ∃ y Q, e = .returned (.tuple #[InV y Q, .bool false]))
structure RdS (G : Nat → Option Nat) (Z : Nat → Prop) (x : Ins) (P : InP) (H : Nat) (w wx : World) : Prop where
 hgt : w.heap.size = H
 low : Below H w wx
 rows : XG G wx (Zn Z H) x P
 box : Blk wx H 30 (xCs x P)
 res : Blk wx (H + 1) 30 (xCs nilX nilP)
 far : ∀ i g, G i = some g → g < H
 new : ∀ q, H ≤ q → Z q
structure RdE (G : Nat → Option Nat) (Z : Nat → Prop) (x' : Ins) (H : Nat) (w wx : World) (P' : InP) (G' : Nat → Option Nat) : Prop where
 rows : XG G' wx (Zn Z H) x' P'
 box : Blk wx H 30 (xCs x' P')
 res : Blk wx (H + 1) 30 (xCs nilX nilP)
 kp : XKeep G w wx
 sub : GSub G w G'
section
variable {G : Nat → Option Nat} {Z : Nat → Prop} {x x' : Ins} {P : InP} {H : Nat} {w wx wy : World}
theorem RdS.below (h : RdS G Z x P H w wx) (hb : Below wx.heap.size wx wy) : RdS G Z x P H w wy :=
 ⟨h.hgt, h.low.trans (hb.mono (by have := h.low.size; have := h.hgt; omega)), h.rows.below hb, h.box.below hb, h.res.below hb, h.far, h.new⟩
theorem RdS.start (hX : XG G w Z x P) (hZ : ∀ q, w.heap.size ≤ q → Z q) : RdS G Z x P w.heap.size w ((w.alloc (.cells (xCs x P).toArray 30)).alloc (.cells (xCs nilX nilP).toArray 30)) := by
 have b1 : Below w.heap.size w (w.alloc (.cells (xCs x P).toArray 30)) := (Below.refl _ _).alloc (Nat.le_refl _) _
 have hz : (w.alloc (.cells (xCs x P).toArray 30)).heap.size = w.heap.size + 1 := by rw [World.size_alloc]
 have b2 : Below (w.heap.size + 1) (w.alloc (.cells (xCs x P).toArray 30)) ((w.alloc (.cells (xCs x P).toArray 30)).alloc (.cells (xCs nilX nilP).toArray 30)) := by
  rw [← hz]
  exact (Below.refl _ _).alloc (Nat.le_refl _) _
 have b3 := b1.trans (b2.mono (Nat.le_succ _))
 refine ⟨rfl, b3, hX.keep b3.size fun q hq hz => ⟨⟨hz, by omega, by omega⟩, b3.block q hq⟩, ?_, ?_, fun i g e => hX.ok.lt i g e, hZ⟩
 ·exact (b2.block _ (Nat.lt_succ_self _)).trans (Blk.new w _ _)
 ·have h := Blk.new (w.alloc (.cells (xCs x P).toArray 30)) 30 (xCs nilX nilP)
  rw [hz] at h
  exact h
theorem RdS.lt (h : RdS G Z x P H w wx) : H + 1 < wx.heap.size := h.res.lt
theorem RdS.boxk (h : RdS G Z x P H w wx) (i : Nat) (hg : wx.grownBy wy (G i)) : Blk wy H 30 (xCs x P) :=
 h.box.kept hg (fun e => by have := h.far i H e.symm; omega)
theorem RdS.avoid (h : RdS G Z x P H w wx) {q : Nat} (hq : H + 2 ≤ q) : Avoid G (Zn Z H) q := ⟨⟨h.new q (by omega), by omega, by omega⟩, fun i e => by have := h.far i q e.symm; omega⟩
theorem RdS.fin {i g : Nat} {x' : Ins} {P' : InP} (h : RdS G Z x P H w wx) (hg : wx.grownBy wy (G i)) (hX : XG (upd G i g) wy (Zn Z H) x' P') (hd : G i = some g ∨ wx.heap.size ≤ g) (j : Nat) (u : Value) (hxc : (xCs x P).set j u = xCs x' P') :
  RdE G Z x' H w (wy.setCell ⟨H, j, none⟩ u) P' (upd G i g) := by
 have hH : ∀ k, G k ≠ some H := fun k e => by have := h.far k H e; omega
 have hH1 : ∀ k, G k ≠ some (H + 1) := fun k e => by have := h.far k (H + 1) e; omega
 have hb := h.boxk i hg
 refine ⟨hX.keep (by simp [World.setCell]) fun q hq hz => ⟨hz, Below.heap_setCell wy ⟨H, j, none⟩ _ q (show q ≠ H from hz.2.1)⟩, ?_, ?_, ?_, ?_⟩
 ·have e := hb.set j u
  rw [hxc] at e
  exact e
 ·exact (Below.heap_setCell wy ⟨H, j, none⟩ _ (H + 1) (show H + 1 ≠ H by omega)).trans (h.res.kept hg (fun e => hH1 i e.symm))
 ·have hz := h.hgt
  refine ⟨hg.os.trans h.low.os, hg.tape.trans h.low.tape, hg.output.trans h.low.output, ?_, fun q hq hn => ?_⟩
  ·simp only [World.setCell, Array.size_modify]
   exact Nat.le_trans h.low.size hg.size
  ·exact (Below.heap_setCell wy ⟨H, j, none⟩ _ q (show q ≠ H by omega)).trans ((hg.block q (by have := h.low.size; omega) (fun e => hn i e.symm)).trans (h.low.block q (by omega)))
 ·intro k q e
  by_cases hk : k = i
  ·subst hk
   rw [upd_same] at e
   obtain rfl := Option.some.inj e
   rcases hd with hd | hd
   ·exact .inl ⟨k, hd⟩
   ·exact .inr (by have := h.low.size; omega)
  ·rw [upd_other G _ hk] at e
   exact .inl ⟨k, e⟩
theorem RdE.out {P' : InP} {G' : Nat → Option Nat} (h : RdE G Z x' H w wx P' G') (hH : w.heap.size = H) (k2 : ∀ k, k ≠ H + 1 → wy.heap[k]? = wx.heap[k]?) (k3 : wy.heap.size = wx.heap.size) (k4 : Below (H + 1) wx wy) : XvOut G Z (some x') w (.returned (.tuple #[InV x' P', .bool true])) wy := by
 refine .inl ⟨x', P', G', rfl, rfl, h.rows.keep (Nat.le_of_eq k3.symm) fun q hq hz => ⟨hz.1, k2 q hz.2.2⟩, ⟨k4.os.trans h.kp.os, k4.tape.trans h.kp.tape, k4.output.trans h.kp.output, Nat.le_trans h.kp.size k4.size, fun q hq hn => (k2 q (by omega)).trans (h.kp.block q hq hn)⟩, h.sub⟩
theorem RdS.none_ (h : RdS G Z x P H w wx) (k4 : Below (H + 1) wx wy) : XvOut G Z none w (.returned (.tuple #[InV x P, .bool false])) wy := by
 have e := h.hgt
 refine .inr ⟨rfl, ?_, x, P, rfl⟩
 rw [e]
 exact h.low.trans (k4.mono (Nat.le_succ _))
end
theorem reads_sub {w : World} {B n : Nat} {ad : Addr} {xs ys : List Value} (i m : Nat) (h : Reads w B 1 (some ad) n xs) (h0 : 0 < n) (hl : ys.length = m) (hs : ∀ j u, ys[j]? = some u → xs[i + j]? = some u) : Reads w B 1 (some (ad.add i)) m ys := by
 refine ⟨by omega, fun _ => ?_⟩
 obtain ⟨ad', e, hb, hc⟩ := h.2 h0
 obtain rfl := Option.some.inj e
 exact ⟨_, rfl, by rw [block_of_add]; exact hb, fun j u hu => by rw [add_of_add]; exact hc _ _ (hs j u hu)⟩
end Go.Proofs.YthefooacfcagbaaGreatDoor.spc

/- The reference's lines of pairs and arcs, read. -/
namespace Go.Proofs.YthefooacfcagbaaGreatDoor.spc
open Go.RowKit
open lib rd app els typ big gen off
open ins (InP InAt InV)
open txt (in64 By strV strV_of elem_str push_one Strs numL)
set_option linter.unusedVariables false
set_option linter.unusedSimpArgs false
structure WAt (w : World) (A : Option Addr) (n d : Nat) (W : List By) : Prop where
 len : n = W.length
 cap : n ≤ d
 lo : n ≤ 1000001
 rd : Reads w w.heap.size 1 A n (W.map strV)
 sz : ∀ y ∈ W, y.length ≤ 1000000
theorem WAt.below {w w' : World} {A : Option Addr} {n d : Nat} {W : List By} (h : WAt w A n d W) (hb : Below w.heap.size w w') : WAt w' A n d W := ⟨h.len, h.cap, h.lo, (h.rd.below hb).more hb.size, h.sz⟩
def pairX (x : Ins) (W : List By) : Option Ins := if W.length = 3 then (match readF (W.drop 1) with
 | some [a, b] => some (if W.head? = some kwX then Lin.add x (.apart (a, b)) else Lin.add x (.before (a, b)))
 | _ => none) else none
set_option maxRecDepth 20000 in
set_option maxHeartbeats 4000000 in
theorem rpair_any (G : Nat → Option Nat) (Z : Nat → Prop) (x : Ins) (P : InP) (W : List By) (A : Option Addr) (n d : Nat) (w : World) (hX : XG G w Z x P) (hZ : ∀ q, w.heap.size ≤ q → Z q) (hsm : Sm x) (hW : WAt w A n d W) :
  Calls Tryz.prog 75 #[InV x P, .slice A n d] w (XvOut G Z (pairX x W) w) := by
 obtain ⟨R, hR⟩ : ∃ R, pairX x W = R := ⟨_, rfl⟩
 have HR := Lib.hid hR
 rw [hR]
 clear hR
 have HX := Lib.hid (RdS.start hX hZ)
 have HWA := Lib.hid hW
 have HSM := Lib.hid hsm
 obtain ⟨W0, hW0⟩ : ∃ W, (w.alloc (.cells (xCs x P).toArray 30)).alloc (.cells (xCs nilX nilP).toArray 30) = W := ⟨_, rfl⟩
 have HW0 := Lib.hid (show (w.alloc (.cells #[.slice P.a0 x.net.places.length P.c0, .slice P.a1 x.net.arcs.length P.c1, .slice P.a2 x.types.length P.c2, .slice P.a3 x.orders.length P.c3, .slice P.a4 x.apart.length P.c4, .slice P.a5 x.before.length P.c5] 30)).alloc (.cells #[.slice none 0 0, .slice none 0 0, .slice none 0 0, .slice none 0 0, .slice none 0 0, .slice none 0 0] 30) = W0 from hW0)
 rw [hW0] at HX
 have HWA0 : Hid (WAt W0 A n d W) := Lib.hid (hW.below (by rw [← hW0]; exact ((Below.refl _ _).alloc (Nat.le_refl _) _).alloc (by rw [World.size_alloc]; omega) _))
 have hWc := hW.cap
 have hwz := HX.out.lt
 clear hX hZ hW hsm hW0
 go_enter Tryz.func75, Tryz.ntmps75
 go_upto_region 1 with fail
 rw [HW0.out]
 clear HW0
 by_cases h3 : n = 3
 rotate_left
 ·have h3i : ¬ (n : Int) = 3 := by omega
  have h3b : ((n : Int) != 3) = true := by simpa using h3i
  have HE : Hid (R = none) := Lib.hid (by rw [← HR.out]; unfold pairX; rw [if_neg (by rw [← HWA0.out.len]; exact h3)])
  go_wp2_with (first | ((with_reducible refine wpList_loadG sIns _ rfl ⟨w.heap.size, 0, none⟩ (xCs x P) ?_ ?_ ?_ ?_ ?_); exact rfl; exact rfl; exact HX.out.box.cells; exact rfl) | ((with_reducible refine wpList_storeL sIns rfl _ _ rfl (w.heap.size + 1) (xCs nilX nilP) (xCs x P) ?_ ?_ ?_ ?_ ?_ (xCs_one _ _) ?_); exact rfl; exact rfl; exact HX.out.res; exact rfl; exact rfl; intro wz k1 k2 k3 k4; have K := lib.h4 k1 k2 k3 k4; clear k1 k2 k3 k4))
  refine bodyPost_ret (v := .tuple #[.agg (xCs x P).toArray, .bool false]) (big.res_cell_tmp sIns Tryz.results75 rfl rfl (Blk.cells K.out.1) rfl) rfl ?_
  rw [HE.out]
  exact HX.out.none_ K.out.2.2.2
 subst h3
 obtain ⟨ad, hA, hadb, hcs⟩ := HWA0.out.rd.2 (by omega)
 subst hA
 have hd1 : ¬ d = 1 := by omega
 have HCS := Lib.hid (reads_sub (ys := (W.drop 1).map strV) 1 2 HWA0.out.rd (by omega) (by rw [List.length_map, List.length_drop, ← HWA0.out.len]) (fun j u hu => by rw [List.getElem?_map, List.getElem?_drop] at hu; rw [List.getElem?_map]; exact hu))
 have HIN := Lib.hid (rints_any (W.drop 1) (some (ad.add 1)) 2 (d - 1) (by rw [List.length_drop, ← HWA0.out.len]) W0 HCS.out (fun y hy => HWA0.out.sz y (List.mem_of_mem_drop hy)) (by omega))
 have hkw : ∃ y0, W[0]? = some y0 := ⟨_, List.getElem?_eq_getElem (by rw [← HWA0.out.len]; omega)⟩
 obtain ⟨y0, hy0⟩ := hkw
 have hc0 : W0.cell? (ad.add 0) = some (.string ⟨y0.toArray⟩) := hcs 0 (strV y0) (by rw [List.getElem?_map, hy0]; rfl)
 rw [show ad.add 0 = ad from rfl] at hc0
 have HC0 := Lib.hid hc0
 have HY0 := Lib.hid hy0
 have HL3 := Lib.hid (HWA0.out.len)
 clear hcs hy0 hc0
 go_upto_region 4 with (go_at_call 105; refine HIN.out.mono ?_; rintro e w2 ⟨hb2, ⟨l, A2, d2, hl, rfl, hown⟩ | ⟨hl, rfl⟩⟩)
 rotate_left
 ·have HX2 := Lib.hid (HX.out.below hb2)
  have HE : Hid (R = none) := Lib.hid (by rw [← HR.out]; unfold pairX; rw [if_pos HL3.out.symm, hl])
  clear hb2 hl
  go_wp2_with (first | ((with_reducible refine wpList_loadG sIns _ rfl ⟨w.heap.size, 0, none⟩ (xCs x P) ?_ ?_ ?_ ?_ ?_); exact rfl; exact rfl; exact HX2.out.box.cells; exact rfl) | ((with_reducible refine wpList_storeL sIns rfl _ _ rfl (w.heap.size + 1) (xCs nilX nilP) (xCs x P) ?_ ?_ ?_ ?_ ?_ (xCs_one _ _) ?_); exact rfl; exact rfl; exact HX2.out.res; exact rfl; exact rfl; intro wz k1 k2 k3 k4; have K := lib.h4 k1 k2 k3 k4; clear k1 k2 k3 k4))
  refine bodyPost_ret (v := .tuple #[.agg (xCs x P).toArray, .bool false]) (big.res_cell_tmp sIns Tryz.results75 rfl rfl (Blk.cells K.out.1) rfl) rfl ?_
  rw [HE.out]
  exact HX2.out.none_ K.out.2.2.2
 have HX2 := Lib.hid (HX.out.below hb2)
 obtain ⟨a1, a2, rfl⟩ : ∃ a1 a2, l = [a1, a2] := by
  have hl2 := (readF_len hl).1
  rw [List.length_drop, ← HL3.out] at hl2
  match l, hl2 with
  | [a, b], _ => exact ⟨a, b, rfl⟩
 obtain ⟨g, c2, hv, hg0, hglt⟩ := hown.form (by simp)
 injection hv with e1 e2 e3
 subst e1
 have g0 := hown.cellAt 0 (by simp)
 have g1 := hown.cellAt 1 (by simp)
 simp only [List.map_cons, List.getElem?_cons_zero, List.getElem?_cons_succ] at g0 g1
 have hz0 := HX.out.lt
 have hgH : w.heap.size + 2 ≤ g := by omega
 have h64 := (readF_len hl).2
 have HPO : Hid (pairOk (a1, a2)) := Lib.hid ⟨h64 _ (by simp), h64 _ (by simp)⟩
 have HGC := Lib.hid (And.intro g0 g1)
 have HCW : Hid (w2.cell? ad = some (.string ⟨y0.toArray⟩)) := Lib.hid ((hb2.cell hadb).trans HC0.out)
 have hcw := HCW.out
 have hz2 := hb2.size
 have hadb2 : ad.block < w2.heap.size := by omega
 have HLR := Lib.hid hl
 clear e2 e3 hown hb2 hl h64 g0 g1 hg0
 by_cases hk : y0 = kwX
 ·have hkb : (y0 == [97, 112, 97, 114, 116]) = true := beq_iff_eq.2 hk
  have HE : Hid (R = some (Lin.add x (.apart (a1, a2)))) := Lib.hid (by rw [← HR.out]; unfold pairX; rw [if_pos HL3.out.symm, HLR.out]; dsimp only; rw [if_pos (by rw [List.head?_eq_getElem?, HY0.out, hk])])
  clear hk
  go_upto_region 7 with fail
  have hbc := HX2.out.box.cell (j := 4) rfl
  have hsm : x.apart.length ≤ 1000000 := by obtain ⟨s0, s1, s2, s3, s4, s5⟩ := HSM.out; assumption
  have hgc0 := HGC.out.1
  have hgc1 := HGC.out.2
  clear hcw
  (refine wp_region_held_drew (S := (fun v => v.cell? ⟨g, 0, none⟩ = some (.int .i64 a1) ∧ v.cell? ⟨g, 1, none⟩ = some (.int .i64 a2))) (by kernel_rfl) ?_ (fun hHeld => ?_))
  ·exact HGC.out
  clear hgc0 hgc1
  (refine lib.tk 0 rfl ?_; (try simp only [lib.hly]))
  (refine lib.tk 2 rfl ?_; (try simp only [lib.hly]))
  (refine lib.tk 3 rfl ?_; (try simp only [lib.hly]))
  (refine lib.tk 4 rfl ?_; (try simp only [lib.hly]))
  (refine lib.tk 5 rfl ?_; (try simp only [lib.hly]))
  (refine lib.tk 6 rfl ?_; (try simp only [lib.hly]))
  (refine lib.tk 7 rfl ?_; (try simp only [lib.hly]))
  (refine lib.tk 8 rfl ?_; (try simp only [lib.hly]))
  refine wpAnyH_ready (rs := [1, 9]) (by kernel_rfl) (by simp) ?_
  refine AllReadyH.cons rfl (fun K hK => ?_) (AllReadyH.cons rfl (fun K hK => ?_) AllReadyH.nil)
  ·go_simp
   refine hK.out _ _ (HGC.out) (fun hHeld => ?_)
   clear hK K
   (try simp only [lib.hly])
   (refine lib.rk 9 rfl fun K hK => ?_)
   go_simp
   obtain ⟨W8, hW8⟩ : ∃ W, (w2.alloc (.cells #[.int .i64 a1, .int .i64 a2] 67)).drew = W := ⟨_, rfl⟩
   have hb8 : Below w2.heap.size w2 W8 := by rw [← hW8]; exact ((Below.refl _ _).alloc (Nat.le_refl _) _).drew
   have HA8 : Hid (∀ (j : Nat) (u : Value), [Value.int .i64 a1, .int .i64 a2][j]? = some u → W8.cell? ((⟨w2.heap.size, 0, none⟩ : Addr).add j) = some u) := Lib.hid (fun j u hu => by rw [← hW8]; exact two_new w2 _ _ _ j u hu)
   have HX8 := Lib.hid (HX2.out.below hb8)
   have HG8 : Hid (W8.cell? ⟨g, 0, none⟩ = some (.int .i64 a1) ∧ W8.cell? ⟨g, 1, none⟩ = some (.int .i64 a2)) := Lib.hid ⟨(hb8.cell (p := ⟨g, 0, none⟩) hglt).trans HGC.out.1, (hb8.cell (p := ⟨g, 1, none⟩) hglt).trans HGC.out.2⟩
   rw [hW8]
   clear hW8 hb8
   refine hK.out _ _ (HG8.out) (fun hHeld => ?_)
   clear hK K
   (try simp only [lib.hly])
   obtain ⟨cs, hco, hce⟩ := HX8.out.rows.r4.ex
   have HCO := Lib.hid hco
   have HCE := Lib.hid hce
   clear hco hce
   (refine lib.rk 10 rfl fun K hK => ?_)
   refine step_app two_elem _ _ rfl 0 P.a4 x.apart.length P.c4 cs rfl HCO.out ⟨w2.heap.size, 0, none⟩ 1 [.int .i64 a1, .int .i64 a2] rfl rfl HA8.out (fun u hu => by simp only [List.mem_cons, List.not_mem_nil, or_false] at hu; rcases hu with rfl | rfl <;> rfl) (by omega) (Nat.zero_le _) rfl ?_
   intro g9 c9 w9 hown9 hg9 hd9
   have hgi : W8.grownBy w9 (G 4) := by rw [HX8.out.rows.r4.own]; exact hg9
   have hne : some g ≠ G 4 := fun e => by have := HX8.out.far 4 g e.symm; omega
   have HB9 := Lib.hid (HX8.out.boxk 4 hgi)
   have hcc := HB9.out.cell (j := 4) rfl
   have hcf := HB9.out.frozen 4
   have hz8 := HX8.out.lt
   have hqx : oTwo.at_ W8 (Avoid G (Zn Z w.heap.size)) [.int .i64 a1, .int .i64 a2] (a1, a2) := ⟨_, _, rfl, ⟨rfl, HPO.out.1⟩, rfl, HPO.out.2⟩
   have HFI := Lib.hid (HX8.out.fin (i := 4) (g := g9) hgi (HX8.out.rows.add4 (fun q hq => ⟨HX8.out.new q (by omega), by omega, by omega⟩) HCE.out hqx hown9 hg9 hd9) (by rw [HX8.out.rows.r4.own]; exact hd9) 4 (.slice (some ⟨g9, 0, none⟩) (x.apart.length + 1) c9) (by simp [xCs, Lin.add]))
   have HG9 : Hid (w9.cell? ⟨g, 0, none⟩ = some (.int .i64 a1) ∧ w9.cell? ⟨g, 1, none⟩ = some (.int .i64 a2)) := Lib.hid ⟨hg9.cell (a := ⟨g, 0, none⟩) HG8.out.1 (by rw [← HX8.out.rows.r4.own]; exact hne), hg9.cell (a := ⟨g, 1, none⟩) HG8.out.2 (by rw [← HX8.out.rows.r4.own]; exact hne)⟩
   clear hown9 hg9 hd9 hgi hne hqx
   refine hK.out _ _ (HG9.out) (fun hHeld => ?_)
   clear hK K
   (try simp only [lib.hly])
   (refine lib.tk 11 rfl ?_; (try simp only [lib.hly]))
   (refine lib.rk 12 rfl fun K hK => ?_)
   go_simp
   obtain ⟨W9, hW9⟩ : ∃ W, w9.setCell ⟨w.heap.size, 4, none⟩ (.slice (some ⟨g9, 0, none⟩) (x.apart.length + 1) c9) = W := ⟨_, rfl⟩
   have HG10 : Hid (W9.cell? ⟨g, 0, none⟩ = some (.int .i64 a1) ∧ W9.cell? ⟨g, 1, none⟩ = some (.int .i64 a2)) := Lib.hid (by rw [← hW9]; exact ⟨(World.cell?_setCell_other w9 _ ⟨g, 0, none⟩ _ (fun e => by injection e with e; omega)).trans HG9.out.1, (World.cell?_setCell_other w9 _ ⟨g, 1, none⟩ _ (fun e => by injection e with e; omega)).trans HG9.out.2⟩)
   rw [hW9] at HFI ⊢
   clear hW9 hcc hcf
   refine hK.out _ _ (HG10.out) (fun hHeld => ?_)
   clear hK K
   (try simp only [lib.hly])
   (refine wpAnyH_done (by kernel_rfl) ?_ _)
   clear hHeld
   obtain ⟨x', hx'⟩ : ∃ x', R = some x' := ⟨_, HE.out⟩
   have HFX := Lib.hid (show ∃ P' G', RdE G Z x' w.heap.size w W9 P' G' by have h := HE.out.symm.trans hx'; obtain rfl := Option.some.inj h; exact ⟨_, _, HFI.out⟩)
   have HR' := Lib.hid hx'
   clear hx'
   obtain ⟨P', G', hfx⟩ := HFX.out
   have HFY := Lib.hid hfx
   clear hfx
   go_wp2_with (first | ((with_reducible refine wpList_loadG sIns _ rfl ⟨w.heap.size, 0, none⟩ (xCs x' P') ?_ ?_ ?_ ?_ ?_); exact rfl; exact rfl; exact HFY.out.box.cells; exact rfl) | ((with_reducible refine wpList_storeL sIns rfl _ _ rfl (w.heap.size + 1) (xCs nilX nilP) (xCs x' P') ?_ ?_ ?_ ?_ ?_ (xCs_one _ _) ?_); exact rfl; exact rfl; exact HFY.out.res; exact rfl; exact rfl; intro wz k1 k2 k3 k4; have K := lib.h4 k1 k2 k3 k4; clear k1 k2 k3 k4))
   refine bodyPost_ret (v := .tuple #[.agg (xCs x' P').toArray, .bool true]) (big.res_cell_tmp sIns Tryz.results75 rfl rfl (Blk.cells K.out.1) rfl) rfl ?_
   rw [HR'.out]
   exact HFY.out.out rfl K.out.2.1 K.out.2.2.1 K.out.2.2.2
  ·skip
   go_simp
   obtain ⟨W8, hW8⟩ : ∃ W, (w2.alloc (.cells #[.int .i64 a1, .int .i64 a2] 67)).drew = W := ⟨_, rfl⟩
   have hb8 : Below w2.heap.size w2 W8 := by rw [← hW8]; exact ((Below.refl _ _).alloc (Nat.le_refl _) _).drew
   have HA8 : Hid (∀ (j : Nat) (u : Value), [Value.int .i64 a1, .int .i64 a2][j]? = some u → W8.cell? ((⟨w2.heap.size, 0, none⟩ : Addr).add j) = some u) := Lib.hid (fun j u hu => by rw [← hW8]; exact two_new w2 _ _ _ j u hu)
   have HX8 := Lib.hid (HX2.out.below hb8)
   have HG8 : Hid (W8.cell? ⟨g, 0, none⟩ = some (.int .i64 a1) ∧ W8.cell? ⟨g, 1, none⟩ = some (.int .i64 a2)) := Lib.hid ⟨(hb8.cell (p := ⟨g, 0, none⟩) hglt).trans HGC.out.1, (hb8.cell (p := ⟨g, 1, none⟩) hglt).trans HGC.out.2⟩
   rw [hW8]
   clear hW8 hb8
   refine hK.out _ _ (HG8.out) (fun hHeld => ?_)
   clear hK K
   (try simp only [lib.hly])
   have hb8c := HX8.out.box.cell (j := 4) rfl
   (refine lib.rk 1 rfl fun K hK => ?_)
   go_simp
   refine hK.out _ _ (HG8.out) (fun hHeld => ?_)
   clear hK K
   (try simp only [lib.hly])
   clear hb8c
   obtain ⟨cs, hco, hce⟩ := HX8.out.rows.r4.ex
   have HCO := Lib.hid hco
   have HCE := Lib.hid hce
   clear hco hce
   (refine lib.rk 10 rfl fun K hK => ?_)
   refine step_app two_elem _ _ rfl 0 P.a4 x.apart.length P.c4 cs rfl HCO.out ⟨w2.heap.size, 0, none⟩ 1 [.int .i64 a1, .int .i64 a2] rfl rfl HA8.out (fun u hu => by simp only [List.mem_cons, List.not_mem_nil, or_false] at hu; rcases hu with rfl | rfl <;> rfl) (by omega) (Nat.zero_le _) rfl ?_
   intro g9 c9 w9 hown9 hg9 hd9
   have hgi : W8.grownBy w9 (G 4) := by rw [HX8.out.rows.r4.own]; exact hg9
   have hne : some g ≠ G 4 := fun e => by have := HX8.out.far 4 g e.symm; omega
   have HB9 := Lib.hid (HX8.out.boxk 4 hgi)
   have hcc := HB9.out.cell (j := 4) rfl
   have hcf := HB9.out.frozen 4
   have hz8 := HX8.out.lt
   have hqx : oTwo.at_ W8 (Avoid G (Zn Z w.heap.size)) [.int .i64 a1, .int .i64 a2] (a1, a2) := ⟨_, _, rfl, ⟨rfl, HPO.out.1⟩, rfl, HPO.out.2⟩
   have HFI := Lib.hid (HX8.out.fin (i := 4) (g := g9) hgi (HX8.out.rows.add4 (fun q hq => ⟨HX8.out.new q (by omega), by omega, by omega⟩) HCE.out hqx hown9 hg9 hd9) (by rw [HX8.out.rows.r4.own]; exact hd9) 4 (.slice (some ⟨g9, 0, none⟩) (x.apart.length + 1) c9) (by simp [xCs, Lin.add]))
   have HG9 : Hid (w9.cell? ⟨g, 0, none⟩ = some (.int .i64 a1) ∧ w9.cell? ⟨g, 1, none⟩ = some (.int .i64 a2)) := Lib.hid ⟨hg9.cell (a := ⟨g, 0, none⟩) HG8.out.1 (by rw [← HX8.out.rows.r4.own]; exact hne), hg9.cell (a := ⟨g, 1, none⟩) HG8.out.2 (by rw [← HX8.out.rows.r4.own]; exact hne)⟩
   clear hown9 hg9 hd9 hgi hne hqx
   refine hK.out _ _ (HG9.out) (fun hHeld => ?_)
   clear hK K
   (try simp only [lib.hly])
   (refine lib.tk 11 rfl ?_; (try simp only [lib.hly]))
   (refine lib.rk 12 rfl fun K hK => ?_)
   go_simp
   obtain ⟨W9, hW9⟩ : ∃ W, w9.setCell ⟨w.heap.size, 4, none⟩ (.slice (some ⟨g9, 0, none⟩) (x.apart.length + 1) c9) = W := ⟨_, rfl⟩
   have HG10 : Hid (W9.cell? ⟨g, 0, none⟩ = some (.int .i64 a1) ∧ W9.cell? ⟨g, 1, none⟩ = some (.int .i64 a2)) := Lib.hid (by rw [← hW9]; exact ⟨(World.cell?_setCell_other w9 _ ⟨g, 0, none⟩ _ (fun e => by injection e with e; omega)).trans HG9.out.1, (World.cell?_setCell_other w9 _ ⟨g, 1, none⟩ _ (fun e => by injection e with e; omega)).trans HG9.out.2⟩)
   rw [hW9] at HFI ⊢
   clear hW9 hcc hcf
   refine hK.out _ _ (HG10.out) (fun hHeld => ?_)
   clear hK K
   (try simp only [lib.hly])
   (refine wpAnyH_done (by kernel_rfl) ?_ _)
   clear hHeld
   obtain ⟨x', hx'⟩ : ∃ x', R = some x' := ⟨_, HE.out⟩
   have HFX := Lib.hid (show ∃ P' G', RdE G Z x' w.heap.size w W9 P' G' by have h := HE.out.symm.trans hx'; obtain rfl := Option.some.inj h; exact ⟨_, _, HFI.out⟩)
   have HR' := Lib.hid hx'
   clear hx'
   obtain ⟨P', G', hfx⟩ := HFX.out
   have HFY := Lib.hid hfx
   clear hfx
   go_wp2_with (first | ((with_reducible refine wpList_loadG sIns _ rfl ⟨w.heap.size, 0, none⟩ (xCs x' P') ?_ ?_ ?_ ?_ ?_); exact rfl; exact rfl; exact HFY.out.box.cells; exact rfl) | ((with_reducible refine wpList_storeL sIns rfl _ _ rfl (w.heap.size + 1) (xCs nilX nilP) (xCs x' P') ?_ ?_ ?_ ?_ ?_ (xCs_one _ _) ?_); exact rfl; exact rfl; exact HFY.out.res; exact rfl; exact rfl; intro wz k1 k2 k3 k4; have K := lib.h4 k1 k2 k3 k4; clear k1 k2 k3 k4))
   refine bodyPost_ret (v := .tuple #[.agg (xCs x' P').toArray, .bool true]) (big.res_cell_tmp sIns Tryz.results75 rfl rfl (Blk.cells K.out.1) rfl) rfl ?_
   rw [HR'.out]
   exact HFY.out.out rfl K.out.2.1 K.out.2.2.1 K.out.2.2.2
 ·have hkb : (y0 == [97, 112, 97, 114, 116]) = false := beq_eq_false_iff_ne.2 hk
  have HE : Hid (R = some (Lin.add x (.before (a1, a2)))) := Lib.hid (by rw [← HR.out]; unfold pairX; rw [if_pos HL3.out.symm, HLR.out]; dsimp only; rw [if_neg (by rw [List.head?_eq_getElem?, HY0.out]; intro e; exact hk (Option.some.inj e))])
  clear hk
  go_upto_region 8 with fail
  have hbc := HX2.out.box.cell (j := 5) rfl
  have hsm : x.before.length ≤ 1000000 := by obtain ⟨s0, s1, s2, s3, s4, s5⟩ := HSM.out; assumption
  have hgc0 := HGC.out.1
  have hgc1 := HGC.out.2
  clear hcw
  (refine wp_region_held_drew (S := (fun v => v.cell? ⟨g, 0, none⟩ = some (.int .i64 a1) ∧ v.cell? ⟨g, 1, none⟩ = some (.int .i64 a2))) (by kernel_rfl) ?_ (fun hHeld => ?_))
  ·exact HGC.out
  clear hgc0 hgc1
  (refine lib.tk 0 rfl ?_; (try simp only [lib.hly]))
  (refine lib.tk 2 rfl ?_; (try simp only [lib.hly]))
  (refine lib.tk 3 rfl ?_; (try simp only [lib.hly]))
  (refine lib.tk 4 rfl ?_; (try simp only [lib.hly]))
  (refine lib.tk 5 rfl ?_; (try simp only [lib.hly]))
  (refine lib.tk 6 rfl ?_; (try simp only [lib.hly]))
  (refine lib.tk 7 rfl ?_; (try simp only [lib.hly]))
  (refine lib.tk 8 rfl ?_; (try simp only [lib.hly]))
  refine wpAnyH_ready (rs := [1, 9]) (by kernel_rfl) (by simp) ?_
  refine AllReadyH.cons rfl (fun K hK => ?_) (AllReadyH.cons rfl (fun K hK => ?_) AllReadyH.nil)
  ·go_simp
   refine hK.out _ _ (HGC.out) (fun hHeld => ?_)
   clear hK K
   (try simp only [lib.hly])
   (refine lib.rk 9 rfl fun K hK => ?_)
   go_simp
   obtain ⟨W8, hW8⟩ : ∃ W, (w2.alloc (.cells #[.int .i64 a1, .int .i64 a2] 67)).drew = W := ⟨_, rfl⟩
   have hb8 : Below w2.heap.size w2 W8 := by rw [← hW8]; exact ((Below.refl _ _).alloc (Nat.le_refl _) _).drew
   have HA8 : Hid (∀ (j : Nat) (u : Value), [Value.int .i64 a1, .int .i64 a2][j]? = some u → W8.cell? ((⟨w2.heap.size, 0, none⟩ : Addr).add j) = some u) := Lib.hid (fun j u hu => by rw [← hW8]; exact two_new w2 _ _ _ j u hu)
   have HX8 := Lib.hid (HX2.out.below hb8)
   have HG8 : Hid (W8.cell? ⟨g, 0, none⟩ = some (.int .i64 a1) ∧ W8.cell? ⟨g, 1, none⟩ = some (.int .i64 a2)) := Lib.hid ⟨(hb8.cell (p := ⟨g, 0, none⟩) hglt).trans HGC.out.1, (hb8.cell (p := ⟨g, 1, none⟩) hglt).trans HGC.out.2⟩
   rw [hW8]
   clear hW8 hb8
   refine hK.out _ _ (HG8.out) (fun hHeld => ?_)
   clear hK K
   (try simp only [lib.hly])
   obtain ⟨cs, hco, hce⟩ := HX8.out.rows.r5.ex
   have HCO := Lib.hid hco
   have HCE := Lib.hid hce
   clear hco hce
   (refine lib.rk 10 rfl fun K hK => ?_)
   refine step_app two_elem _ _ rfl 0 P.a5 x.before.length P.c5 cs rfl HCO.out ⟨w2.heap.size, 0, none⟩ 1 [.int .i64 a1, .int .i64 a2] rfl rfl HA8.out (fun u hu => by simp only [List.mem_cons, List.not_mem_nil, or_false] at hu; rcases hu with rfl | rfl <;> rfl) (by omega) (Nat.zero_le _) rfl ?_
   intro g9 c9 w9 hown9 hg9 hd9
   have hgi : W8.grownBy w9 (G 5) := by rw [HX8.out.rows.r5.own]; exact hg9
   have hne : some g ≠ G 5 := fun e => by have := HX8.out.far 5 g e.symm; omega
   have HB9 := Lib.hid (HX8.out.boxk 5 hgi)
   have hcc := HB9.out.cell (j := 5) rfl
   have hcf := HB9.out.frozen 5
   have hz8 := HX8.out.lt
   have hqx : oTwo.at_ W8 (Avoid G (Zn Z w.heap.size)) [.int .i64 a1, .int .i64 a2] (a1, a2) := ⟨_, _, rfl, ⟨rfl, HPO.out.1⟩, rfl, HPO.out.2⟩
   have HFI := Lib.hid (HX8.out.fin (i := 5) (g := g9) hgi (HX8.out.rows.add5 (fun q hq => ⟨HX8.out.new q (by omega), by omega, by omega⟩) HCE.out hqx hown9 hg9 hd9) (by rw [HX8.out.rows.r5.own]; exact hd9) 5 (.slice (some ⟨g9, 0, none⟩) (x.before.length + 1) c9) (by simp [xCs, Lin.add]))
   have HG9 : Hid (w9.cell? ⟨g, 0, none⟩ = some (.int .i64 a1) ∧ w9.cell? ⟨g, 1, none⟩ = some (.int .i64 a2)) := Lib.hid ⟨hg9.cell (a := ⟨g, 0, none⟩) HG8.out.1 (by rw [← HX8.out.rows.r5.own]; exact hne), hg9.cell (a := ⟨g, 1, none⟩) HG8.out.2 (by rw [← HX8.out.rows.r5.own]; exact hne)⟩
   clear hown9 hg9 hd9 hgi hne hqx
   refine hK.out _ _ (HG9.out) (fun hHeld => ?_)
   clear hK K
   (try simp only [lib.hly])
   (refine lib.tk 11 rfl ?_; (try simp only [lib.hly]))
   (refine lib.rk 12 rfl fun K hK => ?_)
   go_simp
   obtain ⟨W9, hW9⟩ : ∃ W, w9.setCell ⟨w.heap.size, 5, none⟩ (.slice (some ⟨g9, 0, none⟩) (x.before.length + 1) c9) = W := ⟨_, rfl⟩
   have HG10 : Hid (W9.cell? ⟨g, 0, none⟩ = some (.int .i64 a1) ∧ W9.cell? ⟨g, 1, none⟩ = some (.int .i64 a2)) := Lib.hid (by rw [← hW9]; exact ⟨(World.cell?_setCell_other w9 _ ⟨g, 0, none⟩ _ (fun e => by injection e with e; omega)).trans HG9.out.1, (World.cell?_setCell_other w9 _ ⟨g, 1, none⟩ _ (fun e => by injection e with e; omega)).trans HG9.out.2⟩)
   rw [hW9] at HFI ⊢
   clear hW9 hcc hcf
   refine hK.out _ _ (HG10.out) (fun hHeld => ?_)
   clear hK K
   (try simp only [lib.hly])
   (refine wpAnyH_done (by kernel_rfl) ?_ _)
   clear hHeld
   obtain ⟨x', hx'⟩ : ∃ x', R = some x' := ⟨_, HE.out⟩
   have HFX := Lib.hid (show ∃ P' G', RdE G Z x' w.heap.size w W9 P' G' by have h := HE.out.symm.trans hx'; obtain rfl := Option.some.inj h; exact ⟨_, _, HFI.out⟩)
   have HR' := Lib.hid hx'
   clear hx'
   obtain ⟨P', G', hfx⟩ := HFX.out
   have HFY := Lib.hid hfx
   clear hfx
   go_wp2_with (first | ((with_reducible refine wpList_loadG sIns _ rfl ⟨w.heap.size, 0, none⟩ (xCs x' P') ?_ ?_ ?_ ?_ ?_); exact rfl; exact rfl; exact HFY.out.box.cells; exact rfl) | ((with_reducible refine wpList_storeL sIns rfl _ _ rfl (w.heap.size + 1) (xCs nilX nilP) (xCs x' P') ?_ ?_ ?_ ?_ ?_ (xCs_one _ _) ?_); exact rfl; exact rfl; exact HFY.out.res; exact rfl; exact rfl; intro wz k1 k2 k3 k4; have K := lib.h4 k1 k2 k3 k4; clear k1 k2 k3 k4))
   refine bodyPost_ret (v := .tuple #[.agg (xCs x' P').toArray, .bool true]) (big.res_cell_tmp sIns Tryz.results75 rfl rfl (Blk.cells K.out.1) rfl) rfl ?_
   rw [HR'.out]
   exact HFY.out.out rfl K.out.2.1 K.out.2.2.1 K.out.2.2.2
  ·skip
   go_simp
   obtain ⟨W8, hW8⟩ : ∃ W, (w2.alloc (.cells #[.int .i64 a1, .int .i64 a2] 67)).drew = W := ⟨_, rfl⟩
   have hb8 : Below w2.heap.size w2 W8 := by rw [← hW8]; exact ((Below.refl _ _).alloc (Nat.le_refl _) _).drew
   have HA8 : Hid (∀ (j : Nat) (u : Value), [Value.int .i64 a1, .int .i64 a2][j]? = some u → W8.cell? ((⟨w2.heap.size, 0, none⟩ : Addr).add j) = some u) := Lib.hid (fun j u hu => by rw [← hW8]; exact two_new w2 _ _ _ j u hu)
   have HX8 := Lib.hid (HX2.out.below hb8)
   have HG8 : Hid (W8.cell? ⟨g, 0, none⟩ = some (.int .i64 a1) ∧ W8.cell? ⟨g, 1, none⟩ = some (.int .i64 a2)) := Lib.hid ⟨(hb8.cell (p := ⟨g, 0, none⟩) hglt).trans HGC.out.1, (hb8.cell (p := ⟨g, 1, none⟩) hglt).trans HGC.out.2⟩
   rw [hW8]
   clear hW8 hb8
   refine hK.out _ _ (HG8.out) (fun hHeld => ?_)
   clear hK K
   (try simp only [lib.hly])
   have hb8c := HX8.out.box.cell (j := 5) rfl
   (refine lib.rk 1 rfl fun K hK => ?_)
   go_simp
   refine hK.out _ _ (HG8.out) (fun hHeld => ?_)
   clear hK K
   (try simp only [lib.hly])
   clear hb8c
   obtain ⟨cs, hco, hce⟩ := HX8.out.rows.r5.ex
   have HCO := Lib.hid hco
   have HCE := Lib.hid hce
   clear hco hce
   (refine lib.rk 10 rfl fun K hK => ?_)
   refine step_app two_elem _ _ rfl 0 P.a5 x.before.length P.c5 cs rfl HCO.out ⟨w2.heap.size, 0, none⟩ 1 [.int .i64 a1, .int .i64 a2] rfl rfl HA8.out (fun u hu => by simp only [List.mem_cons, List.not_mem_nil, or_false] at hu; rcases hu with rfl | rfl <;> rfl) (by omega) (Nat.zero_le _) rfl ?_
   intro g9 c9 w9 hown9 hg9 hd9
   have hgi : W8.grownBy w9 (G 5) := by rw [HX8.out.rows.r5.own]; exact hg9
   have hne : some g ≠ G 5 := fun e => by have := HX8.out.far 5 g e.symm; omega
   have HB9 := Lib.hid (HX8.out.boxk 5 hgi)
   have hcc := HB9.out.cell (j := 5) rfl
   have hcf := HB9.out.frozen 5
   have hz8 := HX8.out.lt
   have hqx : oTwo.at_ W8 (Avoid G (Zn Z w.heap.size)) [.int .i64 a1, .int .i64 a2] (a1, a2) := ⟨_, _, rfl, ⟨rfl, HPO.out.1⟩, rfl, HPO.out.2⟩
   have HFI := Lib.hid (HX8.out.fin (i := 5) (g := g9) hgi (HX8.out.rows.add5 (fun q hq => ⟨HX8.out.new q (by omega), by omega, by omega⟩) HCE.out hqx hown9 hg9 hd9) (by rw [HX8.out.rows.r5.own]; exact hd9) 5 (.slice (some ⟨g9, 0, none⟩) (x.before.length + 1) c9) (by simp [xCs, Lin.add]))
   have HG9 : Hid (w9.cell? ⟨g, 0, none⟩ = some (.int .i64 a1) ∧ w9.cell? ⟨g, 1, none⟩ = some (.int .i64 a2)) := Lib.hid ⟨hg9.cell (a := ⟨g, 0, none⟩) HG8.out.1 (by rw [← HX8.out.rows.r5.own]; exact hne), hg9.cell (a := ⟨g, 1, none⟩) HG8.out.2 (by rw [← HX8.out.rows.r5.own]; exact hne)⟩
   clear hown9 hg9 hd9 hgi hne hqx
   refine hK.out _ _ (HG9.out) (fun hHeld => ?_)
   clear hK K
   (try simp only [lib.hly])
   (refine lib.tk 11 rfl ?_; (try simp only [lib.hly]))
   (refine lib.rk 12 rfl fun K hK => ?_)
   go_simp
   obtain ⟨W9, hW9⟩ : ∃ W, w9.setCell ⟨w.heap.size, 5, none⟩ (.slice (some ⟨g9, 0, none⟩) (x.before.length + 1) c9) = W := ⟨_, rfl⟩
   have HG10 : Hid (W9.cell? ⟨g, 0, none⟩ = some (.int .i64 a1) ∧ W9.cell? ⟨g, 1, none⟩ = some (.int .i64 a2)) := Lib.hid (by rw [← hW9]; exact ⟨(World.cell?_setCell_other w9 _ ⟨g, 0, none⟩ _ (fun e => by injection e with e; omega)).trans HG9.out.1, (World.cell?_setCell_other w9 _ ⟨g, 1, none⟩ _ (fun e => by injection e with e; omega)).trans HG9.out.2⟩)
   rw [hW9] at HFI ⊢
   clear hW9 hcc hcf
   refine hK.out _ _ (HG10.out) (fun hHeld => ?_)
   clear hK K
   (try simp only [lib.hly])
   (refine wpAnyH_done (by kernel_rfl) ?_ _)
   clear hHeld
   obtain ⟨x', hx'⟩ : ∃ x', R = some x' := ⟨_, HE.out⟩
   have HFX := Lib.hid (show ∃ P' G', RdE G Z x' w.heap.size w W9 P' G' by have h := HE.out.symm.trans hx'; obtain rfl := Option.some.inj h; exact ⟨_, _, HFI.out⟩)
   have HR' := Lib.hid hx'
   clear hx'
   obtain ⟨P', G', hfx⟩ := HFX.out
   have HFY := Lib.hid hfx
   clear hfx
   go_wp2_with (first | ((with_reducible refine wpList_loadG sIns _ rfl ⟨w.heap.size, 0, none⟩ (xCs x' P') ?_ ?_ ?_ ?_ ?_); exact rfl; exact rfl; exact HFY.out.box.cells; exact rfl) | ((with_reducible refine wpList_storeL sIns rfl _ _ rfl (w.heap.size + 1) (xCs nilX nilP) (xCs x' P') ?_ ?_ ?_ ?_ ?_ (xCs_one _ _) ?_); exact rfl; exact rfl; exact HFY.out.res; exact rfl; exact rfl; intro wz k1 k2 k3 k4; have K := lib.h4 k1 k2 k3 k4; clear k1 k2 k3 k4))
   refine bodyPost_ret (v := .tuple #[.agg (xCs x' P').toArray, .bool true]) (big.res_cell_tmp sIns Tryz.results75 rfl rfl (Blk.cells K.out.1) rfl) rfl ?_
   rw [HR'.out]
   exact HFY.out.out rfl K.out.2.1 K.out.2.2.1 K.out.2.2.2
end Go.Proofs.YthefooacfcagbaaGreatDoor.spc

/- The reference's lines of arcs, read. -/
namespace Go.Proofs.YthefooacfcagbaaGreatDoor.spc
open Go.RowKit
open lib rd app els typ big gen off
open ins (InP InAt InV)
open txt (in64 By strV strV_of elem_str push_one Strs numL)
set_option linter.unusedVariables false
set_option linter.unusedSimpArgs false
theorem InOut.uni {o : Option (List Int)} {w w' : World} {e : Ending} (h : InOut o w e w') : ∃ (A : Option Addr) (m d : Nat) (b : Bool), e = .returned (.tuple #[.slice A m d, .bool b]) ∧ Below w.heap.size w w' ∧ Hid ((b = true → ∃ l, o = some l ∧ m = l.length ∧ w'.ownsRow w.heap.size 3 1 (.slice A m d) m (l.map (.int .i64))) ∧ (b = false → o = none)) := by
 obtain ⟨hb, ⟨l, A, d, h1, h2, h3⟩ | ⟨h1, h2⟩⟩ := h
 ·exact ⟨A, l.length, d, true, h2, hb, Lib.hid ⟨fun _ => ⟨l, h1, rfl, h3⟩, fun e => (by cases e)⟩⟩
 ·exact ⟨none, 0, 0, false, h2, hb, Lib.hid ⟨fun e => (by cases e), fun _ => h1⟩⟩
theorem PsOut.uni {o : Option (List Pt)} {w w' : World} {e : Ending} (h : PsOut o w e w') : ∃ (A : Option Addr) (m d : Nat) (b : Bool), e = .returned (.tuple #[.slice A m d, .bool b]) ∧ Below w.heap.size w w' ∧ Hid ((b = true → ∃ l, o = some l ∧ m = l.length ∧ w'.ownsRow w.heap.size 89 2 (.slice A m d) m (pcs l)) ∧ (b = false → o = none)) := by
 obtain ⟨hb, ⟨l, A, d, h1, h2, h3⟩ | ⟨h1, h2⟩⟩ := h
 ·exact ⟨A, l.length, d, true, h2, hb, Lib.hid ⟨fun _ => ⟨l, h1, rfl, h3⟩, fun e => (by cases e)⟩⟩
 ·exact ⟨none, 0, 0, false, h2, hb, Lib.hid ⟨fun e => (by cases e), fun _ => h1⟩⟩
theorem StOut.uni {o : Option Stp} {w w' : World} {e : Ending} (h : StOut o w e w') : ∃ (s : Stp) (b : Bool), e = .returned (.tuple #[.agg (StpCells s).toArray, .bool b]) ∧ Below w.heap.size w w' ∧ Hid ((b = true → o = some s) ∧ (b = false → o = none)) := by
 obtain ⟨hb, ⟨s, h1, h2⟩ | ⟨h1, s, h2⟩⟩ := h
 ·exact ⟨s, true, h2, hb, Lib.hid ⟨fun _ => h1, fun e => (by cases e)⟩⟩
 ·exact ⟨s, false, h2, hb, Lib.hid ⟨fun e => (by cases e), fun _ => h1⟩⟩
def arcX (x : Ins) : List By → Option Ins
 | [_, a, b, c, d, t, s] => (match readF [a, b, c, d], trvR t, trvR s with
  | some [n0, n1, n2, n3], some l, some m => some (Lin.add x (.arc ⟨n0, n1, n2, n3, l, m⟩))
  | _, _, _ => none)
 | _ => none
theorem arcX_len {x : Ins} {W : List By} (h : W.length ≠ 7) : arcX x W = none := by
 unfold arcX
 split
 ·exact absurd rfl h
 ·rfl
theorem arcX_some {x : Ins} {y a b c d t s : By} {n0 n1 n2 n3 : Int} {l m : List Pt} (h1 : readF [a, b, c, d] = some [n0, n1, n2, n3]) (h2 : trvR t = some l) (h3 : trvR s = some m) : arcX x [y, a, b, c, d, t, s] = some (Lin.add x (.arc ⟨n0, n1, n2, n3, l, m⟩)) := by
 unfold arcX
 dsimp only
 rw [h1, h2, h3]
theorem arcX_no1 {x : Ins} {y a b c d t s : By} (h1 : readF [a, b, c, d] = none) : arcX x [y, a, b, c, d, t, s] = none := by
 unfold arcX
 dsimp only
 rw [h1]
theorem arcX_no2 {x : Ins} {y a b c d t s : By} (h1 : trvR t = none) : arcX x [y, a, b, c, d, t, s] = none := by
 unfold arcX
 dsimp only
 rw [h1]
 split <;> simp_all
theorem arcX_no3 {x : Ins} {y a b c d t s : By} (h1 : trvR s = none) : arcX x [y, a, b, c, d, t, s] = none := by
 unfold arcX
 dsimp only
 rw [h1]
 split <;> simp_all
theorem seven {α : Type} {W : List α} (h : W.length = 7) : ∃ a0 a1 a2 a3 a4 a5 a6, W = [a0, a1, a2, a3, a4, a5, a6] := by
 match W, h with
 | [a0, a1, a2, a3, a4, a5, a6], _ => exact ⟨_, _, _, _, _, _, _, rfl⟩
theorem four {α : Type} {W : List α} (h : W.length = 4) : ∃ a0 a1 a2 a3, W = [a0, a1, a2, a3] := by
 match W, h with
 | [a0, a1, a2, a3], _ => exact ⟨_, _, _, _, rfl⟩
set_option maxRecDepth 20000 in
set_option maxHeartbeats 4000000 in
theorem rarc_any (G : Nat → Option Nat) (Z : Nat → Prop) (x : Ins) (P : InP) (W : List By) (A : Option Addr) (n d : Nat) (w : World) (hX : XG G w Z x P) (hZ : ∀ q, w.heap.size ≤ q → Z q) (hsm : Sm x) (hW : WAt w A n d W) :
  Calls Tryz.prog 72 #[InV x P, .slice A n d] w (XvOut G Z (arcX x W) w) := by
 obtain ⟨R, hR⟩ : ∃ R, arcX x W = R := ⟨_, rfl⟩
 have HR := Lib.hid hR
 rw [hR]
 clear hR
 have HX := Lib.hid (RdS.start hX hZ)
 have HWA := Lib.hid hW
 have HSM := Lib.hid hsm
 obtain ⟨W0, hW0⟩ : ∃ W, (w.alloc (.cells (xCs x P).toArray 30)).alloc (.cells (xCs nilX nilP).toArray 30) = W := ⟨_, rfl⟩
 have HW0 := Lib.hid (show (w.alloc (.cells #[.slice P.a0 x.net.places.length P.c0, .slice P.a1 x.net.arcs.length P.c1, .slice P.a2 x.types.length P.c2, .slice P.a3 x.orders.length P.c3, .slice P.a4 x.apart.length P.c4, .slice P.a5 x.before.length P.c5] 30)).alloc (.cells #[.slice none 0 0, .slice none 0 0, .slice none 0 0, .slice none 0 0, .slice none 0 0, .slice none 0 0] 30) = W0 from hW0)
 rw [hW0] at HX
 have HWA0 : Hid (WAt W0 A n d _) := Lib.hid (hW.below (by rw [← hW0]; exact ((Below.refl _ _).alloc (Nat.le_refl _) _).alloc (by rw [World.size_alloc]; omega) _))
 have hWc := hW.cap
 have hwz := HX.out.lt
 clear hX hZ hW hsm hW0
 go_enter Tryz.func72, Tryz.ntmps72
 go_upto_region 1 with fail
 rw [HW0.out]
 clear HW0
 by_cases h3 : n = 7
 rotate_left
 ·have h3i : ¬ (n : Int) = 7 := by omega
  have h3b : ((n : Int) != 7) = true := by simpa using h3i
  have HE : Hid (R = none) := Lib.hid (by rw [← HR.out]; exact arcX_len (by rw [← HWA0.out.len]; exact h3))
  go_wp2_with (first | ((with_reducible refine wpList_loadG sIns _ rfl ⟨w.heap.size, 0, none⟩ (xCs x P) ?_ ?_ ?_ ?_ ?_); exact rfl; exact rfl; exact HX.out.box.cells; exact rfl) | ((with_reducible refine wpList_storeL sIns rfl _ _ rfl (w.heap.size + 1) (xCs nilX nilP) (xCs x P) ?_ ?_ ?_ ?_ ?_ (xCs_one _ _) ?_); exact rfl; exact rfl; exact HX.out.res; exact rfl; exact rfl; intro wz k1 k2 k3 k4; have K := lib.h4 k1 k2 k3 k4; clear k1 k2 k3 k4))
  refine bodyPost_ret (v := .tuple #[.agg (xCs x P).toArray, .bool false]) (big.res_cell_tmp sIns Tryz.results72 rfl rfl (Blk.cells K.out.1) rfl) rfl ?_
  rw [HE.out]
  exact HX.out.none_ K.out.2.2.2
 subst h3
 obtain ⟨y0, y1, y2, y3, y4, y5, y6, rfl⟩ := seven HWA0.out.len.symm
 obtain ⟨ad, hA, hadb, hcs⟩ := HWA0.out.rd.2 (by omega)
 subst hA
 have hd1 : ¬ d = 1 := by omega
 have hd5 : (5 : Int) ≤ (d : Int) := by omega
 have HIN := Lib.hid (rints_any [y1, y2, y3, y4] (some (ad.add 1)) 4 (d - 1) rfl W0 (reads_sub (ys := [y1, y2, y3, y4].map strV) 1 4 HWA0.out.rd (by omega) rfl (fun j u hu => by rcases j with _ | _ | _ | _ | j <;> first | exact hu | (simp at hu))) (fun y hy => HWA0.out.sz y (by simp at hy ⊢; rcases hy with rfl | rfl | rfl | rfl <;> simp)) (by decide))
 have HP5 := Lib.hid (fun v => runpoints_any y5 (HWA0.out.sz y5 (by simp)) v)
 have HP6 := Lib.hid (fun v => runpoints_any y6 (HWA0.out.sz y6 (by simp)) v)
 have HCL : Hid (∀ v, Below W0.heap.size W0 v → v.cell? ⟨ad.block, ad.off + 5, none⟩ = some (.string ⟨y5.toArray⟩) ∧ v.cell? ⟨ad.block, ad.off + 6, none⟩ = some (.string ⟨y6.toArray⟩)) := Lib.hid (fun v hv => ⟨(hv.cell (p := ⟨ad.block, ad.off + 5, none⟩) hadb).trans (hcs 5 _ rfl), (hv.cell (p := ⟨ad.block, ad.off + 6, none⟩) hadb).trans (hcs 6 _ rfl)⟩)
 clear hcs HWA
 go_upto_region 4 with (go_at_call 105; refine HIN.out.mono ?_; intro e w2 ho; obtain ⟨Ba, ma, da, ba, rfl, hb2, hua⟩ := ho.uni; clear ho)
 have HB2 := Lib.hid hb2
 have hz2 := hb2.size
 obtain ⟨hc5, hc6⟩ := HCL.out w2 hb2
 clear hb2 HIN
 go_upto_region 5 with (go_at_call 106; refine (HP5.out w2).mono ?_; intro e w3 ho; obtain ⟨B4, m4, d4, b4, rfl, hb3, hu4⟩ := ho.uni; clear ho)
 have HB3 := Lib.hid (HB2.out.trans (hb3.mono HB2.out.size))
 have HB23 := Lib.hid hb3
 have hz3 := hb3.size
 clear hc5 hc6
 obtain ⟨hc5, hc6⟩ := HCL.out w3 HB3.out
 clear hb3 HP5
 go_upto_region 6 with (go_at_call 106; refine (HP6.out w3).mono ?_; intro e w4 ho; obtain ⟨B5, m5, d5, b5, rfl, hb4, hu5⟩ := ho.uni; clear ho)
 have HB34 := Lib.hid hb4
 have HB4 := Lib.hid (HB3.out.trans (hb4.mono HB3.out.size))
 have hz4 := hb4.size
 have HX4 := Lib.hid (HX.out.below HB4.out)
 clear hb4 HP6 hc5 hc6
 cases ba
 case false =>
  have HE : Hid (R = none) := Lib.hid (by rw [← HR.out]; exact arcX_no1 (hua.out.2 rfl))
  go_wp2_with (first | ((with_reducible refine wpList_loadG sIns _ rfl ⟨w.heap.size, 0, none⟩ (xCs x P) ?_ ?_ ?_ ?_ ?_); exact rfl; exact rfl; exact HX4.out.box.cells; exact rfl) | ((with_reducible refine wpList_storeL sIns rfl _ _ rfl (w.heap.size + 1) (xCs nilX nilP) (xCs x P) ?_ ?_ ?_ ?_ ?_ (xCs_one _ _) ?_); exact rfl; exact rfl; exact HX4.out.res; exact rfl; exact rfl; intro wz k1 k2 k3 k4; have K := lib.h4 k1 k2 k3 k4; clear k1 k2 k3 k4))
  refine bodyPost_ret (v := .tuple #[.agg (xCs x P).toArray, .bool false]) (big.res_cell_tmp sIns Tryz.results72 rfl rfl (Blk.cells K.out.1) rfl) rfl ?_
  rw [HE.out]
  exact HX4.out.none_ K.out.2.2.2
 cases b4
 case false =>
  have HE : Hid (R = none) := Lib.hid (by rw [← HR.out]; exact arcX_no2 (hu4.out.2 rfl))
  go_wp2_with (first | ((with_reducible refine wpList_loadG sIns _ rfl ⟨w.heap.size, 0, none⟩ (xCs x P) ?_ ?_ ?_ ?_ ?_); exact rfl; exact rfl; exact HX4.out.box.cells; exact rfl) | ((with_reducible refine wpList_storeL sIns rfl _ _ rfl (w.heap.size + 1) (xCs nilX nilP) (xCs x P) ?_ ?_ ?_ ?_ ?_ (xCs_one _ _) ?_); exact rfl; exact rfl; exact HX4.out.res; exact rfl; exact rfl; intro wz k1 k2 k3 k4; have K := lib.h4 k1 k2 k3 k4; clear k1 k2 k3 k4))
  refine bodyPost_ret (v := .tuple #[.agg (xCs x P).toArray, .bool false]) (big.res_cell_tmp sIns Tryz.results72 rfl rfl (Blk.cells K.out.1) rfl) rfl ?_
  rw [HE.out]
  exact HX4.out.none_ K.out.2.2.2
 cases b5
 case false =>
  have HE : Hid (R = none) := Lib.hid (by rw [← HR.out]; exact arcX_no3 (hu5.out.2 rfl))
  go_wp2_with (first | ((with_reducible refine wpList_loadG sIns _ rfl ⟨w.heap.size, 0, none⟩ (xCs x P) ?_ ?_ ?_ ?_ ?_); exact rfl; exact rfl; exact HX4.out.box.cells; exact rfl) | ((with_reducible refine wpList_storeL sIns rfl _ _ rfl (w.heap.size + 1) (xCs nilX nilP) (xCs x P) ?_ ?_ ?_ ?_ ?_ (xCs_one _ _) ?_); exact rfl; exact rfl; exact HX4.out.res; exact rfl; exact rfl; intro wz k1 k2 k3 k4; have K := lib.h4 k1 k2 k3 k4; clear k1 k2 k3 k4))
  refine bodyPost_ret (v := .tuple #[.agg (xCs x P).toArray, .bool false]) (big.res_cell_tmp sIns Tryz.results72 rfl rfl (Blk.cells K.out.1) rfl) rfl ?_
  rw [HE.out]
  exact HX4.out.none_ K.out.2.2.2
 obtain ⟨l, hl, rfl, hown⟩ := hua.out.1 rfl
 obtain ⟨t, ht, hm4, hownt⟩ := hu4.out.1 rfl
 obtain ⟨s, hs, hm5, howns⟩ := hu5.out.1 rfl
 obtain ⟨n0, n1, n2, n3, rfl⟩ := four (readF_len hl).1
 obtain ⟨g, c2, hv, hg0, hglt⟩ := hown.form (by simp)
 injection hv with e1 e2 e3
 subst e1
 have g0 := hown.cellAt 0 (by simp)
 have g1 := hown.cellAt 1 (by simp)
 have g2 := hown.cellAt 2 (by simp)
 have g3 := hown.cellAt 3 (by simp)
 simp only [List.map_cons, List.getElem?_cons_zero, List.getElem?_cons_succ] at g0 g1 g2 g3
 have hz0 := HX.out.lt
 have hgH : w.heap.size + 2 ≤ g := by omega
 have h64 := (readF_len hl).2
 have ht2 := (trvF_trvR ht)
 have hs2 := (trvF_trvR hs)
 obtain ⟨q, hq⟩ : ∃ q : Arc, q = ⟨n0, n1, n2, n3, t, s⟩ := ⟨_, rfl⟩
 have HQO : Hid (arcOk q) := Lib.hid (by rw [hq]; exact ⟨⟨h64 _ (by simp), h64 _ (by simp), h64 _ (by simp), h64 _ (by simp)⟩, ht2.2, hs2.2⟩)
 have HE : Hid (R = some (Lin.add x (.arc q))) := Lib.hid (by rw [← HR.out, hq]; exact arcX_some hl ht hs)
 have HLN : Hid (q.travel.length ≤ 1000000 ∧ q.slow.length ≤ 1000000) := Lib.hid (by
  rw [hq]
  have k1 := HWA0.out.sz y5 (by simp)
  have k2 := HWA0.out.sz y6 (by simp)
  have k3 := trvF_len t
  have k4 := trvF_len s
  rw [← ht2.1] at k3
  rw [← hs2.1] at k4
  exact ⟨Nat.le_trans k3 k1, Nat.le_trans k4 k2⟩)
 have HB24 : Hid (Below w2.heap.size w2 w4) := Lib.hid (HB23.out.trans (HB34.out.mono HB23.out.size))
 have HGC : Hid (w4.cell? ⟨g, 0, none⟩ = some (.int .i64 n0) ∧ w4.cell? ⟨g, 1, none⟩ = some (.int .i64 n1) ∧ w4.cell? ⟨g, 2, none⟩ = some (.int .i64 n2) ∧ w4.cell? ⟨g, 3, none⟩ = some (.int .i64 n3)) := Lib.hid ⟨(HB24.out.cell (p := ⟨g, 0, none⟩) hglt).trans g0, (HB24.out.cell (p := ⟨g, 1, none⟩) hglt).trans g1, (HB24.out.cell (p := ⟨g, 2, none⟩) hglt).trans g2, (HB24.out.cell (p := ⟨g, 3, none⟩) hglt).trans g3⟩
 obtain ⟨wd, hwd⟩ : ∃ wd, w4.drew = wd := ⟨_, rfl⟩
 have hbd : Below w4.heap.size w4 wd := by rw [← hwd]; exact (Below.refl _ _).drew
 have HXd := Lib.hid (HX4.out.below hbd)
 have HGd := Lib.hid (show wd.cell? ⟨g, 0, none⟩ = some (.int .i64 n0) ∧ wd.cell? ⟨g, 1, none⟩ = some (.int .i64 n1) ∧ wd.cell? ⟨g, 2, none⟩ = some (.int .i64 n2) ∧ wd.cell? ⟨g, 3, none⟩ = some (.int .i64 n3) by rw [← hwd]; exact HGC.out)
 have hgd : g < wd.heap.size := by rw [← hwd]; show g < w4.heap.size; omega
 have HGK : Hid (∀ v, Below wd.heap.size wd v → v.cell? ⟨g, 0, none⟩ = some (.int .i64 n0) ∧ v.cell? ⟨g, 1, none⟩ = some (.int .i64 n1) ∧ v.cell? ⟨g, 2, none⟩ = some (.int .i64 n2) ∧ v.cell? ⟨g, 3, none⟩ = some (.int .i64 n3)) := Lib.hid (fun v hv => ⟨(hv.cell (p := ⟨g, 0, none⟩) hgd).trans HGd.out.1, (hv.cell (p := ⟨g, 1, none⟩) hgd).trans HGd.out.2.1, (hv.cell (p := ⟨g, 2, none⟩) hgd).trans HGd.out.2.2.1, (hv.cell (p := ⟨g, 3, none⟩) hgd).trans HGd.out.2.2.2⟩)
 have HOd4 : Hid (wd.ownsRow W0.heap.size 89 2 (.slice B4 q.travel.length d4) q.travel.length (pcs q.travel)) := Lib.hid (by
  rw [hq]
  have h := own_below (own_below (own_less hownt hz2) HB34.out) hbd
  rw [hm4] at h
  exact h)
 have HOd5 : Hid (wd.ownsRow W0.heap.size 89 2 (.slice B5 q.slow.length d5) q.slow.length (pcs q.slow)) := Lib.hid (by
  rw [hq]
  have h := own_below (own_less howns (Nat.le_trans hz2 hz3)) hbd
  rw [hm5] at h
  exact h)
 have hq4 : m4 = q.travel.length := by rw [hq]; exact hm4
 have hq5 : m5 = q.slow.length := by rw [hq]; exact hm5
 have HQQ := Lib.hid hq
 subst hq4 hq5
 have hsm : x.net.arcs.length ≤ 1000000 := by obtain ⟨s0, s1, s2, s3, s4, s5⟩ := HSM.out; assumption
 clear e2 e3 hown hl h64 g0 g1 g2 g3 hg0 ht hs hownt howns ht2 hs2 hua hu4 hu5 hm4 hm5 hq hbd
 have hgc0 := HGC.out.1
 have hgc1 := HGC.out.2.1
 have hgc2 := HGC.out.2.2.1
 have hgc3 := HGC.out.2.2.2
 go_upto_region 8 with fail
 (refine wp_region_held_drew (S := (fun v => v.cell? ⟨g, 0, none⟩ = some (.int .i64 n0) ∧ v.cell? ⟨g, 1, none⟩ = some (.int .i64 n1) ∧ v.cell? ⟨g, 2, none⟩ = some (.int .i64 n2) ∧ v.cell? ⟨g, 3, none⟩ = some (.int .i64 n3))) (by kernel_rfl) ?_ (fun hHeld => ?_))
 ·exact HGC.out
 clear hgc0 hgc1 hgc2 hgc3
 rw [hwd] at hHeld ⊢
 clear hwd
 have hbc := HXd.out.box.cell (j := 1) rfl
 (refine lib.tk 0 rfl ?_; (try simp only [lib.hly]))
 (refine lib.tk 1 rfl ?_; (try simp only [lib.hly]))
 (refine lib.tk 3 rfl ?_; (try simp only [lib.hly]))
 (refine lib.tk 4 rfl ?_; (try simp only [lib.hly]))
 (refine lib.tk 5 rfl ?_; (try simp only [lib.hly]))
 (refine lib.tk 6 rfl ?_; (try simp only [lib.hly]))
 (refine lib.tk 7 rfl ?_; (try simp only [lib.hly]))
 (refine lib.tk 8 rfl ?_; (try simp only [lib.hly]))
 (refine lib.tk 9 rfl ?_; (try simp only [lib.hly]))
 (refine lib.tk 10 rfl ?_; (try simp only [lib.hly]))
 (refine lib.tk 11 rfl ?_; (try simp only [lib.hly]))
 (refine lib.tk 12 rfl ?_; (try simp only [lib.hly]))
 (refine lib.tk 13 rfl ?_; (try simp only [lib.hly]))
 (refine lib.tk 14 rfl ?_; (try simp only [lib.hly]))
 (refine lib.tk 15 rfl ?_; (try simp only [lib.hly]))
 (refine lib.tk 16 rfl ?_; (try simp only [lib.hly]))
 refine wpAnyH_take (i := 17) (v := .agg (ArcCells q B4 d4 B5 d5).toArray) rfl (by kernel_rfl) (by kernel_rfl) (by kernel_rfl) (fun _ _ _ h => h) (Or.inl ⟨by kernel_rfl, ?_⟩) (by assumption) ?_
 ·intro w hSw
  go_simp
  rw [HQQ.out]
  rfl
 (try simp only [lib.hly])
 refine wpAnyH_ready (rs := [2, 18]) (by kernel_rfl) (by simp) ?_
 refine AllReadyH.cons rfl (fun K hK => ?_) (AllReadyH.cons rfl (fun K hK => ?_) AllReadyH.nil)
 ·go_simp
  refine hK.out _ _ (HGd.out) (fun hHeld => ?_)
  clear hK K
  (try simp only [lib.hly])
  (refine lib.rk 18 rfl fun K hK => ?_)
  refine step_bsliceL arc_elem rfl 1 [(0, Operand.tmp 64)] rfl [(0, .agg (ArcCells q B4 d4 B5 d5).toArray)] (ArcCells q B4 d4 B5 d5) (ArcCells zAr none 0 none 0) rfl (by decide) (by decide) zs_arc (arc_fill q _ _ _ _) ?_
  obtain ⟨W8, hW8⟩ : ∃ W, wd.alloc (.cells (ArcCells q B4 d4 B5 d5).toArray 49) = W := ⟨_, rfl⟩
  have hb8 : Below wd.heap.size wd W8 := by rw [← hW8]; exact (Below.refl _ _).alloc (Nat.le_refl _) _
  have HA8 : Hid (∀ (j : Nat) (u : Value), (ArcCells q B4 d4 B5 d5)[j]? = some u → W8.cell? ((⟨wd.heap.size, 0, none⟩ : Addr).add j) = some u) := Lib.hid (by rw [← hW8]; exact (Blk.new wd _ _).cells)
  have HX8 := Lib.hid (HXd.out.below hb8)
  have HG8 := Lib.hid (HGK.out W8 hb8)
  have HO84 := Lib.hid (own_below HOd4.out hb8)
  have HO85 := Lib.hid (own_below HOd5.out hb8)
  rw [hW8]
  clear hW8 hb8
  refine hK.out _ _ (HG8.out) (fun hHeld => ?_)
  clear hK K
  (try simp only [lib.hly])
  obtain ⟨cs, hco, hce⟩ := HX8.out.rows.r1.ex
  have HCO := Lib.hid hco
  have HCE := Lib.hid hce
  clear hco hce
  (refine lib.rk 19 rfl fun K hK => ?_)
  refine step_app arc_elem _ _ rfl 0 P.a1 x.net.arcs.length P.c1 cs rfl HCO.out ⟨wd.heap.size, 0, none⟩ 1 (ArcCells q B4 d4 B5 d5) rfl rfl HA8.out (arc_one _ _ _ _ _) (by omega) (Nat.zero_le _) rfl ?_
  intro g9 c9 w9 hown9 hg9 hd9
  have hgi : W8.grownBy w9 (G 1) := by rw [HX8.out.rows.r1.own]; exact hg9
  have hne : some g ≠ G 1 := fun e => by have := HX8.out.far 1 g e.symm; omega
  have HB9 := Lib.hid (HX8.out.boxk 1 hgi)
  have hcc := HB9.out.cell (j := 1) rfl
  have hcf := HB9.out.frozen 1
  have hz8 := HX8.out.lt
  have hqx : oArc.at_ W8 (Avoid G (Zn Z w.heap.size)) (ArcCells q B4 d4 B5 d5) q := oArc_mk (rowOff_pts HO84.out HLN.out.1 HQO.out.2.1 (fun b hb _ => HX8.out.avoid (by omega))) (rowOff_pts HO85.out HLN.out.2 HQO.out.2.2 (fun b hb _ => HX8.out.avoid (by omega))) HQO.out.1
  have HFI := Lib.hid (HX8.out.fin (i := 1) (g := g9) hgi (HX8.out.rows.add1 (fun q hq => ⟨HX8.out.new q (by omega), by omega, by omega⟩) HCE.out hqx hown9 hg9 hd9) (by rw [HX8.out.rows.r1.own]; exact hd9) 1 (.slice (some ⟨g9, 0, none⟩) (x.net.arcs.length + 1) c9) (by simp [xCs, Lin.add]))
  have HG9 : Hid (w9.cell? ⟨g, 0, none⟩ = some (.int .i64 n0) ∧ w9.cell? ⟨g, 1, none⟩ = some (.int .i64 n1) ∧ w9.cell? ⟨g, 2, none⟩ = some (.int .i64 n2) ∧ w9.cell? ⟨g, 3, none⟩ = some (.int .i64 n3)) := Lib.hid (by
   have hne' : some g ≠ (Value.slice P.a1 x.net.arcs.length P.c1).ownBlock := by rw [← HX8.out.rows.r1.own]; exact hne
   exact ⟨hg9.cell (a := ⟨g, 0, none⟩) HG8.out.1 hne', hg9.cell (a := ⟨g, 1, none⟩) HG8.out.2.1 hne', hg9.cell (a := ⟨g, 2, none⟩) HG8.out.2.2.1 hne', hg9.cell (a := ⟨g, 3, none⟩) HG8.out.2.2.2 hne'⟩)
  clear hown9 hg9 hd9 hgi hne hqx
  refine hK.out _ _ (HG9.out) (fun hHeld => ?_)
  clear hK K
  (try simp only [lib.hly])
  (refine lib.tk 20 rfl ?_; (try simp only [lib.hly]))
  (refine lib.tk 21 rfl ?_; (try simp only [lib.hly]))
  (refine lib.rk 22 rfl fun K hK => ?_)
  go_simp
  obtain ⟨W9, hW9⟩ : ∃ W, w9.setCell ⟨w.heap.size, 1, none⟩ (.slice (some ⟨g9, 0, none⟩) (x.net.arcs.length + 1) c9) = W := ⟨_, rfl⟩
  have HG10 : Hid (W9.cell? ⟨g, 0, none⟩ = some (.int .i64 n0) ∧ W9.cell? ⟨g, 1, none⟩ = some (.int .i64 n1) ∧ W9.cell? ⟨g, 2, none⟩ = some (.int .i64 n2) ∧ W9.cell? ⟨g, 3, none⟩ = some (.int .i64 n3)) := Lib.hid (by
   have key : ∀ k : Nat, W9.cell? ⟨g, k, none⟩ = w9.cell? ⟨g, k, none⟩ := fun k => by rw [← hW9]; exact World.cell?_setCell_other w9 _ ⟨g, k, none⟩ _ (fun e => by injection e with e; omega)
   exact ⟨(key 0).trans HG9.out.1, (key 1).trans HG9.out.2.1, (key 2).trans HG9.out.2.2.1, (key 3).trans HG9.out.2.2.2⟩)
  rw [hW9] at HFI ⊢
  clear hW9 hcc hcf
  refine hK.out _ _ (HG10.out) (fun hHeld => ?_)
  clear hK K
  (try simp only [lib.hly])
  (refine wpAnyH_done (by kernel_rfl) ?_ _)
  clear hHeld
  obtain ⟨x', hx'⟩ : ∃ x', R = some x' := ⟨_, HE.out⟩
  have HFX := Lib.hid (show ∃ P' G', RdE G Z x' w.heap.size w W9 P' G' by have h := HE.out.symm.trans hx'; obtain rfl := Option.some.inj h; exact ⟨_, _, HFI.out⟩)
  have HR' := Lib.hid hx'
  clear hx'
  obtain ⟨P', G', hfx⟩ := HFX.out
  have HFY := Lib.hid hfx
  clear hfx
  go_wp2_with (first | ((with_reducible refine wpList_loadG sIns _ rfl ⟨w.heap.size, 0, none⟩ (xCs x' P') ?_ ?_ ?_ ?_ ?_); exact rfl; exact rfl; exact HFY.out.box.cells; exact rfl) | ((with_reducible refine wpList_storeL sIns rfl _ _ rfl (w.heap.size + 1) (xCs nilX nilP) (xCs x' P') ?_ ?_ ?_ ?_ ?_ (xCs_one _ _) ?_); exact rfl; exact rfl; exact HFY.out.res; exact rfl; exact rfl; intro wz k1 k2 k3 k4; have K := lib.h4 k1 k2 k3 k4; clear k1 k2 k3 k4))
  refine bodyPost_ret (v := .tuple #[.agg (xCs x' P').toArray, .bool true]) (big.res_cell_tmp sIns Tryz.results72 rfl rfl (Blk.cells K.out.1) rfl) rfl ?_
  rw [HR'.out]
  exact HFY.out.out rfl K.out.2.1 K.out.2.2.1 K.out.2.2.2
 ·skip
  refine step_bsliceL arc_elem rfl 1 [(0, Operand.tmp 64)] rfl [(0, .agg (ArcCells q B4 d4 B5 d5).toArray)] (ArcCells q B4 d4 B5 d5) (ArcCells zAr none 0 none 0) rfl (by decide) (by decide) zs_arc (arc_fill q _ _ _ _) ?_
  obtain ⟨W8, hW8⟩ : ∃ W, wd.alloc (.cells (ArcCells q B4 d4 B5 d5).toArray 49) = W := ⟨_, rfl⟩
  have hb8 : Below wd.heap.size wd W8 := by rw [← hW8]; exact (Below.refl _ _).alloc (Nat.le_refl _) _
  have HA8 : Hid (∀ (j : Nat) (u : Value), (ArcCells q B4 d4 B5 d5)[j]? = some u → W8.cell? ((⟨wd.heap.size, 0, none⟩ : Addr).add j) = some u) := Lib.hid (by rw [← hW8]; exact (Blk.new wd _ _).cells)
  have HX8 := Lib.hid (HXd.out.below hb8)
  have HG8 := Lib.hid (HGK.out W8 hb8)
  have HO84 := Lib.hid (own_below HOd4.out hb8)
  have HO85 := Lib.hid (own_below HOd5.out hb8)
  rw [hW8]
  clear hW8 hb8
  refine hK.out _ _ (HG8.out) (fun hHeld => ?_)
  clear hK K
  (try simp only [lib.hly])
  have hb8c := HX8.out.box.cell (j := 1) rfl
  (refine lib.rk 2 rfl fun K hK => ?_)
  go_simp
  refine hK.out _ _ (HG8.out) (fun hHeld => ?_)
  clear hK K
  (try simp only [lib.hly])
  clear hb8c
  obtain ⟨cs, hco, hce⟩ := HX8.out.rows.r1.ex
  have HCO := Lib.hid hco
  have HCE := Lib.hid hce
  clear hco hce
  (refine lib.rk 19 rfl fun K hK => ?_)
  refine step_app arc_elem _ _ rfl 0 P.a1 x.net.arcs.length P.c1 cs rfl HCO.out ⟨wd.heap.size, 0, none⟩ 1 (ArcCells q B4 d4 B5 d5) rfl rfl HA8.out (arc_one _ _ _ _ _) (by omega) (Nat.zero_le _) rfl ?_
  intro g9 c9 w9 hown9 hg9 hd9
  have hgi : W8.grownBy w9 (G 1) := by rw [HX8.out.rows.r1.own]; exact hg9
  have hne : some g ≠ G 1 := fun e => by have := HX8.out.far 1 g e.symm; omega
  have HB9 := Lib.hid (HX8.out.boxk 1 hgi)
  have hcc := HB9.out.cell (j := 1) rfl
  have hcf := HB9.out.frozen 1
  have hz8 := HX8.out.lt
  have hqx : oArc.at_ W8 (Avoid G (Zn Z w.heap.size)) (ArcCells q B4 d4 B5 d5) q := oArc_mk (rowOff_pts HO84.out HLN.out.1 HQO.out.2.1 (fun b hb _ => HX8.out.avoid (by omega))) (rowOff_pts HO85.out HLN.out.2 HQO.out.2.2 (fun b hb _ => HX8.out.avoid (by omega))) HQO.out.1
  have HFI := Lib.hid (HX8.out.fin (i := 1) (g := g9) hgi (HX8.out.rows.add1 (fun q hq => ⟨HX8.out.new q (by omega), by omega, by omega⟩) HCE.out hqx hown9 hg9 hd9) (by rw [HX8.out.rows.r1.own]; exact hd9) 1 (.slice (some ⟨g9, 0, none⟩) (x.net.arcs.length + 1) c9) (by simp [xCs, Lin.add]))
  have HG9 : Hid (w9.cell? ⟨g, 0, none⟩ = some (.int .i64 n0) ∧ w9.cell? ⟨g, 1, none⟩ = some (.int .i64 n1) ∧ w9.cell? ⟨g, 2, none⟩ = some (.int .i64 n2) ∧ w9.cell? ⟨g, 3, none⟩ = some (.int .i64 n3)) := Lib.hid (by
   have hne' : some g ≠ (Value.slice P.a1 x.net.arcs.length P.c1).ownBlock := by rw [← HX8.out.rows.r1.own]; exact hne
   exact ⟨hg9.cell (a := ⟨g, 0, none⟩) HG8.out.1 hne', hg9.cell (a := ⟨g, 1, none⟩) HG8.out.2.1 hne', hg9.cell (a := ⟨g, 2, none⟩) HG8.out.2.2.1 hne', hg9.cell (a := ⟨g, 3, none⟩) HG8.out.2.2.2 hne'⟩)
  clear hown9 hg9 hd9 hgi hne hqx
  refine hK.out _ _ (HG9.out) (fun hHeld => ?_)
  clear hK K
  (try simp only [lib.hly])
  (refine lib.tk 20 rfl ?_; (try simp only [lib.hly]))
  (refine lib.tk 21 rfl ?_; (try simp only [lib.hly]))
  (refine lib.rk 22 rfl fun K hK => ?_)
  go_simp
  obtain ⟨W9, hW9⟩ : ∃ W, w9.setCell ⟨w.heap.size, 1, none⟩ (.slice (some ⟨g9, 0, none⟩) (x.net.arcs.length + 1) c9) = W := ⟨_, rfl⟩
  have HG10 : Hid (W9.cell? ⟨g, 0, none⟩ = some (.int .i64 n0) ∧ W9.cell? ⟨g, 1, none⟩ = some (.int .i64 n1) ∧ W9.cell? ⟨g, 2, none⟩ = some (.int .i64 n2) ∧ W9.cell? ⟨g, 3, none⟩ = some (.int .i64 n3)) := Lib.hid (by
   have key : ∀ k : Nat, W9.cell? ⟨g, k, none⟩ = w9.cell? ⟨g, k, none⟩ := fun k => by rw [← hW9]; exact World.cell?_setCell_other w9 _ ⟨g, k, none⟩ _ (fun e => by injection e with e; omega)
   exact ⟨(key 0).trans HG9.out.1, (key 1).trans HG9.out.2.1, (key 2).trans HG9.out.2.2.1, (key 3).trans HG9.out.2.2.2⟩)
  rw [hW9] at HFI ⊢
  clear hW9 hcc hcf
  refine hK.out _ _ (HG10.out) (fun hHeld => ?_)
  clear hK K
  (try simp only [lib.hly])
  (refine wpAnyH_done (by kernel_rfl) ?_ _)
  clear hHeld
  obtain ⟨x', hx'⟩ : ∃ x', R = some x' := ⟨_, HE.out⟩
  have HFX := Lib.hid (show ∃ P' G', RdE G Z x' w.heap.size w W9 P' G' by have h := HE.out.symm.trans hx'; obtain rfl := Option.some.inj h; exact ⟨_, _, HFI.out⟩)
  have HR' := Lib.hid hx'
  clear hx'
  obtain ⟨P', G', hfx⟩ := HFX.out
  have HFY := Lib.hid hfx
  clear hfx
  go_wp2_with (first | ((with_reducible refine wpList_loadG sIns _ rfl ⟨w.heap.size, 0, none⟩ (xCs x' P') ?_ ?_ ?_ ?_ ?_); exact rfl; exact rfl; exact HFY.out.box.cells; exact rfl) | ((with_reducible refine wpList_storeL sIns rfl _ _ rfl (w.heap.size + 1) (xCs nilX nilP) (xCs x' P') ?_ ?_ ?_ ?_ ?_ (xCs_one _ _) ?_); exact rfl; exact rfl; exact HFY.out.res; exact rfl; exact rfl; intro wz k1 k2 k3 k4; have K := lib.h4 k1 k2 k3 k4; clear k1 k2 k3 k4))
  refine bodyPost_ret (v := .tuple #[.agg (xCs x' P').toArray, .bool true]) (big.res_cell_tmp sIns Tryz.results72 rfl rfl (Blk.cells K.out.1) rfl) rfl ?_
  rw [HR'.out]
  exact HFY.out.out rfl K.out.2.1 K.out.2.2.1 K.out.2.2.2
end Go.Proofs.YthefooacfcagbaaGreatDoor.spc

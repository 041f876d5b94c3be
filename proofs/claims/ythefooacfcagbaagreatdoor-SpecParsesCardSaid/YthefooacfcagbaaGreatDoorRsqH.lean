import Derived.Test.YthefooacfcagbaaGreatDoorRsqY
import Derived.Test.YthefooacfcagbaaGreatDoorParX
/- The reference's lines of types, read. -/
namespace Go.Proofs.YthefooacfcagbaaGreatDoor.spc
open Go.RowKit
open lib rd app els typ big gen off
open ins (InP InAt InV)
open txt (in64 By strV strV_of elem_str push_one Strs numL)
set_option linter.unusedVariables false
set_option linter.unusedSimpArgs false
def typX (x : Ins) : List By → Option Ins
 | [_, y1, y2, y3, y4, y5, y6, y7, y8, y9, y10, y11, y12, y13, y14] => (match readF [y2, y3, y4], listR y5, readF [y6, y7, y8, y9, y10, y11, y12, y13, y14] with
  | some [a0, a1, a2], some c, some [b0, b1, b2, b3, b4, b5, b6, b7, b8] => some (Lin.add x (.type ⟨⟨y1.toArray⟩, a0, a1, a2, c, b0, b1, b2, b3, b4, b5, b6, b7, b8⟩))
  | _, _, _ => none)
 | _ => none
theorem typX_len {x : Ins} {W : List By} (h : W.length ≠ 15) : typX x W = none := by
 unfold typX
 split
 ·exact absurd rfl h
 ·rfl
theorem typX_some {x : Ins} {y0 y1 y2 y3 y4 y5 y6 y7 y8 y9 y10 y11 y12 y13 y14 : By} {a0 a1 a2 b0 b1 b2 b3 b4 b5 b6 b7 b8 : Int} {c : List Int} (h1 : readF [y2, y3, y4] = some [a0, a1, a2]) (h2 : listR y5 = some c) (h3 : readF [y6, y7, y8, y9, y10, y11, y12, y13, y14] = some [b0, b1, b2, b3, b4, b5, b6, b7, b8]) :
  typX x [y0, y1, y2, y3, y4, y5, y6, y7, y8, y9, y10, y11, y12, y13, y14] = some (Lin.add x (.type ⟨⟨y1.toArray⟩, a0, a1, a2, c, b0, b1, b2, b3, b4, b5, b6, b7, b8⟩)) := by
 unfold typX
 dsimp only
 rw [h1, h2, h3]
theorem typX_no1 {x : Ins} {y0 y1 y2 y3 y4 y5 y6 y7 y8 y9 y10 y11 y12 y13 y14 : By} (h1 : readF [y2, y3, y4] = none) : typX x [y0, y1, y2, y3, y4, y5, y6, y7, y8, y9, y10, y11, y12, y13, y14] = none := by
 unfold typX
 dsimp only
 rw [h1]
theorem typX_no2 {x : Ins} {y0 y1 y2 y3 y4 y5 y6 y7 y8 y9 y10 y11 y12 y13 y14 : By} (h1 : listR y5 = none) : typX x [y0, y1, y2, y3, y4, y5, y6, y7, y8, y9, y10, y11, y12, y13, y14] = none := by
 unfold typX
 dsimp only
 rw [h1]
 split <;> simp_all
theorem typX_no3 {x : Ins} {y0 y1 y2 y3 y4 y5 y6 y7 y8 y9 y10 y11 y12 y13 y14 : By} (h1 : readF [y6, y7, y8, y9, y10, y11, y12, y13, y14] = none) : typX x [y0, y1, y2, y3, y4, y5, y6, y7, y8, y9, y10, y11, y12, y13, y14] = none := by
 unfold typX
 dsimp only
 rw [h1]
 split <;> simp_all
theorem fifteen {α : Type} {W : List α} (h : W.length = 15) : ∃ a0 a1 a2 a3 a4 a5 a6 a7 a8 a9 a10 a11 a12 a13 a14, W = [a0, a1, a2, a3, a4, a5, a6, a7, a8, a9, a10, a11, a12, a13, a14] := by
 match W, h with
 | [a0, a1, a2, a3, a4, a5, a6, a7, a8, a9, a10, a11, a12, a13, a14], _ => exact ⟨_, _, _, _, _, _, _, _, _, _, _, _, _, _, _, rfl⟩
theorem three {α : Type} {W : List α} (h : W.length = 3) : ∃ a0 a1 a2, W = [a0, a1, a2] := by
 match W, h with
 | [a0, a1, a2], _ => exact ⟨_, _, _, rfl⟩
theorem nine {α : Type} {W : List α} (h : W.length = 9) : ∃ a0 a1 a2 a3 a4 a5 a6 a7 a8, W = [a0, a1, a2, a3, a4, a5, a6, a7, a8] := by
 match W, h with
 | [a0, a1, a2, a3, a4, a5, a6, a7, a8], _ => exact ⟨_, _, _, _, _, _, _, _, _, rfl⟩
def NumC (v : World) (g : Nat) (l : List Int) : Prop := g < v.heap.size ∧ ∀ j (u : Int), l[j]? = some u → v.cell? ⟨g, j, none⟩ = some (.int .i64 u)
theorem NumC.below {v v' : World} {g : Nat} {l : List Int} (h : NumC v g l) (hb : Below v.heap.size v v') : NumC v' g l := ⟨Nat.lt_of_lt_of_le h.1 hb.size, fun j u hu => (hb.cell (p := ⟨g, j, none⟩) h.1).trans (h.2 j u hu)⟩
theorem NumC.grown {v v' : World} {g : Nat} {l : List Int} {row : Option Nat} (h : NumC v g l) (hg : v.grownBy v' row) (hne : some g ≠ row) : NumC v' g l := ⟨Nat.lt_of_lt_of_le h.1 hg.size, fun j u hu => hg.cell (a := ⟨g, j, none⟩) (h.2 j u hu) hne⟩
theorem NumC.set {v : World} {g H k : Nat} {l : List Int} {u0 : Value} (h : NumC v g l) (hne : g ≠ H) : NumC (v.setCell ⟨H, k, none⟩ u0) g l := ⟨by simp only [World.setCell, Array.size_modify]; exact h.1, fun j u hu => (World.cell?_setCell_other v _ ⟨g, j, none⟩ _ (fun e => by injection e with e; omega)).trans (h.2 j u hu)⟩
theorem NumC.own {w : World} {base : Nat} {A : Option Addr} {l : List Int} {d : Nat} (h : w.ownsRow base 3 1 (.slice A l.length d) l.length (l.map (.int .i64))) (h0 : 0 < l.length) : ∃ g, A = some ⟨g, 0, none⟩ ∧ base ≤ g ∧ NumC w g l := by
 obtain ⟨g, c2, hv, hg0, hglt⟩ := h.form h0
 injection hv with e1 e2 e3
 subst e1
 refine ⟨g, rfl, hg0, hglt, fun j u hu => ?_⟩
 have hj := (List.getElem?_eq_some_iff.1 hu).1
 rw [h.cellAt j (by omega), List.getElem?_map, hu]
 rfl
def KCel (nb no g h : Nat) (y : By) (la lb : List Int) (v : World) : Prop := (nb < v.heap.size ∧ v.cell? ⟨nb, no, none⟩ = some (.string ⟨y.toArray⟩)) ∧ NumC v g la ∧ NumC v h lb
theorem KCel.below {nb no g h : Nat} {y : By} {la lb : List Int} {v v' : World} (k : KCel nb no g h y la lb v) (hb : Below v.heap.size v v') : KCel nb no g h y la lb v' := ⟨⟨Nat.lt_of_lt_of_le k.1.1 hb.size, (hb.cell (p := ⟨nb, no, none⟩) k.1.1).trans k.1.2⟩, k.2.1.below hb, k.2.2.below hb⟩
theorem KCel.grown {nb no g h : Nat} {y : By} {la lb : List Int} {v v' : World} {row : Option Nat} (k : KCel nb no g h y la lb v) (hg : v.grownBy v' row) (h1 : some nb ≠ row) (h2 : some g ≠ row) (h3 : some h ≠ row) : KCel nb no g h y la lb v' := ⟨⟨Nat.lt_of_lt_of_le k.1.1 hg.size, hg.cell (a := ⟨nb, no, none⟩) k.1.2 h1⟩, k.2.1.grown hg h2, k.2.2.grown hg h3⟩
theorem KCel.set {nb no g h H k0 : Nat} {y : By} {la lb : List Int} {v : World} {u0 : Value} (k : KCel nb no g h y la lb v) (h1 : nb ≠ H) (h2 : g ≠ H) (h3 : h ≠ H) : KCel nb no g h y la lb (v.setCell ⟨H, k0, none⟩ u0) := ⟨⟨by simp only [World.setCell, Array.size_modify]; exact k.1.1, (World.cell?_setCell_other v _ ⟨nb, no, none⟩ _ (fun e => by injection e with e; omega)).trans k.1.2⟩, k.2.1.set h2, k.2.2.set h3⟩
set_option maxRecDepth 20000 in
set_option maxHeartbeats 8000000 in
theorem rkindX_any (G : Nat → Option Nat) (Z : Nat → Prop) (x : Ins) (P : InP) (W : List By) (A : Option Addr) (n d : Nat) (w : World) (hX : XG G w Z x P) (hZ : ∀ q, w.heap.size ≤ q → Z q) (hsm : Sm x) (hW : WAt w A n d W) (hfar : ∀ ad : Addr, A = some ad → ad.block < w.heap.size ∧ ∀ i, some ad.block ≠ G i) (hok : ∀ y ∈ W, txt.wordB y = true) :
  Calls Tryz.prog 73 #[InV x P, .slice A n d] w (XvOut G Z (typX x W) w) := by
 obtain ⟨R, hR⟩ : ∃ R, typX x W = R := ⟨_, rfl⟩
 have HR := Lib.hid hR
 rw [hR]
 clear hR
 have HX := Lib.hid (RdS.start hX hZ)
 have HWA := Lib.hid hW
 have HSM := Lib.hid hsm
 obtain ⟨W0, hW0⟩ : ∃ W, (w.alloc (.cells (xCs x P).toArray 30)).alloc (.cells (xCs nilX nilP).toArray 30) = W := ⟨_, rfl⟩
 have HW0 := Lib.hid (show (w.alloc (.cells #[.slice P.a0 x.net.places.length P.c0, .slice P.a1 x.net.arcs.length P.c1, .slice P.a2 x.types.length P.c2, .slice P.a3 x.orders.length P.c3, .slice P.a4 x.apart.length P.c4, .slice P.a5 x.before.length P.c5] 30)).alloc (.cells #[.slice none 0 0, .slice none 0 0, .slice none 0 0, .slice none 0 0, .slice none 0 0, .slice none 0 0] 30) = W0 from hW0)
 rw [hW0] at HX
 have HWA0 : Hid (WAt W0 A n d _) := Lib.hid (hW.below (by rw [← hW0]; exact ((Below.refl _ _).alloc (Nat.le_refl _) _).alloc (by rw [World.size_alloc]; omega) _))
 have hWc := hW.cap
 have hwz := HX.out.lt
 clear hX hZ hW hsm hW0
 go_enter Tryz.func73, Tryz.ntmps73
 go_upto_region 1 with fail
 rw [HW0.out]
 clear HW0
 by_cases h3 : n = 15
 rotate_left
 ·have h3i : ¬ (n : Int) = 15 := by omega
  have h3b : ((n : Int) != 15) = true := by simpa using h3i
  have HE : Hid (R = none) := Lib.hid (by rw [← HR.out]; exact typX_len (by rw [← HWA0.out.len]; exact h3))
  go_wp2_with (first | ((with_reducible refine wpList_loadG sIns _ rfl ⟨w.heap.size, 0, none⟩ (xCs x P) ?_ ?_ ?_ ?_ ?_); exact rfl; exact rfl; exact HX.out.box.cells; exact rfl) | ((with_reducible refine wpList_storeL sIns rfl _ _ rfl (w.heap.size + 1) (xCs nilX nilP) (xCs x P) ?_ ?_ ?_ ?_ ?_ (xCs_one _ _) ?_); exact rfl; exact rfl; exact HX.out.res; exact rfl; exact rfl; intro wz k1 k2 k3 k4; have K := lib.h4 k1 k2 k3 k4; clear k1 k2 k3 k4))
  refine bodyPost_ret (v := .tuple #[.agg (xCs x P).toArray, .bool false]) (big.res_cell_tmp sIns Tryz.results73 rfl rfl (Blk.cells K.out.1) rfl) rfl ?_
  rw [HE.out]
  exact HX.out.none_ K.out.2.2.2
 subst h3
 obtain ⟨y0, y1, y2, y3, y4, y5, y6, y7, y8, y9, y10, y11, y12, y13, y14, rfl⟩ := fifteen HWA0.out.len.symm
 obtain ⟨ad, hA, hadb, hcs⟩ := HWA0.out.rd.2 (by omega)
 subst hA
 obtain ⟨hadw, hne0⟩ := hfar ad rfl
 have HNE := Lib.hid hne0
 have HW1 : Hid (txt.wordB y1 = true) := Lib.hid (hok y1 (by simp))
 have hd1 : ¬ d = 2 := by omega
 have hd6 : ¬ d = 6 := by omega
 have hd5 : (5 : Int) ≤ (d : Int) := by omega
 have hd15 : (15 : Int) ≤ (d : Int) := by omega
 have HIN := Lib.hid (fun v (hv : Below W0.heap.size W0 v) => rints_any [y2, y3, y4] (some (ad.add 2)) 3 (d - 2) rfl v (reads_sub (ys := [y2, y3, y4].map strV) 2 3 ((HWA0.out.below hv).rd) (by omega) rfl (fun j u hu => by rcases j with _ | _ | _ | j <;> first | exact hu | (simp at hu))) (fun y hy => HWA0.out.sz y (by simp at hy ⊢; rcases hy with rfl | rfl | rfl <;> simp)) (by decide))
 have HIN2 := Lib.hid (fun v (hv : Below W0.heap.size W0 v) => rints_any [y6, y7, y8, y9, y10, y11, y12, y13, y14] (some (ad.add 6)) 9 (d - 6) rfl v (reads_sub (ys := [y6, y7, y8, y9, y10, y11, y12, y13, y14].map strV) 6 9 ((HWA0.out.below hv).rd) (by omega) rfl (fun j u hu => by rcases j with _ | _ | _ | _ | _ | _ | _ | _ | _ | j <;> first | exact hu | (simp at hu))) (fun y hy => HWA0.out.sz y (by simp at hy ⊢; rcases hy with rfl | rfl | rfl | rfl | rfl | rfl | rfl | rfl | rfl <;> simp)) (by decide))
 have HP5 := Lib.hid (fun v => runlist_any y5 (HWA0.out.sz y5 (by simp)) v)
 have HCL : Hid (∀ v, Below W0.heap.size W0 v → v.cell? ⟨ad.block, ad.off + 5, none⟩ = some (.string ⟨y5.toArray⟩) ∧ v.cell? ⟨ad.block, ad.off + 1, none⟩ = some (.string ⟨y1.toArray⟩)) := Lib.hid (fun v hv => ⟨(hv.cell (p := ⟨ad.block, ad.off + 5, none⟩) hadb).trans (hcs 5 _ rfl), (hv.cell (p := ⟨ad.block, ad.off + 1, none⟩) hadb).trans (hcs 1 _ rfl)⟩)
 clear hcs HWA hfar hok hne0
 go_upto_region 4 with (go_at_call 105; refine (HIN.out W0 (Below.refl _ _)).mono ?_; intro e w2 ho; obtain ⟨Ba, ma, da, ba, rfl, hb2, hua⟩ := ho.uni; clear ho)
 have HB2 := Lib.hid hb2
 have hz2 := hb2.size
 obtain ⟨hc5, -⟩ := HCL.out w2 hb2
 clear hb2 HIN
 go_upto_region 5 with (go_at_call 107; refine (HP5.out w2).mono ?_; intro e w3 ho; obtain ⟨B5, m5, d5, b5, rfl, hb3, hu5⟩ := ho.uni; clear ho)
 have HB3 := Lib.hid (HB2.out.trans (hb3.mono HB2.out.size))
 have HB23 := Lib.hid hb3
 have hz3 := hb3.size
 clear hb3 HP5 hc5
 go_upto_region 6 with (go_at_call 105; refine (HIN2.out w3 HB3.out).mono ?_; intro e w4 ho; obtain ⟨Bb, mb, db, bb, rfl, hb4, hub⟩ := ho.uni; clear ho)
 have HB34 := Lib.hid hb4
 have HB4 := Lib.hid (HB3.out.trans (hb4.mono HB3.out.size))
 have hz4 := hb4.size
 have HX4 := Lib.hid (HX.out.below HB4.out)
 clear hb4 HIN2
 cases ba
 case false =>
  have HE : Hid (R = none) := Lib.hid (by rw [← HR.out]; exact typX_no1 (hua.out.2 rfl))
  go_wp2_with (first | ((with_reducible refine wpList_loadG sIns _ rfl ⟨w.heap.size, 0, none⟩ (xCs x P) ?_ ?_ ?_ ?_ ?_); exact rfl; exact rfl; exact HX4.out.box.cells; exact rfl) | ((with_reducible refine wpList_storeL sIns rfl _ _ rfl (w.heap.size + 1) (xCs nilX nilP) (xCs x P) ?_ ?_ ?_ ?_ ?_ (xCs_one _ _) ?_); exact rfl; exact rfl; exact HX4.out.res; exact rfl; exact rfl; intro wz k1 k2 k3 k4; have K := lib.h4 k1 k2 k3 k4; clear k1 k2 k3 k4))
  refine bodyPost_ret (v := .tuple #[.agg (xCs x P).toArray, .bool false]) (big.res_cell_tmp sIns Tryz.results73 rfl rfl (Blk.cells K.out.1) rfl) rfl ?_
  rw [HE.out]
  exact HX4.out.none_ K.out.2.2.2
 cases b5
 case false =>
  have HE : Hid (R = none) := Lib.hid (by rw [← HR.out]; exact typX_no2 (hu5.out.2 rfl))
  go_wp2_with (first | ((with_reducible refine wpList_loadG sIns _ rfl ⟨w.heap.size, 0, none⟩ (xCs x P) ?_ ?_ ?_ ?_ ?_); exact rfl; exact rfl; exact HX4.out.box.cells; exact rfl) | ((with_reducible refine wpList_storeL sIns rfl _ _ rfl (w.heap.size + 1) (xCs nilX nilP) (xCs x P) ?_ ?_ ?_ ?_ ?_ (xCs_one _ _) ?_); exact rfl; exact rfl; exact HX4.out.res; exact rfl; exact rfl; intro wz k1 k2 k3 k4; have K := lib.h4 k1 k2 k3 k4; clear k1 k2 k3 k4))
  refine bodyPost_ret (v := .tuple #[.agg (xCs x P).toArray, .bool false]) (big.res_cell_tmp sIns Tryz.results73 rfl rfl (Blk.cells K.out.1) rfl) rfl ?_
  rw [HE.out]
  exact HX4.out.none_ K.out.2.2.2
 cases bb
 case false =>
  have HE : Hid (R = none) := Lib.hid (by rw [← HR.out]; exact typX_no3 (hub.out.2 rfl))
  go_wp2_with (first | ((with_reducible refine wpList_loadG sIns _ rfl ⟨w.heap.size, 0, none⟩ (xCs x P) ?_ ?_ ?_ ?_ ?_); exact rfl; exact rfl; exact HX4.out.box.cells; exact rfl) | ((with_reducible refine wpList_storeL sIns rfl _ _ rfl (w.heap.size + 1) (xCs nilX nilP) (xCs x P) ?_ ?_ ?_ ?_ ?_ (xCs_one _ _) ?_); exact rfl; exact rfl; exact HX4.out.res; exact rfl; exact rfl; intro wz k1 k2 k3 k4; have K := lib.h4 k1 k2 k3 k4; clear k1 k2 k3 k4))
  refine bodyPost_ret (v := .tuple #[.agg (xCs x P).toArray, .bool false]) (big.res_cell_tmp sIns Tryz.results73 rfl rfl (Blk.cells K.out.1) rfl) rfl ?_
  rw [HE.out]
  exact HX4.out.none_ K.out.2.2.2
 obtain ⟨l, hl, rfl, hown⟩ := hua.out.1 rfl
 obtain ⟨c, hc, hm5, hownc⟩ := hu5.out.1 rfl
 obtain ⟨k, hk, rfl, hownk⟩ := hub.out.1 rfl
 obtain ⟨a0, a1, a2, rfl⟩ := three (readF_len hl).1
 obtain ⟨b0, b1, b2, b3, b4, b5, b6, b7, b8, rfl⟩ := nine (readF_len hk).1
 obtain ⟨g, rfl, hg0, hgN⟩ := NumC.own hown (by simp)
 obtain ⟨h, rfl, hh0, hhN⟩ := NumC.own hownk (by simp)
 have hz0 := HX.out.lt
 have hgH : w.heap.size + 2 ≤ g := by omega
 have hhH : w.heap.size + 2 ≤ h := by omega
 have h64 := (readF_len hl).2
 have k64 := (readF_len hk).2
 have hc2 := listF_listR hc
 obtain ⟨q, hq⟩ : ∃ q : Ty, q = ⟨⟨y1.toArray⟩, a0, a1, a2, c, b0, b1, b2, b3, b4, b5, b6, b7, b8⟩ := ⟨_, rfl⟩
 have HQO : Hid (tyOk q) := Lib.hid (by
  rw [hq]
  refine ⟨by simpa using HW1.out, ⟨?_, h64 _ (by simp), h64 _ (by simp), h64 _ (by simp), k64 _ (by simp), k64 _ (by simp), k64 _ (by simp), k64 _ (by simp), k64 _ (by simp), k64 _ (by simp), k64 _ (by simp), k64 _ (by simp), k64 _ (by simp)⟩, hc2.2⟩
  have := HWA0.out.sz y1 (by simp)
  show y1.toArray.size ≤ _
  rw [List.size_toArray]
  omega)
 have HE : Hid (R = some (Lin.add x (.type q))) := Lib.hid (by rw [← HR.out, hq]; exact typX_some hl hc hk)
 have HLN : Hid (q.cap.length ≤ 1000000) := Lib.hid (by
  rw [hq]
  have k1 := HWA0.out.sz y5 (by simp)
  have k3 := listF_len c
  rw [← hc2.1] at k3
  exact Nat.le_trans k3 k1)
 have HB24 : Hid (Below w2.heap.size w2 w4) := Lib.hid (HB23.out.trans (HB34.out.mono HB23.out.size))
 obtain ⟨wd, hwd⟩ : ∃ wd, w4.drew = wd := ⟨_, rfl⟩
 have hbd : Below w4.heap.size w4 wd := by rw [← hwd]; exact (Below.refl _ _).drew
 have HXd := Lib.hid (HX4.out.below hbd)
 have HG4 : Hid (KCel ad.block (ad.off + 1) g h y1 [a0, a1, a2] [b0, b1, b2, b3, b4, b5, b6, b7, b8] w4) := Lib.hid ⟨⟨by omega, (HCL.out w4 HB4.out).2⟩, hgN.below HB24.out, hhN⟩
 have HGd := Lib.hid (HG4.out.below hbd)
 have HOd5 : Hid (wd.ownsRow W0.heap.size 3 1 (.slice B5 q.cap.length d5) q.cap.length (q.cap.map (.int .i64))) := Lib.hid (by
  rw [hq]
  have h := own_below (own_below (own_less hownc hz2) HB34.out) hbd
  rw [hm5] at h
  exact h)
 have hq5 : m5 = q.cap.length := by rw [hq]; exact hm5
 have HQQ := Lib.hid hq
 subst hq5
 have hsm : x.types.length ≤ 1000000 := by obtain ⟨s0, s1, s2, s3, s4, s5⟩ := HSM.out; assumption
 have hadw' : ad.block ≠ w.heap.size := by omega
 clear hown hl h64 k64 hg0 hh0 hgN hhN hc hk hownc hownk hc2 hua hu5 hub hm5 hq hbd
 go_upto_region 8 with fail
 (refine wp_region_held_drew (S := (fun v => KCel ad.block (ad.off + 1) g h y1 [a0, a1, a2] [b0, b1, b2, b3, b4, b5, b6, b7, b8] v)) (by kernel_rfl) ?_ (fun hHeld => ?_))
 ·exact HG4.out
 rw [hwd] at hHeld ⊢
 clear hwd
 have hbc := HXd.out.box.cell (j := 2) rfl
 (refine lib.tk 0 rfl ?_; (try simp only [lib.hly]))
 (refine lib.tk 2 rfl ?_; (try simp only [lib.hly]))
 (refine lib.tk 3 rfl ?_; (try simp only [lib.hly]))
 (refine lib.tk 4 rfl ?_ (fun _ hSw => exec_ld_str rfl rfl hSw.1.2); (try simp only [lib.hly]))
 (refine lib.tk 5 rfl ?_; (try simp only [lib.hly]))
 (refine lib.tk 6 rfl ?_; (try simp only [lib.hly]))
 (refine lib.tk 7 rfl ?_ (fun _ hSw => exec_ld_int rfl rfl (hSw.2.1.2 0 _ rfl)); (try simp only [lib.hly]))
 (refine lib.tk 8 rfl ?_; (try simp only [lib.hly]))
 (refine lib.tk 9 rfl ?_; (try simp only [lib.hly]))
 (refine lib.tk 10 rfl ?_ (fun _ hSw => exec_ld_int rfl rfl (hSw.2.1.2 1 _ rfl)); (try simp only [lib.hly]))
 (refine lib.tk 11 rfl ?_; (try simp only [lib.hly]))
 (refine lib.tk 12 rfl ?_; (try simp only [lib.hly]))
 (refine lib.tk 13 rfl ?_ (fun _ hSw => exec_ld_int rfl rfl (hSw.2.1.2 2 _ rfl)); (try simp only [lib.hly]))
 (refine lib.tk 14 rfl ?_; (try simp only [lib.hly]))
 (refine lib.tk 15 rfl ?_; (try simp only [lib.hly]))
 (refine lib.tk 16 rfl ?_; (try simp only [lib.hly]))
 (refine lib.tk 17 rfl ?_ (fun _ hSw => exec_ld_int rfl rfl (hSw.2.2.2 0 _ rfl)); (try simp only [lib.hly]))
 (refine lib.tk 18 rfl ?_; (try simp only [lib.hly]))
 (refine lib.tk 19 rfl ?_; (try simp only [lib.hly]))
 (refine lib.tk 20 rfl ?_ (fun _ hSw => exec_ld_int rfl rfl (hSw.2.2.2 1 _ rfl)); (try simp only [lib.hly]))
 (refine lib.tk 21 rfl ?_; (try simp only [lib.hly]))
 (refine lib.tk 22 rfl ?_; (try simp only [lib.hly]))
 (refine lib.tk 23 rfl ?_ (fun _ hSw => exec_ld_int rfl rfl (hSw.2.2.2 2 _ rfl)); (try simp only [lib.hly]))
 (refine lib.tk 24 rfl ?_; (try simp only [lib.hly]))
 (refine lib.tk 25 rfl ?_; (try simp only [lib.hly]))
 (refine lib.tk 26 rfl ?_ (fun _ hSw => exec_ld_int rfl rfl (hSw.2.2.2 3 _ rfl)); (try simp only [lib.hly]))
 (refine lib.tk 27 rfl ?_; (try simp only [lib.hly]))
 (refine lib.tk 28 rfl ?_; (try simp only [lib.hly]))
 (refine lib.tk 29 rfl ?_ (fun _ hSw => exec_ld_int rfl rfl (hSw.2.2.2 4 _ rfl)); (try simp only [lib.hly]))
 (refine lib.tk 30 rfl ?_; (try simp only [lib.hly]))
 (refine lib.tk 31 rfl ?_; (try simp only [lib.hly]))
 (refine lib.tk 32 rfl ?_ (fun _ hSw => exec_ld_int rfl rfl (hSw.2.2.2 5 _ rfl)); (try simp only [lib.hly]))
 (refine lib.tk 33 rfl ?_; (try simp only [lib.hly]))
 (refine lib.tk 34 rfl ?_; (try simp only [lib.hly]))
 (refine lib.tk 35 rfl ?_ (fun _ hSw => exec_ld_int rfl rfl (hSw.2.2.2 6 _ rfl)); (try simp only [lib.hly]))
 (refine lib.tk 36 rfl ?_; (try simp only [lib.hly]))
 (refine lib.tk 37 rfl ?_; (try simp only [lib.hly]))
 (refine lib.tk 38 rfl ?_ (fun _ hSw => exec_ld_int rfl rfl (hSw.2.2.2 7 _ rfl)); (try simp only [lib.hly]))
 (refine lib.tk 39 rfl ?_; (try simp only [lib.hly]))
 (refine lib.tk 40 rfl ?_; (try simp only [lib.hly]))
 (refine lib.tk 41 rfl ?_ (fun _ hSw => exec_ld_int rfl rfl (hSw.2.2.2 8 _ rfl)); (try simp only [lib.hly]))
 refine wpAnyH_take (i := 42) (v := .agg (TyCells q B5 d5).toArray) rfl (by kernel_rfl) (by kernel_rfl) (by kernel_rfl) (fun _ _ _ h => h) (Or.inl ⟨by kernel_rfl, ?_⟩) (by assumption) ?_
 ·intro w hSw
  go_simp
  rw [HQQ.out]
  rfl
 (try simp only [lib.hly])
 refine wpAnyH_ready (rs := [1, 43]) (by kernel_rfl) (by simp) ?_
 refine AllReadyH.cons rfl (fun K hK => ?_) (AllReadyH.cons rfl (fun K hK => ?_) AllReadyH.nil)
 ·go_simp
  refine hK.out _ _ (HGd.out) (fun hHeld => ?_)
  clear hK K
  (try simp only [lib.hly])
  (refine lib.rk 43 rfl fun K hK => ?_)
  refine step_bsliceL ty_elem rfl 1 [(0, Operand.tmp 88)] rfl [(0, .agg (TyCells q B5 d5).toArray)] (TyCells q B5 d5) (TyCells zTy none 0) rfl (by decide) (by decide) zs_ty (ty_fill q B5 d5) ?_
  obtain ⟨W8, hW8⟩ : ∃ W, wd.alloc (.cells (TyCells q B5 d5).toArray 63) = W := ⟨_, rfl⟩
  have hb8 : Below wd.heap.size wd W8 := by rw [← hW8]; exact (Below.refl _ _).alloc (Nat.le_refl _) _
  have HA8 : Hid (∀ (j : Nat) (u : Value), (TyCells q B5 d5)[j]? = some u → W8.cell? ((⟨wd.heap.size, 0, none⟩ : Addr).add j) = some u) := Lib.hid (by rw [← hW8]; exact (Blk.new wd _ _).cells)
  have HX8 := Lib.hid (HXd.out.below hb8)
  have HG8 := Lib.hid (HGd.out.below hb8)
  have HO85 := Lib.hid (own_below HOd5.out hb8)
  rw [hW8]
  clear hW8 hb8
  refine hK.out _ _ (HG8.out) (fun hHeld => ?_)
  clear hK K
  (try simp only [lib.hly])
  obtain ⟨cs, hco, hce⟩ := HX8.out.rows.r2.ex
  have HCO := Lib.hid hco
  have HCE := Lib.hid hce
  clear hco hce
  (refine lib.rk 44 rfl fun K hK => ?_)
  refine step_app ty_elem _ _ rfl 0 P.a2 x.types.length P.c2 cs rfl HCO.out ⟨wd.heap.size, 0, none⟩ 1 (TyCells q B5 d5) rfl rfl HA8.out (ty_one _ _ _) (by omega) (Nat.zero_le _) rfl ?_
  intro g9 c9 w9 hown9 hg9 hd9
  have hgi : W8.grownBy w9 (G 2) := by rw [HX8.out.rows.r2.own]; exact hg9
  have hne : ∀ b, w.heap.size ≤ b → some b ≠ G 2 := fun b hb e => by have := HX8.out.far 2 b e.symm; omega
  have HB9 := Lib.hid (HX8.out.boxk 2 hgi)
  have hcc := HB9.out.cell (j := 2) rfl
  have hcf := HB9.out.frozen 2
  have hz8 := HX8.out.lt
  have hqx : oTy.at_ W8 (Avoid G (Zn Z w.heap.size)) (TyCells q B5 d5) q := oTy_mk (IntsOff.own HO85.out (by have := HLN.out; omega) (fun b hb => HX8.out.avoid (by omega))) HQO.out.2.1
  have HFI := Lib.hid (HX8.out.fin (i := 2) (g := g9) hgi (HX8.out.rows.add2 (fun q hq => ⟨HX8.out.new q (by omega), by omega, by omega⟩) HCE.out hqx hown9 hg9 hd9) (by rw [HX8.out.rows.r2.own]; exact hd9) 2 (.slice (some ⟨g9, 0, none⟩) (x.types.length + 1) c9) (by simp [xCs, Lin.add]))
  have HG9 : Hid (KCel ad.block (ad.off + 1) g h y1 [a0, a1, a2] [b0, b1, b2, b3, b4, b5, b6, b7, b8] w9) := Lib.hid (HG8.out.grown hgi (HNE.out 2) (hne g (by omega)) (hne h (by omega)))
  clear hown9 hg9 hd9 hgi hne hqx
  refine hK.out _ _ (HG9.out) (fun hHeld => ?_)
  clear hK K
  (try simp only [lib.hly])
  (refine lib.tk 45 rfl ?_; (try simp only [lib.hly]))
  (refine lib.rk 46 rfl fun K hK => ?_)
  go_simp
  obtain ⟨W9, hW9⟩ : ∃ W, w9.setCell ⟨w.heap.size, 2, none⟩ (.slice (some ⟨g9, 0, none⟩) (x.types.length + 1) c9) = W := ⟨_, rfl⟩
  have HG10 : Hid (KCel ad.block (ad.off + 1) g h y1 [a0, a1, a2] [b0, b1, b2, b3, b4, b5, b6, b7, b8] W9) := Lib.hid (by rw [← hW9]; exact HG9.out.set (by omega) (by omega) (by omega))
  rw [hW9] at HFI ⊢
  clear hW9 hcc hcf
  refine hK.out _ _ (HG10.out) (fun hHeld => ?_)
  clear hK K
  (try simp only [lib.hly])
  (refine wpAnyH_done (by kernel_rfl) ?_ _)
  clear hHeld
  obtain ⟨x', hx'⟩ : ∃ x', R = some x' := ⟨_, HE.out⟩
  have HFX := Lib.hid (show ∃ P' G', RdE G Z x' w.heap.size w W9 P' G' by have h := HE.out.symm.trans hx'; obtain rfl := Option.some.inj h; exact ⟨_, _, HFI.out⟩)
  have HR' := Lib.hid hx'
  clear hx'
  obtain ⟨P', G', hfx⟩ := HFX.out
  have HFY := Lib.hid hfx
  clear hfx
  go_wp2_with (first | ((with_reducible refine wpList_loadG sIns _ rfl ⟨w.heap.size, 0, none⟩ (xCs x' P') ?_ ?_ ?_ ?_ ?_); exact rfl; exact rfl; exact HFY.out.box.cells; exact rfl) | ((with_reducible refine wpList_storeL sIns rfl _ _ rfl (w.heap.size + 1) (xCs nilX nilP) (xCs x' P') ?_ ?_ ?_ ?_ ?_ (xCs_one _ _) ?_); exact rfl; exact rfl; exact HFY.out.res; exact rfl; exact rfl; intro wz k1 k2 k3 k4; have K := lib.h4 k1 k2 k3 k4; clear k1 k2 k3 k4))
  refine bodyPost_ret (v := .tuple #[.agg (xCs x' P').toArray, .bool true]) (big.res_cell_tmp sIns Tryz.results73 rfl rfl (Blk.cells K.out.1) rfl) rfl ?_
  rw [HR'.out]
  exact HFY.out.out rfl K.out.2.1 K.out.2.2.1 K.out.2.2.2
 ·skip
  refine step_bsliceL ty_elem rfl 1 [(0, Operand.tmp 88)] rfl [(0, .agg (TyCells q B5 d5).toArray)] (TyCells q B5 d5) (TyCells zTy none 0) rfl (by decide) (by decide) zs_ty (ty_fill q B5 d5) ?_
  obtain ⟨W8, hW8⟩ : ∃ W, wd.alloc (.cells (TyCells q B5 d5).toArray 63) = W := ⟨_, rfl⟩
  have hb8 : Below wd.heap.size wd W8 := by rw [← hW8]; exact (Below.refl _ _).alloc (Nat.le_refl _) _
  have HA8 : Hid (∀ (j : Nat) (u : Value), (TyCells q B5 d5)[j]? = some u → W8.cell? ((⟨wd.heap.size, 0, none⟩ : Addr).add j) = some u) := Lib.hid (by rw [← hW8]; exact (Blk.new wd _ _).cells)
  have HX8 := Lib.hid (HXd.out.below hb8)
  have HG8 := Lib.hid (HGd.out.below hb8)
  have HO85 := Lib.hid (own_below HOd5.out hb8)
  rw [hW8]
  clear hW8 hb8
  refine hK.out _ _ (HG8.out) (fun hHeld => ?_)
  clear hK K
  (try simp only [lib.hly])
  have hb8c := HX8.out.box.cell (j := 2) rfl
  (refine lib.rk 1 rfl fun K hK => ?_)
  go_simp
  refine hK.out _ _ (HG8.out) (fun hHeld => ?_)
  clear hK K
  (try simp only [lib.hly])
  clear hb8c
  obtain ⟨cs, hco, hce⟩ := HX8.out.rows.r2.ex
  have HCO := Lib.hid hco
  have HCE := Lib.hid hce
  clear hco hce
  (refine lib.rk 44 rfl fun K hK => ?_)
  refine step_app ty_elem _ _ rfl 0 P.a2 x.types.length P.c2 cs rfl HCO.out ⟨wd.heap.size, 0, none⟩ 1 (TyCells q B5 d5) rfl rfl HA8.out (ty_one _ _ _) (by omega) (Nat.zero_le _) rfl ?_
  intro g9 c9 w9 hown9 hg9 hd9
  have hgi : W8.grownBy w9 (G 2) := by rw [HX8.out.rows.r2.own]; exact hg9
  have hne : ∀ b, w.heap.size ≤ b → some b ≠ G 2 := fun b hb e => by have := HX8.out.far 2 b e.symm; omega
  have HB9 := Lib.hid (HX8.out.boxk 2 hgi)
  have hcc := HB9.out.cell (j := 2) rfl
  have hcf := HB9.out.frozen 2
  have hz8 := HX8.out.lt
  have hqx : oTy.at_ W8 (Avoid G (Zn Z w.heap.size)) (TyCells q B5 d5) q := oTy_mk (IntsOff.own HO85.out (by have := HLN.out; omega) (fun b hb => HX8.out.avoid (by omega))) HQO.out.2.1
  have HFI := Lib.hid (HX8.out.fin (i := 2) (g := g9) hgi (HX8.out.rows.add2 (fun q hq => ⟨HX8.out.new q (by omega), by omega, by omega⟩) HCE.out hqx hown9 hg9 hd9) (by rw [HX8.out.rows.r2.own]; exact hd9) 2 (.slice (some ⟨g9, 0, none⟩) (x.types.length + 1) c9) (by simp [xCs, Lin.add]))
  have HG9 : Hid (KCel ad.block (ad.off + 1) g h y1 [a0, a1, a2] [b0, b1, b2, b3, b4, b5, b6, b7, b8] w9) := Lib.hid (HG8.out.grown hgi (HNE.out 2) (hne g (by omega)) (hne h (by omega)))
  clear hown9 hg9 hd9 hgi hne hqx
  refine hK.out _ _ (HG9.out) (fun hHeld => ?_)
  clear hK K
  (try simp only [lib.hly])
  (refine lib.tk 45 rfl ?_; (try simp only [lib.hly]))
  (refine lib.rk 46 rfl fun K hK => ?_)
  go_simp
  obtain ⟨W9, hW9⟩ : ∃ W, w9.setCell ⟨w.heap.size, 2, none⟩ (.slice (some ⟨g9, 0, none⟩) (x.types.length + 1) c9) = W := ⟨_, rfl⟩
  have HG10 : Hid (KCel ad.block (ad.off + 1) g h y1 [a0, a1, a2] [b0, b1, b2, b3, b4, b5, b6, b7, b8] W9) := Lib.hid (by rw [← hW9]; exact HG9.out.set (by omega) (by omega) (by omega))
  rw [hW9] at HFI ⊢
  clear hW9 hcc hcf
  refine hK.out _ _ (HG10.out) (fun hHeld => ?_)
  clear hK K
  (try simp only [lib.hly])
  (refine wpAnyH_done (by kernel_rfl) ?_ _)
  clear hHeld
  obtain ⟨x', hx'⟩ : ∃ x', R = some x' := ⟨_, HE.out⟩
  have HFX := Lib.hid (show ∃ P' G', RdE G Z x' w.heap.size w W9 P' G' by have h := HE.out.symm.trans hx'; obtain rfl := Option.some.inj h; exact ⟨_, _, HFI.out⟩)
  have HR' := Lib.hid hx'
  clear hx'
  obtain ⟨P', G', hfx⟩ := HFX.out
  have HFY := Lib.hid hfx
  clear hfx
  go_wp2_with (first | ((with_reducible refine wpList_loadG sIns _ rfl ⟨w.heap.size, 0, none⟩ (xCs x' P') ?_ ?_ ?_ ?_ ?_); exact rfl; exact rfl; exact HFY.out.box.cells; exact rfl) | ((with_reducible refine wpList_storeL sIns rfl _ _ rfl (w.heap.size + 1) (xCs nilX nilP) (xCs x' P') ?_ ?_ ?_ ?_ ?_ (xCs_one _ _) ?_); exact rfl; exact rfl; exact HFY.out.res; exact rfl; exact rfl; intro wz k1 k2 k3 k4; have K := lib.h4 k1 k2 k3 k4; clear k1 k2 k3 k4))
  refine bodyPost_ret (v := .tuple #[.agg (xCs x' P').toArray, .bool true]) (big.res_cell_tmp sIns Tryz.results73 rfl rfl (Blk.cells K.out.1) rfl) rfl ?_
  rw [HR'.out]
  exact HFY.out.out rfl K.out.2.1 K.out.2.2.1 K.out.2.2.2
end Go.Proofs.YthefooacfcagbaaGreatDoor.spc

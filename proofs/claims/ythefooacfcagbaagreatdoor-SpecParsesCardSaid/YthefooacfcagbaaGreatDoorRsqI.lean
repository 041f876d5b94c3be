/- The reference's lines of orders, read. -/
import Derived.Test.YthefooacfcagbaaGreatDoorRsqH
namespace Go.Proofs.YthefooacfcagbaaGreatDoor.spc
open Go.RowKit
open lib rd app els typ big gen off
open ins (InP InAt InV)
open txt (in64 By strV strV_of elem_str push_one Strs numL)
set_option linter.unusedVariables false
set_option linter.unusedSimpArgs false
def ordX (x : Ins) : List By → Option Ins
 | [_, y1, y2, y3, y4, y5, y6, y7, y8, y9, y10] => if y10 = onW ∨ y10 = offW then (match listR y2, stopR y3, stopR y4, readF [y5, y6, y7, y8, y9] with
  | some l, some p, some q, some [a0, a1, a2, a3, a4] => some (Lin.add x (.order ⟨⟨y1.toArray⟩, l, p, q, a0, a1, a2, a3, a4, decide (y10 = offW)⟩))
  | _, _, _, _ => none) else none
 | _ => none
theorem ordX_len {x : Ins} {W : List By} (h : W.length ≠ 11) : ordX x W = none := by
 unfold ordX
 split
 ·exact absurd rfl h
 ·rfl
section
variable {x : Ins} {y0 y1 y2 y3 y4 y5 y6 y7 y8 y9 y10 : By}
theorem ordX_st (h1 : y10 ≠ onW) (h2 : y10 ≠ offW) : ordX x [y0, y1, y2, y3, y4, y5, y6, y7, y8, y9, y10] = none := by
 unfold ordX
 dsimp only
 rw [if_neg (fun h => h.elim h1 h2)]
theorem ordX_some {l : List Int} {p q : Stp} {a0 a1 a2 a3 a4 : Int} {f : Bool} (h0 : y10 = stateW f) (h1 : listR y2 = some l) (h2 : stopR y3 = some p) (h3 : stopR y4 = some q) (h4 : readF [y5, y6, y7, y8, y9] = some [a0, a1, a2, a3, a4]) :
  ordX x [y0, y1, y2, y3, y4, y5, y6, y7, y8, y9, y10] = some (Lin.add x (.order ⟨⟨y1.toArray⟩, l, p, q, a0, a1, a2, a3, a4, f⟩)) := by
 unfold ordX
 dsimp only
 rw [h1, h2, h3, h4]
 cases f
 ·rw [if_pos (.inl h0), h0]; rfl
 ·rw [if_pos (.inr h0), h0]; rfl
theorem ordX_no1 (h1 : listR y2 = none) : ordX x [y0, y1, y2, y3, y4, y5, y6, y7, y8, y9, y10] = none := by
 unfold ordX
 dsimp only
 rw [h1]
 split <;> rfl
theorem ordX_no2 (h1 : stopR y3 = none) : ordX x [y0, y1, y2, y3, y4, y5, y6, y7, y8, y9, y10] = none := by
 unfold ordX
 dsimp only
 rw [h1]
 split
 ·split <;> simp_all
 ·rfl
theorem ordX_no3 (h1 : stopR y4 = none) : ordX x [y0, y1, y2, y3, y4, y5, y6, y7, y8, y9, y10] = none := by
 unfold ordX
 dsimp only
 rw [h1]
 split
 ·split <;> simp_all
 ·rfl
theorem ordX_no4 (h1 : readF [y5, y6, y7, y8, y9] = none) : ordX x [y0, y1, y2, y3, y4, y5, y6, y7, y8, y9, y10] = none := by
 unfold ordX
 dsimp only
 rw [h1]
 split
 ·split <;> simp_all
 ·rfl
end
theorem eleven {α : Type} {W : List α} (h : W.length = 11) : ∃ a0 a1 a2 a3 a4 a5 a6 a7 a8 a9 a10, W = [a0, a1, a2, a3, a4, a5, a6, a7, a8, a9, a10] := by
 match W, h with
 | [a0, a1, a2, a3, a4, a5, a6, a7, a8, a9, a10], _ => exact ⟨_, _, _, _, _, _, _, _, _, _, _, rfl⟩
theorem five {α : Type} {W : List α} (h : W.length = 5) : ∃ a0 a1 a2 a3 a4, W = [a0, a1, a2, a3, a4] := by
 match W, h with
 | [a0, a1, a2, a3, a4], _ => exact ⟨_, _, _, _, _, rfl⟩
theorem exec_buildX {t : TypeId} {z : Value} {places : Array (Nat × Nat)} (T : BuildOf t z places) {ρ : Operand → Value} {o : Oper} {w : World} (parts : List (Nat × Operand)) (ho : o.op = Op.build t parts.toArray) (vals : List (Nat × Value)) (cells : List Value)
  (hv : parts.map (fun p => (p.1, ρ p.2)) = vals) (hf : Instr.fill (places[·]?) z.cells vals = some cells.toArray) : Sem.run Tryz.prog (execOp ρ o) w = .ok (.value (.agg cells.toArray)) w := by
 have hr : (Instr.build t (parts.toArray.map fun p => (p.1, ρ p.2))).run Tryz.prog w = .ok (.agg cells.toArray) w := run_buildF T (by rw [List.map_toArray, hv]; exact hf) w
 unfold execOp
 simp only [ho, Sem.run_bind, hr, Result.andThen_ok, Sem.run_pure]
def zOrdX : List Value := [.string ⟨#[]⟩, .slice none 0 0, .int .i64 0, .int .i64 0, .int .i64 0, .int .i64 0, .int .i64 0, .int .i64 0, .int .i64 0, .int .i64 0, .int .i64 0, .int .i64 0, .int .i64 0, .int .i64 0, .int .i64 0, .bool false]
theorem bOrdX : BuildOf 66 (.agg zOrdX.toArray) #[(0, 1), (1, 1), (2, 4), (6, 4), (10, 1), (11, 1), (12, 1), (13, 1), (14, 1), (15, 1)] := ⟨⟨_, Tryz.underlying66, fun w => by kernel_rfl⟩, fun w => by kernel_rfl⟩
theorem ordX_fill (nm : ByteArray) (c : List Int) (p q : Stp) (a0 a1 a2 a3 a4 : Int) (f : Bool) (B : Option Addr) (d : Nat) : Instr.fill ((#[(0, 1), (1, 1), (2, 4), (6, 4), (10, 1), (11, 1), (12, 1), (13, 1), (14, 1), (15, 1)] : Array (Nat × Nat))[·]?) (Value.agg zOrdX.toArray).cells [(0, .string nm), (1, .slice B c.length d), (2, .agg (StpCells p).toArray), (3, .agg (StpCells q).toArray), (4, .int .i64 a0), (5, .int .i64 a1), (6, .int .i64 a2), (7, .int .i64 a3), (8, .int .i64 a4), (9, .bool f)] = some (OrdCells ⟨nm, c, p, q, a0, a1, a2, a3, a4, f⟩ B d).toArray := by kernel_rfl
def OCel (nb no h pb qb : Nat) (y z : By) (la : List Int) (p q : Stp) (v : World) : Prop := (nb < v.heap.size ∧ v.cell? ⟨nb, no + 1, none⟩ = some (.string ⟨y.toArray⟩) ∧ v.cell? ⟨nb, no + 10, none⟩ = some (.string ⟨z.toArray⟩)) ∧ NumC v h la ∧ Blk v pb 41 (StpCells p) ∧ Blk v qb 41 (StpCells q)
section
variable {nb no h pb qb : Nat} {y z : By} {la : List Int} {p q : Stp} {v v' : World}
theorem OCel.below (k : OCel nb no h pb qb y z la p q v) (hb : Below v.heap.size v v') : OCel nb no h pb qb y z la p q v' := ⟨⟨Nat.lt_of_lt_of_le k.1.1 hb.size, (hb.cell (p := ⟨nb, no + 1, none⟩) k.1.1).trans k.1.2.1, (hb.cell (p := ⟨nb, no + 10, none⟩) k.1.1).trans k.1.2.2⟩, k.2.1.below hb, k.2.2.1.below hb, k.2.2.2.below hb⟩
theorem OCel.grown {row : Option Nat} (k : OCel nb no h pb qb y z la p q v) (hg : v.grownBy v' row) (h1 : some nb ≠ row) (h2 : some h ≠ row) (h3 : some pb ≠ row) (h4 : some qb ≠ row) : OCel nb no h pb qb y z la p q v' := ⟨⟨Nat.lt_of_lt_of_le k.1.1 hg.size, hg.cell (a := ⟨nb, no + 1, none⟩) k.1.2.1 h1, hg.cell (a := ⟨nb, no + 10, none⟩) k.1.2.2 h1⟩, k.2.1.grown hg h2, k.2.2.1.kept hg h3, k.2.2.2.kept hg h4⟩
theorem OCel.set {H k0 : Nat} {u0 : Value} (k : OCel nb no h pb qb y z la p q v) (h1 : nb ≠ H) (h2 : h ≠ H) (h3 : pb ≠ H) (h4 : qb ≠ H) : OCel nb no h pb qb y z la p q (v.setCell ⟨H, k0, none⟩ u0) := ⟨⟨by simp only [World.setCell, Array.size_modify]; exact k.1.1, (World.cell?_setCell_other v _ ⟨nb, no + 1, none⟩ _ (fun e => by injection e with e; omega)).trans k.1.2.1, (World.cell?_setCell_other v _ ⟨nb, no + 10, none⟩ _ (fun e => by injection e with e; omega)).trans k.1.2.2⟩, k.2.1.set h2, (Below.heap_setCell v ⟨H, k0, none⟩ _ pb h3).trans k.2.2.1, (Below.heap_setCell v ⟨H, k0, none⟩ _ qb h4).trans k.2.2.2⟩
end
set_option maxRecDepth 20000 in
set_option maxHeartbeats 8000000 in
theorem rorderX_any (G : Nat → Option Nat) (Z : Nat → Prop) (x : Ins) (P : InP) (W : List By) (A : Option Addr) (n d : Nat) (w : World) (hX : XG G w Z x P) (hZ : ∀ q, w.heap.size ≤ q → Z q) (hsm : Sm x) (hW : WAt w A n d W) (hfar : ∀ ad : Addr, A = some ad → ad.block < w.heap.size ∧ ∀ i, some ad.block ≠ G i) (hok : ∀ y ∈ W, txt.wordB y = true) :
  Calls Tryz.prog 74 #[InV x P, .slice A n d] w (XvOut G Z (ordX x W) w) := by
 obtain ⟨R, hR⟩ : ∃ R, ordX x W = R := ⟨_, rfl⟩
 have HR := Lib.hid hR
 rw [hR]
 clear hR
 have HX := Lib.hid (RdS.start hX hZ)
 have HWA := Lib.hid hW
 have HSM := Lib.hid hsm
 obtain ⟨W0, hW0⟩ : ∃ W, (w.alloc (.cells (xCs x P).toArray 30)).alloc (.cells (xCs nilX nilP).toArray 30) = W := ⟨_, rfl⟩
 have HW0 := Lib.hid (show (w.alloc (.cells #[.slice P.a0 x.net.places.length P.c0, .slice P.a1 x.net.arcs.length P.c1, .slice P.a2 x.types.length P.c2, .slice P.a3 x.orders.length P.c3, .slice P.a4 x.apart.length P.c4, .slice P.a5 x.before.length P.c5] 30)).alloc (.cells #[.slice none 0 0, .slice none 0 0, .slice none 0 0, .slice none 0 0, .slice none 0 0, .slice none 0 0] 30) = W0 from hW0)
 rw [hW0] at HX
 have HWA0 : Hid (WAt W0 A n d _) := Lib.hid (hW.below (by rw [← hW0]; exact ((Below.refl _ _).alloc (Nat.le_refl _) _).alloc (by rw [World.size_alloc]; omega) _))
 have hWc := hW.cap
 have hwz := HX.out.lt
 clear hX hZ hW hsm hW0
 go_enter Tryz.func74, Tryz.ntmps74
 go_upto_region 1 with fail
 rw [HW0.out]
 clear HW0
 by_cases h3 : n = 11
 rotate_left
 ·have h3i : ¬ (n : Int) = 11 := by omega
  have h3b : ((n : Int) != 11) = true := by simpa using h3i
  have HE : Hid (R = none) := Lib.hid (by rw [← HR.out]; exact ordX_len (by rw [← HWA0.out.len]; exact h3))
  go_wp2_with (first | ((with_reducible refine wpList_loadG sIns _ rfl ⟨w.heap.size, 0, none⟩ (xCs x P) ?_ ?_ ?_ ?_ ?_); exact rfl; exact rfl; exact HX.out.box.cells; exact rfl) | ((with_reducible refine wpList_storeL sIns rfl _ _ rfl (w.heap.size + 1) (xCs nilX nilP) (xCs x P) ?_ ?_ ?_ ?_ ?_ (xCs_one _ _) ?_); exact rfl; exact rfl; exact HX.out.res; exact rfl; exact rfl; intro wz k1 k2 k3 k4; have K := lib.h4 k1 k2 k3 k4; clear k1 k2 k3 k4))
  refine bodyPost_ret (v := .tuple #[.agg (xCs x P).toArray, .bool false]) (big.res_cell_tmp sIns Tryz.results74 rfl rfl (Blk.cells K.out.1) rfl) rfl ?_
  rw [HE.out]
  exact HX.out.none_ K.out.2.2.2
 subst h3
 obtain ⟨y0, y1, y2, y3, y4, y5, y6, y7, y8, y9, y10, rfl⟩ := eleven HWA0.out.len.symm
 obtain ⟨ad, hA, hadb, hcs⟩ := HWA0.out.rd.2 (by omega)
 subst hA
 obtain ⟨hadw, hne0⟩ := hfar ad rfl
 have HNE := Lib.hid hne0
 have HW1 : Hid (txt.wordB y1 = true) := Lib.hid (hok y1 (by simp))
 have hd1 : ¬ d = 5 := by omega
 have hd10 : (10 : Int) ≤ (d : Int) := by omega
 have HIN := Lib.hid (fun v (hv : Below W0.heap.size W0 v) => rints_any [y5, y6, y7, y8, y9] (some (ad.add 5)) 5 (d - 5) rfl v (reads_sub (ys := [y5, y6, y7, y8, y9].map strV) 5 5 ((HWA0.out.below hv).rd) (by omega) rfl (fun j u hu => by rcases j with _ | _ | _ | _ | _ | j <;> first | exact hu | (simp at hu))) (fun y hy => HWA0.out.sz y (by simp at hy ⊢; rcases hy with rfl | rfl | rfl | rfl | rfl <;> simp)) (by decide))
 have HP2 := Lib.hid (fun v => runlist_any y2 (HWA0.out.sz y2 (by simp)) v)
 have HP3 := Lib.hid (fun v => runstop_any y3 (HWA0.out.sz y3 (by simp)) v)
 have HP4 := Lib.hid (fun v => runstop_any y4 (HWA0.out.sz y4 (by simp)) v)
 have HCL : Hid (∀ v, Below W0.heap.size W0 v → (v.cell? ⟨ad.block, ad.off + 1, none⟩ = some (.string ⟨y1.toArray⟩) ∧ v.cell? ⟨ad.block, ad.off + 10, none⟩ = some (.string ⟨y10.toArray⟩)) ∧ v.cell? ⟨ad.block, ad.off + 2, none⟩ = some (.string ⟨y2.toArray⟩) ∧ v.cell? ⟨ad.block, ad.off + 3, none⟩ = some (.string ⟨y3.toArray⟩) ∧ v.cell? ⟨ad.block, ad.off + 4, none⟩ = some (.string ⟨y4.toArray⟩)) := Lib.hid (fun v hv => ⟨⟨(hv.cell (p := ⟨ad.block, ad.off + 1, none⟩) hadb).trans (hcs 1 _ rfl), (hv.cell (p := ⟨ad.block, ad.off + 10, none⟩) hadb).trans (hcs 10 _ rfl)⟩, (hv.cell (p := ⟨ad.block, ad.off + 2, none⟩) hadb).trans (hcs 2 _ rfl), (hv.cell (p := ⟨ad.block, ad.off + 3, none⟩) hadb).trans (hcs 3 _ rfl), (hv.cell (p := ⟨ad.block, ad.off + 4, none⟩) hadb).trans (hcs 4 _ rfl)⟩)
 have hc10 := (HCL.out W0 (Below.refl _ _)).1.2
 clear hcs HWA hfar hok hne0
 by_cases hst : y10 ≠ onW ∧ y10 ≠ offW
 ·have hon : (y10 == [111, 110]) = false := beq_eq_false_iff_ne.2 hst.1
  have hon2 : (y10 != [111, 110]) = true := by rw [bne, hon]; rfl
  have hoff : (y10 == [111, 102, 102]) = false := beq_eq_false_iff_ne.2 hst.2
  have hoff2 : (y10 != [111, 102, 102]) = true := by rw [bne, hoff]; rfl
  have HE : Hid (R = none) := Lib.hid (by rw [← HR.out]; exact ordX_st hst.1 hst.2)
  clear hst
  go_wp2_with (first | ((with_reducible refine wpList_loadG sIns _ rfl ⟨w.heap.size, 0, none⟩ (xCs x P) ?_ ?_ ?_ ?_ ?_); exact rfl; exact rfl; exact HX.out.box.cells; exact rfl) | ((with_reducible refine wpList_storeL sIns rfl _ _ rfl (w.heap.size + 1) (xCs nilX nilP) (xCs x P) ?_ ?_ ?_ ?_ ?_ (xCs_one _ _) ?_); exact rfl; exact rfl; exact HX.out.res; exact rfl; exact rfl; intro wz k1 k2 k3 k4; have K := lib.h4 k1 k2 k3 k4; clear k1 k2 k3 k4))
  refine bodyPost_ret (v := .tuple #[.agg (xCs x P).toArray, .bool false]) (big.res_cell_tmp sIns Tryz.results74 rfl rfl (Blk.cells K.out.1) rfl) rfl ?_
  rw [HE.out]
  exact HX.out.none_ K.out.2.2.2
 obtain ⟨f, hf⟩ : ∃ f, y10 = stateW f := by
  by_cases h1 : y10 = onW
  ·exact ⟨false, h1⟩
  ·by_cases h2 : y10 = offW
   ·exact ⟨true, h2⟩
   ·exact absurd ⟨h1, h2⟩ hst
 have HF := Lib.hid hf
 clear hst
 go_cut [28] (fun v wx => v = .bool false ∧ W0 = wx)
 case first =>
  cases f
  ·have hf' : y10 = [111, 110] := hf
   have hon : (y10 == [111, 110]) = true := beq_iff_eq.2 hf'
   have hon2 : (y10 != [111, 110]) = false := by rw [bne, hon]; rfl
   clear hf hf'
   go_wp2
   go_meet
   exact ⟨rfl, rfl⟩
  ·have hf' : y10 = [111, 102, 102] := hf
   have hon : (y10 == [111, 110]) = false := by rw [hf']; rfl
   have hon2 : (y10 != [111, 110]) = true := by rw [hf']; rfl
   have hoff : (y10 == [111, 102, 102]) = true := beq_iff_eq.2 hf'
   have hoff2 : (y10 != [111, 102, 102]) = false := by rw [bne, hoff]; rfl
   clear hf hf'
   go_wp2
   go_meet
   exact ⟨rfl, rfl⟩
 obtain ⟨hu, rfl⟩ := hcut
 subst hu
 clear hc10 hf
 obtain ⟨-, hc2, -⟩ := HCL.out W0 (Below.refl _ _)
 go_upto_region 4 with (go_at_call 107; refine (HP2.out W0).mono ?_; intro e w2 ho; obtain ⟨B5, m5, d5, b5, rfl, hb2, hu5⟩ := ho.uni; clear ho)
 have HB2 := Lib.hid hb2
 have hz2 := hb2.size
 clear hc2
 obtain ⟨-, -, hc3, -⟩ := HCL.out w2 hb2
 clear hb2 HP2
 go_upto_region 5 with (first
  | (go_at_call 108; refine (HP3.out w2).mono ?_; intro e w3 ho; obtain ⟨p, bp, rfl, hb3, hup⟩ := ho.uni; clear ho)
  | ((with_reducible refine wpList_storeL sStp rfl _ _ rfl w3.heap.size (StpCells zStp) (StpCells p) ?_ ?_ ?_ ?_ ?_ (stp_one _) ?_); exact rfl; exact rfl; exact Blk.new w3 _ _; exact rfl; exact rfl; intro v3 k1 k2 k3 k4; have K := lib.h4 k1 k2 k3 k4; clear k1 k2 k3 k4))
 obtain ⟨pb, hpbe⟩ : ∃ q, w3.heap.size = q := ⟨_, rfl⟩
 rw [hpbe] at K ⊢
 have HL3 : Hid (Below w3.heap.size w3 v3) := Lib.hid (((Below.refl _ _).alloc (Nat.le_refl _) _).trans (by rw [hpbe]; exact K.out.2.2.2))
 have HSpb : Hid (Blk v3 pb 41 (StpCells p)) := Lib.hid K.out.1
 clear K
 have HB3 := Lib.hid (HB2.out.trans ((hb3.trans (HL3.out.mono hb3.size)).mono HB2.out.size))
 have HB23 := Lib.hid (hb3.trans (HL3.out.mono hb3.size))
 have hz3 := HB23.out.size
 have hpb : w2.heap.size ≤ pb := by have := hb3.size; omega
 clear hc3 hb3 hpbe
 obtain ⟨-, -, -, hc4⟩ := HCL.out v3 HB3.out
 clear HP3
 go_upto_region 6 with (first
  | (go_at_call 108; refine (HP4.out v3).mono ?_; intro e w4 ho; obtain ⟨q, bq, rfl, hb4, huq⟩ := ho.uni; clear ho)
  | ((with_reducible refine wpList_storeL sStp rfl _ _ rfl w4.heap.size (StpCells zStp) (StpCells q) ?_ ?_ ?_ ?_ ?_ (stp_one _) ?_); exact rfl; exact rfl; exact Blk.new w4 _ _; exact rfl; exact rfl; intro v4 k1 k2 k3 k4; have K := lib.h4 k1 k2 k3 k4; clear k1 k2 k3 k4))
 obtain ⟨qb, hqbe⟩ : ∃ q, w4.heap.size = q := ⟨_, rfl⟩
 rw [hqbe] at K ⊢
 have HL3 : Hid (Below w4.heap.size w4 v4) := Lib.hid (((Below.refl _ _).alloc (Nat.le_refl _) _).trans (by rw [hqbe]; exact K.out.2.2.2))
 have HSqb : Hid (Blk v4 qb 41 (StpCells q)) := Lib.hid K.out.1
 clear K
 have HB4 := Lib.hid (HB3.out.trans ((hb4.trans (HL3.out.mono hb4.size)).mono HB3.out.size))
 have HB34 := Lib.hid (hb4.trans (HL3.out.mono hb4.size))
 have hz4 := HB34.out.size
 have hqb : v3.heap.size ≤ qb := by have := hb4.size; omega
 clear hc4 hb4 hqbe HP4
 go_upto_region 7 with (go_at_call 105; refine (HIN.out v4 HB4.out).mono ?_; intro e w5 ho; obtain ⟨Bb, mb, db, bb, rfl, hb5, hub⟩ := ho.uni; clear ho)
 have HB45 := Lib.hid hb5
 have HB5 := Lib.hid (HB4.out.trans (hb5.mono HB4.out.size))
 have hz5 := hb5.size
 have HX5 := Lib.hid (HX.out.below HB5.out)
 clear hb5 HIN HL3
 cases b5
 case false =>
  have HE : Hid (R = none) := Lib.hid (by rw [← HR.out]; exact ordX_no1 (hu5.out.2 rfl))
  go_wp2_with (first | ((with_reducible refine wpList_loadG sIns _ rfl ⟨w.heap.size, 0, none⟩ (xCs x P) ?_ ?_ ?_ ?_ ?_); exact rfl; exact rfl; exact HX5.out.box.cells; exact rfl) | ((with_reducible refine wpList_storeL sIns rfl _ _ rfl (w.heap.size + 1) (xCs nilX nilP) (xCs x P) ?_ ?_ ?_ ?_ ?_ (xCs_one _ _) ?_); exact rfl; exact rfl; exact HX5.out.res; exact rfl; exact rfl; intro wz k1 k2 k3 k4; have K := lib.h4 k1 k2 k3 k4; clear k1 k2 k3 k4))
  refine bodyPost_ret (v := .tuple #[.agg (xCs x P).toArray, .bool false]) (big.res_cell_tmp sIns Tryz.results74 rfl rfl (Blk.cells K.out.1) rfl) rfl ?_
  rw [HE.out]
  exact HX5.out.none_ K.out.2.2.2
 cases bp
 case false =>
  have HE : Hid (R = none) := Lib.hid (by rw [← HR.out]; exact ordX_no2 (hup.out.2 rfl))
  go_wp2_with (first | ((with_reducible refine wpList_loadG sIns _ rfl ⟨w.heap.size, 0, none⟩ (xCs x P) ?_ ?_ ?_ ?_ ?_); exact rfl; exact rfl; exact HX5.out.box.cells; exact rfl) | ((with_reducible refine wpList_storeL sIns rfl _ _ rfl (w.heap.size + 1) (xCs nilX nilP) (xCs x P) ?_ ?_ ?_ ?_ ?_ (xCs_one _ _) ?_); exact rfl; exact rfl; exact HX5.out.res; exact rfl; exact rfl; intro wz k1 k2 k3 k4; have K := lib.h4 k1 k2 k3 k4; clear k1 k2 k3 k4))
  refine bodyPost_ret (v := .tuple #[.agg (xCs x P).toArray, .bool false]) (big.res_cell_tmp sIns Tryz.results74 rfl rfl (Blk.cells K.out.1) rfl) rfl ?_
  rw [HE.out]
  exact HX5.out.none_ K.out.2.2.2
 cases bq
 case false =>
  have HE : Hid (R = none) := Lib.hid (by rw [← HR.out]; exact ordX_no3 (huq.out.2 rfl))
  go_wp2_with (first | ((with_reducible refine wpList_loadG sIns _ rfl ⟨w.heap.size, 0, none⟩ (xCs x P) ?_ ?_ ?_ ?_ ?_); exact rfl; exact rfl; exact HX5.out.box.cells; exact rfl) | ((with_reducible refine wpList_storeL sIns rfl _ _ rfl (w.heap.size + 1) (xCs nilX nilP) (xCs x P) ?_ ?_ ?_ ?_ ?_ (xCs_one _ _) ?_); exact rfl; exact rfl; exact HX5.out.res; exact rfl; exact rfl; intro wz k1 k2 k3 k4; have K := lib.h4 k1 k2 k3 k4; clear k1 k2 k3 k4))
  refine bodyPost_ret (v := .tuple #[.agg (xCs x P).toArray, .bool false]) (big.res_cell_tmp sIns Tryz.results74 rfl rfl (Blk.cells K.out.1) rfl) rfl ?_
  rw [HE.out]
  exact HX5.out.none_ K.out.2.2.2
 cases bb
 case false =>
  have HE : Hid (R = none) := Lib.hid (by rw [← HR.out]; exact ordX_no4 (hub.out.2 rfl))
  go_wp2_with (first | ((with_reducible refine wpList_loadG sIns _ rfl ⟨w.heap.size, 0, none⟩ (xCs x P) ?_ ?_ ?_ ?_ ?_); exact rfl; exact rfl; exact HX5.out.box.cells; exact rfl) | ((with_reducible refine wpList_storeL sIns rfl _ _ rfl (w.heap.size + 1) (xCs nilX nilP) (xCs x P) ?_ ?_ ?_ ?_ ?_ (xCs_one _ _) ?_); exact rfl; exact rfl; exact HX5.out.res; exact rfl; exact rfl; intro wz k1 k2 k3 k4; have K := lib.h4 k1 k2 k3 k4; clear k1 k2 k3 k4))
  refine bodyPost_ret (v := .tuple #[.agg (xCs x P).toArray, .bool false]) (big.res_cell_tmp sIns Tryz.results74 rfl rfl (Blk.cells K.out.1) rfl) rfl ?_
  rw [HE.out]
  exact HX5.out.none_ K.out.2.2.2
 obtain ⟨c, hc, hm5, hownc⟩ := hu5.out.1 rfl
 have hp := hup.out.1 rfl
 have hq := huq.out.1 rfl
 obtain ⟨k, hk, rfl, hownk⟩ := hub.out.1 rfl
 obtain ⟨a0, a1, a2, a3, a4, rfl⟩ := five (readF_len hk).1
 obtain ⟨h, rfl, hh0, hhN⟩ := NumC.own hownk (by simp)
 have hz0 := HX.out.lt
 have hhH : w.heap.size + 2 ≤ h := by omega
 have k64 := (readF_len hk).2
 have hc2 := listF_listR hc
 have hp2 := stopF_stopR hp
 have hq2 := stopF_stopR hq
 obtain ⟨o, ho⟩ : ∃ o : Ord, o = ⟨⟨y1.toArray⟩, c, p, q, a0, a1, a2, a3, a4, f⟩ := ⟨_, rfl⟩
 have HQO : Hid (ordOk o) := Lib.hid (by
  rw [ho]
  refine ⟨by simpa using HW1.out, ⟨?_, hp2.2, hq2.2, k64 _ (by simp), k64 _ (by simp), k64 _ (by simp), k64 _ (by simp), k64 _ (by simp)⟩, hc2.2⟩
  have := HWA0.out.sz y1 (by simp)
  show y1.toArray.size ≤ _
  rw [List.size_toArray]
  omega)
 have HE : Hid (R = some (Lin.add x (.order o))) := Lib.hid (by rw [← HR.out, ho]; exact ordX_some HF.out hc hp hq hk)
 have HLN : Hid (o.load.length ≤ 1000000) := Lib.hid (by
  rw [ho]
  have k1 := HWA0.out.sz y2 (by simp)
  have k3 := listF_len c
  rw [← hc2.1] at k3
  exact Nat.le_trans k3 k1)
 have HB35 : Hid (Below v3.heap.size v3 w5) := Lib.hid (HB34.out.trans (HB45.out.mono HB34.out.size))
 have HB25 : Hid (Below w2.heap.size w2 w5) := Lib.hid (HB23.out.trans (HB35.out.mono HB23.out.size))
 obtain ⟨wd, hwd⟩ : ∃ wd, w5.drew = wd := ⟨_, rfl⟩
 have hbd : Below w5.heap.size w5 wd := by rw [← hwd]; exact (Below.refl _ _).drew
 have HXd := Lib.hid (HX5.out.below hbd)
 have hSp := HSpb.out.below HB35.out
 have hSq := HSqb.out.below HB45.out
 have HG4 : Hid (OCel ad.block ad.off h pb qb y1 y10 [a0, a1, a2, a3, a4] p q w5) := Lib.hid ⟨⟨by omega, (HCL.out w5 HB5.out).1⟩, hhN, hSp, hSq⟩
 have HGd := Lib.hid (HG4.out.below hbd)
 have HOd5 : Hid (wd.ownsRow W0.heap.size 3 1 (.slice B5 o.load.length d5) o.load.length (o.load.map (.int .i64))) := Lib.hid (by
  rw [ho]
  have h := own_below (own_below hownc HB25.out) hbd
  rw [hm5] at h
  exact h)
 have hq5 : m5 = o.load.length := by rw [ho]; exact hm5
 have hf3 : (y10 == [111, 102, 102]) = f := by rw [HF.out]; cases f <;> rfl
 have HQQ := Lib.hid ho
 subst hq5
 have hsm : x.orders.length ≤ 1000000 := by obtain ⟨s0, s1, s2, s3, s4, s5⟩ := HSM.out; assumption
 have hadw' : ad.block ≠ w.heap.size := by omega
 clear k64 hh0 hhN hc hk hp hq hownc hownk hc2 hp2 hq2 hu5 hup huq hub hm5 ho hbd hSp hSq
 go_upto_region 9 with fail
 (refine wp_region_held_drew (S := (fun v => OCel ad.block ad.off h pb qb y1 y10 [a0, a1, a2, a3, a4] p q v)) (by kernel_rfl) ?_ (fun hHeld => ?_))
 ·exact HG4.out
 rw [hwd] at hHeld ⊢
 clear hwd
 have hbc := HXd.out.box.cell (j := 3) rfl
 (refine lib.tk 0 rfl ?_; (try simp only [lib.hly]))
 (refine lib.tk 2 rfl ?_; (try simp only [lib.hly]))
 (refine lib.tk 3 rfl ?_; (try simp only [lib.hly]))
 (refine lib.tk 4 rfl ?_ (fun _ hSw => exec_ld_str rfl rfl hSw.1.2.1); (try simp only [lib.hly]))
 (refine lib.tk 5 rfl ?_; (try simp only [lib.hly]))
 (refine lib.tk 6 rfl ?_ (fun _ hSw => exec_loadS sStp rfl rfl (Blk.cells hSw.2.2.1) rfl); (try simp only [lib.hly]))
 (refine lib.tk 7 rfl ?_ (fun _ hSw => exec_loadS sStp rfl rfl (Blk.cells hSw.2.2.2) rfl); (try simp only [lib.hly]))
 (refine lib.tk 8 rfl ?_; (try simp only [lib.hly]))
 (refine lib.tk 9 rfl ?_; (try simp only [lib.hly]))
 (refine lib.tk 10 rfl ?_ (fun _ hSw => exec_ld_int rfl rfl (hSw.2.1.2 0 _ rfl)); (try simp only [lib.hly]))
 (refine lib.tk 11 rfl ?_; (try simp only [lib.hly]))
 (refine lib.tk 12 rfl ?_; (try simp only [lib.hly]))
 (refine lib.tk 13 rfl ?_ (fun _ hSw => exec_ld_int rfl rfl (hSw.2.1.2 1 _ rfl)); (try simp only [lib.hly]))
 (refine lib.tk 14 rfl ?_; (try simp only [lib.hly]))
 (refine lib.tk 15 rfl ?_; (try simp only [lib.hly]))
 (refine lib.tk 16 rfl ?_ (fun _ hSw => exec_ld_int rfl rfl (hSw.2.1.2 2 _ rfl)); (try simp only [lib.hly]))
 (refine lib.tk 17 rfl ?_; (try simp only [lib.hly]))
 (refine lib.tk 18 rfl ?_; (try simp only [lib.hly]))
 (refine lib.tk 19 rfl ?_ (fun _ hSw => exec_ld_int rfl rfl (hSw.2.1.2 3 _ rfl)); (try simp only [lib.hly]))
 (refine lib.tk 20 rfl ?_; (try simp only [lib.hly]))
 (refine lib.tk 21 rfl ?_; (try simp only [lib.hly]))
 (refine lib.tk 22 rfl ?_ (fun _ hSw => exec_ld_int rfl rfl (hSw.2.1.2 4 _ rfl)); (try simp only [lib.hly]))
 (refine lib.tk 23 rfl ?_; (try simp only [lib.hly]))
 (refine lib.tk 24 rfl ?_; (try simp only [lib.hly]))
 (refine lib.tk 25 rfl ?_ (fun _ hSw => exec_ld_str rfl rfl hSw.1.2.2); (try simp only [lib.hly]))
 refine wpAnyH_take (i := 26) (v := .bool f) rfl (by kernel_rfl) (by kernel_rfl) (by kernel_rfl) (fun _ _ _ h => h) (Or.inl ⟨by kernel_rfl, ?_⟩) (by assumption) ?_
 ·intro w hSw
  go_simp
 (try simp only [lib.hly])
 refine wpAnyH_take (i := 27) (v := .agg (OrdCells o B5 d5).toArray) rfl (by kernel_rfl) (by kernel_rfl) (by kernel_rfl) (fun _ _ _ h => h) (Or.inl ⟨by kernel_rfl, ?_⟩) (by assumption) ?_
 ·intro w hSw
  rw [HQQ.out]
  exact exec_buildX bOrdX _ rfl [(0, .string ⟨y1.toArray⟩), (1, .slice B5 c.length d5), (2, .agg (StpCells p).toArray), (3, .agg (StpCells q).toArray), (4, .int .i64 a0), (5, .int .i64 a1), (6, .int .i64 a2), (7, .int .i64 a3), (8, .int .i64 a4), (9, .bool f)] (OrdCells ⟨⟨y1.toArray⟩, c, p, q, a0, a1, a2, a3, a4, f⟩ B5 d5) rfl (ordX_fill ⟨y1.toArray⟩ c p q a0 a1 a2 a3 a4 f B5 d5)
 (try simp only [lib.hly])
 refine wpAnyH_ready (rs := [1, 28]) (by kernel_rfl) (by simp) ?_
 refine AllReadyH.cons rfl (fun K hK => ?_) (AllReadyH.cons rfl (fun K hK => ?_) AllReadyH.nil)
 ·go_simp
  refine hK.out _ _ (HGd.out) (fun hHeld => ?_)
  clear hK K
  (try simp only [lib.hly])
  (refine lib.rk 28 rfl fun K hK => ?_)
  refine step_bsliceL ord_elem rfl 1 [(0, Operand.tmp 99)] rfl [(0, .agg (OrdCells o B5 d5).toArray)] (OrdCells o B5 d5) (OrdCells zOr none 0) rfl (by decide) (by decide) zs_ord (ord_fill o B5 d5) ?_
  obtain ⟨W8, hW8⟩ : ∃ W, wd.alloc (.cells (OrdCells o B5 d5).toArray 66) = W := ⟨_, rfl⟩
  have hb8 : Below wd.heap.size wd W8 := by rw [← hW8]; exact (Below.refl _ _).alloc (Nat.le_refl _) _
  have HA8 : Hid (∀ (j : Nat) (u : Value), (OrdCells o B5 d5)[j]? = some u → W8.cell? ((⟨wd.heap.size, 0, none⟩ : Addr).add j) = some u) := Lib.hid (by rw [← hW8]; exact (Blk.new wd _ _).cells)
  have HX8 := Lib.hid (HXd.out.below hb8)
  have HG8 := Lib.hid (HGd.out.below hb8)
  have HO85 := Lib.hid (own_below HOd5.out hb8)
  rw [hW8]
  clear hW8 hb8
  refine hK.out _ _ (HG8.out) (fun hHeld => ?_)
  clear hK K
  (try simp only [lib.hly])
  obtain ⟨cs, hco, hce⟩ := HX8.out.rows.r3.ex
  have HCO := Lib.hid hco
  have HCE := Lib.hid hce
  clear hco hce
  (refine lib.rk 29 rfl fun K hK => ?_)
  refine step_app ord_elem _ _ rfl 0 P.a3 x.orders.length P.c3 cs rfl HCO.out ⟨wd.heap.size, 0, none⟩ 1 (OrdCells o B5 d5) rfl rfl HA8.out (ord_one _ _ _) (by omega) (Nat.zero_le _) rfl ?_
  intro g9 c9 w9 hown9 hg9 hd9
  have hgi : W8.grownBy w9 (G 3) := by rw [HX8.out.rows.r3.own]; exact hg9
  have hne : ∀ b, w.heap.size ≤ b → some b ≠ G 3 := fun b hb e => by have := HX8.out.far 3 b e.symm; omega
  have HB9 := Lib.hid (HX8.out.boxk 3 hgi)
  have hcc := HB9.out.cell (j := 3) rfl
  have hcf := HB9.out.frozen 3
  have hz8 := HX8.out.lt
  have hqx : oOrd.at_ W8 (Avoid G (Zn Z w.heap.size)) (OrdCells o B5 d5) o := oOrd_mk (IntsOff.own HO85.out (by have := HLN.out; omega) (fun b hb => HX8.out.avoid (by omega))) HQO.out.2.1
  have HFI := Lib.hid (HX8.out.fin (i := 3) (g := g9) hgi (HX8.out.rows.add3 (fun q hq => ⟨HX8.out.new q (by omega), by omega, by omega⟩) HCE.out hqx hown9 hg9 hd9) (by rw [HX8.out.rows.r3.own]; exact hd9) 3 (.slice (some ⟨g9, 0, none⟩) (x.orders.length + 1) c9) (by simp [xCs, Lin.add]))
  have HG9 : Hid (OCel ad.block ad.off h pb qb y1 y10 [a0, a1, a2, a3, a4] p q w9) := Lib.hid (HG8.out.grown hgi (HNE.out 3) (hne h (by omega)) (hne pb (by omega)) (hne qb (by omega)))
  clear hown9 hg9 hd9 hgi hne hqx
  refine hK.out _ _ (HG9.out) (fun hHeld => ?_)
  clear hK K
  (try simp only [lib.hly])
  (refine lib.tk 30 rfl ?_; (try simp only [lib.hly]))
  (refine lib.rk 31 rfl fun K hK => ?_)
  go_simp
  obtain ⟨W9, hW9⟩ : ∃ W, w9.setCell ⟨w.heap.size, 3, none⟩ (.slice (some ⟨g9, 0, none⟩) (x.orders.length + 1) c9) = W := ⟨_, rfl⟩
  have HG10 : Hid (OCel ad.block ad.off h pb qb y1 y10 [a0, a1, a2, a3, a4] p q W9) := Lib.hid (by rw [← hW9]; exact HG9.out.set (by omega) (by omega) (by omega) (by omega))
  rw [hW9] at HFI ⊢
  clear hW9 hcc hcf
  refine hK.out _ _ (HG10.out) (fun hHeld => ?_)
  clear hK K
  (try simp only [lib.hly])
  (refine wpAnyH_done (by kernel_rfl) ?_ _)
  clear hHeld
  obtain ⟨x', hx'⟩ : ∃ x', R = some x' := ⟨_, HE.out⟩
  have HFX := Lib.hid (show ∃ P' G', RdE G Z x' w.heap.size w W9 P' G' by have h := HE.out.symm.trans hx'; obtain rfl := Option.some.inj h; exact ⟨_, _, HFI.out⟩)
  have HR' := Lib.hid hx'
  clear hx'
  obtain ⟨P', G', hfx⟩ := HFX.out
  have HFY := Lib.hid hfx
  clear hfx
  go_wp2_with (first | ((with_reducible refine wpList_loadG sIns _ rfl ⟨w.heap.size, 0, none⟩ (xCs x' P') ?_ ?_ ?_ ?_ ?_); exact rfl; exact rfl; exact HFY.out.box.cells; exact rfl) | ((with_reducible refine wpList_storeL sIns rfl _ _ rfl (w.heap.size + 1) (xCs nilX nilP) (xCs x' P') ?_ ?_ ?_ ?_ ?_ (xCs_one _ _) ?_); exact rfl; exact rfl; exact HFY.out.res; exact rfl; exact rfl; intro wz k1 k2 k3 k4; have K := lib.h4 k1 k2 k3 k4; clear k1 k2 k3 k4))
  refine bodyPost_ret (v := .tuple #[.agg (xCs x' P').toArray, .bool true]) (big.res_cell_tmp sIns Tryz.results74 rfl rfl (Blk.cells K.out.1) rfl) rfl ?_
  rw [HR'.out]
  exact HFY.out.out rfl K.out.2.1 K.out.2.2.1 K.out.2.2.2
 ·skip
  refine step_bsliceL ord_elem rfl 1 [(0, Operand.tmp 99)] rfl [(0, .agg (OrdCells o B5 d5).toArray)] (OrdCells o B5 d5) (OrdCells zOr none 0) rfl (by decide) (by decide) zs_ord (ord_fill o B5 d5) ?_
  obtain ⟨W8, hW8⟩ : ∃ W, wd.alloc (.cells (OrdCells o B5 d5).toArray 66) = W := ⟨_, rfl⟩
  have hb8 : Below wd.heap.size wd W8 := by rw [← hW8]; exact (Below.refl _ _).alloc (Nat.le_refl _) _
  have HA8 : Hid (∀ (j : Nat) (u : Value), (OrdCells o B5 d5)[j]? = some u → W8.cell? ((⟨wd.heap.size, 0, none⟩ : Addr).add j) = some u) := Lib.hid (by rw [← hW8]; exact (Blk.new wd _ _).cells)
  have HX8 := Lib.hid (HXd.out.below hb8)
  have HG8 := Lib.hid (HGd.out.below hb8)
  have HO85 := Lib.hid (own_below HOd5.out hb8)
  rw [hW8]
  clear hW8 hb8
  refine hK.out _ _ (HG8.out) (fun hHeld => ?_)
  clear hK K
  (try simp only [lib.hly])
  have hb8c := HX8.out.box.cell (j := 3) rfl
  (refine lib.rk 1 rfl fun K hK => ?_)
  go_simp
  refine hK.out _ _ (HG8.out) (fun hHeld => ?_)
  clear hK K
  (try simp only [lib.hly])
  clear hb8c
  obtain ⟨cs, hco, hce⟩ := HX8.out.rows.r3.ex
  have HCO := Lib.hid hco
  have HCE := Lib.hid hce
  clear hco hce
  (refine lib.rk 29 rfl fun K hK => ?_)
  refine step_app ord_elem _ _ rfl 0 P.a3 x.orders.length P.c3 cs rfl HCO.out ⟨wd.heap.size, 0, none⟩ 1 (OrdCells o B5 d5) rfl rfl HA8.out (ord_one _ _ _) (by omega) (Nat.zero_le _) rfl ?_
  intro g9 c9 w9 hown9 hg9 hd9
  have hgi : W8.grownBy w9 (G 3) := by rw [HX8.out.rows.r3.own]; exact hg9
  have hne : ∀ b, w.heap.size ≤ b → some b ≠ G 3 := fun b hb e => by have := HX8.out.far 3 b e.symm; omega
  have HB9 := Lib.hid (HX8.out.boxk 3 hgi)
  have hcc := HB9.out.cell (j := 3) rfl
  have hcf := HB9.out.frozen 3
  have hz8 := HX8.out.lt
  have hqx : oOrd.at_ W8 (Avoid G (Zn Z w.heap.size)) (OrdCells o B5 d5) o := oOrd_mk (IntsOff.own HO85.out (by have := HLN.out; omega) (fun b hb => HX8.out.avoid (by omega))) HQO.out.2.1
  have HFI := Lib.hid (HX8.out.fin (i := 3) (g := g9) hgi (HX8.out.rows.add3 (fun q hq => ⟨HX8.out.new q (by omega), by omega, by omega⟩) HCE.out hqx hown9 hg9 hd9) (by rw [HX8.out.rows.r3.own]; exact hd9) 3 (.slice (some ⟨g9, 0, none⟩) (x.orders.length + 1) c9) (by simp [xCs, Lin.add]))
  have HG9 : Hid (OCel ad.block ad.off h pb qb y1 y10 [a0, a1, a2, a3, a4] p q w9) := Lib.hid (HG8.out.grown hgi (HNE.out 3) (hne h (by omega)) (hne pb (by omega)) (hne qb (by omega)))
  clear hown9 hg9 hd9 hgi hne hqx
  refine hK.out _ _ (HG9.out) (fun hHeld => ?_)
  clear hK K
  (try simp only [lib.hly])
  (refine lib.tk 30 rfl ?_; (try simp only [lib.hly]))
  (refine lib.rk 31 rfl fun K hK => ?_)
  go_simp
  obtain ⟨W9, hW9⟩ : ∃ W, w9.setCell ⟨w.heap.size, 3, none⟩ (.slice (some ⟨g9, 0, none⟩) (x.orders.length + 1) c9) = W := ⟨_, rfl⟩
  have HG10 : Hid (OCel ad.block ad.off h pb qb y1 y10 [a0, a1, a2, a3, a4] p q W9) := Lib.hid (by rw [← hW9]; exact HG9.out.set (by omega) (by omega) (by omega) (by omega))
  rw [hW9] at HFI ⊢
  clear hW9 hcc hcf
  refine hK.out _ _ (HG10.out) (fun hHeld => ?_)
  clear hK K
  (try simp only [lib.hly])
  (refine wpAnyH_done (by kernel_rfl) ?_ _)
  clear hHeld
  obtain ⟨x', hx'⟩ : ∃ x', R = some x' := ⟨_, HE.out⟩
  have HFX := Lib.hid (show ∃ P' G', RdE G Z x' w.heap.size w W9 P' G' by have h := HE.out.symm.trans hx'; obtain rfl := Option.some.inj h; exact ⟨_, _, HFI.out⟩)
  have HR' := Lib.hid hx'
  clear hx'
  obtain ⟨P', G', hfx⟩ := HFX.out
  have HFY := Lib.hid hfx
  clear hfx
  go_wp2_with (first | ((with_reducible refine wpList_loadG sIns _ rfl ⟨w.heap.size, 0, none⟩ (xCs x' P') ?_ ?_ ?_ ?_ ?_); exact rfl; exact rfl; exact HFY.out.box.cells; exact rfl) | ((with_reducible refine wpList_storeL sIns rfl _ _ rfl (w.heap.size + 1) (xCs nilX nilP) (xCs x' P') ?_ ?_ ?_ ?_ ?_ (xCs_one _ _) ?_); exact rfl; exact rfl; exact HFY.out.res; exact rfl; exact rfl; intro wz k1 k2 k3 k4; have K := lib.h4 k1 k2 k3 k4; clear k1 k2 k3 k4))
  refine bodyPost_ret (v := .tuple #[.agg (xCs x' P').toArray, .bool true]) (big.res_cell_tmp sIns Tryz.results74 rfl rfl (Blk.cells K.out.1) rfl) rfl ?_
  rw [HR'.out]
  exact HFY.out.out rfl K.out.2.1 K.out.2.2.1 K.out.2.2.2
end Go.Proofs.YthefooacfcagbaaGreatDoor.spc

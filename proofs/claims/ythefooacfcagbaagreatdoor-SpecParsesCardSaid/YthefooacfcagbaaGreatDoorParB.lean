import Derived.Test.YthefooacfcagbaaGreatDoorParX
/- spec.Parse. -/
namespace Go.Proofs.YthefooacfcagbaaGreatDoor.spc
open Go.RowKit
open lib rd app els typ big gen off
open ins (InP InAt InV)
open flt (Fown FltsOut)
open txt (in64 By strV strV_of)
set_option linter.unusedVariables false
set_option linter.unusedSimpArgs false
def strSz : Value → Nat
 | .string b => b.size
 | _ => 0
theorem XB.below {w w' : World} {xb : Nat} {x : Ins} {P : InP} (h : XB w xb x P) (hb : Below w.heap.size w w') : XB w' xb x P := by
 obtain ⟨G, h1, h2⟩ := h
 exact ⟨G, h1.below hb, h2.below hb⟩
theorem rank_end (w : World) : Calls Tryz.prog 30 #[.string ⟨#[101, 110, 100]⟩] w fun e w' => e = .returned (.int .i64 7) ∧ Below w.heap.size w w' := rank_any [101, 110, 100] w
theorem scut_any (r : By) (hm : r.length ≤ 100000) (w : World) (ht : TabS w) :
  Calls Tryz.prog 28 #[.string ⟨r.toArray⟩, .string ⟨#[10]⟩] w fun e w' => e = .returned (.tuple #[.string ⟨(Lib.cut r [10]).1.toArray⟩, .string ⟨(Lib.cut r [10]).2.1.toArray⟩, .bool (Lib.cut r [10]).2.2]) ∧ Below w.heap.size w w' := by
 obtain ⟨m, hm0⟩ := ht.max
 have hz : (⟨r.toArray⟩ : ByteArray).size = r.length := by simp [ByteArray.size]
 have h := Tryz.strings_Cut ⟨r.toArray⟩ ⟨#[10]⟩ m w (by rw [hz]; omega) hm0
 rw [show (⟨r.toArray⟩ : ByteArray).data.toList = r by simp, show (⟨#[10]⟩ : ByteArray).data.toList = [10] from rfl] at h
 refine h.mono ?_
 rintro e w' ⟨rfl, n, rfl⟩
 exact ⟨rfl, bel_drewN (Below.refl _ _) n⟩
def ParOutZ (w : World) (r : Ins × Int × Int) (e : Ending) (w' : World) : Prop := ∃ P, e = .returned (.tuple #[InV r.1 P, .int .i64 r.2.1, .int .i64 r.2.2]) ∧ InAt w' w'.heap.size r.1 P ∧ Below w.heap.size w w' ∧ ∀ w'' : World, w'.heap.size ≤ w''.heap.size → (∀ q, w.heap.size < q → q < w'.heap.size → w''.heap[q]? = w'.heap[q]?) → InAt w'' w''.heap.size r.1 P
set_option maxRecDepth 20000 in
set_option maxHeartbeats 4000000 in
theorem parseZ_any (F : Ins → List Flt) (s : By) (hs : s.length ≤ 1000000000) (w : World) (ht : TabS w)
  (HC : ∀ (x : Ins) (Q : InP) (w' : World), prsP (splt 10 s) 1 0 nilX = (some x, 0) → Below w.heap.size w w' → InAt w' w'.heap.size x Q → Calls Tryz.prog 19 #[InV x Q] w' (FltsOut w' (F x))) :
  Calls Tryz.prog 11 #[.string ⟨s.toArray⟩] w (ParOutZ w (parF F s)) := by
 obtain ⟨R, hR⟩ : ∃ R, parF F s = R := ⟨_, rfl⟩
 have HR := Lib.hid hR
 have HCH := Lib.hid HC
 have HTB := Lib.hid ht.at_
 rw [hR]
 clear hR HC ht
 obtain ⟨w0, hw0⟩ : ∃ W, w.alloc (.cells (xCs nilX nilP).toArray 30) = W := ⟨_, rfl⟩
 have HW0 := Lib.hid (show w.alloc (.cells #[.slice none 0 0, .slice none 0 0, .slice none 0 0, .slice none 0 0, .slice none 0 0, .slice none 0 0] 30) = w0 from hw0)
 have HB0 : Hid (Blk w0 w.heap.size 30 (xCs nilX nilP)) := Lib.hid (by rw [← hw0]; exact Blk.new w _ _)
 have HL0 : Hid (Below w.heap.size w w0) := Lib.hid (by rw [← hw0]; exact (Below.refl _ _).alloc (Nat.le_refl _) _)
 obtain ⟨n0, hn0⟩ : ∃ n, s.length = n := ⟨_, rfl⟩
 have HN0 := Lib.hid hn0
 have hsz : (⟨s.toArray⟩ : ByteArray).size = n0 := by rw [← hn0]; simp [ByteArray.size]
 have HPO : Hid (∀ (Q : InP) (wz : World), R.1 = nilX → Below w.heap.size w wz → ParOutZ w R (.returned (.tuple #[InV nilX nilP, .int .i64 R.2.1, .int .i64 R.2.2])) wz) := Lib.hid (fun Q wz h1 hb => ⟨nilP, by rw [h1], by rw [h1]; exact nilX_at wz, hb, fun w'' _ _ => by rw [h1]; exact nilX_at w''⟩)
 clear hw0
 go_enter Tryz.func11, Tryz.ntmps11
 go_upto_region 1 with fail
 rw [HW0.out]
 clear HW0
 have hz0 := HB0.out.lt
 by_cases hbig : 65536 < n0
 ·have hbi : (65536 : Int) < (n0 : Int) := by omega
  have HE : Hid (R = (nilX, 0, 4)) := Lib.hid (by rw [← HR.out, parF_big (by rw [HN0.out]; exact hbig)])
  clear hn0
  go_wp2_with ((with_reducible refine wpList_storeL sIns rfl _ _ rfl (w.heap.size) (xCs nilX nilP) (xCs nilX nilP) ?_ ?_ ?_ ?_ ?_ (xCs_one _ _) ?_); exact rfl; exact rfl; exact HB0.out; exact rfl; exact rfl; intro wz k1 k2 k3 k4; have K := lib.h4 k1 k2 k3 k4; clear k1 k2 k3 k4)
  refine bodyPost_ret (v := .tuple #[.agg (xCs nilX nilP).toArray, .int .i64 0, .int .i64 4]) (res_cell_two sIns Tryz.results11 rfl rfl rfl (Blk.cells K.out.1) rfl) rfl ?_
  have h := HPO.out nilP wz (by rw [HE.out]) (HL0.out.trans K.out.2.2.2)
  rw [HE.out] at h ⊢
  exact h
 have hbi : ¬ (65536 : Int) < (n0 : Int) := by omega
 have HNB : Hid (¬ 65536 < s.length) := Lib.hid (by rw [hn0]; exact hbig)
 clear hn0
 obtain ⟨xb, hxb⟩ : ∃ xb, w0.heap.size = xb := ⟨_, rfl⟩
 obtain ⟨w1, hw1⟩ : ∃ W, w0.alloc (.cells (xCs nilX nilP).toArray 30) = W := ⟨_, rfl⟩
 have HW1 := Lib.hid (show w0.alloc (.cells #[.slice none 0 0, .slice none 0 0, .slice none 0 0, .slice none 0 0, .slice none 0 0, .slice none 0 0] 30) = w1 from hw1)
 have HBX1 : Hid (XB w1 xb nilX nilP) := Lib.hid ⟨_, XG.start _ _, by rw [← hw1, ← hxb]; exact Blk.new w0 _ _⟩
 have HBH1 : Hid (Blk w1 w.heap.size 30 (xCs nilX nilP)) := Lib.hid (by rw [← hw1]; exact HB0.out.kept (World.grownBy_alloc _ _ none) (by simp))
 have HL1 : Hid (Below w.heap.size w w1) := Lib.hid (by rw [← hw1]; exact HL0.out.alloc (by omega) _)
 have HXB := Lib.hid hxb
 have hxz : w.heap.size < xb := by omega
 go_upto_region 4 with fail
 rw [HW1.out]
 clear HW1 hw1 hxb
 go_upto_region 7 with fail
 go_loopw [0, 6, 7] (fun sv lv nv wr => Below w.heap.size w wr ∧ Blk wr w.heap.size 30 (xCs nilX nilP) ∧ ∃ (r : By) (n last : Nat) (x : Ins) (P : InP), sv = .string ⟨r.toArray⟩ ∧ lv = .int .i64 last ∧ nv = .int .i64 n ∧ 1 ≤ n ∧ last ≤ 7 ∧ n + r.length ≤ 70000 ∧ Hid ((rowsI x).length < n) ∧ Hid (prsP (splt 10 s) 1 0 nilX = prsP (splt 10 r) n last x) ∧ Hid (XB wr xb x P)) (fun sv _ _ _ => strSz sv)
 case atStart => exact ⟨HL1.out, HBH1.out, s, 1, 0, nilX, nilP, rfl, rfl, rfl, by omega, by omega, by rw [HN0.out]; omega, Lib.hid (by decide), Lib.hid rfl, HBX1⟩
 case round =>
  obtain ⟨hb, hbh, r, n, last, x, P, rfl, rfl, rfl, hn1, hl7, hnr, hrw, hprs, hxbx⟩ := hrel
  have HBW := Lib.hid hb
  have HBH := Lib.hid hbh
  have hbz := hb.size
  have hbhz := hbh.lt
  clear hb hbh
  have hsc := scut_any r (by omega) wr (HTB.out.below HBW.out).now
  rcases cut_splt r with ⟨l, r2, h1, h2, h3⟩ | ⟨h1, h2⟩
  rotate_left
  ·have HE : Hid (R = (nilX, (n : Int), 3)) := Lib.hid (by rw [← HR.out, parF_none HNB.out (hprs.out.trans (by rw [h2]; rfl))])
   rw [h1] at hsc
   have HSC := Lib.hid hsc
   clear hsc h1 h2
   go_wp2_with (first
    | (go_at_call 28; refine HSC.out.mono ?_; rintro e w2 ⟨rfl, b2⟩; have HB2 := Lib.hid (HBH.out.below b2); have HW2 := Lib.hid (HBW.out.trans (b2.mono hbz)))
    | ((with_reducible refine wpList_storeL sIns rfl _ _ rfl (w.heap.size) (xCs nilX nilP) (xCs nilX nilP) ?_ ?_ ?_ ?_ ?_ (xCs_one _ _) ?_); exact rfl; exact rfl; exact HB2.out; exact rfl; exact rfl; intro wz k1 k2 k3 k4; have K := lib.h4 k1 k2 k3 k4; clear k1 k2 k3 k4))
   refine bodyPost_ret (v := .tuple #[.agg (xCs nilX nilP).toArray, .int .i64 n, .int .i64 3]) (res_cell_two sIns Tryz.results11 rfl rfl rfl (Blk.cells K.out.1) rfl) rfl ?_
   have h := HPO.out nilP wz (by rw [HE.out]) (HW2.out.trans K.out.2.2.2)
   rw [HE.out] at h ⊢
   exact h
  rw [h1] at hsc
  have HSC := Lib.hid hsc
  have HST := Lib.hid ((hprs.out.trans (congrArg (fun L => prsP L n last x) h3)).trans (prsP_step l r2 n last x))
  clear hsc h1 h3
  go_upto_region 10 with (go_at_call 28; refine HSC.out.mono ?_; rintro e w2 ⟨rfl, b2⟩; have HB2 := Lib.hid (HBH.out.below b2); have HW2 := Lib.hid (HBW.out.trans (b2.mono hbz)); have HX2 := Lib.hid (XB.below hxbx.out b2))
  have hsm := sm_of (x := x) (by have := hrw.out; omega)
  have HLN := Lib.hid (line_any l (by omega) xb x P w2 ((HTB.out.below HW2.out).more (by omega)) HX2.out hsm)
  clear hsm
  go_upto_region 11 with (go_at_call 29; refine HLN.out.mono ?_; rintro e w3 ⟨b3, ⟨q, P3, hlo, rfl, hx3⟩ | ⟨hno, rfl⟩⟩)
  rotate_left
  ·have HE : Hid (R = (nilX, (n : Int), 3)) := Lib.hid (by rw [← HR.out, parF_none HNB.out (HST.out.trans (by rw [rowO_none hno]))])
   have HB3 := Lib.hid (show Blk w3 w.heap.size 30 (xCs nilX nilP) from (b3.block w.heap.size hxz).trans HB2.out)
   have HW3 := Lib.hid (HW2.out.trans (b3.mono (by omega)))
   clear b3 hno
   go_wp2_with ((with_reducible refine wpList_storeL sIns rfl _ _ rfl (w.heap.size) (xCs nilX nilP) (xCs nilX nilP) ?_ ?_ ?_ ?_ ?_ (xCs_one _ _) ?_); exact rfl; exact rfl; exact HB3.out; exact rfl; exact rfl; intro wz k1 k2 k3 k4; have K := lib.h4 k1 k2 k3 k4; clear k1 k2 k3 k4)
   refine bodyPost_ret (v := .tuple #[.agg (xCs nilX nilP).toArray, .int .i64 n, .int .i64 3]) (res_cell_two sIns Tryz.results11 rfl rfl rfl (Blk.cells K.out.1) rfl) rfl ?_
   have h := HPO.out nilP wz (by rw [HE.out]) (HW3.out.trans K.out.2.2.2)
   rw [HE.out] at h ⊢
   exact h
  have HB3 := Lib.hid (show Blk w3 w.heap.size 30 (xCs nilX nilP) from (b3.block w.heap.size hxz).trans HB2.out)
  have HW3 := Lib.hid (HW2.out.trans (b3.mono (by omega)))
  have HX3 := Lib.hid hx3
  have HS2 := Lib.hid (HST.out.trans (by rw [rowO_of hlo]))
  have hz3 := b3.size
  obtain ⟨k, hk⟩ : ∃ k, q.rank = k := ⟨_, rfl⟩
  have hkr := rank_le q
  have HK := Lib.hid hk
  rw [hk] at hkr ⊢
  clear b3 hx3 hlo hk HST
  have hk0 : ¬ (k : Int) = 0 := by omega
  have hk0b : ((k : Int) == 0) = false := by simpa using hk0
  by_cases hlt : k < last
  ·have HE : Hid (R = (nilX, (n : Int), 3)) := Lib.hid (by rw [← HR.out, parF_none HNB.out (HS2.out.trans (by dsimp only; rw [if_pos (by rw [HK.out]; exact hlt)]))])
   have hli : (k : Int) < (last : Int) := by omega
   go_wp2_with ((with_reducible refine wpList_storeL sIns rfl _ _ rfl (w.heap.size) (xCs nilX nilP) (xCs nilX nilP) ?_ ?_ ?_ ?_ ?_ (xCs_one _ _) ?_); exact rfl; exact rfl; exact HB3.out; exact rfl; exact rfl; intro wz k1 k2 k3 k4; have K := lib.h4 k1 k2 k3 k4; clear k1 k2 k3 k4)
   refine bodyPost_ret (v := .tuple #[.agg (xCs nilX nilP).toArray, .int .i64 n, .int .i64 3]) (res_cell_two sIns Tryz.results11 rfl rfl rfl (Blk.cells K.out.1) rfl) rfl ?_
   have h := HPO.out nilP wz (by rw [HE.out]) (HW3.out.trans K.out.2.2.2)
   rw [HE.out] at h ⊢
   exact h
  have hli : ¬ (k : Int) < (last : Int) := by omega
  by_cases h7 : k = 7
  rotate_left
  ·have h7i : ¬ (k : Int) = 7 := by omega
   have h7b : ((k : Int) == 7) = false := by simpa using h7i
   have HS3 := Lib.hid (HS2.out.trans (show _ = prsP (splt 10 r2) (n + 1) k (q.add x) by dsimp only; rw [if_neg (by rw [HK.out]; exact hlt), if_neg (by rw [HK.out]; exact h7), HK.out]))
   have hrwa := rows_add x q
   go_wp2_with (go_at_call 30; refine (rank_end _).mono ?_; rintro e w4 ⟨rfl, b4⟩; have HB4 := Lib.hid (HB3.out.below b4); have HW4 := Lib.hid (HW3.out.trans (b4.mono HW3.out.size)); have HX4 := Lib.hid (XB.below HX3.out b4))
   go_roundw
   case rel => exact ⟨HW4.out, HB4.out, r2, n + 1, k, q.add x, P3, rfl, rfl, by go_num, by omega, by omega, by omega, Lib.hid (by have := hrw.out; omega), HS3, HX4⟩
   case measure => simp [strSz, ByteArray.size]; omega
  subst h7
  have HQF := Lib.hid (fin_rank HK.out)
  have hl7' : ¬ (7 : Int) < (last : Int) := by omega
  have HX5 : Hid (XB w3 xb x P3) := Lib.hid (by have h := HX3.out; rw [HQF.out] at h; exact h)
  by_cases hr2 : r2 = []
  rotate_left
  ·have HE : Hid (R = (nilX, ((n + 1 : Nat) : Int), 3)) := Lib.hid (by rw [← HR.out, parF_none HNB.out (HS2.out.trans (by dsimp only; rw [if_neg (by rw [HK.out]; exact hlt), if_pos HK.out, if_neg hr2]))])
   have hr2b : (r2 == []) = false := beq_eq_false_iff_ne.2 hr2
   go_wp2_with (first
    | (go_at_call 30; refine (rank_end _).mono ?_; rintro e w4 ⟨rfl, b4⟩; have HB4 := Lib.hid (HB3.out.below b4); have HW4 := Lib.hid (HW3.out.trans (b4.mono HW3.out.size)))
    | ((with_reducible refine wpList_storeL sIns rfl _ _ rfl (w.heap.size) (xCs nilX nilP) (xCs nilX nilP) ?_ ?_ ?_ ?_ ?_ (xCs_one _ _) ?_); exact rfl; exact rfl; exact HB4.out; exact rfl; exact rfl; intro wz k1 k2 k3 k4; have K := lib.h4 k1 k2 k3 k4; clear k1 k2 k3 k4))
   refine bodyPost_ret (v := .tuple #[.agg (xCs nilX nilP).toArray, .int .i64 ((n + 1 : Nat) : Int), .int .i64 3]) (res_cell_two sIns Tryz.results11 rfl rfl rfl (Blk.cells K.out.1) rfl) rfl ?_
   have h := HPO.out nilP wz (by rw [HE.out]) (HW4.out.trans K.out.2.2.2)
   rw [HE.out] at h ⊢
   exact h
  subst hr2
  have HPR := Lib.hid (HS2.out.trans (show _ = (some x, 0) by dsimp only; rw [if_neg (by rw [HK.out]; exact hlt), if_pos HK.out, if_pos rfl]))
  have HSM := Lib.hid (sm_of (x := x) (by have := hrw.out; omega))
  clear HS2
  go_upto_region 17 with (go_at_call 30; refine (rank_end _).mono ?_; rintro e w4 ⟨rfl, b4⟩; have HB4 := Lib.hid (HB3.out.below b4); have HW4 := Lib.hid (HW3.out.trans (b4.mono HW3.out.size)); have HX4 := Lib.hid (XB.below HX5.out b4); have hz4 := b4.size)
  obtain ⟨G, hXG, hXK⟩ := HX4.out
  have HXG := Lib.hid hXG
  have HXK := Lib.hid hXK
  clear hXG hXK
  go_wp2_with ((with_reducible refine wpList_loadG sIns _ rfl ⟨xb, 0, none⟩ (xCs x P3) ?_ ?_ ?_ ?_ ?_); exact rfl; exact rfl; exact HXK.out.cells; exact rfl)
  refine (HCH.out x P3 w4 HPR.out HW4.out (HXG.out.at_ HSM.out)).mono ?_
  rintro e w5 ⟨Af, cf, rfl, hownF, b5⟩
  have hz5 := b5.size
  have HB5 := Lib.hid (HB4.out.below b5)
  have HW5 := Lib.hid (HW4.out.trans (b5.mono HW4.out.size))
  have HXG5 := Lib.hid (HXG.out.below b5)
  have HXK5 := Lib.hid (HXK.out.below b5)
  clear b5
  cases hF : F x
  case nil =>
   have HE : Hid (R = (x, 0, 0)) := Lib.hid (by rw [← HR.out, parF_ok HNB.out HPR.out hF])
   clear hF hownF
   go_wp2_with (first
    | ((with_reducible refine wpList_loadG sIns _ rfl ⟨xb, 0, none⟩ (xCs x P3) ?_ ?_ ?_ ?_ ?_); exact rfl; exact rfl; exact HXK5.out.cells; exact rfl)
    | ((with_reducible refine wpList_storeL sIns rfl _ _ rfl (w.heap.size) (xCs nilX nilP) (xCs x P3) ?_ ?_ ?_ ?_ ?_ (xCs_one _ _) ?_); exact rfl; exact rfl; exact HB5.out; exact rfl; exact rfl; intro wz k1 k2 k3 k4; have K := lib.h4 k1 k2 k3 k4; clear k1 k2 k3 k4))
   refine bodyPost_ret (v := .tuple #[.agg (xCs x P3).toArray, .int .i64 0, .int .i64 0]) (res_cell_two sIns Tryz.results11 rfl rfl rfl (Blk.cells K.out.1) rfl) rfl ?_
   rw [HE.out]
   obtain ⟨k1, k2, k3, k4⟩ := K.out
   refine ⟨P3, rfl, (HXG5.out.keep (Z' := fun q => xb < q) (Nat.le_of_eq k3.symm) fun q hq hz => ⟨hz, k2 q (by have hz' : xb < q := hz; omega)⟩).at_ HSM.out, HW5.out.trans k4, fun w'' hs hk => (HXG5.out.keep (Z' := fun q => xb < q) (Nat.le_trans (Nat.le_of_eq k3.symm) hs) fun q hq hz => ⟨hz, ?_⟩).at_ HSM.out⟩
   have hz' : xb < q := hz
   exact (hk q (by omega) (by omega)).trans (k2 q (by omega))
  case cons f fs =>
   have HE : Hid (R = (nilX, 0, f.err)) := Lib.hid (by rw [← HR.out, parF_bad HNB.out HPR.out hF])
   rw [hF] at hownF
   obtain ⟨g, hg1, hg2, hg3⟩ := net.flt_place hownF
   obtain ⟨hgA, hgs⟩ := hg2 (by simp)
   obtain ⟨g0, -⟩ := hg3 0 f rfl
   subst hgA
   have gl : (0 : Int) < (fs.length : Int) + 1 := by omega
   have q0 : w5.cell? ⟨g, 0, none⟩ = some (.int .i64 f.err) := by simpa using g0
   have hgne : g ≠ w.heap.size := by have := hgs; have := HB4.out.lt; omega
   clear hF hownF hg2 hg3 g0
   go_upto_region 19 with fail
   (refine wp_region_held_drew (S := (fun w' => w'.cell? ⟨g, 0, none⟩ = some (.int .i64 f.err))) (by kernel_rfl) ?_ (fun hHeld => ?_))
   ·exact q0
   (refine lib.tk 0 rfl ?_; (try simp only [lib.hly]))
   (refine lib.tk 1 rfl ?_; (try simp only [lib.hly]))
   (refine lib.tk 2 rfl ?_; (try simp only [lib.hly]))
   (refine lib.tk 3 rfl ?_; (try simp only [lib.hly]))
   (refine lib.tk 4 rfl ?_; (try simp only [lib.hly]))
   (refine lib.rk 5 rfl fun K hK => ?_)
   refine step_storeL sIns rfl _ _ rfl w.heap.size (xCs nilX nilP) (xCs nilX nilP) rfl rfl HB5.out rfl rfl (xCs_one _ _) ?_
   intro w6 k1 k2 k3 k4
   have q3 : w6.cell? ⟨g, 0, none⟩ = some (.int .i64 f.err) := (World.cell?_of_block (a := ⟨g, 0, none⟩) (k2 g hgne)).trans q0
   have HK6 := Lib.hid (show Blk w6 w.heap.size 30 (xCs nilX nilP) from k1)
   have HW6 := Lib.hid (HW5.out.trans (((Below.refl w.heap.size w5).drew).trans k4))
   clear k1 k2 k3 k4
   refine hK.out _ _ (q3) (fun hHeld => ?_)
   clear hK K
   (try simp only [lib.hly])
   (refine lib.tk 6 rfl ?_; (try simp only [lib.hly]))
   (refine lib.tk 7 rfl ?_; (try simp only [lib.hly]))
   (refine wpAnyH_done (by kernel_rfl) ?_ _)
   clear q0 q3 hHeld
   go_wp2
   refine bodyPost_ret (v := .tuple #[.agg (xCs nilX nilP).toArray, .int .i64 0, .int .i64 f.err]) (res_cell_two sIns Tryz.results11 rfl rfl rfl (Blk.cells HK6.out) rfl) rfl ?_
   have h := HPO.out nilP w6 (by rw [HE.out]) HW6.out
   rw [HE.out] at h ⊢
   exact h
theorem parse_any (F : Ins → List Flt) (s : By) (hs : s.length ≤ 1000000000) (w : World) (ht : TabS w)
  (HC : ∀ (x : Ins) (Q : InP) (w' : World), prsP (splt 10 s) 1 0 nilX = (some x, 0) → Below w.heap.size w w' → InAt w' w'.heap.size x Q → Calls Tryz.prog 19 #[InV x Q] w' (FltsOut w' (F x))) :
  Calls Tryz.prog 11 #[.string ⟨s.toArray⟩] w (ParOut w (parF F s)) :=
 (parseZ_any F s hs w ht HC).mono fun e w' ⟨P, h1, h2, h3, _⟩ => ⟨P, h1, h2, h3⟩
end Go.Proofs.YthefooacfcagbaaGreatDoor.spc

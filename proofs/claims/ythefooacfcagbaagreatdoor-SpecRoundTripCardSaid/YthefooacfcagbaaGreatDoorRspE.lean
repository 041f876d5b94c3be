/- The reference's Print. -/
import Derived.Test.YthefooacfcagbaaGreatDoorRspD
import Derived.Test.YthefooacfcagbaaGreatDoorPrnB
namespace Go.Proofs.YthefooacfcagbaaGreatDoor.spc
open Go.RowKit
open lib rd app els typ big gen off
open ins (InP InAt InV)
open flt (Fown FltsOut)
open txt (in64 By strV strV_of joinS)
set_option linter.unusedVariables false
set_option linter.unusedSimpArgs false
theorem app_data (Y N : ByteArray) : (Y ++ N : ByteArray).data.toList = Y.data.toList ++ N.data.toList := by simp
theorem wr_size {x : Ins} (hx : PrOk x) {m : Nat} {Y : ByteArray} (h : Y.data.toList = wrB x m) : Y.size ≤ 10000000 := by
 have h1 := linesB_le (allR x) m
 have h2 := hx.big
 have h3 : (textI x).length = (linesB (allR x)).length := rfl
 rw [← toList_len, h]
 unfold wrB
 omega
theorem wr_next {x : Ins} {m : Nat} {r : Lin} (hr : (allR x)[m]? = some r) : wrB x (m + 1) = wrB x m ++ lineB r := linesB_take hr
theorem line_small {x : Ins} (hx : PrOk x) {m : Nat} {r : Lin} (hr : (allR x)[m]? = some r) : (lineB r).length ≤ 10000000 := by
 have h2 := linesB_take hr
 have h3 := linesB_le (allR x) (m + 1)
 rw [h2, List.length_append] at h3
 have h4 := hx.big
 have h5 : (textI x).length = (linesB (allR x)).length := rfl
 omega
theorem word_small {x : Ins} (hx : PrOk x) {m : Nat} {r : Lin} (hr : (allR x)[m]? = some r) {u : By} (hu : u ∈ r.words) : u.length ≤ 10000000 := Nat.le_trans (word_text hr hu) hx.big
theorem place_b (Y s : ByteArray) : ((Y ++ ⟨#[112, 108, 97, 99, 101, 32]⟩ ++ s) ++ ⟨#[10]⟩ : ByteArray).data.toList = Y.data.toList ++ lineB (.place s) := by
 have e : (Lin.place s).words = [kwP, s.data.toList] := rfl
 unfold lineB
 rw [e, joinS_two, txt.joinS_one]
 simp [kwP]
theorem arc_b (Y : ByteArray) (a : Arc) : (Y ++ ⟨#[97, 114, 99]⟩ ++ ⟨(numsB [a.frm, a.to, a.profile, a.miles]).toArray⟩ ++ ⟨#[32]⟩ ++ ⟨(trvF a.travel).toArray⟩ ++ ⟨#[32]⟩ ++ ⟨(trvF a.slow).toArray⟩ ++ ⟨#[10]⟩ : ByteArray).data.toList = Y.data.toList ++ lineB (.arc a) := by
 have e : (Lin.arc a).words = kwA :: ([a.frm, a.to, a.profile, a.miles].map Lib.itoa ++ (trvF a.travel :: trvF a.slow :: [])) := rfl
 unfold lineB
 rw [e, nums_join]
 dsimp only
 rw [joinS_two, txt.joinS_one]
 simp [kwA]
theorem apart_b (Y : ByteArray) (p : Int × Int) : (Y ++ ⟨#[97, 112, 97, 114, 116]⟩ ++ ⟨(numsB [p.1, p.2]).toArray⟩ ++ ⟨#[10]⟩ : ByteArray).data.toList = Y.data.toList ++ lineB (.apart p) := by
 have e : (Lin.apart p).words = kwX :: ([p.1, p.2].map Lib.itoa ++ []) := rfl
 unfold lineB
 rw [e, nums_join]
 simp [kwX]
theorem before_b (Y : ByteArray) (p : Int × Int) : (Y ++ ⟨#[98, 101, 102, 111, 114, 101]⟩ ++ ⟨(numsB [p.1, p.2]).toArray⟩ ++ ⟨#[10]⟩ : ByteArray).data.toList = Y.data.toList ++ lineB (.before p) := by
 have e : (Lin.before p).words = kwB :: ([p.1, p.2].map Lib.itoa ++ []) := rfl
 unfold lineB
 rw [e, nums_join]
 simp [kwB]
theorem fin_b (Y : ByteArray) : (Y ++ ⟨#[101, 110, 100, 10]⟩ : ByteArray).data.toList = Y.data.toList ++ lineB .fin := by
 have e : (Lin.fin).words = [kwE] := rfl
 unfold lineB
 rw [e, txt.joinS_one]
 simp [kwE]
def PSRel (x : Ins) (W4 : World) (o n : Nat) (sv iv : Value) (wr : World) : Prop := ∃ (k : Nat) (Y : ByteArray), k ≤ n ∧ iv = .int .i64 k ∧ sv = .string Y ∧ Below W4.heap.size W4 wr ∧ Hid (Y.data.toList = wrB x (o + k))
set_option maxRecDepth 20000 in
set_option maxHeartbeats 16000000 in
theorem rprint_any (F : Ins → List Flt) (x : Ins) (P : InP) (w : World) (hI : InAt w w.heap.size x P) (hx : F x = [] → PrOk x)
  (HC : ∀ w', Below w.heap.size w w' → Calls Tryz.prog 24 #[InV x P] w' (FltsOut w' (F x))) :
  Calls Tryz.prog 10 #[InV x P] w fun e w' => e = .returned (.tuple #[.string ⟨(prnF F x).1.toArray⟩, .int .i64 (prnF F x).2]) ∧ Below w.heap.size w w' := by
 obtain ⟨A0, d0, A1, d1, A2, d2, A3, d3, A4, d4, A5, d5⟩ := P
 show Calls Tryz.prog 10 #[.agg #[.slice A0 x.net.places.length d0, .slice A1 x.net.arcs.length d1, .slice A2 x.types.length d2, .slice A3 x.orders.length d3, .slice A4 x.apart.length d4, .slice A5 x.before.length d5]] w _
 obtain ⟨P, hP⟩ : ∃ P : InP, P = ⟨A0, d0, A1, d1, A2, d2, A3, d3, A4, d4, A5, d5⟩ := ⟨_, rfl⟩
 have HP := Lib.hid hP
 have HC : ∀ w', Below w.heap.size w w' → Calls Tryz.prog 24 #[.agg (xCs x P).toArray] w' (FltsOut w' (F x)) := by rw [hP]; exact HC
 rw [← hP] at hI
 have hxC : xCs x P = [.slice A0 x.net.places.length d0, .slice A1 x.net.arcs.length d1, .slice A2 x.types.length d2, .slice A3 x.orders.length d3, .slice A4 x.apart.length d4, .slice A5 x.before.length d5] := by rw [hP]; rfl
 have HXC := Lib.hid hxC
 clear hP
 obtain ⟨R1, hR1⟩ : ∃ R, (⟨(prnF F x).1.toArray⟩ : ByteArray) = R := ⟨_, rfl⟩
 obtain ⟨R2, hR2⟩ : ∃ R, (prnF F x).2 = R := ⟨_, rfl⟩
 have HR := Lib.hid (And.intro hR1 hR2)
 have HCH := Lib.hid HC
 have HI := Lib.hid hI
 have HXO := Lib.hid hx
 rw [hR1, hR2]
 clear hR1 hR2 HC hI hx
 obtain ⟨w0, hw0⟩ : ∃ W, w.alloc (.cells (xCs x P).toArray 30) = W := ⟨_, rfl⟩
 have HW0 := Lib.hid (show w.alloc (.cells #[.slice A0 x.net.places.length d0, .slice A1 x.net.arcs.length d1, .slice A2 x.types.length d2, .slice A3 x.orders.length d3, .slice A4 x.apart.length d4, .slice A5 x.before.length d5] 30) = w0 by rw [← hw0, hxC])
 have HB0 : Hid (Blk w0 w.heap.size 30 (xCs x P)) := Lib.hid (by rw [← hw0]; exact Blk.new w _ _)
 have HL0 : Hid (Below w.heap.size w w0) := Lib.hid (by rw [← hw0]; exact (Below.refl _ _).alloc (Nat.le_refl _) _)
 clear hw0 hxC
 go_enter Tryz.func10, Tryz.ntmps10
 go_upto_region 1 with fail
 rw [HW0.out]
 clear HW0
 go_wp2_with ((with_reducible refine wpList_loadG sIns _ rfl ⟨w.heap.size, 0, none⟩ (xCs x P) ?_ ?_ ?_ ?_ ?_); exact rfl; exact rfl; exact HB0.out.cells; exact rfl)
 refine (HCH.out w0 HL0.out).mono ?_
 rintro e w4 ⟨Af, cf, rfl, hownF, b4⟩
 have HB4 := Lib.hid (HB0.out.below b4)
 have HL4 := Lib.hid (HL0.out.trans (b4.mono HL0.out.size))
 clear b4
 cases hF : F x
 case cons f fs =>
  have HE := HR.out
  rw [prnF_bad hF] at HE
  have HE := Lib.hid HE
  rw [hF] at hownF
  obtain ⟨g, hg1, hg2, hg3⟩ := net.flt_place hownF
  obtain ⟨hgA, hgs⟩ := hg2 (by simp)
  obtain ⟨g0, -⟩ := hg3 0 f rfl
  subst hgA
  have gl : (0 : Int) < (fs.length : Int) + 1 := by omega
  have q0 : w4.cell? ⟨g, 0, none⟩ = some (.int .i64 f.err) := by simpa using g0
  clear hF hownF hg2 hg3 g0
  go_upto_region 3 with fail
  (refine wp_region_held_drew (S := (fun w' => w'.cell? ⟨g, 0, none⟩ = some (.int .i64 f.err))) (by kernel_rfl) ?_ (fun hHeld => ?_))
  ·exact q0
  (refine lib.tk 0 ?_ rfl (by kernel_rfl) (fun _ _ _ h => h) ?_ (by assumption) ?_; rotate_left; (focus (intro w hSw; (try dsimp only at hSw); go_simp; all_goals with_reducible rfl)); (try simp only [lib.hly]))
  (refine lib.tk 1 ?_ rfl (by kernel_rfl) (fun _ _ _ h => h) ?_ (by assumption) ?_; rotate_left; (focus (intro w hSw; (try dsimp only at hSw); go_simp; all_goals with_reducible rfl)); (try simp only [lib.hly]))
  (refine lib.tk 2 ?_ rfl (by kernel_rfl) (fun _ _ _ h => h) ?_ (by assumption) ?_; rotate_left; (focus (intro w hSw; (try dsimp only at hSw); go_simp; all_goals with_reducible rfl)); (try simp only [lib.hly]))
  (refine lib.tk 3 ?_ rfl (by kernel_rfl) (fun _ _ _ h => h) ?_ (by assumption) ?_; rotate_left; (focus (intro w hSw; (try dsimp only at hSw); go_simp; all_goals with_reducible rfl)); (try simp only [lib.hly]))
  (refine lib.tk 4 ?_ rfl (by kernel_rfl) (fun _ _ _ h => h) ?_ (by assumption) ?_; rotate_left; (focus (intro w hSw; (try dsimp only at hSw); go_simp; all_goals with_reducible rfl)); (try simp only [lib.hly]))
  (refine lib.tk 5 ?_ rfl (by kernel_rfl) (fun _ _ _ h => h) ?_ (by assumption) ?_; rotate_left; (focus (intro w hSw; (try dsimp only at hSw); go_simp; all_goals with_reducible rfl)); (try simp only [lib.hly]))
  (refine wpAnyH_done (by kernel_rfl) ?_ _)
  go_wp2
  go_ret2
  obtain ⟨e1, e2⟩ := HE.out
  exact ⟨by rw [← e1, ← e2]; rfl, HL4.out.drew⟩
 case nil =>
 have HE := HR.out
 have HXO := Lib.hid (HXO.out hF)
 have HF := Lib.hid hF
 clear hF hownF
 have HX : Hid (∀ v, Below w4.heap.size w4 v → Blk v w.heap.size 30 (xCs x P) ∧ InAt v v.heap.size x ⟨A0, d0, A1, d1, A2, d2, A3, d3, A4, d4, A5, d5⟩ ∧ Below w.heap.size w v) := Lib.hid fun v hv => by
  have h1 : Below w.heap.size w v := HL4.out.trans (hv.mono HL4.out.size)
  exact ⟨HB4.out.below hv, (by rw [← HP.out]; exact (HI.out.below h1).more h1.size), h1⟩
 have x0 := ((HX.out w4 (Below.refl _ _)).1).cell (j := 0) (by rw [HXC.out]; rfl)
 go_upto_region 6 with fail
 go_loopw [5, 6] (PSRel x w4 0 x.net.places.length) (fun _ i _ => x.net.places.length - (intOf i).toNat)
 case atStart => exact ⟨0, ⟨#[]⟩, Nat.zero_le _, rfl, rfl, Below.refl _ _, Lib.hid (by rw [wrB_zero])⟩
 case round =>
 clear x0
 obtain ⟨k, Y, hk, rfl, rfl, hb, hW⟩ := hrel
 have HBV := Lib.hid hb
 have hbz := hb.size
 have hYs := wr_size HXO.out hW.out
 have x0 := ((HX.out _ hb).1).cell (j := 0) (by rw [HXC.out]; rfl)
 clear hb
 by_cases hlt : k < x.net.places.length
 ·obtain ⟨s, hs⟩ : ∃ s, x.net.places[k]? = some s := ⟨_, List.getElem?_eq_getElem hlt⟩
  have hln := (HX.out _ HBV.out).2.1.places.1
  obtain ⟨ad, hA, hcell⟩ := row_strE (HX.out _ HBV.out).2.1.places hs
  dsimp only at hA
  subst hA
  have HAT := Lib.hid (at0 hs)
  have hss : s.size ≤ 10000000 := by have := word_small HXO.out HAT.out (u := s.data.toList) (by simp [Lin.words]); rw [toList_len] at this; exact this
  have hk0 : (0 : Int) ≤ (k : Int) := by omega
  have hkn : (k : Int) < (x.net.places.length : Int) := by omega
  have ov1 : ¬ 9223372036854775807 < Y.size + 6 := by omega
  have ov2 : ¬ 9223372036854775807 < Y.size + 6 + s.size := by omega
  have ov3 : ¬ 9223372036854775807 < Y.size + 6 + s.size + 1 := by omega
  clear hs
  go_wp2
  go_roundw
  case rel => exact ⟨k + 1, _, by omega, by go_num, rfl, HBV.out, Lib.hid (by rw [place_b, hW.out, ← Nat.add_assoc, wr_next HAT.out])⟩
  case measure => simp [intOf]; omega
 have hkn : ¬ (k : Int) < ((x.net.places.length : Nat) : Int) := by omega
 have HW1 : Hid (Y.data.toList = wrB x (o1 x + 0)) := Lib.hid (by
  have e : k = x.net.places.length := by omega
  have h := hW.out
  rw [e] at h
  first | exact h | (rw [Nat.zero_add] at h; exact h))
 clear hlt hk hW
 go_upto_region 10 with fail
 go_loopw [5, 7] (PSRel x w4 (o1 x) x.net.arcs.length) (fun _ i _ => x.net.arcs.length - (intOf i).toNat)
 case atStart => exact ⟨0, Y, Nat.zero_le _, rfl, rfl, HBV.out, HW1⟩
 case round =>
 clear HBV HW1 hkn hbz x0 hYs
 obtain ⟨k, Y, hk, rfl, rfl, hb, hW⟩ := hrel
 have HBV := Lib.hid hb
 have hbz := hb.size
 have hYs := wr_size HXO.out hW.out
 have x0 := ((HX.out _ hb).1).cell (j := 1) (by rw [HXC.out]; rfl)
 clear hb
 by_cases hlt : k < x.net.arcs.length
 ·obtain ⟨a, ha⟩ : ∃ s, x.net.arcs[k]? = some s := ⟨_, List.getElem?_eq_getElem hlt⟩
  have hln := (HX.out _ HBV.out).2.1.arcs.1
  obtain ⟨ad, cs, hA, hadb, hat, hcs⟩ := RowAt.elem (HX.out _ HBV.out).2.1.arcs ha
  obtain ⟨C0, c0, C1, c1, rfl, hR0, hR1, hf⟩ := rArc_at hat
  dsimp only at hA
  subst hA
  have HCE : Hid (CellsAt wr (ad.add (k * 6)) (ArcCells a C0 c0 C1 c1)) := Lib.hid hcs
  have HAT := Lib.hid (at1 ha)
  have HOK := Lib.hid (arc_ok HXO.out ha)
  have HR0 : Hid (∀ v, Below wr.heap.size wr v → RowAt rPt v v.heap.size C0 a.travel ∧ RowAt rPt v v.heap.size C1 a.slow) := Lib.hid fun v hv => ⟨(hR0.below hv).more hv.size, (hR1.below hv).more hv.size⟩
  have hk0 : (0 : Int) ≤ (k : Int) := by omega
  have hkn : (k : Int) < (x.net.arcs.length : Int) := by omega
  obtain ⟨⟨z1, z2, z3, z4⟩, -, -⟩ := HOK.out.1
  have k1 : ∀ z ∈ [a.frm, a.to, a.profile, a.miles], in64 z := fun z hz => by
   simp only [List.mem_cons, List.not_mem_nil, or_false] at hz
   rcases hz with rfl | rfl | rfl | rfl <;> assumption
  have HC1 : Hid (∀ (v : World) A, Ints v v.heap.size A [a.frm, a.to, a.profile, a.miles] → Calls Tryz.prog 25 #[.slice A 4 4] v fun e w' => e = .returned (.string ⟨(numsB [a.frm, a.to, a.profile, a.miles]).toArray⟩) ∧ Below v.heap.size v w') := Lib.hid fun v A h => rfnumbers_any _ A 4 4 rfl v h k1 (by decide)
  have HC2 : Hid (∀ (v : World), Below wr.heap.size wr v → Calls Tryz.prog 17 #[.slice C0 a.travel.length c0] v fun e w' => e = .returned (.string ⟨(trvF a.travel).toArray⟩) ∧ Below v.heap.size v w') := Lib.hid fun v h => rftravel_any a.travel C0 _ c0 rfl v (HR0.out v h).1 HOK.out.1.2.1 HOK.out.2.1
  have HC3 : Hid (∀ (v : World), Below wr.heap.size wr v → Calls Tryz.prog 17 #[.slice C1 a.slow.length c1] v fun e w' => e = .returned (.string ⟨(trvF a.slow).toArray⟩) ∧ Below v.heap.size v w') := Lib.hid fun v h => rftravel_any a.slow C1 _ c1 rfl v (HR0.out v h).2 HOK.out.1.2.2 HOK.out.2.2
  have s1 := numsB_len k1
  have s2 := word_small HXO.out HAT.out (u := trvF a.travel) (by simp [Lin.words, arcW])
  have s3 := word_small HXO.out HAT.out (u := trvF a.slow) (by simp [Lin.words, arcW])
  have e1 : 21 * [a.frm, a.to, a.profile, a.miles].length = 84 := rfl
  rw [e1] at s1
  rw [← arr_size] at s1 s2 s3
  have HAB := Lib.hid (arc_b Y a)
  obtain ⟨N1, hN1⟩ : ∃ N, (⟨(numsB [a.frm, a.to, a.profile, a.miles]).toArray⟩ : ByteArray) = N := ⟨_, rfl⟩
  obtain ⟨N2, hN2⟩ : ∃ N, (⟨(trvF a.travel).toArray⟩ : ByteArray) = N := ⟨_, rfl⟩
  obtain ⟨N3, hN3⟩ : ∃ N, (⟨(trvF a.slow).toArray⟩ : ByteArray) = N := ⟨_, rfl⟩
  rw [hN1] at s1 HC1 HAB
  rw [hN2] at s2 HC2 HAB
  rw [hN3] at s3 HC3 HAB
  have h32 : (⟨#[32]⟩ : ByteArray).size = 1 := rfl
  have h10 : (⟨#[10]⟩ : ByteArray).size = 1 := rfl
  have h3 : (⟨#[97, 114, 99]⟩ : ByteArray).size = 3 := rfl
  clear ha hadb hat hcs hR0 hR1 hf z1 z2 z3 z4 k1 e1 hN1 hN2 hN3
  go_upto_region 13 with (first
   | ((with_reducible refine wpList_loadG sArc _ rfl (ad.add (k * 6)) (ArcCells a C0 c0 C1 c1) ?_ ?_ ?_ ?_ ?_); exact rfl; exact rfl; exact HCE.out; exact rfl)
   | ((with_reducible refine wpList_storeL sArc rfl _ _ rfl wr.heap.size (ArcCells zAr none 0 none 0) (ArcCells a C0 c0 C1 c1) ?_ ?_ ?_ ?_ ?_ (arc_one _ _ _ _ _) ?_); exact rfl; exact rfl; exact Blk.new wr _ _; exact rfl; exact rfl; intro v4 k1 k2 k3 k4; have K := lib.h4 k1 k2 k3 k4; clear k1 k2 k3 k4))
  (try simp only [lib.hly])
  have b4 : Below wr.heap.size wr v4 := ((Below.refl _ _).alloc (Nat.le_refl _) _).trans K.out.2.2.2
  have HQ4 : Hid (Blk v4 wr.heap.size 49 (ArcCells a C0 c0 C1 c1)) := Lib.hid K.out.1
  have HR4 := Lib.hid b4
  clear HCE K b4 x0
  (refine wp_region_held_drew (S := (fun v => Blk v wr.heap.size 49 (ArcCells a C0 c0 C1 c1))) (by kernel_rfl) ?_ (fun hHeld => ?_))
  ·exact HQ4.out
  obtain ⟨v0, hv0⟩ : ∃ v, v4.drew = v := ⟨_, rfl⟩
  have HQ0 : Hid (Blk v0 wr.heap.size 49 (ArcCells a C0 c0 C1 c1)) := Lib.hid (by rw [← hv0]; exact HQ4.out)
  have HRv0 : Hid (Below wr.heap.size wr v0) := Lib.hid (by rw [← hv0]; exact HR4.out.drew)
  rw [hv0] at hHeld ⊢
  clear hv0
  (refine lib.tk 0 ?_ rfl (by kernel_rfl) (fun _ _ _ h => h) ?_ (by assumption) ?_; rotate_left; (focus (intro w hSw; (try dsimp only at hSw); go_simp; all_goals with_reducible rfl)); (try simp only [lib.hly]))
  (refine lib.tk 1 ?_ rfl (by kernel_rfl) (fun _ _ _ h => h) ?_ (by assumption) ?_; rotate_left; (focus (intro w hSw; (try dsimp only at hSw); go_simp; rw [if_neg]; (try with_reducible rfl); (all_goals (first | omega | (simp only [ByteArray.size_append]; omega))))); (try simp only [lib.hly]))
  (refine lib.tk 2 ?_ rfl (by kernel_rfl) (fun _ _ _ h => h) ?_ (by assumption) ?_; rotate_left; (focus (intro w hSw; (try dsimp only at hSw); go_simp; all_goals with_reducible rfl)); (try simp only [lib.hly]))
  (refine lib.tk 3 _ rfl (by kernel_rfl) (fun _ _ _ h => h) (fun _ hSw => exec_ld_int rfl rfl (hSw.cell (j := 0) rfl)) (by assumption) ?_; (try simp only [lib.hly]))
  (refine lib.tk 4 ?_ rfl (by kernel_rfl) (fun _ _ _ h => h) ?_ (by assumption) ?_; rotate_left; (focus (intro w hSw; (try dsimp only at hSw); go_simp; all_goals with_reducible rfl)); (try simp only [lib.hly]))
  (refine lib.tk 5 _ rfl (by kernel_rfl) (fun _ _ _ h => h) (fun _ hSw => exec_ld_int rfl rfl (hSw.cell (j := 1) rfl)) (by assumption) ?_; (try simp only [lib.hly]))
  (refine lib.tk 6 ?_ rfl (by kernel_rfl) (fun _ _ _ h => h) ?_ (by assumption) ?_; rotate_left; (focus (intro w hSw; (try dsimp only at hSw); go_simp; all_goals with_reducible rfl)); (try simp only [lib.hly]))
  (refine lib.tk 7 _ rfl (by kernel_rfl) (fun _ _ _ h => h) (fun _ hSw => exec_ld_int rfl rfl (hSw.cell (j := 2) rfl)) (by assumption) ?_; (try simp only [lib.hly]))
  (refine lib.tk 8 ?_ rfl (by kernel_rfl) (fun _ _ _ h => h) ?_ (by assumption) ?_; rotate_left; (focus (intro w hSw; (try dsimp only at hSw); go_simp; all_goals with_reducible rfl)); (try simp only [lib.hly]))
  (refine lib.tk 9 _ rfl (by kernel_rfl) (fun _ _ _ h => h) (fun _ hSw => exec_ld_int rfl rfl (hSw.cell (j := 3) rfl)) (by assumption) ?_; (try simp only [lib.hly]))
  (refine lib.tk 14 ?_ rfl (by kernel_rfl) (fun _ _ _ h => h) ?_ (by assumption) ?_; rotate_left; (focus (intro w hSw; (try dsimp only at hSw); go_simp; all_goals with_reducible rfl)); (try simp only [lib.hly]))
  (refine lib.tk 15 _ rfl (by kernel_rfl) (fun _ _ _ h => h) (fun _ hSw => exec_ld_pts rfl rfl (hSw.cell (j := 4) rfl)) (by assumption) ?_; (try simp only [lib.hly]))
  (refine lib.tk 19 ?_ rfl (by kernel_rfl) (fun _ _ _ h => h) ?_ (by assumption) ?_; rotate_left; (focus (intro w hSw; (try dsimp only at hSw); go_simp; all_goals with_reducible rfl)); (try simp only [lib.hly]))
  (refine lib.tk 20 _ rfl (by kernel_rfl) (fun _ _ _ h => h) (fun _ hSw => exec_ld_pts rfl rfl (hSw.cell (j := 5) rfl)) (by assumption) ?_; (try simp only [lib.hly]))
  (refine wpAnyH_ready (rs := [10]) (by kernel_rfl) (by simp) ?_; refine AllReadyH.cons rfl (fun K hK => ?_) AllReadyH.nil)
  go_simp
  obtain ⟨u1, hu1⟩ : ∃ u, v0.alloc (.cells #[.int .i64 a.frm, .int .i64 a.to, .int .i64 a.profile, .int .i64 a.miles] 3) = u := ⟨_, rfl⟩
  have hI1 : Ints u1 u1.heap.size (some ⟨v0.heap.size, 0, none⟩) [a.frm, a.to, a.profile, a.miles] := by
   have h := Ints.lit v0 [a.frm, a.to, a.profile, a.miles] (by simp)
   have e : v0.heap.size + 1 = u1.heap.size := by rw [← hu1, World.size_alloc]
   rw [show v0.alloc (.cells (([a.frm, a.to, a.profile, a.miles] : List Int).map (.int .i64)).toArray 3) = u1 from hu1, e] at h
   exact h
  have HI1 := Lib.hid hI1
  have bu1 : Below v0.heap.size v0 u1 := by rw [← hu1]; exact (Below.refl _ _).alloc (Nat.le_refl _) _
  have HQu1 := Lib.hid (HQ0.out.below bu1)
  have HRu1 := Lib.hid (HRv0.out.trans (bu1.mono HRv0.out.size))
  rw [hu1]
  clear hI1 bu1 hu1
  refine hK.out _ _ (HQu1.out) (fun hHeld => ?_)
  clear hK K
  (try simp only [lib.hly])
  (refine wpAnyH_ready (rs := [11]) (by kernel_rfl) (by simp) ?_; refine AllReadyH.cons rfl (fun K hK => ?_) AllReadyH.nil)
  go_simp
  refine (HC1.out u1 _ HI1.out).mono ?_
  rintro e u2 ⟨rfl, bu2⟩
  have HQu2 := Lib.hid (HQu1.out.below bu2)
  have HRu2 := Lib.hid (HRu1.out.trans (bu2.mono HRu1.out.size))
  clear bu2
  refine hK.out _ _ (HQu2.out) (fun hHeld => ?_)
  clear hK K
  (try simp only [lib.hly])
  (refine lib.tk 12 ?_ rfl (by kernel_rfl) (fun _ _ _ h => h) ?_ (by assumption) ?_; rotate_left; (focus (intro w hSw; (try dsimp only at hSw); go_simp; rw [if_neg]; (try with_reducible rfl); (all_goals (first | omega | (simp only [ByteArray.size_append]; omega))))); (try simp only [lib.hly]))
  (refine lib.tk 13 ?_ rfl (by kernel_rfl) (fun _ _ _ h => h) ?_ (by assumption) ?_; rotate_left; (focus (intro w hSw; (try dsimp only at hSw); go_simp; rw [if_neg]; (try with_reducible rfl); (all_goals (first | omega | (simp only [ByteArray.size_append]; omega))))); (try simp only [lib.hly]))
  (refine wpAnyH_ready (rs := [16]) (by kernel_rfl) (by simp) ?_; refine AllReadyH.cons rfl (fun K hK => ?_) AllReadyH.nil)
  go_simp
  refine (HC2.out u2 HRu2.out).mono ?_
  rintro e u3 ⟨rfl, bu3⟩
  have HQu3 := Lib.hid (HQu2.out.below bu3)
  have HRu3 := Lib.hid (HRu2.out.trans (bu3.mono HRu2.out.size))
  clear bu3
  refine hK.out _ _ (HQu3.out) (fun hHeld => ?_)
  clear hK K
  (try simp only [lib.hly])
  (refine lib.tk 17 ?_ rfl (by kernel_rfl) (fun _ _ _ h => h) ?_ (by assumption) ?_; rotate_left; (focus (intro w hSw; (try dsimp only at hSw); go_simp; rw [if_neg]; (try with_reducible rfl); (all_goals (first | omega | (simp only [ByteArray.size_append]; omega))))); (try simp only [lib.hly]))
  (refine lib.tk 18 ?_ rfl (by kernel_rfl) (fun _ _ _ h => h) ?_ (by assumption) ?_; rotate_left; (focus (intro w hSw; (try dsimp only at hSw); go_simp; rw [if_neg]; (try with_reducible rfl); (all_goals (first | omega | (simp only [ByteArray.size_append]; omega))))); (try simp only [lib.hly]))
  (refine wpAnyH_ready (rs := [21]) (by kernel_rfl) (by simp) ?_; refine AllReadyH.cons rfl (fun K hK => ?_) AllReadyH.nil)
  go_simp
  refine (HC3.out u3 HRu3.out).mono ?_
  rintro e u4 ⟨rfl, bu4⟩
  have HQu4 := Lib.hid (HQu3.out.below bu4)
  have HRu4 := Lib.hid (HRu3.out.trans (bu4.mono HRu3.out.size))
  clear bu4
  refine hK.out _ _ (HQu4.out) (fun hHeld => ?_)
  clear hK K
  (try simp only [lib.hly])
  (refine lib.tk 22 ?_ rfl (by kernel_rfl) (fun _ _ _ h => h) ?_ (by assumption) ?_; rotate_left; (focus (intro w hSw; (try dsimp only at hSw); go_simp; rw [if_neg]; (try with_reducible rfl); (all_goals (first | omega | (simp only [ByteArray.size_append]; omega))))); (try simp only [lib.hly]))
  (refine lib.tk 23 ?_ rfl (by kernel_rfl) (fun _ _ _ h => h) ?_ (by assumption) ?_; rotate_left; (focus (intro w hSw; (try dsimp only at hSw); go_simp; rw [if_neg]; (try with_reducible rfl); (all_goals (first | omega | (simp only [ByteArray.size_append]; omega))))); (try simp only [lib.hly]))
  (refine lib.tk 24 ?_ rfl (by kernel_rfl) (fun _ _ _ h => h) ?_ (by assumption) ?_; rotate_left; (focus (intro w hSw; (try dsimp only at hSw); go_simp; all_goals with_reducible rfl)); (try simp only [lib.hly]))
  (refine wpAnyH_done (by kernel_rfl) ?_ _)
  clear hHeld
  go_wp2
  go_roundw
  case rel => exact ⟨k + 1, _, by omega, by go_num, rfl, HBV.out.trans (HRu4.out.mono hbz), Lib.hid (by rw [HAB.out, hW.out, ← Nat.add_assoc, wr_next HAT.out])⟩
  case measure => simp [intOf]; omega
 have hkn : ¬ (k : Int) < ((x.net.arcs.length : Nat) : Int) := by omega
 have HW1 : Hid (Y.data.toList = wrB x (o2 x + 0)) := Lib.hid (by
  have e : k = x.net.arcs.length := by omega
  have h := hW.out
  rw [e] at h
  first | exact h | (rw [Nat.zero_add] at h; exact h))
 clear hlt hk hW
 go_upto_region 15 with fail
 go_loopw [5, 9] (PSRel x w4 (o2 x) x.types.length) (fun _ i _ => x.types.length - (intOf i).toNat)
 case atStart => exact ⟨0, Y, Nat.zero_le _, rfl, rfl, HBV.out, HW1⟩
 case round =>
 clear HBV HW1 hkn hbz x0 hYs
 obtain ⟨k, Y, hk, rfl, rfl, hb, hW⟩ := hrel
 have HBV := Lib.hid hb
 have hbz := hb.size
 have hYs := wr_size HXO.out hW.out
 have x0 := ((HX.out _ hb).1).cell (j := 2) (by rw [HXC.out]; rfl)
 clear hb
 by_cases hlt : k < x.types.length
 ·obtain ⟨a, ha⟩ : ∃ s, x.types[k]? = some s := ⟨_, List.getElem?_eq_getElem hlt⟩
  have hln := (HX.out _ HBV.out).2.1.types.1
  obtain ⟨ad, cs, hA, hadb, hat, hcs⟩ := RowAt.elem (HX.out _ HBV.out).2.1.types ha
  obtain ⟨C, c, rfl, hR0, hf⟩ := rTy_at hat
  dsimp only at hA
  subst hA
  have HCE : Hid (CellsAt wr (ad.add (k * 14)) (TyCells a C c)) := Lib.hid hcs
  have HAT := Lib.hid (at2 ha)
  have HOK := Lib.hid (ty_ok HXO.out ha)
  have HCK := Lib.hid (rfkind_any a C c wr hR0 HOK.out.1 HOK.out.2)
  have hk0 : (0 : Int) ≤ (k : Int) := by omega
  have hkn : (k : Int) < (x.types.length : Int) := by omega
  have s1 := line_small HXO.out HAT.out
  rw [← arr_size] at s1
  obtain ⟨N1, hN1⟩ : ∃ N, (⟨(lineB (.type a)).toArray⟩ : ByteArray) = N := ⟨_, rfl⟩
  have HN1 : Hid (N1.data.toList = lineB (.type a)) := Lib.hid (by rw [← hN1])
  rw [hN1] at s1 HCK
  have ov1 : ¬ 9223372036854775807 < Y.size + N1.size := by omega
  clear ha hadb hat hcs hR0 hf hN1
  go_wp2_with (first
   | ((with_reducible refine wpList_loadG sTy _ rfl (ad.add (k * 14)) (TyCells a C c) ?_ ?_ ?_ ?_ ?_); exact rfl; exact rfl; exact HCE.out; exact rfl)
   | (go_at_call 26; refine HCK.out.mono ?_; rintro e v1 ⟨rfl, b1⟩))
  go_roundw
  case rel => exact ⟨k + 1, _, by omega, by go_num, rfl, HBV.out.trans (b1.mono hbz), Lib.hid (by rw [app_data, HN1.out, hW.out, ← Nat.add_assoc, wr_next HAT.out])⟩
  case measure => simp [intOf]; omega
 have hkn : ¬ (k : Int) < ((x.types.length : Nat) : Int) := by omega
 have HW1 : Hid (Y.data.toList = wrB x (o3 x + 0)) := Lib.hid (by
  have e : k = x.types.length := by omega
  have h := hW.out
  rw [e] at h
  first | exact h | (rw [Nat.zero_add] at h; exact h))
 clear hlt hk hW
 go_upto_region 19 with fail
 go_loopw [5, 10] (PSRel x w4 (o3 x) x.orders.length) (fun _ i _ => x.orders.length - (intOf i).toNat)
 case atStart => exact ⟨0, Y, Nat.zero_le _, rfl, rfl, HBV.out, HW1⟩
 case round =>
 clear HBV HW1 hkn hbz x0 hYs
 obtain ⟨k, Y, hk, rfl, rfl, hb, hW⟩ := hrel
 have HBV := Lib.hid hb
 have hbz := hb.size
 have hYs := wr_size HXO.out hW.out
 have x0 := ((HX.out _ hb).1).cell (j := 3) (by rw [HXC.out]; rfl)
 clear hb
 by_cases hlt : k < x.orders.length
 ·obtain ⟨a, ha⟩ : ∃ s, x.orders[k]? = some s := ⟨_, List.getElem?_eq_getElem hlt⟩
  have hln := (HX.out _ HBV.out).2.1.orders.1
  obtain ⟨ad, cs, hA, hadb, hat, hcs⟩ := RowAt.elem (HX.out _ HBV.out).2.1.orders ha
  obtain ⟨C, c, rfl, hR0, hf⟩ := rOrd_at hat
  dsimp only at hA
  subst hA
  have HCE : Hid (CellsAt wr (ad.add (k * 16)) (OrdCells a C c)) := Lib.hid hcs
  have HAT := Lib.hid (at3 ha)
  have HOK := Lib.hid (ord_ok HXO.out ha)
  have HCK := Lib.hid (rforder_any a C c wr hR0 HOK.out.1 HOK.out.2)
  have hk0 : (0 : Int) ≤ (k : Int) := by omega
  have hkn : (k : Int) < (x.orders.length : Int) := by omega
  have s1 := line_small HXO.out HAT.out
  rw [← arr_size] at s1
  obtain ⟨N1, hN1⟩ : ∃ N, (⟨(lineB (.order a)).toArray⟩ : ByteArray) = N := ⟨_, rfl⟩
  have HN1 : Hid (N1.data.toList = lineB (.order a)) := Lib.hid (by rw [← hN1])
  rw [hN1] at s1 HCK
  have ov1 : ¬ 9223372036854775807 < Y.size + N1.size := by omega
  clear ha hadb hat hcs hR0 hf hN1
  go_wp2_with (first
   | ((with_reducible refine wpList_loadG sOrd _ rfl (ad.add (k * 16)) (OrdCells a C c) ?_ ?_ ?_ ?_ ?_); exact rfl; exact rfl; exact HCE.out; exact rfl)
   | (go_at_call 27; refine HCK.out.mono ?_; rintro e v1 ⟨rfl, b1⟩))
  go_roundw
  case rel => exact ⟨k + 1, _, by omega, by go_num, rfl, HBV.out.trans (b1.mono hbz), Lib.hid (by rw [app_data, HN1.out, hW.out, ← Nat.add_assoc, wr_next HAT.out])⟩
  case measure => simp [intOf]; omega
 have hkn : ¬ (k : Int) < ((x.orders.length : Nat) : Int) := by omega
 have HW1 : Hid (Y.data.toList = wrB x (o4 x + 0)) := Lib.hid (by
  have e : k = x.orders.length := by omega
  have h := hW.out
  rw [e] at h
  first | exact h | (rw [Nat.zero_add] at h; exact h))
 clear hlt hk hW
 go_upto_region 23 with fail
 go_loopw [5, 11] (PSRel x w4 (o4 x) x.apart.length) (fun _ i _ => x.apart.length - (intOf i).toNat)
 case atStart => exact ⟨0, Y, Nat.zero_le _, rfl, rfl, HBV.out, HW1⟩
 case round =>
 clear HBV HW1 hkn hbz x0 hYs
 obtain ⟨k, Y, hk, rfl, rfl, hb, hW⟩ := hrel
 have HBV := Lib.hid hb
 have hbz := hb.size
 have hYs := wr_size HXO.out hW.out
 have x0 := ((HX.out _ hb).1).cell (j := 4) (by rw [HXC.out]; rfl)
 clear hb
 by_cases hlt : k < x.apart.length
 ·obtain ⟨s, hs⟩ : ∃ s, x.apart[k]? = some s := ⟨_, List.getElem?_eq_getElem hlt⟩
  have hln := (HX.out _ HBV.out).2.1.apart.1
  obtain ⟨ad, hA, y0, y1⟩ := row_two (HX.out _ HBV.out).2.1.apart hs
  dsimp only at hA
  subst hA
  have HAT := Lib.hid (at4 hs)
  have HOK := Lib.hid (apart_ok HXO.out hs)
  have hk0 : (0 : Int) ≤ (k : Int) := by omega
  have hkn : (k : Int) < (x.apart.length : Int) := by omega
  obtain ⟨s1, s2⟩ := s
  dsimp only at y0 y1
  have k1 : ∀ z ∈ [s1, s2], in64 z := fun z hz => by
   simp only [List.mem_cons, List.not_mem_nil, or_false] at hz
   rcases hz with rfl | rfl
   ·exact HOK.out.1
   ·exact HOK.out.2
  have HC1 : Hid (∀ (v : World) A, Ints v v.heap.size A [s1, s2] → Calls Tryz.prog 25 #[.slice A 2 2] v fun e w' => e = .returned (.string ⟨(numsB [s1, s2]).toArray⟩) ∧ Below v.heap.size v w') := Lib.hid fun v A h => rfnumbers_any _ A 2 2 rfl v h k1 (by decide)
  have t1 := numsB_len k1
  have e1 : 21 * [s1, s2].length = 42 := rfl
  rw [e1, ← arr_size] at t1
  have HAB := Lib.hid (apart_b Y (s1, s2))
  dsimp only at HAB
  obtain ⟨N1, hN1⟩ : ∃ N, (⟨(numsB [s1, s2]).toArray⟩ : ByteArray) = N := ⟨_, rfl⟩
  rw [hN1] at t1 HC1 HAB
  have h10 : (⟨#[10]⟩ : ByteArray).size = 1 := rfl
  have h5 : (⟨#[97, 112, 97, 114, 116]⟩ : ByteArray).size = 5 := rfl
  clear hs k1 e1 hN1
  go_upto_region 25 with fail
  have HS0 : Hid (wr.cell? ⟨w.heap.size, 4, none⟩ = some (.slice (some ad) x.apart.length d4) ∧ wr.cell? (ad.add (k * 2)) = some (.int .i64 s1) ∧ wr.cell? ⟨(ad.add (k * 2)).block, (ad.add (k * 2)).off + 1, none⟩ = some (.int .i64 s2)) := Lib.hid ⟨x0, y0, y1⟩
  clear x0 y0 y1
  (refine wp_region_held_drew (S := (fun v => v.cell? ⟨w.heap.size, 4, none⟩ = some (.slice (some ad) x.apart.length d4) ∧ v.cell? (ad.add (k * 2)) = some (.int .i64 s1) ∧ v.cell? ⟨(ad.add (k * 2)).block, (ad.add (k * 2)).off + 1, none⟩ = some (.int .i64 s2))) (by kernel_rfl) ?_ (fun hHeld => ?_))
  ·exact HS0.out
  obtain ⟨v0, hv0⟩ : ∃ v, wr.drew = v := ⟨_, rfl⟩
  have HRv0 : Hid (Below wr.heap.size wr v0) := Lib.hid (by rw [← hv0]; exact (Below.refl _ _).drew)
  rw [hv0] at hHeld ⊢
  clear hv0
  (refine lib.tk 0 ?_ rfl (by kernel_rfl) (fun _ _ _ h => h) ?_ (by assumption) ?_; rotate_left; (focus (intro w hSw; (try dsimp only at hSw); go_simp; all_goals with_reducible rfl)); (try simp only [lib.hly]))
  (refine lib.tk 1 ?_ rfl (by kernel_rfl) (fun _ _ _ h => h) ?_ (by assumption) ?_; rotate_left; (focus (intro w hSw; (try dsimp only at hSw); go_simp; rw [if_neg]; (try with_reducible rfl); (all_goals (first | omega | (simp only [ByteArray.size_append]; omega))))); (try simp only [lib.hly]))
  (refine lib.tk 2 ?_ rfl (by kernel_rfl) (fun _ _ _ h => h) ?_ (by assumption) ?_; rotate_left; (focus (intro w hSw; (try dsimp only at hSw); go_simp; all_goals with_reducible rfl)); (try simp only [lib.hly]))
  (refine lib.tk 3 ?_ rfl (by kernel_rfl) (fun _ _ _ h => h) ?_ (by assumption) ?_; rotate_left; (focus (intro w hSw; (try dsimp only at hSw); go_simp; all_goals with_reducible rfl)); (try simp only [lib.hly]))
  (refine lib.tk 4 ?_ rfl (by kernel_rfl) (fun _ _ _ h => h) ?_ (by assumption) ?_; rotate_left; (focus (intro w hSw; (try dsimp only at hSw); go_simp; all_goals with_reducible rfl)); (try simp only [lib.hly]))
  (refine lib.tk 5 ?_ rfl (by kernel_rfl) (fun _ _ _ h => h) ?_ (by assumption) ?_; rotate_left; (focus (intro w hSw; (try dsimp only at hSw); go_simp; all_goals with_reducible rfl)); (try simp only [lib.hly]))
  (refine lib.tk 6 ?_ rfl (by kernel_rfl) (fun _ _ _ h => h) ?_ (by assumption) ?_; rotate_left; (focus (intro w hSw; (try dsimp only at hSw); go_simp; all_goals with_reducible rfl)); (try simp only [lib.hly]))
  (refine lib.tk 7 ?_ rfl (by kernel_rfl) (fun _ _ _ h => h) ?_ (by assumption) ?_; rotate_left; (focus (intro w hSw; (try dsimp only at hSw); go_simp; all_goals with_reducible rfl)); (try simp only [lib.hly]))
  (refine lib.tk 8 ?_ rfl (by kernel_rfl) (fun _ _ _ h => h) ?_ (by assumption) ?_; rotate_left; (focus (intro w hSw; (try dsimp only at hSw); go_simp; all_goals with_reducible rfl)); (try simp only [lib.hly]))
  (refine lib.tk 9 ?_ rfl (by kernel_rfl) (fun _ _ _ h => h) ?_ (by assumption) ?_; rotate_left; (focus (intro w hSw; (try dsimp only at hSw); go_simp; all_goals with_reducible rfl)); (try simp only [lib.hly]))
  (refine lib.tk 10 ?_ rfl (by kernel_rfl) (fun _ _ _ h => h) ?_ (by assumption) ?_; rotate_left; (focus (intro w hSw; (try dsimp only at hSw); go_simp; all_goals with_reducible rfl)); (try simp only [lib.hly]))
  (refine lib.tk 11 ?_ rfl (by kernel_rfl) (fun _ _ _ h => h) ?_ (by assumption) ?_; rotate_left; (focus (intro w hSw; (try dsimp only at hSw); go_simp; all_goals with_reducible rfl)); (try simp only [lib.hly]))
  (refine lib.tk 12 ?_ rfl (by kernel_rfl) (fun _ _ _ h => h) ?_ (by assumption) ?_; rotate_left; (focus (intro w hSw; (try dsimp only at hSw); go_simp; all_goals with_reducible rfl)); (try simp only [lib.hly]))
  (refine lib.tk 13 ?_ rfl (by kernel_rfl) (fun _ _ _ h => h) ?_ (by assumption) ?_; rotate_left; (focus (intro w hSw; (try dsimp only at hSw); go_simp; all_goals with_reducible rfl)); (try simp only [lib.hly]))
  have HKE : Hid (∀ v, Below wr.heap.size wr v → v.cell? ⟨w.heap.size, 4, none⟩ = some (.slice (some ad) x.apart.length d4) ∧ v.cell? (ad.add (k * 2)) = some (.int .i64 s1) ∧ v.cell? ⟨(ad.add (k * 2)).block, (ad.add (k * 2)).off + 1, none⟩ = some (.int .i64 s2)) := Lib.hid (fun v hv => ⟨(hv.cell (Lib.lt_of_cell HS0.out.1)).trans HS0.out.1, (hv.cell (Lib.lt_of_cell HS0.out.2.1)).trans HS0.out.2.1, (hv.cell (Lib.lt_of_cell HS0.out.2.2)).trans HS0.out.2.2⟩)
  (refine wpAnyH_ready (rs := [14]) (by kernel_rfl) (by simp) ?_; refine AllReadyH.cons rfl (fun K hK => ?_) AllReadyH.nil)
  go_simp
  obtain ⟨u1, hu1⟩ : ∃ u, v0.alloc (.cells #[.int .i64 s1, .int .i64 s2] 3) = u := ⟨_, rfl⟩
  have hI1 : Ints u1 u1.heap.size (some ⟨v0.heap.size, 0, none⟩) [s1, s2] := by
   have h := Ints.lit v0 [s1, s2] (by simp)
   have e : v0.heap.size + 1 = u1.heap.size := by rw [← hu1, World.size_alloc]
   rw [show v0.alloc (.cells (([s1, s2] : List Int).map (.int .i64)).toArray 3) = u1 from hu1, e] at h
   exact h
  have HI1 := Lib.hid hI1
  have bu1 : Below v0.heap.size v0 u1 := by rw [← hu1]; exact (Below.refl _ _).alloc (Nat.le_refl _) _
  have HRu1 := Lib.hid (HRv0.out.trans (bu1.mono HRv0.out.size))
  rw [hu1]
  clear hI1 bu1 hu1
  refine hK.out _ _ ((HKE.out _ HRu1.out)) (fun hHeld => ?_)
  clear hK K
  (try simp only [lib.hly])
  (refine wpAnyH_ready (rs := [15]) (by kernel_rfl) (by simp) ?_; refine AllReadyH.cons rfl (fun K hK => ?_) AllReadyH.nil)
  go_simp
  refine (HC1.out u1 _ HI1.out).mono ?_
  rintro e u2 ⟨rfl, bu2⟩
  have HRu2 := Lib.hid (HRu1.out.trans (bu2.mono HRu1.out.size))
  clear bu2
  refine hK.out _ _ ((HKE.out _ HRu2.out)) (fun hHeld => ?_)
  clear hK K
  (try simp only [lib.hly])
  (refine lib.tk 16 ?_ rfl (by kernel_rfl) (fun _ _ _ h => h) ?_ (by assumption) ?_; rotate_left; (focus (intro w hSw; (try dsimp only at hSw); go_simp; rw [if_neg]; (try with_reducible rfl); (all_goals (first | omega | (simp only [ByteArray.size_append]; omega))))); (try simp only [lib.hly]))
  (refine lib.tk 17 ?_ rfl (by kernel_rfl) (fun _ _ _ h => h) ?_ (by assumption) ?_; rotate_left; (focus (intro w hSw; (try dsimp only at hSw); go_simp; rw [if_neg]; (try with_reducible rfl); (all_goals (first | omega | (simp only [ByteArray.size_append]; omega))))); (try simp only [lib.hly]))
  (refine lib.tk 18 ?_ rfl (by kernel_rfl) (fun _ _ _ h => h) ?_ (by assumption) ?_; rotate_left; (focus (intro w hSw; (try dsimp only at hSw); go_simp; all_goals with_reducible rfl)); (try simp only [lib.hly]))
  (refine wpAnyH_done (by kernel_rfl) ?_ _)
  clear hHeld
  go_wp2
  go_roundw
  case rel => exact ⟨k + 1, _, by omega, by go_num, rfl, HBV.out.trans (HRu2.out.mono hbz), Lib.hid (by rw [HAB.out, hW.out, ← Nat.add_assoc, wr_next HAT.out])⟩
  case measure => simp [intOf]; omega
 have hkn : ¬ (k : Int) < ((x.apart.length : Nat) : Int) := by omega
 have HW1 : Hid (Y.data.toList = wrB x (o5 x + 0)) := Lib.hid (by
  have e : k = x.apart.length := by omega
  have h := hW.out
  rw [e] at h
  first | exact h | (rw [Nat.zero_add] at h; exact h))
 clear hlt hk hW
 go_upto_region 27 with fail
 go_loopw [5, 12] (PSRel x w4 (o5 x) x.before.length) (fun _ i _ => x.before.length - (intOf i).toNat)
 case atStart => exact ⟨0, Y, Nat.zero_le _, rfl, rfl, HBV.out, HW1⟩
 case round =>
 clear HBV HW1 hkn hbz x0 hYs
 obtain ⟨k, Y, hk, rfl, rfl, hb, hW⟩ := hrel
 have HBV := Lib.hid hb
 have hbz := hb.size
 have hYs := wr_size HXO.out hW.out
 have x0 := ((HX.out _ hb).1).cell (j := 5) (by rw [HXC.out]; rfl)
 clear hb
 by_cases hlt : k < x.before.length
 ·obtain ⟨s, hs⟩ : ∃ s, x.before[k]? = some s := ⟨_, List.getElem?_eq_getElem hlt⟩
  have hln := (HX.out _ HBV.out).2.1.before.1
  obtain ⟨ad, hA, y0, y1⟩ := row_two (HX.out _ HBV.out).2.1.before hs
  dsimp only at hA
  subst hA
  have HAT := Lib.hid (at5 hs)
  have HOK := Lib.hid (before_ok HXO.out hs)
  have hk0 : (0 : Int) ≤ (k : Int) := by omega
  have hkn : (k : Int) < (x.before.length : Int) := by omega
  obtain ⟨s1, s2⟩ := s
  dsimp only at y0 y1
  have k1 : ∀ z ∈ [s1, s2], in64 z := fun z hz => by
   simp only [List.mem_cons, List.not_mem_nil, or_false] at hz
   rcases hz with rfl | rfl
   ·exact HOK.out.1
   ·exact HOK.out.2
  have HC1 : Hid (∀ (v : World) A, Ints v v.heap.size A [s1, s2] → Calls Tryz.prog 25 #[.slice A 2 2] v fun e w' => e = .returned (.string ⟨(numsB [s1, s2]).toArray⟩) ∧ Below v.heap.size v w') := Lib.hid fun v A h => rfnumbers_any _ A 2 2 rfl v h k1 (by decide)
  have t1 := numsB_len k1
  have e1 : 21 * [s1, s2].length = 42 := rfl
  rw [e1, ← arr_size] at t1
  have HAB := Lib.hid (before_b Y (s1, s2))
  dsimp only at HAB
  obtain ⟨N1, hN1⟩ : ∃ N, (⟨(numsB [s1, s2]).toArray⟩ : ByteArray) = N := ⟨_, rfl⟩
  rw [hN1] at t1 HC1 HAB
  have h10 : (⟨#[10]⟩ : ByteArray).size = 1 := rfl
  have h5 : (⟨#[98, 101, 102, 111, 114, 101]⟩ : ByteArray).size = 6 := rfl
  clear hs k1 e1 hN1
  go_upto_region 29 with fail
  have HS0 : Hid (wr.cell? ⟨w.heap.size, 5, none⟩ = some (.slice (some ad) x.before.length d5) ∧ wr.cell? (ad.add (k * 2)) = some (.int .i64 s1) ∧ wr.cell? ⟨(ad.add (k * 2)).block, (ad.add (k * 2)).off + 1, none⟩ = some (.int .i64 s2)) := Lib.hid ⟨x0, y0, y1⟩
  clear x0 y0 y1
  (refine wp_region_held_drew (S := (fun v => v.cell? ⟨w.heap.size, 5, none⟩ = some (.slice (some ad) x.before.length d5) ∧ v.cell? (ad.add (k * 2)) = some (.int .i64 s1) ∧ v.cell? ⟨(ad.add (k * 2)).block, (ad.add (k * 2)).off + 1, none⟩ = some (.int .i64 s2))) (by kernel_rfl) ?_ (fun hHeld => ?_))
  ·exact HS0.out
  obtain ⟨v0, hv0⟩ : ∃ v, wr.drew = v := ⟨_, rfl⟩
  have HRv0 : Hid (Below wr.heap.size wr v0) := Lib.hid (by rw [← hv0]; exact (Below.refl _ _).drew)
  rw [hv0] at hHeld ⊢
  clear hv0
  (refine lib.tk 0 ?_ rfl (by kernel_rfl) (fun _ _ _ h => h) ?_ (by assumption) ?_; rotate_left; (focus (intro w hSw; (try dsimp only at hSw); go_simp; all_goals with_reducible rfl)); (try simp only [lib.hly]))
  (refine lib.tk 1 ?_ rfl (by kernel_rfl) (fun _ _ _ h => h) ?_ (by assumption) ?_; rotate_left; (focus (intro w hSw; (try dsimp only at hSw); go_simp; rw [if_neg]; (try with_reducible rfl); (all_goals (first | omega | (simp only [ByteArray.size_append]; omega))))); (try simp only [lib.hly]))
  (refine lib.tk 2 ?_ rfl (by kernel_rfl) (fun _ _ _ h => h) ?_ (by assumption) ?_; rotate_left; (focus (intro w hSw; (try dsimp only at hSw); go_simp; all_goals with_reducible rfl)); (try simp only [lib.hly]))
  (refine lib.tk 3 ?_ rfl (by kernel_rfl) (fun _ _ _ h => h) ?_ (by assumption) ?_; rotate_left; (focus (intro w hSw; (try dsimp only at hSw); go_simp; all_goals with_reducible rfl)); (try simp only [lib.hly]))
  (refine lib.tk 4 ?_ rfl (by kernel_rfl) (fun _ _ _ h => h) ?_ (by assumption) ?_; rotate_left; (focus (intro w hSw; (try dsimp only at hSw); go_simp; all_goals with_reducible rfl)); (try simp only [lib.hly]))
  (refine lib.tk 5 ?_ rfl (by kernel_rfl) (fun _ _ _ h => h) ?_ (by assumption) ?_; rotate_left; (focus (intro w hSw; (try dsimp only at hSw); go_simp; all_goals with_reducible rfl)); (try simp only [lib.hly]))
  (refine lib.tk 6 ?_ rfl (by kernel_rfl) (fun _ _ _ h => h) ?_ (by assumption) ?_; rotate_left; (focus (intro w hSw; (try dsimp only at hSw); go_simp; all_goals with_reducible rfl)); (try simp only [lib.hly]))
  (refine lib.tk 7 ?_ rfl (by kernel_rfl) (fun _ _ _ h => h) ?_ (by assumption) ?_; rotate_left; (focus (intro w hSw; (try dsimp only at hSw); go_simp; all_goals with_reducible rfl)); (try simp only [lib.hly]))
  (refine lib.tk 8 ?_ rfl (by kernel_rfl) (fun _ _ _ h => h) ?_ (by assumption) ?_; rotate_left; (focus (intro w hSw; (try dsimp only at hSw); go_simp; all_goals with_reducible rfl)); (try simp only [lib.hly]))
  (refine lib.tk 9 ?_ rfl (by kernel_rfl) (fun _ _ _ h => h) ?_ (by assumption) ?_; rotate_left; (focus (intro w hSw; (try dsimp only at hSw); go_simp; all_goals with_reducible rfl)); (try simp only [lib.hly]))
  (refine lib.tk 10 ?_ rfl (by kernel_rfl) (fun _ _ _ h => h) ?_ (by assumption) ?_; rotate_left; (focus (intro w hSw; (try dsimp only at hSw); go_simp; all_goals with_reducible rfl)); (try simp only [lib.hly]))
  (refine lib.tk 11 ?_ rfl (by kernel_rfl) (fun _ _ _ h => h) ?_ (by assumption) ?_; rotate_left; (focus (intro w hSw; (try dsimp only at hSw); go_simp; all_goals with_reducible rfl)); (try simp only [lib.hly]))
  (refine lib.tk 12 ?_ rfl (by kernel_rfl) (fun _ _ _ h => h) ?_ (by assumption) ?_; rotate_left; (focus (intro w hSw; (try dsimp only at hSw); go_simp; all_goals with_reducible rfl)); (try simp only [lib.hly]))
  (refine lib.tk 13 ?_ rfl (by kernel_rfl) (fun _ _ _ h => h) ?_ (by assumption) ?_; rotate_left; (focus (intro w hSw; (try dsimp only at hSw); go_simp; all_goals with_reducible rfl)); (try simp only [lib.hly]))
  have HKE : Hid (∀ v, Below wr.heap.size wr v → v.cell? ⟨w.heap.size, 5, none⟩ = some (.slice (some ad) x.before.length d5) ∧ v.cell? (ad.add (k * 2)) = some (.int .i64 s1) ∧ v.cell? ⟨(ad.add (k * 2)).block, (ad.add (k * 2)).off + 1, none⟩ = some (.int .i64 s2)) := Lib.hid (fun v hv => ⟨(hv.cell (Lib.lt_of_cell HS0.out.1)).trans HS0.out.1, (hv.cell (Lib.lt_of_cell HS0.out.2.1)).trans HS0.out.2.1, (hv.cell (Lib.lt_of_cell HS0.out.2.2)).trans HS0.out.2.2⟩)
  (refine wpAnyH_ready (rs := [14]) (by kernel_rfl) (by simp) ?_; refine AllReadyH.cons rfl (fun K hK => ?_) AllReadyH.nil)
  go_simp
  obtain ⟨u1, hu1⟩ : ∃ u, v0.alloc (.cells #[.int .i64 s1, .int .i64 s2] 3) = u := ⟨_, rfl⟩
  have hI1 : Ints u1 u1.heap.size (some ⟨v0.heap.size, 0, none⟩) [s1, s2] := by
   have h := Ints.lit v0 [s1, s2] (by simp)
   have e : v0.heap.size + 1 = u1.heap.size := by rw [← hu1, World.size_alloc]
   rw [show v0.alloc (.cells (([s1, s2] : List Int).map (.int .i64)).toArray 3) = u1 from hu1, e] at h
   exact h
  have HI1 := Lib.hid hI1
  have bu1 : Below v0.heap.size v0 u1 := by rw [← hu1]; exact (Below.refl _ _).alloc (Nat.le_refl _) _
  have HRu1 := Lib.hid (HRv0.out.trans (bu1.mono HRv0.out.size))
  rw [hu1]
  clear hI1 bu1 hu1
  refine hK.out _ _ ((HKE.out _ HRu1.out)) (fun hHeld => ?_)
  clear hK K
  (try simp only [lib.hly])
  (refine wpAnyH_ready (rs := [15]) (by kernel_rfl) (by simp) ?_; refine AllReadyH.cons rfl (fun K hK => ?_) AllReadyH.nil)
  go_simp
  refine (HC1.out u1 _ HI1.out).mono ?_
  rintro e u2 ⟨rfl, bu2⟩
  have HRu2 := Lib.hid (HRu1.out.trans (bu2.mono HRu1.out.size))
  clear bu2
  refine hK.out _ _ ((HKE.out _ HRu2.out)) (fun hHeld => ?_)
  clear hK K
  (try simp only [lib.hly])
  (refine lib.tk 16 ?_ rfl (by kernel_rfl) (fun _ _ _ h => h) ?_ (by assumption) ?_; rotate_left; (focus (intro w hSw; (try dsimp only at hSw); go_simp; rw [if_neg]; (try with_reducible rfl); (all_goals (first | omega | (simp only [ByteArray.size_append]; omega))))); (try simp only [lib.hly]))
  (refine lib.tk 17 ?_ rfl (by kernel_rfl) (fun _ _ _ h => h) ?_ (by assumption) ?_; rotate_left; (focus (intro w hSw; (try dsimp only at hSw); go_simp; rw [if_neg]; (try with_reducible rfl); (all_goals (first | omega | (simp only [ByteArray.size_append]; omega))))); (try simp only [lib.hly]))
  (refine lib.tk 18 ?_ rfl (by kernel_rfl) (fun _ _ _ h => h) ?_ (by assumption) ?_; rotate_left; (focus (intro w hSw; (try dsimp only at hSw); go_simp; all_goals with_reducible rfl)); (try simp only [lib.hly]))
  (refine wpAnyH_done (by kernel_rfl) ?_ _)
  clear hHeld
  go_wp2
  go_roundw
  case rel => exact ⟨k + 1, _, by omega, by go_num, rfl, HBV.out.trans (HRu2.out.mono hbz), Lib.hid (by rw [HAB.out, hW.out, ← Nat.add_assoc, wr_next HAT.out])⟩
  case measure => simp [intOf]; omega
 have hkn : ¬ (k : Int) < (x.before.length : Int) := by omega
 have HW1 : Hid (Y.data.toList = wrB x (o6 x)) := Lib.hid (by
  have e : k = x.before.length := by omega
  have h := hW.out
  rw [e] at h
  exact h)
 clear hlt hk hW
 have HFB := Lib.hid ((fin_b Y).trans (show _ = textI x by rw [HW1.out, ← wr_next (at6 x), wrB_all]))
 have ov1 : ¬ 9223372036854775807 < Y.size + 4 := by omega
 have hfs : (Y ++ ⟨#[101, 110, 100, 10]⟩ : ByteArray).size = (textI x).length := by rw [← toList_len, HFB.out]
 rw [ByteArray.size_append] at hfs
 have h4s : (⟨#[101, 110, 100, 10]⟩ : ByteArray).size = 4 := rfl
 rw [h4s] at hfs
 have HTX : Hid ((⟨(textI x).toArray⟩ : ByteArray) = Y ++ ⟨#[101, 110, 100, 10]⟩) := Lib.hid (bytes_inj (by rw [HFB.out]))
 obtain ⟨T, hT⟩ : ∃ T, (textI x).length = T := ⟨_, rfl⟩
 rw [hT] at hfs
 by_cases hbig : 65536 < T
 ·have hbi : (65536 : Int) < (Y.size : Int) + 4 := by omega
  have HEE := HE
  rw [prnF_big HF.out (by rw [hT]; exact hbig)] at HEE
  have HEE := Lib.hid HEE
  clear HE hbig hT hfs
  go_wp2
  go_ret2
  obtain ⟨e1, e2⟩ := HEE.out
  exact ⟨by rw [← e1, ← e2]; rfl, (HX.out _ HBV.out).2.2⟩
 ·have hbi : ¬ (65536 : Int) < (Y.size : Int) + 4 := by omega
  have HEE := HE
  rw [prnF_ok HF.out (by rw [hT]; exact hbig)] at HEE
  have HEE := Lib.hid HEE
  clear HE hbig hT hfs
  go_wp2
  go_ret2
  obtain ⟨e1, e2⟩ := HEE.out
  exact ⟨by rw [← e1, ← e2]; dsimp only; rw [HTX.out]; rfl, (HX.out _ HBV.out).2.2⟩
end Go.Proofs.YthefooacfcagbaaGreatDoor.spc

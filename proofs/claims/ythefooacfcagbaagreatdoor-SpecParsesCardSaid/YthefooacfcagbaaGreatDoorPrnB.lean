import Derived.Test.YthefooacfcagbaaGreatDoorParX
import Derived.Test.YthefooacfcagbaaGreatDoorSpcY
/- spec.Print. -/
namespace Go.Proofs.YthefooacfcagbaaGreatDoor.spc
open Go.RowKit
open lib rd app els typ big gen off
open ins (InP InAt InV)
open flt (Fown FltsOut)
open txt (in64 By strV strV_of Tabs)
set_option linter.unusedVariables false
set_option linter.unusedSimpArgs false
theorem row_strE {w : World} {B : Nat} {A : Option Addr} {l : List ByteArray} (h : RowAt rStr w B A l) {i : Nat} {t : ByteArray} (hi : l[i]? = some t) : ∃ ad : Addr, A = some ad ∧ w.cell? (ad.add i) = some (.string t) := by
 obtain ⟨ad, cs, hA, hb, ⟨rfl, hsz⟩, hc⟩ := h.2 i t hi
 have h := hc 0 _ rfl
 exact ⟨ad, hA, by simpa [rStr] using h⟩
theorem arc_ok {x : Ins} (h : PrOk x) {k : Nat} {a : Arc} (ha : x.net.arcs[k]? = some a) : arcOk a ∧ a.travel.length ≤ 100000 ∧ a.slow.length ≤ 100000 := ⟨h.ok (.arc a) (by unfold rowsI; exact List.mem_append_right _ (List.mem_append_left _ (List.mem_map.2 ⟨a, List.mem_of_getElem? ha, rfl⟩))), h.arcs a (List.mem_of_getElem? ha)⟩
theorem ty_ok {x : Ins} (h : PrOk x) {k : Nat} {a : Ty} (ha : x.types[k]? = some a) : tyOk a ∧ a.cap.length ≤ 100000 := ⟨h.ok (.type a) (by unfold rowsI; exact List.mem_append_right _ (List.mem_append_right _ (List.mem_append_left _ (List.mem_map.2 ⟨a, List.mem_of_getElem? ha, rfl⟩)))), h.types a (List.mem_of_getElem? ha)⟩
theorem ord_ok {x : Ins} (h : PrOk x) {k : Nat} {a : Ord} (ha : x.orders[k]? = some a) : ordOk a ∧ a.load.length ≤ 100000 := ⟨h.ok (.order a) (by unfold rowsI; exact List.mem_append_right _ (List.mem_append_right _ (List.mem_append_right _ (List.mem_append_left _ (List.mem_map.2 ⟨a, List.mem_of_getElem? ha, rfl⟩))))), h.orders a (List.mem_of_getElem? ha)⟩
theorem apart_ok {x : Ins} (h : PrOk x) {k : Nat} {a : Int × Int} (ha : x.apart[k]? = some a) : pairOk a := h.ok (.apart a) (by unfold rowsI; exact List.mem_append_right _ (List.mem_append_right _ (List.mem_append_right _ (List.mem_append_right _ (List.mem_append_left _ (List.mem_map.2 ⟨a, List.mem_of_getElem? ha, rfl⟩))))))
theorem before_ok {x : Ins} (h : PrOk x) {k : Nat} {a : Int × Int} (ha : x.before[k]? = some a) : pairOk a := h.ok (.before a) (by unfold rowsI; exact List.mem_append_right _ (List.mem_append_right _ (List.mem_append_right _ (List.mem_append_right _ (List.mem_append_right _ (List.mem_map.2 ⟨a, List.mem_of_getElem? ha, rfl⟩))))))
theorem arc_fit {a : Arc} (h : arcOk a) : ∀ u ∈ [Wd.s ⟨#[97, 114, 99]⟩, .n a.frm, .n a.to, .n a.profile, .n a.miles, .s ⟨(trvF a.travel).toArray⟩, .s ⟨(trvF a.slow).toArray⟩], u.fit := by
 obtain ⟨⟨h1, h2, h3, h4⟩, -, -⟩ := h
 intro u hu
 simp only [List.mem_cons, List.not_mem_nil, or_false] at hu
 rcases hu with rfl | rfl | rfl | rfl | rfl | rfl | rfl <;> first | trivial | exact h1 | exact h2 | exact h3 | exact h4
theorem ty_fit {a : Ty} (h : tyOk a) : ∀ u ∈ [Wd.s ⟨#[116, 121, 112, 101]⟩, .s a.name, .n a.count, .n a.frm, .n a.to, .s ⟨(listF a.cap).toArray⟩, .n a.skills, .n a.profile, .n a.opn, .n a.close, .n a.drive, .n a.rest, .n a.fixed, .n a.mile, .n a.tick], u.fit := by
 obtain ⟨-, ⟨-, h1, h2, h3, h4, h5, h6, h7, h8, h9, h10, h11, h12⟩, -⟩ := h
 intro u hu
 simp only [List.mem_cons, List.not_mem_nil, or_false] at hu
 rcases hu with rfl | rfl | rfl | rfl | rfl | rfl | rfl | rfl | rfl | rfl | rfl | rfl | rfl | rfl | rfl <;> first | trivial | exact h1 | exact h2 | exact h3 | exact h4 | exact h5 | exact h6 | exact h7 | exact h8 | exact h9 | exact h10 | exact h11 | exact h12
theorem ord_fit {a : Ord} (h : ordOk a) : ∀ u ∈ [Wd.s ⟨#[111, 114, 100, 101, 114]⟩, .s a.name, .s ⟨(listF a.load).toArray⟩, .s ⟨(stopF a.pick).toArray⟩, .s ⟨(stopF a.drop).toArray⟩, .n a.skills, .n a.penalty, .n a.split, .n a.last, .n a.now, .s ⟨(stateW a.off).toArray⟩], u.fit := by
 obtain ⟨-, ⟨-, -, -, h1, h2, h3, h4, h5⟩, -⟩ := h
 intro u hu
 simp only [List.mem_cons, List.not_mem_nil, or_false] at hu
 rcases hu with rfl | rfl | rfl | rfl | rfl | rfl | rfl | rfl | rfl | rfl | rfl <;> first | trivial | exact h1 | exact h2 | exact h3 | exact h4 | exact h5
theorem pair_fit {a : Int × Int} (h : pairOk a) (y : ByteArray) : ∀ u ∈ [Wd.s y, .n a.1, .n a.2], u.fit := by
 intro u hu
 simp only [List.mem_cons, List.not_mem_nil, or_false] at hu
 rcases hu with rfl | rfl | rfl <;> first | trivial | exact h.1 | exact h.2
theorem stp_in {s : Stp} (h : StpFits s) : ∀ z ∈ stpN s, in64 z := by
 obtain ⟨h1, h2, h3, h4⟩ := h
 intro z hz
 simp only [stpN, List.mem_cons, List.not_mem_nil, or_false] at hz
 rcases hz with rfl | rfl | rfl | rfl <;> first | exact h1 | exact h2 | exact h3 | exact h4
theorem ord_pick (a : Ord) (C : Option Addr) (c : Nat) (j : Nat) (u : Value) (h : (StpCells a.pick)[j]? = some u) : (OrdCells a C c)[2 + j]? = some u := by
 rcases j with _ | _ | _ | _ | j <;> first | exact h | (simp [StpCells] at h)
theorem ord_drop (a : Ord) (C : Option Addr) (c : Nat) (j : Nat) (u : Value) (h : (StpCells a.drop)[j]? = some u) : (OrdCells a C c)[6 + j]? = some u := by
 rcases j with _ | _ | _ | _ | j <;> first | exact h | (simp [StpCells] at h)
theorem row_two {w : World} {B : Nat} {A : Option Addr} {l : List (Int × Int)} (h : RowAt (rPair rInt rInt) w B A l) {i : Nat} {t : Int × Int} (hi : l[i]? = some t) :
  ∃ ad : Addr, A = some ad ∧ w.cell? (ad.add (i * 2)) = some (.int .i64 t.1) ∧ w.cell? ⟨(ad.add (i * 2)).block, (ad.add (i * 2)).off + 1, none⟩ = some (.int .i64 t.2) := by
 obtain ⟨ad, cs, hA, hb, ⟨_, _, rfl, ⟨rfl, h1⟩, ⟨rfl, h2⟩⟩, hc⟩ := h.2 i t hi
 refine ⟨ad, hA, hc 0 _ rfl, ?_⟩
 rw [← add_split]
 exact hc 1 _ rfl
theorem textI_ne (x : Ins) : textI x ≠ [] := fun h => by
 have h1 : (linesB (allR x)) = [] := h
 unfold allR at h1
 rw [linesB_app] at h1
 have h2 := (List.append_eq_nil_iff.1 h1).2
 simp [linesB, lineB] at h2
theorem below_drew {w w' : World} (h : Below w.drew.heap.size w.drew w') : Below w.heap.size w w' := ((Below.refl w.heap.size w).drew).trans h
set_option maxRecDepth 20000 in
set_option maxHeartbeats 16000000 in
theorem print_any (F : Ins → List Flt) (x : Ins) (P : InP) (w : World) (ht : TabS w) (hI : InAt w w.heap.size x P) (hx : F x = [] → PrOk x)
  (HC : ∀ w', Below w.heap.size w w' → Calls Tryz.prog 19 #[InV x P] w' (FltsOut w' (F x))) :
  Calls Tryz.prog 9 #[InV x P] w fun e w' => e = .returned (.tuple #[.string ⟨(prnF F x).1.toArray⟩, .int .i64 (prnF F x).2]) ∧ Below w.heap.size w w' := by
 obtain ⟨A0, d0, A1, d1, A2, d2, A3, d3, A4, d4, A5, d5⟩ := P
 show Calls Tryz.prog 9 #[.agg #[.slice A0 x.net.places.length d0, .slice A1 x.net.arcs.length d1, .slice A2 x.types.length d2, .slice A3 x.orders.length d3, .slice A4 x.apart.length d4, .slice A5 x.before.length d5]] w _
 obtain ⟨P, hP⟩ : ∃ P : InP, P = ⟨A0, d0, A1, d1, A2, d2, A3, d3, A4, d4, A5, d5⟩ := ⟨_, rfl⟩
 have HP := Lib.hid hP
 have HC : ∀ w', Below w.heap.size w w' → Calls Tryz.prog 19 #[.agg (xCs x P).toArray] w' (FltsOut w' (F x)) := by rw [hP]; exact HC
 rw [← hP] at hI
 have hxC : xCs x P = [.slice A0 x.net.places.length d0, .slice A1 x.net.arcs.length d1, .slice A2 x.types.length d2, .slice A3 x.orders.length d3, .slice A4 x.apart.length d4, .slice A5 x.before.length d5] := by rw [hP]; rfl
 have HXC := Lib.hid hxC
 clear hP
 obtain ⟨R1, hR1⟩ : ∃ R, (⟨(prnF F x).1.toArray⟩ : ByteArray) = R := ⟨_, rfl⟩
 obtain ⟨R2, hR2⟩ : ∃ R, (prnF F x).2 = R := ⟨_, rfl⟩
 have HR := Lib.hid (And.intro hR1 hR2)
 have HCH := Lib.hid HC
 have HI := Lib.hid hI
 have HTB := Lib.hid ht.at_
 have HXO := Lib.hid hx
 rw [hR1, hR2]
 clear hR1 hR2 HC ht hI hx
 obtain ⟨w0, hw0⟩ : ∃ W, w.alloc (.cells (xCs x P).toArray 30) = W := ⟨_, rfl⟩
 have HW0 := Lib.hid (show w.alloc (.cells #[.slice A0 x.net.places.length d0, .slice A1 x.net.arcs.length d1, .slice A2 x.types.length d2, .slice A3 x.orders.length d3, .slice A4 x.apart.length d4, .slice A5 x.before.length d5] 30) = w0 by rw [← hw0, hxC])
 have HB0 : Hid (Blk w0 w.heap.size 30 (xCs x P)) := Lib.hid (by rw [← hw0]; exact Blk.new w _ _)
 have HL0 : Hid (Below w.heap.size w w0) := Lib.hid (by rw [← hw0]; exact (Below.refl _ _).alloc (Nat.le_refl _) _)
 clear hw0 hxC
 go_enter Tryz.func9, Tryz.ntmps9
 go_upto_region 1 with fail
 rw [HW0.out]
 clear HW0
 go_wp2_with ((with_reducible refine wpList_loadG sIns _ rfl ⟨w.heap.size, 0, none⟩ (xCs x P) ?_ ?_ ?_ ?_ ?_); exact rfl; exact rfl; exact HB0.out.cells; exact rfl)
 refine (HCH.out w0 HL0.out).mono ?_
 rintro e w4 ⟨Af, cf, rfl, hownF, b4⟩
 have HB4 := Lib.hid (HB0.out.below b4)
 have HL4 := Lib.hid (HL0.out.trans (b4.mono HL0.out.size))
 clear b4
 cases hF : F x
 case cons f fs =>
  have HE := HR.out
  rw [prnF_bad hF] at HE
  have HE := Lib.hid HE
  rw [hF] at hownF
  obtain ⟨g, hg1, hg2, hg3⟩ := net.flt_place hownF
  obtain ⟨hgA, hgs⟩ := hg2 (by simp)
  obtain ⟨g0, -⟩ := hg3 0 f rfl
  subst hgA
  have gl : (0 : Int) < (fs.length : Int) + 1 := by omega
  have q0 : w4.cell? ⟨g, 0, none⟩ = some (.int .i64 f.err) := by simpa using g0
  clear hF hownF hg2 hg3 g0
  go_upto_region 3 with fail
  (refine wp_region_held_drew (S := (fun w' => w'.cell? ⟨g, 0, none⟩ = some (.int .i64 f.err))) (by kernel_rfl) ?_ (fun hHeld => ?_))
  ·exact q0
  (refine lib.tk 0 rfl ?_; (try simp only [lib.hly]))
  (refine lib.tk 1 rfl ?_; (try simp only [lib.hly]))
  (refine lib.tk 2 rfl ?_; (try simp only [lib.hly]))
  (refine lib.tk 3 rfl ?_; (try simp only [lib.hly]))
  (refine lib.tk 4 rfl ?_; (try simp only [lib.hly]))
  (refine lib.tk 5 rfl ?_; (try simp only [lib.hly]))
  (refine wpAnyH_done (by kernel_rfl) ?_ _)
  go_wp2
  go_ret2
  obtain ⟨e1, e2⟩ := HE.out
  exact ⟨by rw [← e1, ← e2]; rfl, HL4.out.drew⟩
 case nil =>
 have HE := HR.out
 have HXO := Lib.hid (HXO.out hF)
 have HF := Lib.hid hF
 clear hF hownF
 obtain ⟨b, hbe⟩ : ∃ b, w4.heap.size = b := ⟨_, rfl⟩
 obtain ⟨w5, hw5⟩ : ∃ W, w4.alloc (.cells #[.pointer none, .slice none 0 0] 59) = W := ⟨_, rfl⟩
 have HW5 := Lib.hid hw5
 have HL5 : Hid (Below b w4 w5) := Lib.hid (by rw [← hw5, ← hbe]; exact (Below.refl _ _).alloc (Nat.le_refl _) _)
 have HWR : Hid (IsWrt b b (Lib.byteCells (wrB x 0)) w5) := Lib.hid (by rw [wrB_zero, ← hw5, ← hbe]; exact fresh_wrt w4)
 have hHb : w.heap.size < b := by rw [← hbe]; exact HB4.out.lt
 have HX : Hid (∀ v, Below b w4 v → Blk v w.heap.size 30 (xCs x P) ∧ InAt v b x ⟨A0, d0, A1, d1, A2, d2, A3, d3, A4, d4, A5, d5⟩ ∧ TabS v ∧ b ≤ v.heap.size ∧ Below w.heap.size w v) := Lib.hid fun v hv => by
  have h1 : Below w.heap.size w v := HL4.out.trans (hv.mono (by omega))
  exact ⟨(hv.block _ hHb).trans HB4.out, (by rw [← HP.out]; exact (HI.out.below h1).more (by omega)), (HTB.out.below h1).now, by have := hv.size; omega, h1⟩
 have HBE := Lib.hid hbe
 clear hw5 hbe
 have x0 := ((HX.out w5 HL5.out).1).cell (j := 0) (by rw [HXC.out]; rfl)
 go_upto_region 5 with fail
 rw [HW5.out, HBE.out]
 clear HW5
 go_upto_region 6 with fail
 go_loopw [32] (PRel x b w4 0 x.net.places.length) (fun i _ => x.net.places.length - (intOf i).toNat)
 case atStart => exact ⟨0, Nat.zero_le _, rfl, HL5.out, HWR⟩
 case round =>
 obtain ⟨k, hk, rfl, hb, hW⟩ := hrel
 have HBV := Lib.hid hb
 have hbz := (HX.out _ hb).2.2.2.1
 clear hb
 by_cases hlt : k < x.net.places.length
 ·obtain ⟨s, hs⟩ : ∃ s, x.net.places[k]? = some s := ⟨_, List.getElem?_eq_getElem hlt⟩
  have hln := (HX.out _ HBV.out).2.1.places.1
  obtain ⟨ad, hA, hcell⟩ := row_strE (HX.out _ HBV.out).2.1.places hs
  dsimp only at hA
  subst hA
  have HAT := Lib.hid (at0 hs)
  have hk0 : (0 : Int) ≤ (k : Int) := by omega
  have hkn : (k : Int) < (x.net.places.length : Int) := by omega
  clear hs x0
  go_wp2_with (go_at_call 20; refine (pline_any HXO.out [.s ⟨#[112, 108, 97, 99, 101]⟩, .s s] HAT.out rfl (by simp [Wd.fit]) 2 rfl (by decide) (by decide) wr (HX.out _ HBV.out).2.2.1.tabs (HX.out _ HBV.out).2.2.2.1 hW.out).mono ?_; rintro e v ⟨rfl, h1, h2, -⟩)
  go_roundw
  case rel => exact ⟨k + 1, by omega, by go_num, HBV.out.trans h2, Lib.hid h1⟩
  case measure => simp [intOf]; omega
 have hkn : ¬ (k : Int) < ((x.net.places.length : Nat) : Int) := by omega
 have HW1 : Hid (IsWrt b b (Lib.byteCells (wrB x (o1 x + 0))) wr) := Lib.hid (by
  have e : k = x.net.places.length := by omega
  have h := hW.out
  rw [e] at h
  first | exact h | (rw [Nat.zero_add] at h; exact h))
 have x0 := ((HX.out _ HBV.out).1).cell (j := 1) (by rw [HXC.out]; rfl)
 clear hlt hk hW
 go_upto_region 11 with fail
 go_loopw [46] (PRel x b w4 (o1 x) x.net.arcs.length) (fun i _ => x.net.arcs.length - (intOf i).toNat)
 case atStart => exact ⟨0, Nat.zero_le _, rfl, HBV.out, HW1⟩
 case round =>
 clear HBV HW1 hkn hbz x0
 obtain ⟨k, hk, rfl, hb, hW⟩ := hrel
 have HBV := Lib.hid hb
 have hbz := (HX.out _ hb).2.2.2.1
 clear hb
 by_cases hlt : k < x.net.arcs.length
 ·obtain ⟨a, ha⟩ : ∃ s, x.net.arcs[k]? = some s := ⟨_, List.getElem?_eq_getElem hlt⟩
  have hln := (HX.out _ HBV.out).2.1.arcs.1
  obtain ⟨ad, cs, hA, hadb, hat, hcs⟩ := RowAt.elem (HX.out _ HBV.out).2.1.arcs ha
  obtain ⟨C0, c0, C1, c1, rfl, hR0, hR1, hf⟩ := rArc_at hat
  dsimp only at hA
  subst hA
  have HCE : Hid (CellsAt wr (ad.add (k * 6)) (ArcCells a C0 c0 C1 c1)) := Lib.hid hcs
  have HAT := Lib.hid (at1 ha)
  have HOK := Lib.hid (arc_ok HXO.out ha)
  have HR0 := Lib.hid (And.intro hR0 hR1)
  have hk0 : (0 : Int) ≤ (k : Int) := by omega
  have hkn : (k : Int) < (x.net.arcs.length : Int) := by omega
  clear ha hadb hat hcs hR0 hR1 hf
  go_upto_region 13 with (first
   | ((with_reducible refine wpList_loadG sArc _ rfl (ad.add (k * 6)) (ArcCells a C0 c0 C1 c1) ?_ ?_ ?_ ?_ ?_); exact rfl; exact rfl; exact HCE.out; exact rfl)
   | ((with_reducible refine wpList_storeL sArc rfl _ _ rfl wr.heap.size (ArcCells zAr none 0 none 0) (ArcCells a C0 c0 C1 c1) ?_ ?_ ?_ ?_ ?_ (arc_one _ _ _ _ _) ?_); exact rfl; exact rfl; exact Blk.new wr _ _; exact rfl; exact rfl; intro v4 k1 k2 k3 k4; have K := lib.h4 k1 k2 k3 k4; clear k1 k2 k3 k4))
  (try simp only [lib.hly])
  have b4 : Below wr.heap.size wr v4 := ((Below.refl _ _).alloc (Nat.le_refl _) _).trans K.out.2.2.2
  obtain ⟨q, hq⟩ : ∃ q, wr.heap.size = q := ⟨_, rfl⟩
  have HQ4 : Hid (Blk v4 q 49 (ArcCells a C0 c0 C1 c1)) := Lib.hid (by rw [← hq]; exact K.out.1)
  have HR4 := Lib.hid b4
  have HQR : Hid (wr.heap.size ≤ q) := Lib.hid (Nat.le_of_eq hq)
  have HB4 := Lib.hid (HBV.out.trans (b4.mono hbz))
  rw [hq]
  clear K b4 hq
  clear HCE
  (refine wp_region_held_drew (S := (fun v => Blk v q 49 (ArcCells a C0 c0 C1 c1))) (by kernel_rfl) ?_ (fun hHeld => ?_))
  ·exact HQ4.out
  (refine lib.tk 0 rfl ?_; (try simp only [lib.hly]))
  (refine lib.tk 1 rfl ?_; (try simp only [lib.hly]))
  (refine lib.tk 2 rfl ?_ (fun _ hSw => exec_ld_int rfl rfl (hSw.cell (j := 0) rfl)); (try simp only [lib.hly]))
  (refine lib.tk 3 rfl ?_; (try simp only [lib.hly]))
  (refine lib.tk 4 rfl ?_; (try simp only [lib.hly]))
  (refine lib.tk 5 rfl ?_ (fun _ hSw => exec_ld_int rfl rfl (hSw.cell (j := 1) rfl)); (try simp only [lib.hly]))
  (refine lib.tk 6 rfl ?_; (try simp only [lib.hly]))
  (refine lib.tk 7 rfl ?_; (try simp only [lib.hly]))
  (refine lib.tk 8 rfl ?_ (fun _ hSw => exec_ld_int rfl rfl (hSw.cell (j := 2) rfl)); (try simp only [lib.hly]))
  (refine lib.tk 9 rfl ?_; (try simp only [lib.hly]))
  (refine lib.tk 10 rfl ?_; (try simp only [lib.hly]))
  (refine lib.tk 11 rfl ?_ (fun _ hSw => exec_ld_int rfl rfl (hSw.cell (j := 3) rfl)); (try simp only [lib.hly]))
  (refine lib.tk 12 rfl ?_; (try simp only [lib.hly]))
  (refine lib.tk 13 rfl ?_; (try simp only [lib.hly]))
  (refine lib.tk 14 rfl ?_ (fun _ hSw => exec_ld_pts rfl rfl (hSw.cell (j := 4) rfl)); (try simp only [lib.hly]))
  (refine lib.tk 17 rfl ?_; (try simp only [lib.hly]))
  (refine lib.tk 18 rfl ?_ (fun _ hSw => exec_ld_pts rfl rfl (hSw.cell (j := 5) rfl)); (try simp only [lib.hly]))
  (refine lib.rk 15 rfl fun K hK => ?_)
  go_simp
  refine (travel_any a.travel C0 _ c0 rfl _ (HX.out _ HB4.out.drew).2.2.1.tabs ((HR0.out.1.below (HR4.out.mono hbz).drew).more (HX.out _ HB4.out.drew).2.2.2.1) HOK.out.1.2.1 HOK.out.2.1).mono ?_
  rintro e5 v5 ⟨rfl, b5⟩
  have HR5 := Lib.hid (HR4.out.trans ((below_drew b5).mono HR4.out.size))
  have HB5 := Lib.hid (HB4.out.trans ((below_drew b5).mono (HX.out _ HB4.out).2.2.2.1))
  have HQ5 := Lib.hid (HQ4.out.below (below_drew b5))
  clear b5
  refine hK.out _ _ (HQ5.out) (fun hHeld => ?_)
  clear hK K
  (try simp only [lib.hly])
  (refine lib.tk 16 rfl ?_; (try simp only [lib.hly]))
  (refine lib.rk 19 rfl fun K hK => ?_)
  go_simp
  refine (travel_any a.slow C1 _ c1 rfl _ (HX.out _ HB5.out).2.2.1.tabs ((HR0.out.2.below (HR5.out.mono hbz)).more (HX.out _ HB5.out).2.2.2.1) HOK.out.1.2.2 HOK.out.2.2).mono ?_
  rintro e6 v6 ⟨rfl, b6⟩
  have HR6 := Lib.hid (HR5.out.trans (b6.mono HR5.out.size))
  have HB6 := Lib.hid (HB5.out.trans (b6.mono (HX.out _ HB5.out).2.2.2.1))
  have HQ6 := Lib.hid (HQ5.out.below b6)
  clear b6
  refine hK.out _ _ (HQ6.out) (fun hHeld => ?_)
  clear hK K
  (try simp only [lib.hly])
  (refine lib.tk 20 rfl ?_; (try simp only [lib.hly]))
  (refine lib.rk 21 rfl fun K hK => ?_)
  go_simp
  refine hK.out _ _ ((HQ6.out.kept (World.grownBy_alloc _ _ none) (by simp))) (fun hHeld => ?_)
  clear hK K
  (try simp only [lib.hly])
  (refine lib.rk 22 rfl fun K hK => ?_)
  go_simp
  refine (pline_any HXO.out [.s ⟨#[97, 114, 99]⟩, .n a.frm, .n a.to, .n a.profile, .n a.miles, .s ⟨(trvF a.travel).toArray⟩, .s ⟨(trvF a.slow).toArray⟩] HAT.out (by simp [Wd.by, Lin.words, arcW, kwA]) (arc_fit HOK.out.1) 7 rfl (by decide) (by decide) v6 (HX.out _ HB6.out).2.2.1.tabs (HX.out _ HB6.out).2.2.2.1 (isWrt_below hW.out HR6.out)).mono ?_
  rintro e7 v7 ⟨rfl, h1, h2, h3⟩
  have HQ7 : Hid (Blk v7 q 49 (ArcCells a C0 c0 C1 c1)) := Lib.hid ((h3 _ hW.out HR6.out q HQR.out HQ6.out.lt).trans HQ6.out)
  have HB7 := Lib.hid (HB6.out.trans h2)
  have HW7 := Lib.hid h1
  clear h1 h2 h3
  refine hK.out _ _ (HQ7.out) (fun hHeld => ?_)
  clear hK K
  (try simp only [lib.hly])
  (refine wpAnyH_done (by kernel_rfl) ?_ _)
  go_wp2
  go_roundw
  case rel => exact ⟨k + 1, by omega, by go_num, HB7.out, HW7⟩
  case measure => simp [intOf]; omega
 have hkn : ¬ (k : Int) < ((x.net.arcs.length : Nat) : Int) := by omega
 have HW1 : Hid (IsWrt b b (Lib.byteCells (wrB x (o2 x + 0))) wr) := Lib.hid (by
  have e : k = x.net.arcs.length := by omega
  have h := hW.out
  rw [e] at h
  first | exact h | (rw [Nat.zero_add] at h; exact h))
 have x0 := ((HX.out _ HBV.out).1).cell (j := 2) (by rw [HXC.out]; rfl)
 clear hlt hk hW
 go_upto_region 16 with fail
 go_loopw [77] (PRel x b w4 (o2 x) x.types.length) (fun i _ => x.types.length - (intOf i).toNat)
 case atStart => exact ⟨0, Nat.zero_le _, rfl, HBV.out, HW1⟩
 case round =>
 clear HBV HW1 hkn hbz x0
 obtain ⟨k, hk, rfl, hb, hW⟩ := hrel
 have HBV := Lib.hid hb
 have hbz := (HX.out _ hb).2.2.2.1
 clear hb
 by_cases hlt : k < x.types.length
 ·obtain ⟨a, ha⟩ : ∃ s, x.types[k]? = some s := ⟨_, List.getElem?_eq_getElem hlt⟩
  have hln := (HX.out _ HBV.out).2.1.types.1
  obtain ⟨ad, cs, hA, hadb, hat, hcs⟩ := RowAt.elem (HX.out _ HBV.out).2.1.types ha
  obtain ⟨C, c, rfl, hR0, hf⟩ := rTy_at hat
  dsimp only at hA
  subst hA
  have HCE : Hid (CellsAt wr (ad.add (k * 14)) (TyCells a C c)) := Lib.hid hcs
  have HAT := Lib.hid (at2 ha)
  have HOK := Lib.hid (ty_ok HXO.out ha)
  have HR0 := Lib.hid hR0
  have hk0 : (0 : Int) ≤ (k : Int) := by omega
  have hkn : (k : Int) < (x.types.length : Int) := by omega
  clear ha hadb hat hcs hR0 hf
  go_upto_region 18 with (first
   | ((with_reducible refine wpList_loadG sTy _ rfl (ad.add (k * 14)) (TyCells a C c) ?_ ?_ ?_ ?_ ?_); exact rfl; exact rfl; exact HCE.out; exact rfl)
   | ((with_reducible refine wpList_storeL sTy rfl _ _ rfl wr.heap.size (TyCells zTy none 0) (TyCells a C c) ?_ ?_ ?_ ?_ ?_ (ty_one _ _ _) ?_); exact rfl; exact rfl; exact Blk.new wr _ _; exact rfl; exact rfl; intro v4 k1 k2 k3 k4; have K := lib.h4 k1 k2 k3 k4; clear k1 k2 k3 k4))
  (try simp only [lib.hly])
  have b4 : Below wr.heap.size wr v4 := ((Below.refl _ _).alloc (Nat.le_refl _) _).trans K.out.2.2.2
  obtain ⟨q, hq⟩ : ∃ q, wr.heap.size = q := ⟨_, rfl⟩
  have HQ4 : Hid (Blk v4 q 63 (TyCells a C c)) := Lib.hid (by rw [← hq]; exact K.out.1)
  have HR4 := Lib.hid b4
  have HQR : Hid (wr.heap.size ≤ q) := Lib.hid (Nat.le_of_eq hq)
  have HB4 := Lib.hid (HBV.out.trans (b4.mono hbz))
  rw [hq]
  clear K b4 hq
  clear HCE
  (refine wp_region_held_drew (S := (fun v => Blk v q 63 (TyCells a C c))) (by kernel_rfl) ?_ (fun hHeld => ?_))
  ·exact HQ4.out
  (refine lib.tk 0 rfl ?_; (try simp only [lib.hly]))
  (refine lib.tk 1 rfl ?_; (try simp only [lib.hly]))
  (refine lib.tk 2 rfl ?_ (fun _ hSw => exec_ld_str rfl rfl (hSw.cell (j := 0) rfl)); (try simp only [lib.hly]))
  (refine lib.tk 3 rfl ?_; (try simp only [lib.hly]))
  (refine lib.tk 4 rfl ?_; (try simp only [lib.hly]))
  (refine lib.tk 5 rfl ?_ (fun _ hSw => exec_ld_int rfl rfl (hSw.cell (j := 1) rfl)); (try simp only [lib.hly]))
  (refine lib.tk 6 rfl ?_; (try simp only [lib.hly]))
  (refine lib.tk 7 rfl ?_; (try simp only [lib.hly]))
  (refine lib.tk 8 rfl ?_ (fun _ hSw => exec_ld_int rfl rfl (hSw.cell (j := 2) rfl)); (try simp only [lib.hly]))
  (refine lib.tk 9 rfl ?_; (try simp only [lib.hly]))
  (refine lib.tk 10 rfl ?_; (try simp only [lib.hly]))
  (refine lib.tk 11 rfl ?_ (fun _ hSw => exec_ld_int rfl rfl (hSw.cell (j := 3) rfl)); (try simp only [lib.hly]))
  (refine lib.tk 12 rfl ?_; (try simp only [lib.hly]))
  (refine lib.tk 13 rfl ?_; (try simp only [lib.hly]))
  (refine lib.tk 14 rfl ?_ (fun _ hSw => exec_ld_ints rfl rfl (hSw.cell (j := 4) rfl)); (try simp only [lib.hly]))
  (refine lib.tk 17 rfl ?_; (try simp only [lib.hly]))
  (refine lib.tk 18 rfl ?_ (fun _ hSw => exec_ld_int rfl rfl (hSw.cell (j := 5) rfl)); (try simp only [lib.hly]))
  (refine lib.tk 19 rfl ?_; (try simp only [lib.hly]))
  (refine lib.tk 20 rfl ?_; (try simp only [lib.hly]))
  (refine lib.tk 21 rfl ?_ (fun _ hSw => exec_ld_int rfl rfl (hSw.cell (j := 6) rfl)); (try simp only [lib.hly]))
  (refine lib.tk 22 rfl ?_; (try simp only [lib.hly]))
  (refine lib.tk 23 rfl ?_; (try simp only [lib.hly]))
  (refine lib.tk 24 rfl ?_ (fun _ hSw => exec_ld_int rfl rfl (hSw.cell (j := 7) rfl)); (try simp only [lib.hly]))
  (refine lib.tk 25 rfl ?_; (try simp only [lib.hly]))
  (refine lib.tk 26 rfl ?_; (try simp only [lib.hly]))
  (refine lib.tk 27 rfl ?_ (fun _ hSw => exec_ld_int rfl rfl (hSw.cell (j := 8) rfl)); (try simp only [lib.hly]))
  (refine lib.tk 28 rfl ?_; (try simp only [lib.hly]))
  (refine lib.tk 29 rfl ?_; (try simp only [lib.hly]))
  (refine lib.tk 30 rfl ?_ (fun _ hSw => exec_ld_int rfl rfl (hSw.cell (j := 9) rfl)); (try simp only [lib.hly]))
  (refine lib.tk 31 rfl ?_; (try simp only [lib.hly]))
  (refine lib.tk 32 rfl ?_; (try simp only [lib.hly]))
  (refine lib.tk 33 rfl ?_ (fun _ hSw => exec_ld_int rfl rfl (hSw.cell (j := 10) rfl)); (try simp only [lib.hly]))
  (refine lib.tk 34 rfl ?_; (try simp only [lib.hly]))
  (refine lib.tk 35 rfl ?_; (try simp only [lib.hly]))
  (refine lib.tk 36 rfl ?_ (fun _ hSw => exec_ld_int rfl rfl (hSw.cell (j := 11) rfl)); (try simp only [lib.hly]))
  (refine lib.tk 37 rfl ?_; (try simp only [lib.hly]))
  (refine lib.tk 38 rfl ?_; (try simp only [lib.hly]))
  (refine lib.tk 39 rfl ?_ (fun _ hSw => exec_ld_int rfl rfl (hSw.cell (j := 12) rfl)); (try simp only [lib.hly]))
  (refine lib.tk 40 rfl ?_; (try simp only [lib.hly]))
  (refine lib.tk 41 rfl ?_; (try simp only [lib.hly]))
  (refine lib.tk 42 rfl ?_ (fun _ hSw => exec_ld_int rfl rfl (hSw.cell (j := 13) rfl)); (try simp only [lib.hly]))
  (refine lib.tk 43 rfl ?_; (try simp only [lib.hly]))
  (refine lib.rk 15 rfl fun K hK => ?_)
  go_simp
  refine (list_any a.cap C _ c rfl _ (HX.out _ HB4.out.drew).2.2.1.tabs ((HR0.out.below (HR4.out.mono hbz).drew).more (HX.out _ HB4.out.drew).2.2.2.1) HOK.out.1.2.2 HOK.out.2).mono ?_
  rintro e5 v5 ⟨rfl, b5⟩
  have HR5 := Lib.hid (HR4.out.trans ((below_drew b5).mono HR4.out.size))
  have HB5 := Lib.hid (HB4.out.trans ((below_drew b5).mono (HX.out _ HB4.out).2.2.2.1))
  have HQ5 := Lib.hid (HQ4.out.below (below_drew b5))
  clear b5
  refine hK.out _ _ (HQ5.out) (fun hHeld => ?_)
  clear hK K
  (try simp only [lib.hly])
  (refine lib.tk 16 rfl ?_; (try simp only [lib.hly]))
  (refine lib.rk 44 rfl fun K hK => ?_)
  go_simp
  refine hK.out _ _ ((HQ5.out.kept (World.grownBy_alloc _ _ none) (by simp))) (fun hHeld => ?_)
  clear hK K
  (try simp only [lib.hly])
  (refine lib.rk 45 rfl fun K hK => ?_)
  go_simp
  refine (pline_any HXO.out [.s ⟨#[116, 121, 112, 101]⟩, .s a.name, .n a.count, .n a.frm, .n a.to, .s ⟨(listF a.cap).toArray⟩, .n a.skills, .n a.profile, .n a.opn, .n a.close, .n a.drive, .n a.rest, .n a.fixed, .n a.mile, .n a.tick] HAT.out (by simp [Wd.by, Lin.words, typeW, kwT]) (ty_fit HOK.out.1) 15 rfl (by decide) (by decide) v5 (HX.out _ HB5.out).2.2.1.tabs (HX.out _ HB5.out).2.2.2.1 (isWrt_below hW.out HR5.out)).mono ?_
  rintro e7 v7 ⟨rfl, h1, h2, h3⟩
  have HQ7 : Hid (Blk v7 q 63 (TyCells a C c)) := Lib.hid ((h3 _ hW.out HR5.out q HQR.out HQ5.out.lt).trans HQ5.out)
  have HB7 := Lib.hid (HB5.out.trans h2)
  have HW7 := Lib.hid h1
  clear h1 h2 h3
  refine hK.out _ _ (HQ7.out) (fun hHeld => ?_)
  clear hK K
  (try simp only [lib.hly])
  (refine wpAnyH_done (by kernel_rfl) ?_ _)
  go_wp2
  go_roundw
  case rel => exact ⟨k + 1, by omega, by go_num, HB7.out, HW7⟩
  case measure => simp [intOf]; omega
 have hkn : ¬ (k : Int) < ((x.types.length : Nat) : Int) := by omega
 have HW1 : Hid (IsWrt b b (Lib.byteCells (wrB x (o3 x + 0))) wr) := Lib.hid (by
  have e : k = x.types.length := by omega
  have h := hW.out
  rw [e] at h
  first | exact h | (rw [Nat.zero_add] at h; exact h))
 have x0 := ((HX.out _ HBV.out).1).cell (j := 3) (by rw [HXC.out]; rfl)
 clear hlt hk hW
 go_upto_region 21 with fail
 go_loopw [131] (PRel x b w4 (o3 x) x.orders.length) (fun i _ => x.orders.length - (intOf i).toNat)
 case atStart => exact ⟨0, Nat.zero_le _, rfl, HBV.out, HW1⟩
 case round =>
 clear HBV HW1 hkn hbz x0
 obtain ⟨k, hk, rfl, hb, hW⟩ := hrel
 have HBV := Lib.hid hb
 have hbz := (HX.out _ hb).2.2.2.1
 clear hb
 by_cases hlt : k < x.orders.length
 ·obtain ⟨a, ha⟩ : ∃ s, x.orders[k]? = some s := ⟨_, List.getElem?_eq_getElem hlt⟩
  have hln := (HX.out _ HBV.out).2.1.orders.1
  obtain ⟨ad, cs, hA, hadb, hat, hcs⟩ := RowAt.elem (HX.out _ HBV.out).2.1.orders ha
  obtain ⟨C, c, rfl, hR0, hf⟩ := rOrd_at hat
  dsimp only at hA
  subst hA
  have HCE : Hid (CellsAt wr (ad.add (k * 16)) (OrdCells a C c)) := Lib.hid hcs
  have HAT := Lib.hid (at3 ha)
  have HOK := Lib.hid (ord_ok HXO.out ha)
  have HR0 := Lib.hid hR0
  have hk0 : (0 : Int) ≤ (k : Int) := by omega
  have hkn : (k : Int) < (x.orders.length : Int) := by omega
  clear ha hadb hat hcs hR0 hf
  go_upto_region 23 with (first
   | ((with_reducible refine wpList_loadG sOrd _ rfl (ad.add (k * 16)) (OrdCells a C c) ?_ ?_ ?_ ?_ ?_); exact rfl; exact rfl; exact HCE.out; exact rfl)
   | ((with_reducible refine wpList_storeL sOrd rfl _ _ rfl wr.heap.size (OrdCells zOr none 0) (OrdCells a C c) ?_ ?_ ?_ ?_ ?_ (ord_one _ _ _) ?_); exact rfl; exact rfl; exact Blk.new wr _ _; exact rfl; exact rfl; intro v4 k1 k2 k3 k4; have K := lib.h4 k1 k2 k3 k4; clear k1 k2 k3 k4))
  (try simp only [lib.hly])
  have b4 : Below wr.heap.size wr v4 := ((Below.refl _ _).alloc (Nat.le_refl _) _).trans K.out.2.2.2
  obtain ⟨q, hq⟩ : ∃ q, wr.heap.size = q := ⟨_, rfl⟩
  have HQ4 : Hid (Blk v4 q 66 (OrdCells a C c)) := Lib.hid (by rw [← hq]; exact K.out.1)
  have HR4 := Lib.hid b4
  have HQR : Hid (wr.heap.size ≤ q) := Lib.hid (Nat.le_of_eq hq)
  have HB4 := Lib.hid (HBV.out.trans (b4.mono hbz))
  rw [hq]
  clear K b4 hq
  clear HCE
  have c15 := HQ4.out.cell (j := 15) rfl
  go_upto_if 136 with fail
  go_cut [14] (fun s wx => s = .string ⟨(stateW a.off).toArray⟩ ∧ v4 = wx)
  case first =>
   obtain ⟨f, hf⟩ : ∃ f, a.off = f := ⟨_, rfl⟩
   rw [hf]
   cases f
   ·go_wp2
    go_meet
    exact ⟨by rw [hf]; rfl, rfl⟩
   ·go_wp2
    go_meet
    exact ⟨by rw [hf]; rfl, rfl⟩
  obtain ⟨hu, rfl⟩ := hcut
  subst hu
  clear c15
  go_upto_region 26 with fail
  (refine wp_region_held_drew (S := (fun v => Blk v q 66 (OrdCells a C c))) (by kernel_rfl) ?_ (fun hHeld => ?_))
  ·exact HQ4.out
  (refine lib.tk 0 rfl ?_; (try simp only [lib.hly]))
  (refine lib.tk 1 rfl ?_; (try simp only [lib.hly]))
  (refine lib.tk 2 rfl ?_ (fun _ hSw => exec_ld_str rfl rfl (hSw.cell (j := 0) rfl)); (try simp only [lib.hly]))
  (refine lib.tk 3 rfl ?_; (try simp only [lib.hly]))
  (refine lib.tk 4 rfl ?_; (try simp only [lib.hly]))
  (refine lib.tk 5 rfl ?_ (fun _ hSw => exec_ld_ints rfl rfl (hSw.cell (j := 1) rfl)); (try simp only [lib.hly]))
  (refine lib.tk 8 rfl ?_; (try simp only [lib.hly]))
  (refine lib.tk 9 rfl ?_ (fun _ hSw => exec_loadS sStp rfl rfl (Blk.sub hSw (ord_pick a C c)) rfl); (try simp only [lib.hly]))
  (refine lib.tk 12 rfl ?_; (try simp only [lib.hly]))
  (refine lib.tk 13 rfl ?_ (fun _ hSw => exec_loadS sStp rfl rfl (Blk.sub hSw (ord_drop a C c)) rfl); (try simp only [lib.hly]))
  (refine lib.tk 16 rfl ?_; (try simp only [lib.hly]))
  (refine lib.tk 17 rfl ?_ (fun _ hSw => exec_ld_int rfl rfl (hSw.cell (j := 10) rfl)); (try simp only [lib.hly]))
  (refine lib.tk 18 rfl ?_; (try simp only [lib.hly]))
  (refine lib.tk 19 rfl ?_; (try simp only [lib.hly]))
  (refine lib.tk 20 rfl ?_ (fun _ hSw => exec_ld_int rfl rfl (hSw.cell (j := 11) rfl)); (try simp only [lib.hly]))
  (refine lib.tk 21 rfl ?_; (try simp only [lib.hly]))
  (refine lib.tk 22 rfl ?_; (try simp only [lib.hly]))
  (refine lib.tk 23 rfl ?_ (fun _ hSw => exec_ld_int rfl rfl (hSw.cell (j := 12) rfl)); (try simp only [lib.hly]))
  (refine lib.tk 24 rfl ?_; (try simp only [lib.hly]))
  (refine lib.tk 25 rfl ?_; (try simp only [lib.hly]))
  (refine lib.tk 26 rfl ?_ (fun _ hSw => exec_ld_int rfl rfl (hSw.cell (j := 13) rfl)); (try simp only [lib.hly]))
  (refine lib.tk 27 rfl ?_; (try simp only [lib.hly]))
  (refine lib.tk 28 rfl ?_; (try simp only [lib.hly]))
  (refine lib.tk 29 rfl ?_ (fun _ hSw => exec_ld_int rfl rfl (hSw.cell (j := 14) rfl)); (try simp only [lib.hly]))
  (refine lib.tk 30 rfl ?_; (try simp only [lib.hly]))
  (refine lib.tk 31 rfl ?_; (try simp only [lib.hly]))
  (refine lib.tk 32 rfl ?_; (try simp only [lib.hly]))
  (refine lib.rk 6 rfl fun K hK => ?_)
  go_simp
  refine (list_any a.load C _ c rfl _ (HX.out _ HB4.out.drew).2.2.1.tabs ((HR0.out.below (HR4.out.mono hbz).drew).more (HX.out _ HB4.out.drew).2.2.2.1) HOK.out.1.2.2 HOK.out.2).mono ?_
  rintro e5 v5 ⟨rfl, b5⟩
  have HR5 := Lib.hid (HR4.out.trans ((below_drew b5).mono HR4.out.size))
  have HB5 := Lib.hid (HB4.out.trans ((below_drew b5).mono (HX.out _ HB4.out).2.2.2.1))
  have HQ5 := Lib.hid (HQ4.out.below (below_drew b5))
  clear b5
  refine hK.out _ _ (HQ5.out) (fun hHeld => ?_)
  clear hK K
  (try simp only [lib.hly])
  (refine lib.tk 7 rfl ?_; (try simp only [lib.hly]))
  (refine lib.rk 10 rfl fun K hK => ?_)
  go_simp
  refine (sstop_any a.pick _ (HX.out _ HB5.out).2.2.1 (stp_in HOK.out.1.2.1.2.1)).mono ?_
  rintro e6 v6 ⟨rfl, b6⟩
  have HR6 := Lib.hid (HR5.out.trans (b6.mono HR5.out.size))
  have HB6 := Lib.hid (HB5.out.trans (b6.mono (HX.out _ HB5.out).2.2.2.1))
  have HQ6 := Lib.hid (HQ5.out.below b6)
  clear b6
  refine hK.out _ _ (HQ6.out) (fun hHeld => ?_)
  clear hK K
  (try simp only [lib.hly])
  (refine lib.tk 11 rfl ?_; (try simp only [lib.hly]))
  (refine lib.rk 14 rfl fun K hK => ?_)
  go_simp
  refine (sstop_any a.drop _ (HX.out _ HB6.out).2.2.1 (stp_in HOK.out.1.2.1.2.2.1)).mono ?_
  rintro e7 v7 ⟨rfl, b7⟩
  have HR7 := Lib.hid (HR6.out.trans (b7.mono HR6.out.size))
  have HB7 := Lib.hid (HB6.out.trans (b7.mono (HX.out _ HB6.out).2.2.2.1))
  have HQ7 := Lib.hid (HQ6.out.below b7)
  clear b7
  refine hK.out _ _ (HQ7.out) (fun hHeld => ?_)
  clear hK K
  (try simp only [lib.hly])
  (refine lib.tk 15 rfl ?_; (try simp only [lib.hly]))
  (refine lib.rk 33 rfl fun K hK => ?_)
  go_simp
  refine hK.out _ _ ((HQ7.out.kept (World.grownBy_alloc _ _ none) (by simp))) (fun hHeld => ?_)
  clear hK K
  (try simp only [lib.hly])
  (refine lib.rk 34 rfl fun K hK => ?_)
  go_simp
  refine (pline_any HXO.out [.s ⟨#[111, 114, 100, 101, 114]⟩, .s a.name, .s ⟨(listF a.load).toArray⟩, .s ⟨(stopF a.pick).toArray⟩, .s ⟨(stopF a.drop).toArray⟩, .n a.skills, .n a.penalty, .n a.split, .n a.last, .n a.now, .s ⟨(stateW a.off).toArray⟩] HAT.out (by simp [Wd.by, Lin.words, orderW, kwO]) (ord_fit HOK.out.1) 11 rfl (by decide) (by decide) v7 (HX.out _ HB7.out).2.2.1.tabs (HX.out _ HB7.out).2.2.2.1 (isWrt_below hW.out HR7.out)).mono ?_
  rintro e8 v8 ⟨rfl, h1, h2, h3⟩
  have HQ8 : Hid (Blk v8 q 66 (OrdCells a C c)) := Lib.hid ((h3 _ hW.out HR7.out q HQR.out HQ7.out.lt).trans HQ7.out)
  have HB8 := Lib.hid (HB7.out.trans h2)
  have HW8 := Lib.hid h1
  clear h1 h2 h3
  refine hK.out _ _ (HQ8.out) (fun hHeld => ?_)
  clear hK K
  (try simp only [lib.hly])
  (refine wpAnyH_done (by kernel_rfl) ?_ _)
  go_wp2
  go_roundw
  case rel => exact ⟨k + 1, by omega, by go_num, HB8.out, HW8⟩
  case measure => simp [intOf]; omega
 have hkn : ¬ (k : Int) < ((x.orders.length : Nat) : Int) := by omega
 have HW1 : Hid (IsWrt b b (Lib.byteCells (wrB x (o4 x + 0))) wr) := Lib.hid (by
  have e : k = x.orders.length := by omega
  have h := hW.out
  rw [e] at h
  first | exact h | (rw [Nat.zero_add] at h; exact h))
 have x0 := ((HX.out _ HBV.out).1).cell (j := 4) (by rw [HXC.out]; rfl)
 clear hlt hk hW
 go_upto_region 29 with fail
 go_loopw [176] (PRel x b w4 (o4 x) x.apart.length) (fun i _ => x.apart.length - (intOf i).toNat)
 case atStart => exact ⟨0, Nat.zero_le _, rfl, HBV.out, HW1⟩
 case round =>
 clear HBV HW1 hkn hbz x0
 obtain ⟨k, hk, rfl, hb, hW⟩ := hrel
 have HBV := Lib.hid hb
 have hbz := (HX.out _ hb).2.2.2.1
 clear hb
 by_cases hlt : k < x.apart.length
 ·obtain ⟨s, hs⟩ : ∃ s, x.apart[k]? = some s := ⟨_, List.getElem?_eq_getElem hlt⟩
  have hln := (HX.out _ HBV.out).2.1.apart.1
  obtain ⟨ad, hA, x0, x1⟩ := row_two (HX.out _ HBV.out).2.1.apart hs
  dsimp only at hA
  subst hA
  have HAT := Lib.hid (at4 hs)
  have HOK := Lib.hid (apart_ok HXO.out hs)
  have hk0 : (0 : Int) ≤ (k : Int) := by omega
  have hkn : (k : Int) < ((x.apart.length : Nat) : Int) := by omega
  obtain ⟨s1, s2⟩ := s
  dsimp only at x0 x1
  obtain ⟨W1, hW1⟩ : ∃ W1, wr.alloc (.cells #[.int .i64 s1, .int .i64 s2] 67) = W1 := ⟨_, rfl⟩
  have k0 : W1.cell? ⟨wr.heap.size, 0, none⟩ = some (.int .i64 s1) := by rw [← hW1]; exact (Blk.new wr 67 [.int .i64 s1, .int .i64 s2]).cell (j := 0) rfl
  have k1 : W1.cell? ⟨wr.heap.size, 1, none⟩ = some (.int .i64 s2) := by rw [← hW1]; exact (Blk.new wr 67 [.int .i64 s1, .int .i64 s2]).cell (j := 1) rfl
  have HR1 : Hid (Below wr.heap.size wr W1) := Lib.hid (by rw [← hW1]; exact (Below.refl _ _).alloc (Nat.le_refl _) _)
  have HB1 := Lib.hid (HBV.out.trans (HR1.out.mono hbz))
  have HW1 := Lib.hid hW1
  clear hs hW1
  go_upto_region 31 with fail
  rw [HW1.out]
  go_wp2_with (go_at_call 20; refine (pline_any HXO.out [.s ⟨#[97, 112, 97, 114, 116]⟩, .n s1, .n s2] HAT.out (by simp [Wd.by, Lin.words, pairW, kwX]) (pair_fit HOK.out _) 3 rfl (by decide) (by decide) W1 (HX.out _ HB1.out).2.2.1.tabs (HX.out _ HB1.out).2.2.2.1 (isWrt_below hW.out HR1.out)).mono ?_; rintro e v ⟨rfl, h1, h2, -⟩)
  go_roundw
  case rel => exact ⟨k + 1, by omega, by go_num, HB1.out.trans h2, Lib.hid h1⟩
  case measure => simp [intOf]; omega
 have hkn : ¬ (k : Int) < ((x.apart.length : Nat) : Int) := by omega
 have HW1 : Hid (IsWrt b b (Lib.byteCells (wrB x (o5 x + 0))) wr) := Lib.hid (by
  have e : k = x.apart.length := by omega
  have h := hW.out
  rw [e] at h
  first | exact h | (rw [Nat.zero_add] at h; exact h))
 have x0 := ((HX.out _ HBV.out).1).cell (j := 5) (by rw [HXC.out]; rfl)
 clear hlt hk hW
 go_upto_region 34 with fail
 go_loopw [193] (PRel x b w4 (o5 x) x.before.length) (fun i _ => x.before.length - (intOf i).toNat)
 case atStart => exact ⟨0, Nat.zero_le _, rfl, HBV.out, HW1⟩
 case round =>
 clear HBV HW1 hkn hbz x0
 obtain ⟨k, hk, rfl, hb, hW⟩ := hrel
 have HBV := Lib.hid hb
 have hbz := (HX.out _ hb).2.2.2.1
 clear hb
 by_cases hlt : k < x.before.length
 ·obtain ⟨s, hs⟩ : ∃ s, x.before[k]? = some s := ⟨_, List.getElem?_eq_getElem hlt⟩
  have hln := (HX.out _ HBV.out).2.1.before.1
  obtain ⟨ad, hA, x0, x1⟩ := row_two (HX.out _ HBV.out).2.1.before hs
  dsimp only at hA
  subst hA
  have HAT := Lib.hid (at5 hs)
  have HOK := Lib.hid (before_ok HXO.out hs)
  have hk0 : (0 : Int) ≤ (k : Int) := by omega
  have hkn : (k : Int) < ((x.before.length : Nat) : Int) := by omega
  obtain ⟨s1, s2⟩ := s
  dsimp only at x0 x1
  obtain ⟨W1, hW1⟩ : ∃ W1, wr.alloc (.cells #[.int .i64 s1, .int .i64 s2] 67) = W1 := ⟨_, rfl⟩
  have k0 : W1.cell? ⟨wr.heap.size, 0, none⟩ = some (.int .i64 s1) := by rw [← hW1]; exact (Blk.new wr 67 [.int .i64 s1, .int .i64 s2]).cell (j := 0) rfl
  have k1 : W1.cell? ⟨wr.heap.size, 1, none⟩ = some (.int .i64 s2) := by rw [← hW1]; exact (Blk.new wr 67 [.int .i64 s1, .int .i64 s2]).cell (j := 1) rfl
  have HR1 : Hid (Below wr.heap.size wr W1) := Lib.hid (by rw [← hW1]; exact (Below.refl _ _).alloc (Nat.le_refl _) _)
  have HB1 := Lib.hid (HBV.out.trans (HR1.out.mono hbz))
  have HW1 := Lib.hid hW1
  clear hs hW1
  go_upto_region 36 with fail
  rw [HW1.out]
  go_wp2_with (go_at_call 20; refine (pline_any HXO.out [.s ⟨#[98, 101, 102, 111, 114, 101]⟩, .n s1, .n s2] HAT.out (by simp [Wd.by, Lin.words, pairW, kwB]) (pair_fit HOK.out _) 3 rfl (by decide) (by decide) W1 (HX.out _ HB1.out).2.2.1.tabs (HX.out _ HB1.out).2.2.2.1 (isWrt_below hW.out HR1.out)).mono ?_; rintro e v ⟨rfl, h1, h2, -⟩)
  go_roundw
  case rel => exact ⟨k + 1, by omega, by go_num, HB1.out.trans h2, Lib.hid h1⟩
  case measure => simp [intOf]; omega
 have hkn : ¬ (k : Int) < (x.before.length : Int) := by omega
 have HW1 : Hid (IsWrt b b (Lib.byteCells (wrB x (o6 x))) wr) := Lib.hid (by
  have e : k = x.before.length := by omega
  have h := hW.out
  rw [e] at h
  exact h)
 clear hlt hk hW
 go_upto_region 39 with (go_at_call 20; refine (pline_any HXO.out [.s ⟨#[101, 110, 100]⟩] (at6 x) rfl (by simp [Wd.fit]) 1 rfl (by decide) (by decide) wr (HX.out _ HBV.out).2.2.1.tabs (HX.out _ HBV.out).2.2.2.1 HW1.out).mono ?_; rintro e v ⟨rfl, h1, h2, -⟩)
 rw [wrB_all] at h1
 have HBv := Lib.hid (HBV.out.trans h2)
 have HWv := Lib.hid h1
 clear h1 h2
 by_cases hbig : 65536 < (textI x).length
 ·have hbi : (65536 : Int) < ((Lib.byteCells (textI x)).length : Int) := by rw [Lib.byteCells_length]; omega
  have HEE := HE
  rw [prnF_big HF.out hbig] at HEE
  have HEE := Lib.hid HEE
  clear HE hbig
  go_wp2_with (go_at_call 22; refine (wlen_any b b _ v HWv.out).mono ?_; rintro e2 v2 ⟨rfl, rfl⟩)
  go_ret2
  obtain ⟨e1, e2⟩ := HEE.out
  exact ⟨by rw [← e1, ← e2]; rfl, (HX.out _ HBv.out).2.2.2.2⟩
 ·have hbi : ¬ (65536 : Int) < ((Lib.byteCells (textI x)).length : Int) := by rw [Lib.byteCells_length]; omega
  have HEE := HE
  rw [prnF_ok HF.out hbig] at HEE
  have HEE := Lib.hid HEE
  clear HE hbig
  go_wp2_with (first
   | (go_at_call 22; refine (wlen_any b b _ v HWv.out).mono ?_; rintro e2 v2 ⟨rfl, rfl⟩)
   | (go_at_call 23; refine (wtext_any b b (textI x) _ HWv.out (textI_ne x)).mono ?_; rintro e3 v3 ⟨rfl, b3⟩))
  go_ret2
  obtain ⟨e1, e2⟩ := HEE.out
  exact ⟨by rw [← e1, ← e2]; rfl, (HX.out _ (HBv.out.trans b3)).2.2.2.2⟩
end Go.Proofs.YthefooacfcagbaaGreatDoor.spc

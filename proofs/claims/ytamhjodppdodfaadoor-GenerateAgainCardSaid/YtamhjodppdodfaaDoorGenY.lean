/- The law GenerateAgain, walked. -/
import Derived.Test.YtamhjodppdodfaaDoorGenX
import Derived.Test.YtamhjodppdodfaaDoorGenW
import Derived.Test.YtamhjodppdodfaaDoorRsame
namespace Go.Proofs.YtamhjodppdodfaaDoor.gen
open Go.RowKit
open Go.Proofs.YtamhjodppdodfaaDoor.lib Go.Proofs.YtamhjodppdodfaaDoor.rd Go.Proofs.YtamhjodppdodfaaDoor.app Go.Proofs.YtamhjodppdodfaaDoor.els Go.Proofs.YtamhjodppdodfaaDoor.typ Go.Proofs.YtamhjodppdodfaaDoor.big Go.Proofs.YtamhjodppdodfaaDoor.ins Go.Proofs.YtamhjodppdodfaaDoor.ord Go.Proofs.YtamhjodppdodfaaDoor.evt
set_option linter.unusedVariables false
set_option linter.unusedSimpArgs false

set_option maxRecDepth 20000 in
set_option maxHeartbeats 4000000 in
theorem lawAgain_any (seed pl ty od now : Int) (w : World) : Calls Tryd.prog 3 #[.int .i64 seed, .int .i64 pl, .int .i64 ty, .int .i64 od, .int .i64 now] w fun e w' => e = .returned (.bool true) ∧ Below w.heap.size w w' := by
  go_enter Tryd.func3, Tryd.ntmps3
  go_wp2_with fail
  refine (inst_any seed pl ty od w).mono ?_
  obtain ⟨r, hr⟩ : ∃ r, genR seed pl ty od = r := ⟨_, rfl⟩
  have hok : (r.2 = 0 ∧ insF r.1 = []) ∨ r.2 = 2 := by
    rw [← hr]
    unfold genR
    by_cases hg : genB pl ty od
    · rw [if_pos hg]
      unfold genB at hg
      exact .inl ⟨rfl, gen_ok seed (by omega) (by omega) (by omega)⟩
    · rw [if_neg hg]
      exact .inr rfl
  have HR := Lib.hid hr
  rw [hr]
  obtain ⟨Y, k⟩ := r
  clear hr
  rintro e w2 ⟨P1, rfl, hI1, b2⟩
  have HI1 := Lib.hid hI1
  have HB2 := Lib.hid b2
  clear hI1 b2
  go_upto_region 2 with fail
  obtain ⟨w3, hw3⟩ : ∃ W, w2.alloc (.cells (insCs (Y) P1).toArray 30) = W := ⟨_, rfl⟩
  have hw3' : w2.alloc (.cells #[.slice P1.a0 (Y).net.places.length P1.c0, .slice P1.a1 (Y).net.arcs.length P1.c1, .slice P1.a2 (Y).types.length P1.c2, .slice P1.a3 (Y).orders.length P1.c3, .slice P1.a4 (Y).apart.length P1.c4, .slice P1.a5 (Y).before.length P1.c5] 30) = w3 := hw3
  rw [hw3']
  have k1' : SixAt w3 w2.heap.size (insCs (Y) P1) := by rw [← hw3]; exact World.alloc_heap_new _ _
  have bx : Below w2.heap.size w2 w3 := by rw [← hw3]; exact (Below.refl _ _).alloc (Nat.le_refl _) _
  clear hw3 hw3'
  have b3 := bx
  have HB3 := Lib.hid (HB2.out.trans (b3.mono HB2.out.size))
  obtain ⟨g1, hg1⟩ : ∃ g1, w2.heap.size = g1 := ⟨_, rfl⟩
  have HY3 : Hid (∀ w', Below w3.heap.size w3 w' → SixAt w' g1 (insCs Y P1) ∧ InAt w' w'.heap.size Y P1) := Lib.hid fun w' hb => ⟨by rw [← hg1]; exact k1'.below hb, (HI1.out.go b3).go hb⟩
  rw [hg1]
  clear bx hg1 b3 HI1 k1'
  go_wp2_with fail
  refine (inst_any seed pl ty od w3).mono ?_
  rw [HR.out]
  rintro e w4 ⟨P2, rfl, hI2, b4⟩
  have HI2 := Lib.hid hI2
  have HB4 := Lib.hid b4
  clear hI2 b4 HR
  go_upto_region 3 with fail
  obtain ⟨w5, hw3⟩ : ∃ W, w4.alloc (.cells (insCs (Y) P2).toArray 30) = W := ⟨_, rfl⟩
  have hw3' : w4.alloc (.cells #[.slice P2.a0 (Y).net.places.length P2.c0, .slice P2.a1 (Y).net.arcs.length P2.c1, .slice P2.a2 (Y).types.length P2.c2, .slice P2.a3 (Y).orders.length P2.c3, .slice P2.a4 (Y).apart.length P2.c4, .slice P2.a5 (Y).before.length P2.c5] 30) = w5 := hw3
  rw [hw3']
  have k1' : SixAt w5 w4.heap.size (insCs (Y) P2) := by rw [← hw3]; exact World.alloc_heap_new _ _
  have bx : Below w4.heap.size w4 w5 := by rw [← hw3]; exact (Below.refl _ _).alloc (Nat.le_refl _) _
  clear hw3 hw3'
  have b5 := bx
  have HB5 := Lib.hid (HB4.out.trans (b5.mono HB4.out.size))
  have HBW := Lib.hid (HB3.out.trans (HB5.out.mono HB3.out.size))
  obtain ⟨g2, hg2⟩ : ∃ g2, w4.heap.size = g2 := ⟨_, rfl⟩
  have HY5 : Hid (∀ w', Below w5.heap.size w5 w' → SixAt w' g2 (insCs Y P2) ∧ InAt w' w'.heap.size Y P2) := Lib.hid fun w' hb => ⟨by rw [← hg2]; exact k1'.below hb, (HI2.out.go b5).go hb⟩
  have HYF : Hid (∀ w', Below w5.heap.size w5 w' → SixAt w' g1 (insCs Y P1) ∧ InAt w' w'.heap.size Y P1) := Lib.hid fun w' hb => HY3.out _ (HB5.out.trans (hb.mono HB5.out.size))
  rw [hg2]
  clear bx hg2 b5 HI2 HB4 HY3 HB3 HB2 k1'
  have HE5 := Lib.hid (Below.refl w5.heap.size w5)
  have hkk : (k != k) = false := by simp
  go_wp2_with (first
    | ((with_reducible refine wpList_loadG stIns _ rfl ⟨g1, 0, none⟩ (insCs (Y) P1) ?_ ?_ ?_ ?_ ?_); exact rfl; exact rfl; exact (HYF.out _ HE5.out).1.cells; exact rfl)
    | ((with_reducible refine wpList_loadG stIns _ rfl ⟨g2, 0, none⟩ (insCs (Y) P2) ?_ ?_ ?_ ?_ ?_); exact rfl; exact rfl; exact (HY5.out _ HE5.out).1.cells; exact rfl))
  refine (rsame_any Y Y P1 P2 w5 (HYF.out _ HE5.out).2 (HY5.out _ HE5.out).2).mono ?_
  rw [sameI_self]
  rintro e w6 ⟨rfl, b6⟩
  have HB6 := Lib.hid b6
  have HBW6 := Lib.hid (HBW.out.trans (b6.mono HBW.out.size))
  clear b6 HBW hkk
  rcases hok with ⟨hk0, hi⟩ | hk2
  rotate_left
  · have hk2' : k = 2 := hk2
    subst hk2'
    clear hk2
    go_wp2_with fail
    refine (example_any w6).mono ?_
    rintro e w9 ⟨rfl, b9⟩
    have HB9 := Lib.hid (HBW6.out.trans (b9.mono HBW6.out.size))
    clear b9
    go_wp2_with fail
    go_ret
    exact ⟨rfl, HB9.out⟩
  have hk0' : k = 0 := hk0
  subst hk0'
  have HI : Hid (insF Y = []) := Lib.hid hi
  clear hk0 hi
  by_cases hn1 : now < 0
  · skip
    go_wp2_with fail
    refine (example_any w6).mono ?_
    rintro e w9 ⟨rfl, b9⟩
    have HB9 := Lib.hid (HBW6.out.trans (b9.mono HBW6.out.size))
    clear b9
    go_wp2_with fail
    go_ret
    exact ⟨rfl, HB9.out⟩
  by_cases hn2 : 4096 < now
  · skip
    go_wp2_with fail
    refine (example_any w6).mono ?_
    rintro e w9 ⟨rfl, b9⟩
    have HB9 := Lib.hid (HBW6.out.trans (b9.mono HBW6.out.size))
    clear b9
    go_wp2_with fail
    go_ret
    exact ⟨rfl, HB9.out⟩
  go_wp2_with ((with_reducible refine wpList_loadG stIns _ rfl ⟨g1, 0, none⟩ (insCs (Y) P1) ?_ ?_ ?_ ?_ ?_); exact rfl; exact rfl; exact (HYF.out _ HB6.out).1.cells; exact rfl)
  refine (gevent_any seed Y P1 now w6 (HYF.out _ HB6.out).2 HI.out).mono ?_
  obtain ⟨r, hr⟩ : ∃ r, evF seed Y now = r := ⟨_, rfl⟩
  have HR := Lib.hid hr
  rw [hr]
  obtain ⟨v, kv⟩ := r
  clear hr
  rintro e w7 ⟨C1, c1, rfl, b7⟩
  have HB7 := Lib.hid (HB6.out.trans (b7.mono HB6.out.size))
  have HBW7 := Lib.hid (HBW6.out.trans (b7.mono HBW6.out.size))
  clear b7
  go_upto_region 8 with ((with_reducible refine wpList_storeL stEvt rfl _ _ rfl (w7.heap.size) (EvtCells (drawE 0 0 0 0 0) none 0) (EvtCells v C1 c1) ?_ ?_ ?_ ?_ ?_ (evtCells_one _ _ _) ?_); exact rfl; exact rfl; exact Blk.new w7 _ _; exact rfl; exact rfl; intro wz k1 k2 k3 k4; have K := Lib.hid (And.intro k1 (And.intro k2 (And.intro k3 k4))); clear k1 k2 k3 k4)
  have bz : Below w7.heap.size w7 wz := ((Below.refl _ _).alloc (Nat.le_refl _) _).trans K.out.2.2.2
  have HQ : Hid (Blk wz w7.heap.size 42 (EvtCells v C1 c1)) := Lib.hid K.out.1
  have HBz := Lib.hid (HB7.out.trans (bz.mono HB7.out.size))
  have HBWz := Lib.hid (HBW7.out.trans (bz.mono HBW7.out.size))
  obtain ⟨q1, hq1⟩ : ∃ q, w7.heap.size = q := ⟨_, rfl⟩
  rw [hq1] at HQ ⊢
  obtain ⟨w8, hw8⟩ : ∃ W, wz = W := ⟨_, rfl⟩
  subst hw8
  clear K bz hq1 HB7 HBW7
  go_wp2_with ((with_reducible refine wpList_loadG stIns _ rfl ⟨g2, 0, none⟩ (insCs (Y) P2) ?_ ?_ ?_ ?_ ?_); exact rfl; exact rfl; exact (HY5.out _ HBz.out).1.cells; exact rfl)
  refine (gevent_any seed Y P2 now wz (HY5.out _ HBz.out).2 HI.out).mono ?_
  rw [HR.out]
  rintro e w9 ⟨C2, c2, rfl, b9⟩
  have HQ9 := Lib.hid (HQ.out.below b9)
  have HBW9 := Lib.hid (HBWz.out.trans (b9.mono HBWz.out.size))
  clear b9 HQ HBWz HBz HR
  go_upto_region 9 with ((with_reducible refine wpList_storeL stEvt rfl _ _ rfl w9.heap.size (EvtCells (drawE 0 0 0 0 0) none 0) (EvtCells v C2 c2) ?_ ?_ ?_ ?_ ?_ (evtCells_one _ _ _) ?_); exact rfl; exact rfl; exact Blk.new w9 _ _; exact rfl; exact rfl; intro wy k1 k2 k3 k4; have K := Lib.hid (And.intro k1 (And.intro k2 (And.intro k3 k4))); clear k1 k2 k3 k4)
  have bz : Below w9.heap.size w9 wy := ((Below.refl _ _).alloc (Nat.le_refl _) _).trans K.out.2.2.2
  have hQ1 := HQ9.out.below bz
  have hQ2 : Blk wy w9.heap.size 42 (EvtCells v C2 c2) := K.out.1
  have HBWy := Lib.hid (HBW9.out.trans (bz.mono HBW9.out.size))
  have a1 := hQ1.cell (j := 1) rfl
  have a2 := hQ1.cell (j := 2) rfl
  have a4 := hQ1.cell (j := 4) rfl
  have d1 := hQ2.cell (j := 1) rfl
  have d2 := hQ2.cell (j := 2) rfl
  have d4 := hQ2.cell (j := 4) rfl
  have hkv : (kv == kv) = true := by simp
  have h1 : (v.kind == v.kind) = true := by simp
  have h2 : (v.a == v.a) = true := by simp
  have h4 : (v.n == v.n) = true := by simp
  clear K bz hQ1 hQ2 HQ9 HBW9
  go_wp2_with fail
  refine (example_any wy).mono ?_
  rintro e w9 ⟨rfl, b9⟩
  have HB9 := Lib.hid (HBWy.out.trans (b9.mono HBWy.out.size))
  clear b9
  go_wp2_with fail
  go_ret
  exact ⟨rfl, HB9.out⟩
end Go.Proofs.YtamhjodppdodfaaDoor.gen

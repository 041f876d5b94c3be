import Derived.Test.YtofabhenmplkoaaGreatDoorEvcC
import Derived.Test.YtofabhenmplkoaaGreatDoorLawC
import Derived.Test.YtofabhenmplkoaaGreatDoorLimX
import Derived.Test.YtofabhenmplkoaaGreatDoorSamX
set_option linter.unusedVariables false
set_option linter.unusedSimpArgs false
/- The law EventApplies, walked. -/
namespace Go.Proofs.YtofabhenmplkoaaGreatDoor.evt
open Go.RowKit
open lib rd app els typ big ord flts
open ins hiding zOrd bOrd
open gen hiding zOrd bOrd
open txt (Tabs)
theorem app_form (x : Ins) (e : Evt) (h : insF x = []) : (∃ k, k ≠ 0 ∧ appF x e = (nilI, k)) ∨ ∃ y, hapF x e = .ok y ∧ appF x e = (y, 0) ∧ insF y = [] := by
 by_cases hk : chkF x 0 e = 0
 ·obtain ⟨y, hy, hr, _⟩ := app_good hk
  exact .inr ⟨y, hy, hr, hap_ok h hy⟩
 ·exact .inl ⟨_, hk, app_bad rfl hk⟩
set_option maxRecDepth 20000 in
set_option maxHeartbeats 8000000 in
theorem lawApplies_any (x : Ins) (P : InP) (e : Evt) (C : Option Addr) (c : Nat) (w : World) (ht : Tabs w) (h : InAt w w.heap.size x P) (hl : RLim x) (hI : Ints w w.heap.size C e.order.load) (hf : yN e) :
  Calls Tryz.prog 4 #[InV x P, .agg (z8 e C c).toArray] w fun en w' => en = .returned (.bool true) ∧ Below w.heap.size w w' := by
 show Calls Tryz.prog 4 #[InV x P, .agg #[.int .i64 e.at_, .int .i64 e.kind, .int .i64 e.a, .int .i64 e.b, .int .i64 e.n, .string e.order.name, .slice C e.order.load.length c, .int .i64 e.order.pick.place, .int .i64 e.order.pick.opn, .int .i64 e.order.pick.close, .int .i64 e.order.pick.service, .int .i64 e.order.drop.place, .int .i64 e.order.drop.opn, .int .i64 e.order.drop.close, .int .i64 e.order.drop.service, .int .i64 e.order.skills, .int .i64 e.order.penalty, .int .i64 e.order.split, .int .i64 e.order.last, .int .i64 e.order.now, .bool e.order.off]] w _
 have HA := Lib.hid h
 obtain ⟨W0, hW0⟩ : ∃ W0, (w.alloc (.cells (insCs x P).toArray 30)).alloc (.cells (z8 e C c).toArray 37) = W0 := ⟨_, rfl⟩
 have hB0 : Below w.heap.size w W0 := by rw [← hW0]; exact ((Below.refl _ _).alloc (Nat.le_refl _) _).alloc (by simp) _
 have z0 : W0.heap.size = w.heap.size + 2 := by rw [← hW0]; simp
 have b0 : Blk W0 w.heap.size 30 (insCs x P) := by
  rw [← hW0]
  exact (Blk.new w _ _).kept (World.grownBy_alloc _ _ none) (by simp)
 have b1 : Blk W0 (w.heap.size + 1) 37 (z8 e C c) := by
  rw [← hW0]
  have h := Blk.new (w.alloc (.cells (insCs x P).toArray 30)) 37 (z8 e C c)
  rw [show (w.alloc (.cells (insCs x P).toArray 30)).heap.size = w.heap.size + 1 by simp] at h
  exact h
 have hW1 : (w.alloc (.cells #[.slice P.a0 x.net.places.length P.c0, .slice P.a1 x.net.arcs.length P.c1, .slice P.a2 x.types.length P.c2, .slice P.a3 x.orders.length P.c3, .slice P.a4 x.apart.length P.c4, .slice P.a5 x.before.length P.c5] 30)).alloc (.cells #[.int .i64 e.at_, .int .i64 e.kind, .int .i64 e.a, .int .i64 e.b, .int .i64 e.n, .string e.order.name, .slice C e.order.load.length c, .int .i64 e.order.pick.place, .int .i64 e.order.pick.opn, .int .i64 e.order.pick.close, .int .i64 e.order.pick.service, .int .i64 e.order.drop.place, .int .i64 e.order.drop.opn, .int .i64 e.order.drop.close, .int .i64 e.order.drop.service, .int .i64 e.order.skills, .int .i64 e.order.penalty, .int .i64 e.order.split, .int .i64 e.order.last, .int .i64 e.order.now, .bool e.order.off] 37) = W0 := hW0
 have HX := Lib.hid (fun w' (h' : Below W0.heap.size W0 w') => And.intro (b0.below h') (b1.below h'))
 have HI := Lib.hid (fun w' (h' : Below w.heap.size w w') => h.go h')
 have HW1 := Lib.hid hW1
 have C0 := Below.refl W0.heap.size W0
 clear hW0 hW1 b0 b1
 simp only [InV]
 have HL := Lib.hid hl
 have HFT := Lib.hid hf
 have z0' : w.heap.size ≤ W0.heap.size := by omega
 have HIC := Lib.hid (fun w' (h' : Below w.heap.size w w') => (hI.below h').more h'.size)
 have HTb : Hid (∀ w', Below w.heap.size w w' → Tabs w') := Lib.hid (fun w' h => ht.below h)
 have HX0 := Lib.hid (HX.out _ C0)
 have hfw := few_any x P e C c W0 (HI.out _ hB0) hl
 obtain ⟨fw, hfw'⟩ : ∃ b, (shrB e && decide (insF x = [])) = b := ⟨_, rfl⟩
 rw [hfw'] at hfw
 have HFW := Lib.hid hfw'
 clear hl hf hI ht h hfw'
 go_enter Tryz.func4, Tryz.ntmps4
 go_upto_region 1 with fail
 rw [HW1.out]
 clear HW1
 go_wp2_with (first
  | ((with_reducible refine zH stIns _ rfl ⟨w.heap.size, 0, none⟩ (insCs (x) P) ?_ ?_ ?_ ?_ ?_); exact rfl; exact rfl; exact HX0.out.1.cells; exact rfl)
  | ((with_reducible refine zH stEvt _ rfl ⟨(w.heap.size + 1), 0, none⟩ (z8 e C c) ?_ ?_ ?_ ?_ ?_); exact rfl; exact rfl; exact HX0.out.2.cells; exact rfl))
 refine hfw.mono ?_
 rintro e9 w1 ⟨rfl, b1⟩
 have HB1 := Lib.hid (hB0.trans (b1.mono (by omega)))
 have HX1 := Lib.hid (fun w' (h' : Below w1.heap.size w1 w') => And.intro ((HX.out _ b1).1.below h').cells ((HX.out _ b1).2.below h').cells)
 clear b1 hfw HX0
 cases fw
 ·have haw := zV w1 (HTb.out _ HB1.out)
  go_wp2_with (go_at_call 14; refine haw.mono ?_; rintro e2 w2 ⟨rfl, hb2⟩)
  go_ret
  exact ⟨rfl, HB1.out.trans (hb2.mono HB1.out.size)⟩
 have HFI : Hid (insF x = []) := Lib.hid (by
  have := HFW.out
  rw [Bool.and_eq_true, decide_eq_true_eq] at this
  exact this.2)
 obtain ⟨r, hr⟩ : ∃ r, appF x e = r := ⟨_, rfl⟩
 have HF := Lib.hid (app_form x e HFI.out)
 rw [hr] at HF
 have HP : Hid (∀ w', Below w.heap.size w w' → Calls Tryz.prog 17 #[.agg (insCs x P).toArray, .agg (z8 e C c).toArray] w' (AplOut w' w'.heap.size r)) := Lib.hid (fun w' h' => by
  have h1 := apply_any x P e C c w'.heap.size w' (Nat.le_refl _) (HI.out _ h') HFI.out (HIC.out _ h') HFT.out
  rw [hr] at h1
  exact h1)
 have HQ : Hid (∀ w', Below w.heap.size w w' → Calls Tryz.prog 18 #[.agg (insCs x P).toArray, .agg (z8 e C c).toArray] w' (AplOut w' w'.heap.size r)) := Lib.hid (fun w' h' => by
  have h1 := rapply_any x P e C c w'.heap.size w' (Nat.le_refl _) (HI.out _ h') HFI.out (HIC.out _ h') HFT.out
  rw [hr] at h1
  exact h1)
 clear hr
 obtain ⟨Y, k⟩ := r
 have B11 := Below.refl w1.heap.size w1
 go_wp2_with (first
  | ((with_reducible refine zH stIns _ rfl ⟨w.heap.size, 0, none⟩ (insCs (x) P) ?_ ?_ ?_ ?_ ?_); exact rfl; exact rfl; exact (HX1.out _ B11).1; exact rfl)
  | ((with_reducible refine zH stEvt _ rfl ⟨(w.heap.size + 1), 0, none⟩ (z8 e C c) ?_ ?_ ?_ ?_ ?_); exact rfl; exact rfl; exact (HX1.out _ B11).2; exact rfl))
 clear B11
 refine (HP.out _ HB1.out).mono ?_
 rintro e2 w2 ⟨P1, rfl, hI1, b2⟩
 dsimp only at hI1 ⊢
 have HI1 := Lib.hid hI1.here
 have z2 := b2.size
 clear hI1
 go_upto_region 4 with fail
 obtain ⟨w3, hw3⟩ : ∃ W, w2.alloc (.cells (insCs (Y) P1).toArray 30) = W := ⟨_, rfl⟩
 have hw3' : w2.alloc (.cells #[.slice P1.a0 (Y).net.places.length P1.c0, .slice P1.a1 (Y).net.arcs.length P1.c1, .slice P1.a2 (Y).types.length P1.c2, .slice P1.a3 (Y).orders.length P1.c3, .slice P1.a4 (Y).apart.length P1.c4, .slice P1.a5 (Y).before.length P1.c5] 30) = w3 := hw3
 rw [hw3']
 have k1' : Blk w3 w2.heap.size 30 (insCs (Y) P1) := by rw [← hw3]; exact World.alloc_heap_new _ _
 have bx : Below w2.heap.size w2 w3 := by rw [← hw3]; exact (Below.refl _ _).alloc (Nat.le_refl _) _
 clear hw3 hw3'
 obtain ⟨g1, hg1⟩ : ∃ g1, w2.heap.size = g1 := ⟨_, rfl⟩
 have HY3 : Hid (∀ w', Below w3.heap.size w3 w' → CellsAt w' ⟨g1, 0, none⟩ (insCs Y P1) ∧ InAt w' w'.heap.size Y P1) := Lib.hid fun w' hb => ⟨by rw [← hg1]; exact (k1'.below hb).cells, (HI1.out.go bx).go hb⟩
 have HC3 := Lib.hid (b2.trans (bx.mono z2))
 have HB3 := Lib.hid (HB1.out.trans (HC3.out.mono HB1.out.size))
 rw [hg1]
 clear bx hg1 b2 z2 HI1 k1'
 go_wp2_with (first
  | ((with_reducible refine zH stIns _ rfl ⟨w.heap.size, 0, none⟩ (insCs (x) P) ?_ ?_ ?_ ?_ ?_); exact rfl; exact rfl; exact (HX1.out _ HC3.out).1; exact rfl)
  | ((with_reducible refine zH stEvt _ rfl ⟨(w.heap.size + 1), 0, none⟩ (z8 e C c) ?_ ?_ ?_ ?_ ?_); exact rfl; exact rfl; exact (HX1.out _ HC3.out).2; exact rfl))
 refine (HQ.out _ HB3.out).mono ?_
 rintro e4 w4 ⟨P2, rfl, hI2, b4⟩
 dsimp only at hI2 ⊢
 have HI2 := Lib.hid hI2.here
 have z4 := b4.size
 clear hI2
 go_upto_region 5 with fail
 obtain ⟨w5, hw3⟩ : ∃ W, w4.alloc (.cells (insCs (Y) P2).toArray 30) = W := ⟨_, rfl⟩
 have hw3' : w4.alloc (.cells #[.slice P2.a0 (Y).net.places.length P2.c0, .slice P2.a1 (Y).net.arcs.length P2.c1, .slice P2.a2 (Y).types.length P2.c2, .slice P2.a3 (Y).orders.length P2.c3, .slice P2.a4 (Y).apart.length P2.c4, .slice P2.a5 (Y).before.length P2.c5] 30) = w5 := hw3
 rw [hw3']
 have k1' : Blk w5 w4.heap.size 30 (insCs (Y) P2) := by rw [← hw3]; exact World.alloc_heap_new _ _
 have bx : Below w4.heap.size w4 w5 := by rw [← hw3]; exact (Below.refl _ _).alloc (Nat.le_refl _) _
 clear hw3 hw3'
 obtain ⟨g2, hg2⟩ : ∃ g2, w4.heap.size = g2 := ⟨_, rfl⟩
 have HC5 := Lib.hid (b4.trans (bx.mono z4))
 have HY5 : Hid (∀ w', Below w5.heap.size w5 w' → CellsAt w' ⟨g2, 0, none⟩ (insCs Y P2) ∧ InAt w' w'.heap.size Y P2) := Lib.hid fun w' hb => ⟨by rw [← hg2]; exact (k1'.below hb).cells, (HI2.out.go bx).go hb⟩
 have HYF : Hid (∀ w', Below w5.heap.size w5 w' → CellsAt w' ⟨g1, 0, none⟩ (insCs Y P1) ∧ InAt w' w'.heap.size Y P1) := Lib.hid fun w' hb => HY3.out _ (HC5.out.trans (hb.mono HC5.out.size))
 have HB5 := Lib.hid (HB3.out.trans (HC5.out.mono HB3.out.size))
 rw [hg2]
 clear bx hg2 b4 z4 HI2 k1' HY3 HC3 HC5
 have HE5 := Lib.hid (Below.refl w5.heap.size w5)
 have hkk : (k == k) = true := by simp
 go_wp2_with (first
  | ((with_reducible refine zH stIns _ rfl ⟨g1, 0, none⟩ (insCs (Y) P1) ?_ ?_ ?_ ?_ ?_); exact rfl; exact rfl; exact (HYF.out _ HE5.out).1; exact rfl)
  | ((with_reducible refine zH stIns _ rfl ⟨g2, 0, none⟩ (insCs (Y) P2) ?_ ?_ ?_ ?_ ?_); exact rfl; exact rfl; exact (HY5.out _ HE5.out).1; exact rfl))
 refine (rsame_any Y Y P1 P2 w5 (HYF.out _ HE5.out).2 (HY5.out _ HE5.out).2).mono ?_
 rw [sameI_self]
 rintro e6 w6 ⟨rfl, b6⟩
 have HB6 := Lib.hid (HB5.out.trans (b6.mono HB5.out.size))
 have HE6 := Lib.hid b6
 clear b6 HY5 hkk HE5
 by_cases hk0 : k = 0
 ·have HYI : Hid (insF Y = []) := Lib.hid (by
   rcases HF.out with ⟨k', h1, h2⟩ | ⟨y, h1, h2, h3⟩
   ·injection h2 with h2 h4
    exact absurd (h4.symm.trans hk0) h1
   ·injection h2 with h2 h4
    rw [h2]; exact h3)
  subst hk0
  go_wp2_with ((with_reducible refine zH stIns _ rfl ⟨g1, 0, none⟩ (insCs (Y) P1) ?_ ?_ ?_ ?_ ?_); exact rfl; exact rfl; exact (HYF.out _ HE6.out).1; exact rfl)
  refine (richeck_any Y P1 w6 (HYF.out _ HE6.out).2 (lim.rlim_of HYI.out)).mono ?_
  rw [HYI.out]
  rintro e7 w7 ⟨A7, c7, rfl, -, b7⟩
  have HBL := Lib.hid (HB6.out.trans (b7.mono HB6.out.size))
  clear b7
  go_wp2_with fail
  refine (zV w7 (HTb.out _ HBL.out)).mono ?_
  rintro e9 w9 ⟨rfl, b9⟩
  have HB9 := Lib.hid (HBL.out.trans (b9.mono HBL.out.size))
  clear b9
  go_wp2_with fail
  go_ret
  exact ⟨rfl, HB9.out⟩
 ·have hkn : (k != 0) = true := by simp [hk0]
  have HBL := Lib.hid HB6.out
  clear hk0
  go_wp2_with fail
  refine (zV w6 (HTb.out _ HBL.out)).mono ?_
  rintro e9 w9 ⟨rfl, b9⟩
  have HB9 := Lib.hid (HBL.out.trans (b9.mono HBL.out.size))
  clear b9
  go_wp2_with fail
  go_ret
  exact ⟨rfl, HB9.out⟩
end Go.Proofs.YtofabhenmplkoaaGreatDoor.evt

/- The law EventGone, walked. -/
import Derived.Test.YtofabhenmplkoaaGreatDoorGonY
import Derived.Test.YtofabhenmplkoaaGreatDoorLimX
import Derived.Test.YtofabhenmplkoaaGreatDoorAwkX
import Derived.Test.YtofabhenmplkoaaGreatDoorEvtX
set_option linter.unusedVariables false
set_option linter.unusedSimpArgs false
namespace Go.Proofs.YtofabhenmplkoaaGreatDoor.gon
open Go.RowKit
open lib rd app els typ big ord flts evt
open ins hiding zOrd bOrd
open gen hiding zOrd bOrd
open txt (Tabs)
theorem app_form (x : Ins) (e : Evt) (h : insF x = []) : (∃ k, k ≠ 0 ∧ appF x e = (nilI, k)) ∨ ∃ y, hapF x e = .ok y ∧ appF x e = (y, 0) ∧ insF y = [] := by
 by_cases hk : chkF x 0 e = 0
 ·obtain ⟨y, hy, hr, _⟩ := app_good hk
  exact .inr ⟨y, hy, hr, hap_ok h hy⟩
 ·exact .inl ⟨_, hk, app_bad rfl hk⟩
theorem prOk_of {x : Ins} (h : insF x = []) : PrOk x := by
 have hl := lim.lim_of h
 obtain ⟨hN, hT, hO, hR⟩ := par.insF_nil.1 h
 unfold insR rul.rulesF at hR
 rw [List.append_eq_nil_iff] at hR
 have ha := par.pairs_nil.1 hR.1
 have hb := par.pairs_nil.1 hR.2
 have key : ∀ p : Int × Int, rul.badB x.orders.length p = false → ((0 ≤ p.1 ∧ p.1 < x.orders.length) ∧ (0 ≤ p.2 ∧ p.2 < x.orders.length)) ∧ p.1 ≠ p.2 := by
  intro p hp
  unfold rul.badB at hp
  rw [Bool.or_eq_false_iff, Bool.or_eq_false_iff] at hp
  obtain ⟨h1, h2, h3⟩ := hp
  unfold rul.rightB at h1 h2
  simp at h1 h2 h3
  exact ⟨⟨h1, h2⟩, h3⟩
 refine ⟨hl.orders, ?_, ?_, fun p hp => (key p (hb.2.1 p hp)).1, fun p hp => (key p (ha.2.1 p hp)).1, fun p hp => (key p (hb.2.1 p hp)).2, fun p hp => (key p (ha.2.1 p hp)).2⟩
 ·have := hb.1; omega
 ·have := ha.1; omega
theorem PrOk.put {x : Ins} (h : PrOk x) (j : Nat) (o : Ord) : PrOk { x with orders := x.orders.set j o } := by
 have e : (x.orders.set j o).length = x.orders.length := List.length_set
 refine ⟨?_, h.len, h.alen, ?_, ?_, h.ne, h.neA⟩
 ·show (x.orders.set j o).length ≤ 20
  rw [e]; exact h.few
 ·show InE (x.orders.set j o).length x.before
  rw [e]; exact h.inE
 ·show InE (x.orders.set j o).length x.apart
  rw [e]; exact h.inA
theorem gonF_lt (x : Ins) (e : Evt) : gonF x e < 2 ^ x.orders.length := by
 unfold gonF
 split
 ·exact Nat.two_pow_pos _
 ·exact bitTo_lt _ _
theorem app_form2 (x : Ins) (e : Evt) : (∃ k, k ≠ 0 ∧ appF x e = (nilI, k)) ∨ ∃ y, hapF x e = .ok y ∧ appF x e = (y, 0) := by
 by_cases hk : chkF x 0 e = 0
 ·obtain ⟨y, hy, hr, _⟩ := app_good hk
  exact .inr ⟨y, hy, hr⟩
 ·exact .inl ⟨_, hk, app_bad rfl hk⟩
theorem gon_before {x : Ins} (hp : PrOk x) {A i : Nat} (h : (gonN x A).testBit i = true) : (needN x.before x.orders.length i).testBit A = true ∧ (i ≠ A → ∃ (j a : Nat), x.before[j]? = some ((a : Int), (i : Int))) := by
 have h1 := (gon_test h).2.2
 refine ⟨h1, fun hne => ?_⟩
 rcases need_path hp.inE h1 with h2 | h2
 ·exact absurd h2.symm hne
 ·obtain ⟨c, hc⟩ := path_last h2
  obtain ⟨j, hj⟩ := List.mem_iff_getElem?.1 hc
  exact ⟨j, c, hj⟩
set_option maxRecDepth 20000 in
set_option maxHeartbeats 8000000 in
theorem lawGone_any (x : Ins) (P : InP) (e : Evt) (C : Option Addr) (c : Nat) (w : World) (ht : Tabs w) (h : InAt w w.heap.size x P) (hl : RLim x) (hI : Ints w w.heap.size C e.order.load) (hf : yN e) :
  Calls Tryz.prog 8 #[InV x P, .agg (z8 e C c).toArray] w fun en w' => en = .returned (.bool true) ∧ Below w.heap.size w w' := by
 show Calls Tryz.prog 8 #[InV x P, .agg #[.int .i64 e.at_, .int .i64 e.kind, .int .i64 e.a, .int .i64 e.b, .int .i64 e.n, .string e.order.name, .slice C e.order.load.length c, .int .i64 e.order.pick.place, .int .i64 e.order.pick.opn, .int .i64 e.order.pick.close, .int .i64 e.order.pick.service, .int .i64 e.order.drop.place, .int .i64 e.order.drop.opn, .int .i64 e.order.drop.close, .int .i64 e.order.drop.service, .int .i64 e.order.skills, .int .i64 e.order.penalty, .int .i64 e.order.split, .int .i64 e.order.last, .int .i64 e.order.now, .bool e.order.off]] w _
 have HA := Lib.hid h
 obtain ⟨W0, hW0⟩ : ∃ W0, (w.alloc (.cells (insCs x P).toArray 30)).alloc (.cells (z8 e C c).toArray 37) = W0 := ⟨_, rfl⟩
 have hB0 : Below w.heap.size w W0 := by rw [← hW0]; exact ((Below.refl _ _).alloc (Nat.le_refl _) _).alloc (by simp) _
 have z0 : W0.heap.size = w.heap.size + 2 := by rw [← hW0]; simp
 have b0 : Blk W0 w.heap.size 30 (insCs x P) := by
  rw [← hW0]
  exact (Blk.new w _ _).kept (World.grownBy_alloc _ _ none) (by simp)
 have b1 : Blk W0 (w.heap.size + 1) 37 (z8 e C c) := by
  rw [← hW0]
  have h := Blk.new (w.alloc (.cells (insCs x P).toArray 30)) 37 (z8 e C c)
  rw [show (w.alloc (.cells (insCs x P).toArray 30)).heap.size = w.heap.size + 1 by simp] at h
  exact h
 have hW1 : (w.alloc (.cells #[.slice P.a0 x.net.places.length P.c0, .slice P.a1 x.net.arcs.length P.c1, .slice P.a2 x.types.length P.c2, .slice P.a3 x.orders.length P.c3, .slice P.a4 x.apart.length P.c4, .slice P.a5 x.before.length P.c5] 30)).alloc (.cells #[.int .i64 e.at_, .int .i64 e.kind, .int .i64 e.a, .int .i64 e.b, .int .i64 e.n, .string e.order.name, .slice C e.order.load.length c, .int .i64 e.order.pick.place, .int .i64 e.order.pick.opn, .int .i64 e.order.pick.close, .int .i64 e.order.pick.service, .int .i64 e.order.drop.place, .int .i64 e.order.drop.opn, .int .i64 e.order.drop.close, .int .i64 e.order.drop.service, .int .i64 e.order.skills, .int .i64 e.order.penalty, .int .i64 e.order.split, .int .i64 e.order.last, .int .i64 e.order.now, .bool e.order.off] 37) = W0 := hW0
 have HX := Lib.hid (fun w' (h' : Below W0.heap.size W0 w') => And.intro (b0.below h') (b1.below h'))
 have HI := Lib.hid (fun w' (h' : Below w.heap.size w w') => h.go h')
 have HW1 := Lib.hid hW1
 have C0 := Below.refl W0.heap.size W0
 clear hW0 hW1 b0 b1
 simp only [InV]
 have HL := Lib.hid hl
 have HFT := Lib.hid hf
 have z0' : w.heap.size ≤ W0.heap.size := by omega
 have HIC := Lib.hid (fun w' (h' : Below w.heap.size w w') => (hI.below h').more h'.size)
 have HTb : Hid (∀ w', Below w.heap.size w w' → Tabs w') := Lib.hid (fun w' h => ht.below h)
 have HX0 := Lib.hid (HX.out _ C0)
 have hfw := few_any x P e C c W0 (HI.out _ hB0) hl
 obtain ⟨fw, hfw'⟩ : ∃ b, (shrB e && decide (insF x = [])) = b := ⟨_, rfl⟩
 rw [hfw'] at hfw
 have HFW := Lib.hid hfw'
 clear hl hf hI ht h hfw'
 go_enter Tryz.func8, Tryz.ntmps8
 go_upto_region 1 with fail
 rw [HW1.out]
 clear HW1
 go_wp2_with (first
  | ((with_reducible refine zH stIns _ rfl ⟨w.heap.size, 0, none⟩ (insCs (x) P) ?_ ?_ ?_ ?_ ?_); exact rfl; exact rfl; exact HX0.out.1.cells; exact rfl)
  | ((with_reducible refine zH stEvt _ rfl ⟨(w.heap.size + 1), 0, none⟩ (z8 e C c) ?_ ?_ ?_ ?_ ?_); exact rfl; exact rfl; exact HX0.out.2.cells; exact rfl))
 refine hfw.mono ?_
 rintro e9 w1 ⟨rfl, b1⟩
 have HB1 := Lib.hid (hB0.trans (b1.mono (by omega)))
 have HX1 := Lib.hid (fun w' (h' : Below w1.heap.size w1 w') => And.intro ((HX.out _ b1).1.below h') ((HX.out _ b1).2.below h'))
 clear b1 hfw HX0
 cases fw
 ·have haw := zV w1 (HTb.out _ HB1.out)
  go_wp2_with (go_at_call 14; refine haw.mono ?_; rintro e2 w2 ⟨rfl, hb2⟩)
  go_ret
  exact ⟨rfl, HB1.out.trans (hb2.mono HB1.out.size)⟩
 have HFI : Hid (insF x = []) := Lib.hid (by
  have := HFW.out
  rw [Bool.and_eq_true, decide_eq_true_eq] at this
  exact this.2)
 have hpo := prOk_of HFI.out
 have HPO := Lib.hid hpo
 have hn20 := hpo.few
 obtain ⟨z, hz⟩ : ∃ z, gonF x e = z := ⟨_, rfl⟩
 obtain ⟨al, hal⟩ : ∃ z, allN x = z := ⟨_, rfl⟩
 have HGE : Hid (∀ w', Below w.heap.size w w' → Calls Tryz.prog 28 #[.agg (insCs x P).toArray, .agg (z8 e C c).toArray] w' fun en w'' => en = .returned (.int .i64 (z : Nat)) ∧ Below w'.heap.size w' w'') := Lib.hid (fun w' h' => by
  have h1 := egone_any x P e C c w' (HI.out _ h') HPO.out
  rw [hz] at h1
  exact h1)
 have HGR : Hid (∀ w', Below w.heap.size w w' → Calls Tryz.prog 29 #[.agg (insCs x P).toArray, .agg (z8 e C c).toArray] w' fun en w'' => en = .returned (.int .i64 (z : Nat)) ∧ Below w'.heap.size w' w'') := Lib.hid (fun w' h' => by
  have h1 := rgone_any x P e C c w' (HI.out _ h') HPO.out
  rw [hz] at h1
  exact h1)
 have HAL : Hid (∀ w', Below w.heap.size w w' → Calls Tryz.prog 30 #[.agg (insCs x P).toArray] w' fun en w'' => en = .returned (.int .i64 (al : Nat)) ∧ Below w'.heap.size w' w'') := Lib.hid (fun w' h' => by
  have h1 := rall_any x P w' (HI.out _ h') hn20
  rw [hal] at h1
  exact h1)
 have HOR : Hid (bits .or .i64 (z : Int) (al : Int) = (al : Int)) := Lib.hid (by
  have h1 := lt20 hn20 (gonF_lt x e)
  have h2 : allN x < 9223372036854775808 := lt20 hn20 (bitTo_lt _ _)
  rw [hz] at h1
  rw [hal] at h2
  rw [orN z al h1 h2, ← hz, ← hal, gonF_all])
 have HZ := Lib.hid hz
 clear hz hal hpo hn20
 have B11 := Below.refl w1.heap.size w1
 go_wp2_with (first
  | ((with_reducible refine zH stIns _ rfl ⟨w.heap.size, 0, none⟩ (insCs (x) P) ?_ ?_ ?_ ?_ ?_); exact rfl; exact rfl; exact (HX1.out _ B11).1.cells; exact rfl)
  | ((with_reducible refine zH stEvt _ rfl ⟨(w.heap.size + 1), 0, none⟩ (z8 e C c) ?_ ?_ ?_ ?_ ?_); exact rfl; exact rfl; exact (HX1.out _ B11).2.cells; exact rfl))
 clear B11
 refine (HGE.out _ HB1.out).mono ?_
 rintro e2 w2 ⟨rfl, b2⟩
 have HC2 := Lib.hid b2
 have HB2 := Lib.hid (HB1.out.trans (b2.mono HB1.out.size))
 clear b2
 go_upto_region 4 with fail
 (refine wp_region_held_drew (S := (fun w' => CellsAt w' ⟨w.heap.size, 0, none⟩ (insCs x P) ∧ CellsAt w' ⟨w.heap.size + 1, 0, none⟩ (z8 e C c))) (by kernel_rfl) ?_ (fun hHeld => ?_))
 ·exact ⟨(HX1.out _ HC2.out.drew).1.cells, (HX1.out _ HC2.out.drew).2.cells⟩
 (refine lib.tk 0 ?_ rfl (by kernel_rfl) (fun _ _ _ h => h) ?_ (by assumption) ?_; rotate_left; (focus (intro w hSw; (try dsimp only at hSw); go_simp; all_goals with_reducible rfl)); (try simp only [lib.hly]))
 (refine lib.tk 1 _ rfl (by kernel_rfl) (fun _ _ _ h => h) (fun _ hSw => yG stIns rfl rfl hSw.1 rfl) (by assumption) ?_; (try simp only [lib.hly]))
 (refine lib.tk 2 _ rfl (by kernel_rfl) (fun _ _ _ h => h) (fun _ hSw => yG stEvt rfl rfl hSw.2 rfl) (by assumption) ?_; (try simp only [lib.hly]))
 (refine wpAnyH_ready (rs := [3]) (by kernel_rfl) (by simp) ?_; refine AllReadyH.cons rfl (fun K hK => ?_) AllReadyH.nil)
 go_simp
 refine (HGR.out _ HB2.out.drew).mono ?_
 rintro e3 w3 ⟨rfl, b3⟩
 have B3 : Below w2.heap.size w2 w3 := ((Below.refl _ _).drew).trans b3
 have HB3 := Lib.hid (HB2.out.trans (B3.mono HB2.out.size))
 have HC3 := Lib.hid (HC2.out.trans (B3.mono HC2.out.size))
 clear b3 B3
 refine hK.out _ _ (And.intro (HX1.out _ HC3.out).1.cells (HX1.out _ HC3.out).2.cells) (fun hHeld => ?_)
 clear hK K
 (try simp only [lib.hly])
 have hzz : ((z : Int) != (z : Int)) = false := by simp
 (refine lib.tk 4 ?_ rfl (by kernel_rfl) (fun _ _ _ h => h) ?_ (by assumption) ?_; rotate_left; (focus (intro w hSw; (try dsimp only at hSw); go_simp; all_goals with_reducible rfl)); (try simp only [lib.hly]))
 (refine lib.tk 5 ?_ rfl (by kernel_rfl) (fun _ _ _ h => h) ?_ (by assumption) ?_; rotate_left; (focus (intro w hSw; (try dsimp only at hSw); go_simp; all_goals with_reducible rfl)); (try simp only [lib.hly]))
 (refine lib.tk 6 ?_ rfl (by kernel_rfl) (fun _ _ _ h => h) ?_ (by assumption) ?_; rotate_left; (focus (intro w hSw; (try dsimp only at hSw); go_simp; all_goals with_reducible rfl)); (try simp only [lib.hly]))
 clear hzz
 (refine lib.tk 7 _ rfl (by kernel_rfl) (fun _ _ _ h => h) (fun _ hSw => yG stIns rfl rfl hSw.1 rfl) (by assumption) ?_; (try simp only [lib.hly]))
 (refine lib.tk 10 _ rfl (by kernel_rfl) (fun _ _ _ h => h) (fun _ hSw => yG stIns rfl rfl hSw.1 rfl) (by assumption) ?_; (try simp only [lib.hly]))
 (refine wpAnyH_ready (rs := [8]) (by kernel_rfl) (by simp) ?_; refine AllReadyH.cons rfl (fun K hK => ?_) AllReadyH.nil)
 go_simp
 refine (HAL.out _ HB3.out).mono ?_
 rintro e4 w4 ⟨rfl, b4⟩
 have HB4 := Lib.hid (HB3.out.trans (b4.mono HB3.out.size))
 have HC4 := Lib.hid (HC3.out.trans (b4.mono HC3.out.size))
 clear b4
 refine hK.out _ _ (And.intro (HX1.out _ HC4.out).1.cells (HX1.out _ HC4.out).2.cells) (fun hHeld => ?_)
 clear hK K
 (try simp only [lib.hly])
 have hor := HOR.out
 (refine lib.tk 9 ?_ rfl (by kernel_rfl) (fun _ _ _ h => h) ?_ (by assumption) ?_; rotate_left; (focus (intro w hSw; (try dsimp only at hSw); go_simp; all_goals with_reducible rfl)); (try simp only [lib.hly]))
 clear hor
 (refine wpAnyH_ready (rs := [11]) (by kernel_rfl) (by simp) ?_; refine AllReadyH.cons rfl (fun K hK => ?_) AllReadyH.nil)
 go_simp
 refine (HAL.out _ HB4.out).mono ?_
 rintro e5 w5 ⟨rfl, b5⟩
 have HB5 := Lib.hid (HB4.out.trans (b5.mono HB4.out.size))
 have HC5 := Lib.hid (HC4.out.trans (b5.mono HC4.out.size))
 clear b5
 refine hK.out _ _ (And.intro (HX1.out _ HC5.out).1.cells (HX1.out _ HC5.out).2.cells) (fun hHeld => ?_)
 clear hK K
 (try simp only [lib.hly])
 have haa : ((al : Int) != (al : Int)) = false := by simp
 (refine lib.tk 12 ?_ rfl (by kernel_rfl) (fun _ _ _ h => h) ?_ (by assumption) ?_; rotate_left; (focus (intro w hSw; (try dsimp only at hSw); go_simp; all_goals with_reducible rfl)); (try simp only [lib.hly]))
 (refine lib.tk 13 ?_ rfl (by kernel_rfl) (fun _ _ _ h => h) ?_ (by assumption) ?_; rotate_left; (focus (intro w hSw; (try dsimp only at hSw); go_simp; all_goals with_reducible rfl)); (try simp only [lib.hly]))
 clear haa
 (refine wpAnyH_done (by kernel_rfl) ?_ _)
 obtain ⟨r, hr⟩ : ∃ r, appF x e = r := ⟨_, rfl⟩
 have HF := Lib.hid (app_form2 x e)
 rw [hr] at HF
 have HP : Hid (∀ w', Below w.heap.size w w' → Calls Tryz.prog 17 #[.agg (insCs x P).toArray, .agg (z8 e C c).toArray] w' (AplOut w' w'.heap.size r)) := Lib.hid (fun w' h' => by
  have h1 := apply_any x P e C c w'.heap.size w' (Nat.le_refl _) (HI.out _ h') HFI.out (HIC.out _ h') HFT.out
  rw [hr] at h1
  exact h1)
 clear hr
 obtain ⟨Y, k⟩ := r
 go_wp2_with (first
  | ((with_reducible refine zH stIns _ rfl ⟨w.heap.size, 0, none⟩ (insCs (x) P) ?_ ?_ ?_ ?_ ?_); exact rfl; exact rfl; exact (HX1.out _ HC5.out).1.cells; exact rfl)
  | ((with_reducible refine zH stEvt _ rfl ⟨(w.heap.size + 1), 0, none⟩ (z8 e C c) ?_ ?_ ?_ ?_ ?_); exact rfl; exact rfl; exact (HX1.out _ HC5.out).2.cells; exact rfl))
 refine (HP.out _ HB5.out).mono ?_
 rintro e6 w6 ⟨P1, rfl, hI1, b6⟩
 dsimp only at hI1 ⊢
 have HI1 := Lib.hid hI1.here
 have z6 := b6.size
 clear hI1
 go_upto_region 7 with fail
 obtain ⟨w7, hw3⟩ : ∃ W, w6.alloc (.cells (insCs (Y) P1).toArray 30) = W := ⟨_, rfl⟩
 have hw3' : w6.alloc (.cells #[.slice P1.a0 (Y).net.places.length P1.c0, .slice P1.a1 (Y).net.arcs.length P1.c1, .slice P1.a2 (Y).types.length P1.c2, .slice P1.a3 (Y).orders.length P1.c3, .slice P1.a4 (Y).apart.length P1.c4, .slice P1.a5 (Y).before.length P1.c5] 30) = w7 := hw3
 rw [hw3']
 have k1' : Blk w7 w6.heap.size 30 (insCs (Y) P1) := by rw [← hw3]; exact World.alloc_heap_new _ _
 have bx : Below w6.heap.size w6 w7 := by rw [← hw3]; exact (Below.refl _ _).alloc (Nat.le_refl _) _
 clear hw3 hw3'
 obtain ⟨g1, hg1⟩ : ∃ g1, w6.heap.size = g1 := ⟨_, rfl⟩
 have HY7 : Hid (∀ w', Below w7.heap.size w7 w' → CellsAt w' ⟨g1, 0, none⟩ (insCs Y P1) ∧ InAt w' w'.heap.size Y P1) := Lib.hid fun w' hb => ⟨by rw [← hg1]; exact (k1'.below hb).cells, (HI1.out.go bx).go hb⟩
 have HC7 := Lib.hid (HC5.out.trans ((b6.trans (bx.mono z6)).mono HC5.out.size))
 have HB7 := Lib.hid (HB1.out.trans (HC7.out.mono HB1.out.size))
 rw [hg1]
 clear bx hg1 b6 z6 HI1 k1' HGE HGR HAL HOR HP HB2 HB3 HB4 HB5 HC2 HC3 HC4 HC5
 have HE7 := Lib.hid (Below.refl w7.heap.size w7)
 have HBL := Lib.hid HB7.out
 have d1 := (HX1.out _ HC7.out).2.cell (j := 1) rfl
 by_cases hk0 : k = 0
 case neg =>
  have hkn : (k != 0) = true := by simp [hk0]
  clear hk0
  go_wp2_with fail
  refine (zV w7 (HTb.out _ HBL.out)).mono ?_
  rintro e9 w9 ⟨rfl, b9⟩
  have HB9 := Lib.hid (HBL.out.trans (b9.mono HBL.out.size))
  clear b9
  go_wp2_with fail
  go_ret
  exact ⟨rfl, HB9.out⟩
 by_cases hk2 : e.kind = 2
 case neg =>
  have hkn : (e.kind != 2) = true := by simp [hk2]
  subst hk0
  clear hk2
  go_wp2_with fail
  refine (zV w7 (HTb.out _ HBL.out)).mono ?_
  rintro e9 w9 ⟨rfl, b9⟩
  have HB9 := Lib.hid (HBL.out.trans (b9.mono HBL.out.size))
  clear b9
  go_wp2_with fail
  go_ret
  exact ⟨rfl, HB9.out⟩
 obtain ⟨y, hy1, hy2⟩ : ∃ y, hapF x e = .ok y ∧ ((Y, k) : Ins × Int) = (y, 0) := by
  rcases HF.out with ⟨k', h1, h2⟩ | h
  ·injection h2 with h2 h4
   exact absurd (h4.symm.trans hk0) h1
  ·exact h
 obtain ⟨A, o, hA, ho, hoff, hyy⟩ := hap_cancel hy1 hk2
 injection hy2 with hy3 hy4
 subst hy3
 have hal := (List.getElem?_eq_some_iff.1 ho).1
 obtain ⟨n, hn⟩ : ∃ n, x.orders.length = n := ⟨_, rfl⟩
 have hn20 : n ≤ 20 := by rw [← hn]; exact HPO.out.few
 have hzg : gonN x A = z := by rw [← gonF_yes hk2 hA hal]; exact HZ.out
 have HKY : Hid (PrOk Y) := Lib.hid (by rw [hyy]; exact HPO.out.put _ _)
 have hzlt : z < 2 ^ n := by rw [← hzg, ← hn]; exact bitTo_lt _ _
 have HSELF : Hid (z.testBit A = true) := Lib.hid (by rw [← hzg]; exact gon_self ho hoff)
 have HGB : Hid (∀ i, z.testBit i = true → (needN x.before n i).testBit A = true ∧ (i ≠ A → ∃ (j a : Nat), x.before[j]? = some ((a : Int), (i : Int)))) := Lib.hid (fun i hi => by
  rw [← hzg] at hi
  rw [← hn]
  exact gon_before HPO.out hi)
 have HYB : Hid (Y.before = x.before ∧ Y.orders.length = n) := Lib.hid (by rw [hyy]; exact ⟨rfl, by rw [← hn]; exact List.length_set⟩)
 have HRN : Hid (∀ i, i < n → ∀ w', Below w.heap.size w w' → Calls Tryz.prog 31 #[.agg (insCs x P).toArray, .int .i64 i] w' fun en w'' => en = .returned (.int .i64 (needN x.before n i : Nat)) ∧ Below w'.heap.size w' w'') := Lib.hid (fun i hi w' h' => by
  have h1 := rneeds_any x P i w' (HI.out _ h') HPO.out (by rw [hn]; exact hi)
  rw [hn] at h1
  exact h1)
 have HAW : Hid (∀ i, i < n → i ≠ A → z.testBit i = true → ∀ w', Below w7.heap.size w7 w' → Calls Tryz.prog 32 #[.agg (insCs Y P1).toArray, .int .i64 (2 ^ i : Nat)] w' fun en w'' => NotOk en ∧ Below w'.heap.size w' w'') := Lib.hid (fun i hi hne hz w' h' => by
  obtain ⟨j, a, hj⟩ := (HGB.out i hz).2 hne
  exact rallowed_no Y P1 i j a w' (HY7.out _ h').2 HKY.out (by rw [HYB.out.2]; exact hi) (by rw [HYB.out.1]; exact hj))
 have HN := Lib.hid hn
 have HA2 : Hid (A ≤ 20) := Lib.hid (by omega)
 have hz63 := lt20 hn20 hzlt
 have HXL : Hid (∀ w', Below w7.heap.size w7 w' → (CellsAt w' ⟨w.heap.size, 0, none⟩ (insCs x P) ∧ CellsAt w' ⟨g1, 0, none⟩ (insCs Y P1)) ∧ (w'.cell? ⟨w.heap.size, 3, none⟩ = some (.slice P.a3 n P.c3) ∧ w'.cell? ⟨w.heap.size + 1, 2, none⟩ = some (.int .i64 A))) := Lib.hid (fun w' h' => by
  have h2 := HX1.out w' (HC7.out.trans (h'.mono HC7.out.size))
  refine ⟨⟨h2.1.cells, (HY7.out _ h').1⟩, ?_, ?_⟩
  ·rw [← hn]; exact h2.1.cell (j := 3) rfl
  ·rw [← hA]; exact h2.2.cell (j := 2) rfl)
 subst hk0
 rw [hk2] at d1
 clear hzlt hk2 hy1 hy4 hA hyy ho hoff hal hn hzg HF
 go_upto_region 10 with fail
 clear d1
 go_loopw [8] (fun i wr => ∃ k : Nat, k ≤ n ∧ i = .int .i64 k ∧ Below w7.heap.size w7 wr) (fun i _ => n - (intOf i).toNat)
 case atStart => exact ⟨0, by omega, rfl, HE7.out⟩
 case round =>
  obtain ⟨k, hk, rfl, hb⟩ := hrel
  have HBV := Lib.hid hb
  have HBL := Lib.hid (HB7.out.trans (hb.mono HB7.out.size))
  have hvz := hb.size
  have x3 := (HXL.out _ hb).2.1
  clear hb
  by_cases hlt : k < n
  ·have hk0 : (0 : Int) ≤ (k : Int) := by omega
   have hkn : (k : Int) < (n : Int) := by omega
   have hk62 : (k : Int) ≤ 62 := by omega
   have hk20 : k ≤ 20 := by omega
   obtain ⟨zn, hzn⟩ : ∃ zn, needN x.before n k = zn := ⟨_, rfl⟩
   have HNC : Hid (∀ w', Below w.heap.size w w' → Calls Tryz.prog 31 #[.agg (insCs x P).toArray, .int .i64 k] w' fun en w'' => en = .returned (.int .i64 (zn : Nat)) ∧ Below w'.heap.size w' w'') := Lib.hid (fun w' h' => by
    have h := HRN.out k hlt w' h'
    rw [hzn] at h
    exact h)
   have hbt := bit_form zn A HA2.out
   obtain ⟨tb, htb⟩ : ∃ b, zn.testBit A = b := ⟨_, rfl⟩
   rw [htb] at hbt
   have HTT : Hid (z.testBit k = true → tb = true) := Lib.hid (fun h => by rw [← htb, ← hzn]; exact (HGB.out k h).1)
   clear htb hzn
   go_upto_region 12 with fail
   clear x3
   (refine wp_region_held_drew (S := (fun w' => CellsAt w' ⟨w.heap.size, 0, none⟩ (insCs x P) ∧ w'.cell? ⟨w.heap.size + 1, 2, none⟩ = some (.int .i64 A))) (by kernel_rfl) ?_ (fun hHeld => ?_))
   ·exact ⟨(HXL.out _ HBV.out.drew).1.1, (HXL.out _ HBV.out.drew).2.2⟩
   (refine lib.tk 0 _ rfl (by kernel_rfl) (fun _ _ _ h => h) (fun _ hSw => yG stIns rfl rfl hSw.1 rfl) (by assumption) ?_; (try simp only [lib.hly]))
   (refine lib.tk 1 ?_ rfl (by kernel_rfl) (fun _ _ _ h => h) ?_ (by assumption) ?_; rotate_left; (focus (intro w hSw; (try dsimp only at hSw); go_simp; all_goals with_reducible rfl)); (try simp only [lib.hly]))
   (refine lib.tk 3 ?_ rfl (by kernel_rfl) (fun _ _ _ h => h) ?_ (by assumption) ?_; rotate_left; (focus (intro w hSw; (try dsimp only at hSw); go_simp; all_goals with_reducible rfl)); (try simp only [lib.hly]))
   (refine lib.tk 4 ?_ rfl (by kernel_rfl) (fun _ _ _ h => h) ?_ (by assumption) ?_; rotate_left; (focus (intro w hSw; (try dsimp only at hSw); go_simp; all_goals with_reducible rfl)); (try simp only [lib.hly]))
   (refine lib.tk 5 ?_ rfl (by kernel_rfl) (fun _ _ _ h => h) ?_ (by assumption) ?_; rotate_left; (focus (intro w hSw; (try dsimp only at hSw); go_simp; all_goals with_reducible rfl)); (try simp only [lib.hly]))
   (refine wpAnyH_ready (rs := [2]) (by kernel_rfl) (by simp) ?_; refine AllReadyH.cons rfl (fun K hK => ?_) AllReadyH.nil)
   go_simp
   refine (HNC.out _ HBL.out.drew).mono ?_
   rintro e8 v8 ⟨rfl, b8⟩
   have B8 : Below wr.heap.size wr v8 := ((Below.refl _ _).drew).trans b8
   have HV8 := Lib.hid (HBV.out.trans (B8.mono hvz))
   clear b8 B8
   refine hK.out _ _ (And.intro (HXL.out _ HV8.out).1.1 (HXL.out _ HV8.out).2.2) (fun hHeld => ?_)
   clear hK K
   (try simp only [lib.hly])
   (refine lib.tk 6 ?_ rfl (by kernel_rfl) (fun _ _ _ h => h) ?_ (by assumption) ?_; rotate_left; (focus (intro w hSw; (try dsimp only at hSw); go_simp; all_goals with_reducible rfl)); (try simp only [lib.hly]))
   (refine lib.tk 7 ?_ rfl (by kernel_rfl) (fun _ _ _ h => h) ?_ (by assumption) ?_; rotate_left; (focus (intro w hSw; (try dsimp only at hSw); go_simp; all_goals with_reducible rfl)); (try simp only [lib.hly]))
   (refine lib.tk 8 ?_ rfl (by kernel_rfl) (fun _ _ _ h => h) ?_ (by assumption) ?_; rotate_left; (focus (intro w hSw; (try dsimp only at hSw); go_simp; all_goals with_reducible rfl)); (try simp only [lib.hly]))
   (refine lib.tk 9 ?_ rfl (by kernel_rfl) (fun _ _ _ h => h) ?_ (by assumption) ?_; rotate_left; (focus (intro w hSw; (try dsimp only at hSw); go_simp; all_goals with_reducible rfl)); (try simp only [lib.hly]))
   (refine wpAnyH_done (by kernel_rfl) ?_ _)
   clear hbt
   obtain ⟨pb, hpb⟩ : ∃ b, z.testBit k = b := ⟨_, rfl⟩
   have hbz := bit_form z k hk20
   have hbz2 : (((z : Int) / 2 ^ k).tmod 2 == 1) = z.testBit k := by rw [← hbz, u64w hk20]
   rw [hpb] at hbz hbz2
   cases pb
   ·go_wp2_with fail
    go_roundw
    case rel => exact ⟨k + 1, by omega, by go_num, HV8.out⟩
    case measure => simp [intOf]; omega
   ·have htt := HTT.out hpb
    subst htt
    have d2 := (HXL.out _ HV8.out).2.2
    by_cases hkA : k = A
    ·have hka : ((k : Int) != (A : Int)) = false := by rw [hkA]; simp
     clear hkA
     go_wp2_with fail
     go_roundw
     case rel => exact ⟨k + 1, by omega, by go_num, HV8.out⟩
     case measure => simp [intOf]; omega
    ·have hka : ((k : Int) != (A : Int)) = true := by
      rw [bne_iff_ne]
      omega
     have HAK := Lib.hid (HAW.out k hlt hkA hpb)
     clear hkA
     have hsh := shl_nat hk20
     obtain ⟨zk, hzk⟩ : ∃ zk, 2 ^ k = zk := ⟨_, rfl⟩
     rw [hzk] at hsh HAK
     clear hzk
     go_wp2_with ((with_reducible refine zH stIns _ rfl ⟨g1, 0, none⟩ (insCs (Y) P1) ?_ ?_ ?_ ?_ ?_); exact rfl; exact rfl; exact (HXL.out _ HV8.out).1.2; exact rfl)
     refine (HAK.out _ HV8.out).mono ?_
     rintro e9 v9 ⟨⟨q, hq0, rfl⟩, b9⟩
     have HV9 := Lib.hid (HV8.out.trans (b9.mono HV8.out.size))
     have hqq : (q == 0) = false := by simp [hq0]
     clear b9 hq0 d2
     go_wp2_with fail
     go_roundw
     case rel => exact ⟨k + 1, by omega, by go_num, HV9.out⟩
     case measure => simp [intOf]; omega
  ·have hkn : ¬ (k : Int) < (n : Int) := by omega
   have hbz := bit_form z A HA2.out
   rw [HSELF.out] at hbz
   have d2 := (HXL.out _ HBV.out).2.2
   go_wp2_with fail
   refine (zV wr (HTb.out _ HBL.out)).mono ?_
   rintro e9 w9 ⟨rfl, b9⟩
   have HB9 := Lib.hid (HBL.out.trans (b9.mono HBL.out.size))
   clear b9
   go_wp2_with fail
   go_ret
   exact ⟨rfl, HB9.out⟩
end Go.Proofs.YtofabhenmplkoaaGreatDoor.gon

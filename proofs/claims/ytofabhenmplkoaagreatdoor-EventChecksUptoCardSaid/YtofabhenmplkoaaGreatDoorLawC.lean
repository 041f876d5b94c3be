import Derived.Test.YtofabhenmplkoaaGreatDoorRefE
import Derived.Test.YtofabhenmplkoaaGreatDoorLimX
import Derived.Test.YtofabhenmplkoaaGreatDoorAwkX
set_option linter.unusedVariables false
set_option linter.unusedSimpArgs false
/- The law EventChecks, walked. -/
namespace Go.Proofs.YtofabhenmplkoaaGreatDoor.evt
open Go.RowKit
open lib rd app els typ big ord flts
open ins hiding zOrd bOrd
open gen hiding zOrd bOrd
open txt (Tabs)
set_option maxRecDepth 20000 in
set_option maxHeartbeats 8000000 in
theorem lawChecks_any (x : Ins) (P : InP) (now : Int) (e : Evt) (C : Option Addr) (c : Nat) (w : World) (ht : Tabs w) (h : InAt w w.heap.size x P) (hl : RLim x) (hI : Ints w w.heap.size C e.order.load) (hf : yN e) :
  Calls Tryz.prog 3 #[InV x P, .int .i64 now, .agg (z8 e C c).toArray] w fun en w' => en = .returned (.bool true) ∧ Below w.heap.size w w' := by
 show Calls Tryz.prog 3 #[InV x P, .int .i64 now, .agg #[.int .i64 e.at_, .int .i64 e.kind, .int .i64 e.a, .int .i64 e.b, .int .i64 e.n, .string e.order.name, .slice C e.order.load.length c, .int .i64 e.order.pick.place, .int .i64 e.order.pick.opn, .int .i64 e.order.pick.close, .int .i64 e.order.pick.service, .int .i64 e.order.drop.place, .int .i64 e.order.drop.opn, .int .i64 e.order.drop.close, .int .i64 e.order.drop.service, .int .i64 e.order.skills, .int .i64 e.order.penalty, .int .i64 e.order.split, .int .i64 e.order.last, .int .i64 e.order.now, .bool e.order.off]] w _
 have HA := Lib.hid h
 obtain ⟨W0, hW0⟩ : ∃ W0, (w.alloc (.cells (insCs x P).toArray 30)).alloc (.cells (z8 e C c).toArray 37) = W0 := ⟨_, rfl⟩
 have hB0 : Below w.heap.size w W0 := by rw [← hW0]; exact ((Below.refl _ _).alloc (Nat.le_refl _) _).alloc (by simp) _
 have z0 : W0.heap.size = w.heap.size + 2 := by rw [← hW0]; simp
 have b0 : Blk W0 w.heap.size 30 (insCs x P) := by
  rw [← hW0]
  exact (Blk.new w _ _).kept (World.grownBy_alloc _ _ none) (by simp)
 have b1 : Blk W0 (w.heap.size + 1) 37 (z8 e C c) := by
  rw [← hW0]
  have h := Blk.new (w.alloc (.cells (insCs x P).toArray 30)) 37 (z8 e C c)
  rw [show (w.alloc (.cells (insCs x P).toArray 30)).heap.size = w.heap.size + 1 by simp] at h
  exact h
 have hW1 : (w.alloc (.cells #[.slice P.a0 x.net.places.length P.c0, .slice P.a1 x.net.arcs.length P.c1, .slice P.a2 x.types.length P.c2, .slice P.a3 x.orders.length P.c3, .slice P.a4 x.apart.length P.c4, .slice P.a5 x.before.length P.c5] 30)).alloc (.cells #[.int .i64 e.at_, .int .i64 e.kind, .int .i64 e.a, .int .i64 e.b, .int .i64 e.n, .string e.order.name, .slice C e.order.load.length c, .int .i64 e.order.pick.place, .int .i64 e.order.pick.opn, .int .i64 e.order.pick.close, .int .i64 e.order.pick.service, .int .i64 e.order.drop.place, .int .i64 e.order.drop.opn, .int .i64 e.order.drop.close, .int .i64 e.order.drop.service, .int .i64 e.order.skills, .int .i64 e.order.penalty, .int .i64 e.order.split, .int .i64 e.order.last, .int .i64 e.order.now, .bool e.order.off] 37) = W0 := hW0
 have HX := Lib.hid (fun w' (h' : Below W0.heap.size W0 w') => And.intro (b0.below h') (b1.below h'))
 have HI := Lib.hid (fun w' (h' : Below w.heap.size w w') => h.go h')
 have HW1 := Lib.hid hW1
 have C0 := Below.refl W0.heap.size W0
 clear hW0 hW1 b0 b1
 simp only [InV]
 have HL := Lib.hid hl
 have HFT := Lib.hid hf
 have z0' : w.heap.size ≤ W0.heap.size := by omega
 have HIC := Lib.hid (fun w' (h' : Below w.heap.size w w') => (hI.below h').more h'.size)
 have HTb : Hid (∀ w', Below w.heap.size w w' → Tabs w') := Lib.hid (fun w' h => ht.below h)
 have HX0 := Lib.hid (HX.out _ C0)
 have hfw := few_any x P e C c W0 (HI.out _ hB0) hl
 obtain ⟨fw, hfw'⟩ : ∃ b, (shrB e && decide (insF x = [])) = b := ⟨_, rfl⟩
 rw [hfw'] at hfw
 have HFW := Lib.hid hfw'
 clear hl hf hI ht h hfw'
 go_enter Tryz.func3, Tryz.ntmps3
 go_upto_region 1 with fail
 rw [HW1.out]
 clear HW1
 go_wp2_with (first
  | ((with_reducible refine zH stIns _ rfl ⟨w.heap.size, 0, none⟩ (insCs (x) P) ?_ ?_ ?_ ?_ ?_); exact rfl; exact rfl; exact HX0.out.1.cells; exact rfl)
  | ((with_reducible refine zH stEvt _ rfl ⟨(w.heap.size + 1), 0, none⟩ (z8 e C c) ?_ ?_ ?_ ?_ ?_); exact rfl; exact rfl; exact HX0.out.2.cells; exact rfl))
 refine hfw.mono ?_
 rintro e9 w1 ⟨rfl, b1⟩
 have HB1 := Lib.hid (hB0.trans (b1.mono (by omega)))
 have HX1 := Lib.hid (fun w' (h' : Below w1.heap.size w1 w') => And.intro ((HX.out _ b1).1.below h').cells ((HX.out _ b1).2.below h').cells)
 clear b1 hfw HX0
 cases fw
 ·have haw := zV w1 (HTb.out _ HB1.out)
  go_wp2_with (go_at_call 14; refine haw.mono ?_; rintro e2 w2 ⟨rfl, hb2⟩)
  go_ret
  exact ⟨rfl, HB1.out.trans (hb2.mono HB1.out.size)⟩
 have HFI : Hid (insF x = []) := Lib.hid (by
  have := HFW.out
  rw [Bool.and_eq_true, decide_eq_true_eq] at this
  exact this.2)
 obtain ⟨k, hk⟩ : ∃ k, chkF x now e = k := ⟨_, rfl⟩
 have HP : Hid (∀ w', Below w.heap.size w w' → Calls Tryz.prog 15 #[.agg (insCs x P).toArray, .int .i64 now, .agg (z8 e C c).toArray] w' fun en w'' => en = .returned (.int .i64 k) ∧ Below w'.heap.size w' w'') := Lib.hid (fun w' h' => by
  have h1 := echeck_any x P now e C c w' (HI.out _ h') HFI.out (HIC.out _ h') HFT.out
  rw [hk] at h1
  exact h1)
 have HQ : Hid (∀ w', Below w.heap.size w w' → Calls Tryz.prog 16 #[.agg (insCs x P).toArray, .int .i64 now, .agg (z8 e C c).toArray] w' fun en w'' => en = .returned (.int .i64 k) ∧ Below w'.heap.size w' w'') := Lib.hid (fun w' h' => by
  have h1 := rcheck_any x P now e C c w'.heap.size w' (Nat.le_refl _) (HI.out _ h') HFI.out (HIC.out _ h') HFT.out
  rw [hk] at h1
  exact h1)
 clear hk
 go_upto_region 3 with fail
 (refine wp_region_held_drew (S := (fun w' => CellsAt w' ⟨w.heap.size, 0, none⟩ (insCs x P) ∧ CellsAt w' ⟨w.heap.size + 1, 0, none⟩ (z8 e C c))) (by kernel_rfl) ?_ (fun hHeld => ?_))
 ·exact HX1.out _ (Below.refl _ _).drew
 (refine lib.tk 0 _ rfl (by kernel_rfl) (fun _ _ _ h => h) (fun _ hSw => yG stIns rfl rfl hSw.1 rfl) (by assumption) ?_; (try simp only [lib.hly]))
 (refine lib.tk 1 ?_ rfl (by kernel_rfl) (fun _ _ _ h => h) ?_ (by assumption) ?_; rotate_left; (focus (intro w hSw; (try dsimp only at hSw); go_simp; all_goals with_reducible rfl)); (try simp only [lib.hly]))
 (refine lib.tk 2 _ rfl (by kernel_rfl) (fun _ _ _ h => h) (fun _ hSw => yG stEvt rfl rfl hSw.2 rfl) (by assumption) ?_; (try simp only [lib.hly]))
 (refine lib.tk 4 _ rfl (by kernel_rfl) (fun _ _ _ h => h) (fun _ hSw => yG stIns rfl rfl hSw.1 rfl) (by assumption) ?_; (try simp only [lib.hly]))
 (refine lib.tk 5 ?_ rfl (by kernel_rfl) (fun _ _ _ h => h) ?_ (by assumption) ?_; rotate_left; (focus (intro w hSw; (try dsimp only at hSw); go_simp; all_goals with_reducible rfl)); (try simp only [lib.hly]))
 (refine lib.tk 6 _ rfl (by kernel_rfl) (fun _ _ _ h => h) (fun _ hSw => yG stEvt rfl rfl hSw.2 rfl) (by assumption) ?_; (try simp only [lib.hly]))
 (refine wpAnyH_ready (rs := [3]) (by kernel_rfl) (by simp) ?_; refine AllReadyH.cons rfl (fun K hK => ?_) AllReadyH.nil)
 go_simp
 refine (HP.out _ HB1.out.drew).mono ?_
 rintro e3 w3 ⟨rfl, b3⟩
 have B3 : Below w1.heap.size w1 w3 := ((Below.refl _ _).drew).trans b3
 have HB3 := Lib.hid (HB1.out.trans (B3.mono HB1.out.size))
 have HC3 := Lib.hid B3
 clear b3 B3
 refine hK.out _ _ (HX1.out _ HC3.out) (fun hHeld => ?_)
 clear hK K
 (try simp only [lib.hly])
 (refine wpAnyH_ready (rs := [7]) (by kernel_rfl) (by simp) ?_; refine AllReadyH.cons rfl (fun K hK => ?_) AllReadyH.nil)
 go_simp
 refine (HQ.out _ HB3.out).mono ?_
 rintro e4 w4 ⟨rfl, b4⟩
 have HB4 := Lib.hid (HB3.out.trans (b4.mono HB3.out.size))
 have HC4 := Lib.hid (HC3.out.trans (b4.mono HC3.out.size))
 clear b4
 refine hK.out _ _ (HX1.out _ HC4.out) (fun hHeld => ?_)
 clear hK K
 (try simp only [lib.hly])
 have hkk : (k == k) = true := by simp
 (refine lib.tk 8 ?_ rfl (by kernel_rfl) (fun _ _ _ h => h) ?_ (by assumption) ?_; rotate_left; (focus (intro w hSw; (try dsimp only at hSw); go_simp; all_goals with_reducible rfl)); (try simp only [lib.hly]))
 (refine lib.tk 9 ?_ rfl (by kernel_rfl) (fun _ _ _ h => h) ?_ (by assumption) ?_; rotate_left; (focus (intro w hSw; (try dsimp only at hSw); go_simp; all_goals with_reducible rfl)); (try simp only [lib.hly]))
 (refine wpAnyH_ready (rs := [10]) (by kernel_rfl) (by simp) ?_; refine AllReadyH.cons rfl (fun K hK => ?_) AllReadyH.nil)
 go_simp
 refine (zV w4 (HTb.out _ HB4.out)).mono ?_
 rintro e5 w5 ⟨rfl, b5⟩
 have HB5 := Lib.hid (HB4.out.trans (b5.mono HB4.out.size))
 have HC5 := Lib.hid (HC4.out.trans (b5.mono HC4.out.size))
 clear b5
 refine hK.out _ _ (HX1.out _ HC5.out) (fun hHeld => ?_)
 clear hK K
 (try simp only [lib.hly])
 (refine lib.tk 11 ?_ rfl (by kernel_rfl) (fun _ _ _ h => h) ?_ (by assumption) ?_; rotate_left; (focus (intro w hSw; (try dsimp only at hSw); go_simp; all_goals with_reducible rfl)); (try simp only [lib.hly]))
 (refine lib.tk 12 ?_ rfl (by kernel_rfl) (fun _ _ _ h => h) ?_ (by assumption) ?_; rotate_left; (focus (intro w hSw; (try dsimp only at hSw); go_simp; all_goals with_reducible rfl)); (try simp only [lib.hly]))
 (refine wpAnyH_done (by kernel_rfl) ?_ _)
 go_wp2_with fail
 go_ret
 exact ⟨rfl, HB5.out⟩
end Go.Proofs.YtofabhenmplkoaaGreatDoor.evt

/- The law EventSpares, walked. -/
import Derived.Test.YtofabhenmplkoaaGreatDoorEvcB
import Derived.Test.YtofabhenmplkoaaGreatDoorSpaX
import Derived.Test.YtofabhenmplkoaaGreatDoorLimX
import Derived.Test.YtofabhenmplkoaaGreatDoorAwkX
import Derived.Test.YtofabhenmplkoaaGreatDoorSamX
set_option linter.unusedVariables false
set_option linter.unusedSimpArgs false
namespace Go.Proofs.YtofabhenmplkoaaGreatDoor.evt
open Go.RowKit
open lib rd app els typ big ord flts
open ins hiding zOrd bOrd
open gen hiding zOrd bOrd
open txt (Tabs)
open off (zU EG EG.put setM)
theorem ApSt.inAt {B q N M c2 c3 p n : Nat} {w1 wx : World} {A2 A3 : Option Addr} {CS2 CS3 bcs : List Value} {ts : List Ty} {os : List Ord} {y : Ins} {Q : InP} (h : ApSt B w1 q N M A2 c2 CS2 ts A3 c3 CS3 os p bcs wx) (hI : InAt wx wx.heap.size y Q) (hN : N ≤ 1000000) (hM : M ≤ 1000000) :
  InAt wx wx.heap.size { y with types := ts, orders := os.take n } ⟨Q.a0, Q.c0, Q.a1, Q.c1, A2, c2, A3, c3, Q.a4, Q.c4, Q.a5, Q.c5⟩ := by
 have hlO := h.lenO
 have hlT := h.lenT
 have h1 := ty_at' hI (EG.row (by rw [hlT]; exact h.ownT) h.elsT (by omega)) (by rw [hlT]; exact own_len_cap h.ownT)
 have h2 := own_len_cap h.ownO
 exact ord_at h1 ((EG.row (by rw [hlO]; exact h.ownO) h.elsO (by omega)).take n) (by rw [List.length_take]; omega)
theorem ApSt.fin {B q N M c2 c3 p : Nat} {w1 wx : World} {A2 A3 : Option Addr} {CS2 CS3 : List Value} {ts : List Ty} {os : List Ord} {x y : Ins} {Q : InP} (h : ApSt B w1 q N M A2 c2 CS2 ts A3 c3 CS3 os p (((insCs y Q).set 3 (.slice A3 N c3)).set 2 (.slice A2 M c2)) wx) (hI : InAt wx wx.heap.size y Q) (hN : N ≤ 1000000) (hM : M ≤ 1000000) (hz : ({ y with types := ts, orders := os } : Ins) = x) :
  ∃ Pz, Blk wx q 30 (insCs x Pz) ∧ InAt wx wx.heap.size x Pz ∧ Below q w1 wx := by
 have h1 := h.bo
 rw [insCs_two y Q ts os A2 A3 N c3 M c2 h.lenO h.lenT, hz] at h1
 have h2 := h.inAt (n := os.length) hI hN hM
 rw [List.take_length, hz] at h2
 exact ⟨_, h1, h2, h.bel⟩
theorem insCs_pop (y : Ins) (P : InP) (ts : List Ty) (os : List Ord) (A2 A3 : Option Addr) (N c3 M c2 n : Nat) (h3 : os.length = n) (h2 : ts.length = M) : (((insCs y P).set 3 (.slice A3 N c3)).set 2 (.slice A2 M c2)).set 3 (.slice A3 n c3) = insCs { y with types := ts, orders := os } ⟨P.a0, P.c0, P.a1, P.c1, A2, c2, A3, c3, P.a4, P.c4, P.a5, P.c5⟩ := by
 subst h3
 subst h2
 rfl
theorem insCs_nets (x : Ins) (P P1 : InP) (Nt : Net) (A2 A3 : Option Addr) (N c3 M c2 : Nat) (h3 : x.orders.length = N) (h2 : x.types.length = M) : ((((insCs { x with net := Nt } P1).set 3 (.slice A3 N c3)).set 2 (.slice A2 M c2)).set 0 (.slice P.a0 x.net.places.length P.c0)).set 1 (.slice P.a1 x.net.arcs.length P.c1) = insCs x ⟨P.a0, P.c0, P.a1, P.c1, A2, c2, A3, c3, P1.a4, P1.c4, P1.a5, P1.c5⟩ := by
 subst h3
 subst h2
 rfl
theorem net_mix {w : World} {x y : Ins} {P Q : InP} (hx : InAt w w.heap.size x P) (hy : InAt w w.heap.size y Q) : InAt w w.heap.size { y with net := x.net } ⟨P.a0, P.c0, P.a1, P.c1, Q.a2, Q.c2, Q.a3, Q.c3, Q.a4, Q.c4, Q.a5, Q.c5⟩ :=
 ⟨hx.places, hx.arcs, hy.types, hy.orders, hy.apart, hy.before, hy.capT, hy.capO, hy.capA, hy.capB⟩
theorem hap_n {x y : Ins} {e : Evt} (h : hapF x e = .ok y) (h3 : e.kind = 3) : 1 ≤ e.n ∧ e.n ≤ 4096 := by
 unfold hapF at h
 rw [if_neg (by omega), if_pos h3] at h
 by_cases hn : 1 ≤ e.n ∧ e.n ≤ 4096
 ·exact hn
 ·rw [if_pos hn] at h; cases h
theorem app_form3 (x : Ins) (e : Evt) (h : insF x = []) : (∃ k, k ≠ 0 ∧ appF x e = (nilI, k)) ∨ ∃ y, hapF x e = .ok y ∧ appF x e = (y, 0) ∧ insF y = [] ∧ 1 ≤ e.kind ∧ e.kind ≤ 5 := by
 by_cases hk : chkF x 0 e = 0
 ·obtain ⟨y, hy, hr, h1, h2⟩ := app_good hk
  exact .inr ⟨y, hy, hr, hap_ok h hy, h1, h2⟩
 ·exact .inl ⟨_, hk, app_bad rfl hk⟩
set_option maxRecDepth 20000 in
set_option maxHeartbeats 8000000 in
theorem lawSpares_any (x : Ins) (P : InP) (e : Evt) (C : Option Addr) (c : Nat) (t : Int) (w : World) (ht : Tabs w) (h : InAt w w.heap.size x P) (hl : RLim x) (hI : Ints w w.heap.size C e.order.load) (hf : yN e) :
  Calls Tryz.prog 7 #[InV x P, .agg (z8 e C c).toArray, .int .i64 t] w fun en w' => en = .returned (.bool true) ∧ Below w.heap.size w w' := by
 show Calls Tryz.prog 7 #[InV x P, .agg #[.int .i64 e.at_, .int .i64 e.kind, .int .i64 e.a, .int .i64 e.b, .int .i64 e.n, .string e.order.name, .slice C e.order.load.length c, .int .i64 e.order.pick.place, .int .i64 e.order.pick.opn, .int .i64 e.order.pick.close, .int .i64 e.order.pick.service, .int .i64 e.order.drop.place, .int .i64 e.order.drop.opn, .int .i64 e.order.drop.close, .int .i64 e.order.drop.service, .int .i64 e.order.skills, .int .i64 e.order.penalty, .int .i64 e.order.split, .int .i64 e.order.last, .int .i64 e.order.now, .bool e.order.off], .int .i64 t] w _
 have HA := Lib.hid h
 obtain ⟨W0, hW0⟩ : ∃ W0, (w.alloc (.cells (insCs x P).toArray 30)).alloc (.cells (z8 e C c).toArray 37) = W0 := ⟨_, rfl⟩
 have hB0 : Below w.heap.size w W0 := by rw [← hW0]; exact ((Below.refl _ _).alloc (Nat.le_refl _) _).alloc (by simp) _
 have z0 : W0.heap.size = w.heap.size + 2 := by rw [← hW0]; simp
 have b0 : Blk W0 w.heap.size 30 (insCs x P) := by
  rw [← hW0]
  exact (Blk.new w _ _).kept (World.grownBy_alloc _ _ none) (by simp)
 have b1 : Blk W0 (w.heap.size + 1) 37 (z8 e C c) := by
  rw [← hW0]
  have h := Blk.new (w.alloc (.cells (insCs x P).toArray 30)) 37 (z8 e C c)
  rw [show (w.alloc (.cells (insCs x P).toArray 30)).heap.size = w.heap.size + 1 by simp] at h
  exact h
 have hW1 : (w.alloc (.cells #[.slice P.a0 x.net.places.length P.c0, .slice P.a1 x.net.arcs.length P.c1, .slice P.a2 x.types.length P.c2, .slice P.a3 x.orders.length P.c3, .slice P.a4 x.apart.length P.c4, .slice P.a5 x.before.length P.c5] 30)).alloc (.cells #[.int .i64 e.at_, .int .i64 e.kind, .int .i64 e.a, .int .i64 e.b, .int .i64 e.n, .string e.order.name, .slice C e.order.load.length c, .int .i64 e.order.pick.place, .int .i64 e.order.pick.opn, .int .i64 e.order.pick.close, .int .i64 e.order.pick.service, .int .i64 e.order.drop.place, .int .i64 e.order.drop.opn, .int .i64 e.order.drop.close, .int .i64 e.order.drop.service, .int .i64 e.order.skills, .int .i64 e.order.penalty, .int .i64 e.order.split, .int .i64 e.order.last, .int .i64 e.order.now, .bool e.order.off] 37) = W0 := hW0
 have HX := Lib.hid (fun w' (h' : Below W0.heap.size W0 w') => And.intro (b0.below h') (b1.below h'))
 have HI := Lib.hid (fun w' (h' : Below w.heap.size w w') => h.go h')
 have HW1 := Lib.hid hW1
 have C0 := Below.refl W0.heap.size W0
 clear hW0 hW1 b0 b1
 simp only [InV]
 have HL := Lib.hid hl
 have HFT := Lib.hid hf
 have z0' : w.heap.size ≤ W0.heap.size := by omega
 have HIC := Lib.hid (fun w' (h' : Below w.heap.size w w') => (hI.below h').more h'.size)
 have HTb : Hid (∀ w', Below w.heap.size w w' → Tabs w') := Lib.hid (fun w' h => ht.below h)
 have HX0 := Lib.hid (HX.out _ C0)
 have hfw := few_any x P e C c W0 (HI.out _ hB0) hl
 obtain ⟨fw, hfw'⟩ : ∃ b, (shrB e && decide (insF x = [])) = b := ⟨_, rfl⟩
 rw [hfw'] at hfw
 have HFW := Lib.hid hfw'
 have HZ0 := Lib.hid z0
 clear hl hf hI ht h hfw'
 go_enter Tryz.func7, Tryz.ntmps7
 go_upto_region 1 with fail
 rw [HW1.out]
 clear HW1
 go_wp2_with (first
  | ((with_reducible refine zH stIns _ rfl ⟨w.heap.size, 0, none⟩ (insCs (x) P) ?_ ?_ ?_ ?_ ?_); exact rfl; exact rfl; exact HX0.out.1.cells; exact rfl)
  | ((with_reducible refine zH stEvt _ rfl ⟨(w.heap.size + 1), 0, none⟩ (z8 e C c) ?_ ?_ ?_ ?_ ?_); exact rfl; exact rfl; exact HX0.out.2.cells; exact rfl))
 refine hfw.mono ?_
 rintro e9 v1 ⟨rfl, b1⟩
 have HB1 := Lib.hid (hB0.trans (b1.mono (by omega)))
 have HXV := Lib.hid (fun w' (h' : Below v1.heap.size v1 w') => And.intro ((HX.out _ b1).1.below h') ((HX.out _ b1).2.below h'))
 have HZ1 : Hid (w.heap.size + 2 ≤ v1.heap.size) := Lib.hid (by have := b1.size; omega)
 clear b1 hfw HX0
 cases fw
 ·have haw := zV v1 (HTb.out _ HB1.out)
  go_wp2_with (go_at_call 14; refine haw.mono ?_; rintro e2 w2 ⟨rfl, hb2⟩)
  go_ret
  exact ⟨rfl, HB1.out.trans (hb2.mono HB1.out.size)⟩
 have HFI : Hid (insF x = []) := Lib.hid (by
  have := HFW.out
  rw [Bool.and_eq_true, decide_eq_true_eq] at this
  exact this.2)
 obtain ⟨r, hr⟩ : ∃ r, appF x e = r := ⟨_, rfl⟩
 have HF := Lib.hid (app_form3 x e HFI.out)
 rw [hr] at HF
 have HP : Hid (∀ w', Below w.heap.size w w' → Calls Tryz.prog 17 #[.agg (insCs x P).toArray, .agg (z8 e C c).toArray] w' (AplOut w' w'.heap.size r)) := Lib.hid (fun w' h' => by
  have h1 := apply_any x P e C c w'.heap.size w' (Nat.le_refl _) (HI.out _ h') HFI.out (HIC.out _ h') HFT.out
  rw [hr] at h1
  exact h1)
 clear hr
 obtain ⟨y, k⟩ := r
 have B11 := Below.refl v1.heap.size v1
 go_wp2_with (first
  | ((with_reducible refine zH stIns _ rfl ⟨w.heap.size, 0, none⟩ (insCs (x) P) ?_ ?_ ?_ ?_ ?_); exact rfl; exact rfl; exact (HXV.out _ B11).1.cells; exact rfl)
  | ((with_reducible refine zH stEvt _ rfl ⟨(w.heap.size + 1), 0, none⟩ (z8 e C c) ?_ ?_ ?_ ?_ ?_); exact rfl; exact rfl; exact (HXV.out _ B11).2.cells; exact rfl))
 clear B11
 refine (HP.out _ HB1.out).mono ?_
 rintro e2 v2 ⟨P1, rfl, hI1, b2⟩
 dsimp only at hI1 ⊢
 have HI1 := Lib.hid hI1.here
 have z2 := b2.size
 clear hI1
 go_upto_region 4 with fail
 obtain ⟨w1, hw3⟩ : ∃ W, v2.alloc (.cells (insCs (y) P1).toArray 30) = W := ⟨_, rfl⟩
 have hw3' : v2.alloc (.cells #[.slice P1.a0 (y).net.places.length P1.c0, .slice P1.a1 (y).net.arcs.length P1.c1, .slice P1.a2 (y).types.length P1.c2, .slice P1.a3 (y).orders.length P1.c3, .slice P1.a4 (y).apart.length P1.c4, .slice P1.a5 (y).before.length P1.c5] 30) = w1 := hw3
 rw [hw3']
 have k1' : Blk w1 v2.heap.size 30 (insCs (y) P1) := by rw [← hw3]; exact World.alloc_heap_new _ _
 have bx : Below v2.heap.size v2 w1 := by rw [← hw3]; exact (Below.refl _ _).alloc (Nat.le_refl _) _
 clear hw3 hw3'
 obtain ⟨g7, hg7⟩ : ∃ g7, v2.heap.size = g7 := ⟨_, rfl⟩
 have HY : Hid (∀ w', Below w1.heap.size w1 w' → Blk w' g7 30 (insCs y P1) ∧ InAt w' w'.heap.size y P1) := Lib.hid fun w' hb => ⟨by rw [← hg7]; exact k1'.below hb, (HI1.out.go bx).go hb⟩
 have HXW : Hid (∀ w', Below w1.heap.size w1 w' → Blk w' w.heap.size 30 (insCs x P) ∧ Blk w' (w.heap.size + 1) 37 (z8 e C c)) := Lib.hid (fun w' hb => ⟨((HXV.out _ (b2.trans (bx.mono z2))).1).below hb, ((HXV.out _ (b2.trans (bx.mono z2))).2).below hb⟩)
 have HBW := Lib.hid (HB1.out.trans ((b2.trans (bx.mono z2)).mono HB1.out.size))
 have hg7l : g7 < w1.heap.size := by rw [← hg7]; exact k1'.lt
 have hwg : w.heap.size + 2 ≤ g7 := by have := HZ1.out; omega
 have hE := Below.refl w1.heap.size w1
 rw [hg7]
 clear bx hg7 b2 z2 HI1 k1' HXV
 rcases HF.out with ⟨k', h1, h2⟩ | ⟨y', h1, h2, h3, h4, h5⟩
 ·injection h2 with h2 h3
  subst h2
  have hkn : (k != 0) = true := by rw [h3]; simp [h1]
  have y3 := (HY.out _ hE).1.cell (j := 3) rfl
  have y2 := (HY.out _ hE).1.cell (j := 2) rfl
  clear h1 h3
  go_wp2_with fail
  refine (zV w1 (HTb.out _ HBW.out)).mono ?_
  rintro e9 w9 ⟨rfl, b9⟩
  have HB9 := Lib.hid (HBW.out.trans (b9.mono HBW.out.size))
  clear b9
  go_wp2_with fail
  go_ret
  exact ⟨rfl, HB9.out⟩
 injection h2 with h2 hk0
 subst hk0
 subst h2
 have HH := Lib.hid h1
 have HYF := Lib.hid h3
 have HKD := Lib.hid (And.intro h4 h5)
 have HLM := Lib.hid (lim.lim_of h3)
 clear h1 h3 h4 h5
 obtain ⟨B, hBq⟩ : ∃ B, w1.heap.size = B := ⟨_, rfl⟩
 have hB : B ≤ w1.heap.size := by omega
 have HYA : Hid (InAt w1 B y P1) := Lib.hid (by rw [← hBq]; exact (HY.out _ hE).2)
 have HX1 : Hid (Blk w1 g7 30 (insCs y P1) ∧ Blk w1 (w.heap.size + 1) 37 (z8 e C c) ∧ True) := Lib.hid ⟨(HY.out _ hE).1, (HXW.out _ hE).2, trivial⟩
 have hz1 : g7 + 1 ≤ w1.heap.size := by omega
 have HBq := Lib.hid hBq
 clear hBq
 obtain ⟨CS3, hl3, hr3, ho3⟩ := catO HYA.out.orders hB
 obtain ⟨CS2, hl2, hr2, ho2⟩ := catT HYA.out.types hB
 obtain ⟨N, hN⟩ : ∃ N, y.orders.length = N := ⟨_, rfl⟩
 obtain ⟨M, hM⟩ : ∃ M, y.types.length = M := ⟨_, rfl⟩
 have hN20 : N ≤ 20 := by rw [← hN]; exact HLM.out.orders
 have hM20 : M ≤ 20 := by rw [← hM]; exact HLM.out.types
 rw [hN] at hr3
 rw [hM] at hr2
 have HN := Lib.hid hN
 have HM := Lib.hid hM
 have HR3 := Lib.hid hr3
 have HR2 := Lib.hid hr2
 have HO3 := Lib.hid ho3
 have HO2 := Lib.hid ho2
 clear hN hM hr3 hr2 ho3 ho2 hl3 hl2
 go_upto_region 7 with (first
  | ((with_reducible refine zH stIns _ rfl ⟨g7, 0, none⟩ (insCs (y) P1) ?_ ?_ ?_ ?_ ?_); exact rfl; exact rfl; exact HX1.out.1.cells; exact rfl)
  | ((with_reducible refine zJ stIns rfl _ _ rfl w1.heap.size nilCs (insCs y P1) ?_ ?_ ?_ ?_ ?_ (zT _ _) ?_); exact rfl; exact rfl; exact World.alloc_heap_new w1 _; exact rfl; exact rfl; intro w2 k1 k2 k3 k4; have K := lib.h4 k1 k2 k3 k4; clear k1 k2 k3 k4))
 (try simp only [lib.hly])
 have sx : w2.heap.size = w1.heap.size + 1 := by rw [K.out.2.2.1]; simp
 have bx : Below w1.heap.size w1 w2 := ((Below.refl _ _).alloc (Nat.le_refl _) _).trans K.out.2.2.2
 have k1' : Blk w2 w1.heap.size 30 (insCs y P1) := K.out.1
 clear K
 obtain ⟨q, hq⟩ : ∃ q, w1.heap.size = q := ⟨_, rfl⟩
 rw [hq] at bx sx k1' hz1 ⊢
 have hBleq : B ≤ q := by have := HBq.out; omega
 have HQ1 : Hid (g7 + 1 ≤ q) := Lib.hid hz1
 have HQW : Hid (g7 ≤ q) := Lib.hid (by omega)
 have hX2 := (fun w' (h' : Below q w1 w') => And.intro (HX1.out.1.below (h'.mono (by omega))) (HX1.out.2.1.below (h'.mono (by omega))))
 have HX2 := Lib.hid hX2
 have HI2 : Hid (∀ w', Below q w1 w' → Below w.heap.size w w') := Lib.hid (fun w' h' => HBW.out.trans (h'.mono (by have := HBW.out.size; omega)))
 have HBX := Lib.hid bx
 have HBO2 := Lib.hid k1'
 clear hX2 bx k1' hz1
 obtain ⟨p3, hp3⟩ : ∃ p, q + 1 = p := ⟨_, rfl⟩
 rw [hp3] at sx
 have x3 : w2.cell? ⟨g7, 3, none⟩ = some (.slice P1.a3 N P1.c3) := by rw [← HN.out]; exact (HX2.out _ HBX.out).1.cell (j := 3) rfl
 have hwp3 : g7 < p3 := by have := HQ1.out; omega
 have HE3 : Hid ((w2.alloc (.cells #[] 35)).ownsRow p3 35 16 (.slice (some ⟨p3, 0, none⟩) 0 0) 0 []) := Lib.hid (by
  have h := World.ownsRow_made (base := p3) (e := 35) (size := 16) w2 #[] 0 (by omega) (by decide) rfl
  rw [sx] at h
  exact h)
 have HB3 : Hid (Below q w1 (w2.alloc (.cells #[] 35))) := Lib.hid (HBX.out.alloc (by omega) _)
 have HA3 : Hid (p3 ≤ (w2.alloc (.cells #[] 35)).heap.size) := Lib.hid (by simp; omega)
 have HRD3 : Hid (Reads (w2.alloc (.cells #[] 35)) B 16 P1.a3 N CS3) := Lib.hid (HR3.out _ _ (HB3.out.mono (by omega)) (Nat.le_refl _)).1
 have HF3 : Hid (∀ A c w5, (w2.alloc (.cells #[] 35)).grownBy w5 (Value.slice (some ⟨p3, 0, none⟩) 0 0).ownBlock → w5.ownsRow p3 35 16 (.slice A N c) N ([] ++ CS3) →
   (w5.cell? ⟨q, 3, none⟩ = some (.slice P1.a3 N P1.c3) ∧ w5.frozen? ⟨q, 3, none⟩ = false) ∧ w5.setCell ⟨q, 3, none⟩ (.slice A N c) = w5.setCell ⟨q, 3, none⟩ (.slice A N c) ∧ Below q w1 (w5.setCell ⟨q, 3, none⟩ (.slice A N c)) ∧ Blk (w5.setCell ⟨q, 3, none⟩ (.slice A N c)) q 30 ((insCs y P1).set 3 (.slice A N c)) ∧ (w5.setCell ⟨q, 3, none⟩ (.slice A N c)).ownsRow (q + 1) 35 16 (.slice A N c) N CS3) := Lib.hid (fun A c w5 hg hown => by
  obtain ⟨b5, hown5⟩ := cat_new sx hg hown
  have hb : Blk w5 q 30 (insCs y P1) := HBO2.out.below (by rw [sx]; exact b5)
  have hbw : Below q w1 w5 := HBX.out.trans (b5.mono (by omega))
  refine ⟨⟨by rw [← HN.out]; exact hb.cell (j := 3) rfl, hb.frozen 3⟩, rfl, hbw.setCell (p := ⟨q, 3, none⟩) (Nat.le_refl _) _, hb.set 3 _, ?_⟩
  have h2 := yH w5 q 3 (.slice A N c)
  exact own_grown (zY hown5 (by omega)) h2 (ownBlock_ne hown5 fun b hb => by have := own_base hown5 b hb; omega))
 go_upto_region 8 with (at_builtin; go_loud (refine zX ord_elem _ _ rfl p3 (.slice (some ⟨p3, 0, none⟩) 0 0) 0 [] rfl HE3.out B P1.a3 N P1.c3 CS3 rfl HRD3.out HO3.out (by omega) HA3.out rfl ?_); intro A3 c3 w3 hown3 hg3; (rw [Nat.zero_add] at hown3); go_loud (obtain ⟨⟨x33, f33⟩, hset3, bl3, bo3, own3⟩ := HF3.out _ _ _ hg3 hown3))
 (try simp only [lib.hly])
 obtain ⟨W3, hW3⟩ : ∃ W, w3.setCell ⟨q, 3, none⟩ (.slice A3 N c3) = W := ⟨_, rfl⟩
 rw [hW3] at bl3 bo3 own3 ⊢
 have BL3 := Lib.hid bl3
 have BO3 := Lib.hid bo3
 have OW3 := Lib.hid own3
 clear hset3 hW3 x33 f33 hown3 hg3 HE3 HF3 HRD3 HA3 HB3 sx x3 bl3 bo3 own3 HBO2 HBX
 obtain ⟨p2, hp2⟩ : ∃ p, W3.heap.size = p := ⟨_, rfl⟩
 have HQP : Hid (q < p2) := Lib.hid (by rw [← hp2]; exact BO3.out.lt)
 have x2 : W3.cell? ⟨g7, 2, none⟩ = some (.slice P1.a2 M P1.c2) := by rw [← HM.out]; exact (HX2.out _ BL3.out).1.cell (j := 2) rfl
 have hwp2 : g7 < p2 := by have := HQ1.out; have := HQP.out; omega
 have HE2 : Hid ((W3.alloc (.cells #[] 56)).ownsRow p2 56 14 (.slice (some ⟨p2, 0, none⟩) 0 0) 0 []) := Lib.hid (by
  have h := World.ownsRow_made (base := p2) (e := 56) (size := 14) W3 #[] 0 (by omega) (by decide) rfl
  rw [hp2] at h
  exact h)
 have HB2 : Hid (Below q w1 (W3.alloc (.cells #[] 56))) := Lib.hid (BL3.out.alloc (by have := HQP.out; omega) _)
 have HA2 : Hid (p2 ≤ (W3.alloc (.cells #[] 56)).heap.size) := Lib.hid (by simp; omega)
 have HRD2 : Hid (Reads (W3.alloc (.cells #[] 56)) B 14 P1.a2 M CS2) := Lib.hid (HR2.out _ _ (HB2.out.mono (by omega)) (Nat.le_refl _)).1
 have HF2 : Hid (∀ A c w5, (W3.alloc (.cells #[] 56)).grownBy w5 (Value.slice (some ⟨p2, 0, none⟩) 0 0).ownBlock → w5.ownsRow p2 56 14 (.slice A M c) M ([] ++ CS2) →
   (w5.cell? ⟨q, 2, none⟩ = some (.slice P1.a2 M P1.c2) ∧ w5.frozen? ⟨q, 2, none⟩ = false) ∧ ApSt B w1 q N M A c CS2 y.types A3 c3 CS3 y.orders p2 (((insCs y P1).set 3 (.slice A3 N c3)).set 2 (.slice A M c)) (w5.setCell ⟨q, 2, none⟩ (.slice A M c))) := Lib.hid (fun A c w5 hg hown => by
  obtain ⟨b5, hown5⟩ := cat_new hp2 hg hown
  have b5' : Below W3.heap.size W3 w5 := by rw [hp2]; exact b5
  have hb := BO3.out.below b5'
  have hqp := HQP.out
  have hq1 := HQ1.out
  have hbw : Below q w1 w5 := BL3.out.trans (b5.mono (by omega))
  have hh := hbw.mono (show B ≤ q by omega)
  refine ⟨⟨by rw [← HM.out]; exact hb.cell (j := 2) rfl, hb.frozen 2⟩, ApSt.box (bcs := (insCs y P1).set 3 (.slice A3 N c3)) ⟨own_below OW3.out b5', fun b hb9 => by have := (World.ownsRow.lt OW3.out b hb9).2; omega, hown5, by omega, (HR3.out _ _ hh (Nat.le_refl _)).2, (HR2.out _ _ hh (Nat.le_refl _)).2, HN.out, HM.out, hb, hbw, by omega⟩ 2 _⟩)
 go_upto_region 9 with (at_builtin; go_loud (refine zX ty_elem _ _ rfl p2 (.slice (some ⟨p2, 0, none⟩) 0 0) 0 [] rfl HE2.out B P1.a2 M P1.c2 CS2 rfl HRD2.out HO2.out (by omega) HA2.out rfl ?_); intro A2 c2 w4 hown4 hg4; (rw [Nat.zero_add] at hown4); go_loud (obtain ⟨⟨x44, f44⟩, hs4⟩ := HF2.out _ _ _ hg4 hown4))
 (try simp only [lib.hly])
 obtain ⟨W4, hW4⟩ : ∃ W, w4.setCell ⟨q, 2, none⟩ (.slice A2 M c2) = W := ⟨_, rfl⟩
 rw [hW4] at hs4 ⊢
 have HS := Lib.hid hs4
 clear hW4 x44 f44 hown4 hg4 HE2 HF2 HRD2 HA2 HB2 hp2 x2 hs4 BL3 BO3 OW3
 have HXE := Lib.hid (fun w' (h' : Below q w1 w') => (HX2.out _ h').2)
 have HXQ := Lib.hid (fun w' (h' : Below q w1 w') => And.intro (HXW.out _ (h'.mono (by omega))).1 (HI.out _ (HI2.out _ h')))
 have HYQ := Lib.hid (fun w' (h' : Below q w1 w') => HY.out _ (h'.mono (by omega)))
 have HBQ : Hid (B ≤ q ∧ w.heap.size + 2 ≤ g7 ∧ g7 < q ∧ w.heap.size ≤ B) := Lib.hid (by have := HBq.out; have := HBW.out.size; have := HQ1.out; omega)
 have HQX : Hid (∀ w', Below q w1 w' → InAt w' w.heap.size x P) := Lib.hid (fun w' h' => HA.out.below (HI2.out _ h'))
 clear HX2 HXW HY HX1 hE hB HBW
 have HB8 : Hid (Below w.heap.size w W4) := Lib.hid (HI2.out _ HS.out.bel)
 have e1 := (HXE.out _ HS.out.bel).cell (j := 1) rfl
 go_upto_if 58 with fail
 obtain ⟨k1, hk1⟩ : ∃ b, (e.kind == 1) = b := ⟨_, rfl⟩
 obtain ⟨k2, hk2⟩ : ∃ b, (e.kind == 2) = b := ⟨_, rfl⟩
 obtain ⟨k3, hk3⟩ : ∃ b, (e.kind == 3) = b := ⟨_, rfl⟩
 obtain ⟨k4, hk4⟩ : ∃ b, (e.kind == 4) = b := ⟨_, rfl⟩
 obtain ⟨k5, hk5⟩ : ∃ b, (e.kind == 5) = b := ⟨_, rfl⟩
 have HK : Hid ((e.kind = 1 ↔ k1 = true) ∧ (e.kind = 2 ↔ k2 = true) ∧ (e.kind = 3 ↔ k3 = true) ∧ (e.kind = 4 ↔ k4 = true) ∧ (e.kind = 5 ↔ k5 = true)) := Lib.hid ⟨by rw [← hk1]; simp, by rw [← hk2]; simp, by rw [← hk3]; simp, by rw [← hk4]; simp, by rw [← hk5]; simp⟩
 cases k1
 rotate_left
 ·skip
  as_aux_lemma =>
  have hky := hap_add HH.out (HK.out.1.2 rfl)
  subst hky
  obtain ⟨n, hn⟩ : ∃ n, x.orders.length = n := ⟨_, rfl⟩
  have hNn : N = n + 1 := by
   rw [← HN.out]
   show (x.orders ++ [e.order]).length = n + 1
   rw [List.length_append, hn]; rfl
  have hcap := own_len_cap HS.out.ownO
  obtain ⟨g, cap, hv, hgb, hglt⟩ := HS.out.ownO.form (by omega)
  obtain rfl : A3 = some ⟨g, 0, none⟩ := by injection hv
  have x3 : W4.cell? ⟨q, 3, none⟩ = some (.slice (some ⟨g, 0, none⟩) N c3) := HS.out.bo.cell (j := 3) rfl
  have f3 := HS.out.bo.frozen 3
  have hN1 : ((N : Nat) : Int) - 1 = (n : Int) := by omega
  have hne : ((N : Nat) : Int) ≠ 0 := by omega
  have hNE : (((N : Nat) : Int) == 0) = false := by simpa using hne
  have hn0 : (0 : Int) ≤ (n : Int) := by omega
  have hnc : (n : Int) ≤ (c3 : Int) := by omega
  have HNn := Lib.hid hNn
  have HNX := Lib.hid hn
  clear hNn hv hn hne
  go_upto_region 25 with fail
  obtain ⟨W9, hW9⟩ : ∃ W, W4.setCell ⟨q, 3, none⟩ (.slice (some ⟨g, 0, none⟩) n c3) = W := ⟨_, rfl⟩
  rw [hW9]
  have HZ : Hid (∃ Pz, Blk W9 q 30 (insCs x Pz) ∧ InAt W9 W9.heap.size x Pz ∧ Below q w1 W9) := Lib.hid (by
   have HS9 := HS.out.box 3 (.slice (some ⟨g, 0, none⟩) n c3)
   rw [hW9] at HS9
   refine ⟨⟨P1.a0, P1.c0, P1.a1, P1.c1, A2, c2, some ⟨g, 0, none⟩, c3, P1.a4, P1.c4, P1.a5, P1.c5⟩, ?_, ?_, HS9.bel⟩
   ·have h := HS9.bo
    rw [insCs_pop (addI x e.order) P1 x.types x.orders A2 (some ⟨g, 0, none⟩) N c3 M c2 n HNX.out HM.out] at h
    exact h
   ·have h := HS9.inAt (n := n) (HYQ.out _ HS9.bel).2 (by omega) (by omega)
    have e9 : (x.orders ++ [e.order]).take n = x.orders := by rw [← HNX.out]; simp
    have e8 : ({ addI x e.order with types := (addI x e.order).types, orders := (addI x e.order).orders.take n } : Ins) = x := by
     show ({ x with orders := (x.orders ++ [e.order]).take n } : Ins) = x
     rw [e9]
    rw [e8] at h
    exact h)
  clear hW9 x3 f3 e1 hk1 hk2 hk3 hk4 hk5
  obtain ⟨Pz, hz1, hz2, hz3⟩ := HZ.out
  have HZB := Lib.hid hz1
  have HZI := Lib.hid hz2
  have HZW := Lib.hid hz3
  have hzz : q < W9.heap.size := hz1.lt
  have HBW9 := Lib.hid (HI2.out _ hz3)
  clear hz1 hz2 hz3 HZ HS
  obtain ⟨na, hna⟩ : ∃ n, x.net.arcs.length = n := ⟨_, rfl⟩
  have HNA := Lib.hid hna
  have hnab : na ≤ 1024 := by rw [← hna]; exact ((netTo_iff _).1 (net_of HFI.out)).1.2
  clear hna
  go_wp2_with (first
   | ((with_reducible refine zH stIns _ rfl ⟨q, 0, none⟩ (insCs (x) Pz) ?_ ?_ ?_ ?_ ?_); exact rfl; exact rfl; exact HZB.out.cells; exact rfl)
   | ((with_reducible refine zH stIns _ rfl ⟨w.heap.size, 0, none⟩ (insCs (x) P) ?_ ?_ ?_ ?_ ?_); exact rfl; exact rfl; exact (HXQ.out _ HZW.out).1.cells; exact rfl))
  refine (rsame_any x x Pz P W9 HZI.out (HXQ.out _ HZW.out).2).mono ?_
  rw [sameI_self]
  rintro e8 v8 ⟨rfl, b8⟩
  have HC8 := Lib.hid (HZW.out.trans (b8.mono (Nat.le_of_lt hzz)))
  have hq8 : q ≤ v8.heap.size := by have := b8.size; omega
  have HE8 := Lib.hid (Below.refl v8.heap.size v8)
  clear b8 HZB HZI HZW HBW9 hzz
  by_cases ht1 : t < 0
  ·go_wp2_with fail
   refine (zV v8 (HTb.out _ (HI2.out _ HC8.out))).mono ?_
   rintro e9 w9 ⟨rfl, b9⟩
   have HB9 := Lib.hid ((HI2.out _ HC8.out).trans (b9.mono (HI2.out _ HC8.out).size))
   clear b9
   go_wp2_with fail
   go_ret
   exact ⟨rfl, HB9.out⟩
  by_cases ht2 : 4096 < t
  ·go_wp2_with fail
   refine (zV v8 (HTb.out _ (HI2.out _ HC8.out))).mono ?_
   rintro e9 w9 ⟨rfl, b9⟩
   have HB9 := Lib.hid ((HI2.out _ HC8.out).trans (b9.mono (HI2.out _ HC8.out).size))
   clear b9
   go_wp2_with fail
   go_ret
   exact ⟨rfl, HB9.out⟩
  have HT : Hid (0 ≤ t ∧ t ≤ 4096) := Lib.hid (by omega)
  go_upto_region 30 with fail
  go_loopw [10] (fun i wr => ∃ k : Nat, k ≤ na ∧ i = .int .i64 k ∧ Below v8.heap.size v8 wr) (fun i _ => na - (intOf i).toNat)
  case atStart => exact ⟨0, by omega, rfl, HE8.out⟩
  case round =>
   obtain ⟨k, hk, rfl, hb⟩ := hrel
   have HBR := Lib.hid (HC8.out.trans (hb.mono hq8))
   have HBV := Lib.hid hb
   have hvz := hb.size
   have x1 : wr.cell? ⟨w.heap.size, 1, none⟩ = some (.slice P.a1 na P.c1) := by rw [← HNA.out]; exact (HXQ.out _ HBR.out).1.cell (j := 1) rfl
   clear hb
   by_cases hlt : k < na
   ·obtain ⟨a, ha⟩ : ∃ a, x.net.arcs[k]? = some a := ⟨_, List.getElem?_eq_getElem (by rw [HNA.out]; exact hlt)⟩
    obtain ⟨a', ha', hfr, hto, hpr, _, hlt'⟩ := hap_arc HH.out ha
    have hl := hlt' t
    have hok := ar_ok (net_of HFI.out) ha
    have hok' := ar_ok (net_of HYF.out) ha'
    have hbd := arcA_bd hok HT.out
    obtain ⟨ad, cs0, hA, hadb, hat0, hcs0⟩ := ((HXQ.out _ HBR.out).2.arcs).2 k a ha
    obtain ⟨C0, c0, C1, c1, rfl, ht0, hs0, hf0⟩ := rArc_at hat0
    have HCE : Hid (CellsAt wr (ad.add (k * 6)) (zB a C0 c0 C1 c1)) := Lib.hid (fun j u hu => by rw [add_of_add]; exact hcs0 j u hu)
    have HAO := Lib.hid (And.intro ha hok)
    have HGY : Hid (∀ w', Below q w1 w' → Calls Tryz.prog 27 #[.agg #[.slice P1.a0 (addI x e.order).net.places.length P1.c0, .slice P1.a1 (addI x e.order).net.arcs.length P1.c1], .int .i64 a.profile, .int .i64 a.frm, .int .i64 a.to, .int .i64 t] w' fun e w'' => e = .returned (.tuple #[.int .i64 (arcA a' t), .int .i64 a'.miles, .int .i64 0]) ∧ Below w'.heap.size w' w'') := Lib.hid (fun w' h' => by
     have h := rgo_any (addI x e.order).net k a' P1.a0 P1.c0 P1.a1 P1.c1 t w' (HYQ.out _ h').2.arcs ha' hok' HT.out
     rw [hfr, hto, hpr] at h
     exact h)
    have HGX : Hid (∀ w', Below q w1 w' → Calls Tryz.prog 27 #[.agg #[.slice P.a0 x.net.places.length P.c0, .slice P.a1 na P.c1], .int .i64 a.profile, .int .i64 a.frm, .int .i64 a.to, .int .i64 t] w' fun e w'' => e = .returned (.tuple #[.int .i64 (arcA a t), .int .i64 a.miles, .int .i64 0]) ∧ Below w'.heap.size w' w'') := Lib.hid (fun w' h' => by
     have h := rgo_any x.net k a P.a0 P.c0 P.a1 P.c1 t w' (HXQ.out _ h').2.arcs HAO.out.1 HAO.out.2 HT.out
     rw [HNA.out] at h
     exact h)
    have HLT : Hid (arcA a' t = arcA a t + lateA e a t) := Lib.hid hl
    obtain ⟨va, hva⟩ : ∃ v, arcA a t = v := ⟨_, rfl⟩
    obtain ⟨vb, hvb⟩ : ∃ v, arcA a' t = v := ⟨_, rfl⟩
    rw [hva] at HGX HLT hbd
    rw [hvb] at HGY HLT
    obtain ⟨mb, hmb⟩ : ∃ v, a'.miles = v := ⟨_, rfl⟩
    rw [hmb] at HGY
    obtain ⟨hbd1, hbd2⟩ := hbd
    have hk0 : (0 : Int) ≤ (k : Int) := by omega
    have hkn : (k : Int) < (na : Int) := by omega
    rw [hA] at x1
    clear ha ha' hfr hto hpr hlt' hl hok hok' hA hat0 hcs0 ht0 hs0 hf0 hva hvb hmb HAO
    go_upto_region 33 with (first
     | ((with_reducible refine zH stArc' _ rfl (ad.add (k * 6)) (zB a C0 c0 C1 c1) ?_ ?_ ?_ ?_ ?_); exact rfl; exact rfl; exact HCE.out; exact rfl)
     | ((with_reducible refine zJ stArc' rfl _ _ rfl wr.heap.size (arcL 0 0 0 (.slice none 0 0)) (zB a C0 c0 C1 c1) ?_ ?_ ?_ ?_ ?_ (yC _ _ _ _ _) ?_); exact rfl; exact rfl; exact Blk.new wr _ _; exact rfl; exact rfl; intro v4 k1 k2 k3 k4; have K := lib.h4 k1 k2 k3 k4; clear k1 k2 k3 k4))
    (try simp only [lib.hly])
    have b4 : Below wr.heap.size wr v4 := ((Below.refl _ _).alloc (Nat.le_refl _) _).trans K.out.2.2.2
    have HV4 := Lib.hid (HBV.out.trans (b4.mono hvz))
    have HB4 := Lib.hid (HC8.out.trans (HV4.out.mono hq8))
    obtain ⟨qa, hqa⟩ : ∃ v, wr.heap.size = v := ⟨_, rfl⟩
    have HQ : Hid (∀ w', Below v4.heap.size v4 w' → Blk w' qa 59 (zB a C0 c0 C1 c1)) := Lib.hid (fun w' h' => by rw [← hqa]; exact Blk.below K.out.1 h')
    have HE4 := Lib.hid (Below.refl v4.heap.size v4)
    have z4 := HB4.out.size
    rw [hqa]
    clear K b4 hqa x1 HCE
    have q0 := (HQ.out _ HE4.out).cell (j := 0) rfl
    have q1 := (HQ.out _ HE4.out).cell (j := 1) rfl
    have q2 := (HQ.out _ HE4.out).cell (j := 2) rfl
    have x0 : v4.cell? ⟨w.heap.size, 0, none⟩ = some (.slice P.a0 x.net.places.length P.c0) := (HXQ.out _ HB4.out).1.cell (j := 0) rfl
    have x1 : v4.cell? ⟨w.heap.size, 1, none⟩ = some (.slice P.a1 na P.c1) := by rw [← HNA.out]; exact (HXQ.out _ HB4.out).1.cell (j := 1) rfl
    go_wp2_with fail
    refine (HGX.out v4 HB4.out).mono ?_
    rintro e5 v5 ⟨rfl, b5⟩
    have HD5 := Lib.hid b5
    have HV5 := Lib.hid (HV4.out.trans (b5.mono HV4.out.size))
    have HB5 := Lib.hid (HC8.out.trans (HV5.out.mono hq8))
    clear b5 q0 q1 q2 x0 x1
    have q0 := (HQ.out _ HD5.out).cell (j := 0) rfl
    have q1 := (HQ.out _ HD5.out).cell (j := 1) rfl
    have q2 := (HQ.out _ HD5.out).cell (j := 2) rfl
    have y0 : v5.cell? ⟨g7, 0, none⟩ = some (.slice P1.a0 (addI x e.order).net.places.length P1.c0) := (HYQ.out _ HB5.out).1.cell (j := 0) rfl
    have y1 : v5.cell? ⟨g7, 1, none⟩ = some (.slice P1.a1 (addI x e.order).net.arcs.length P1.c1) := (HYQ.out _ HB5.out).1.cell (j := 1) rfl
    go_wp2_with fail
    refine (HGY.out v5 HB5.out).mono ?_
    rintro e6 v6 ⟨rfl, b6⟩
    have HD6 := Lib.hid (HD5.out.trans (b6.mono HD5.out.size))
    have HV6 := Lib.hid (HV5.out.trans (b6.mono HV5.out.size))
    have HB6 := Lib.hid (HC8.out.trans (HV6.out.mono hq8))
    clear b6 q0 q1 q2 y0 y1
    have q0 := (HQ.out _ HD6.out).cell (j := 0) rfl
    have q1 := (HQ.out _ HD6.out).cell (j := 1) rfl
    have d0 := (HXE.out _ HB6.out).cell (j := 0) rfl
    have d1 := (HXE.out _ HB6.out).cell (j := 1) rfl
    have d2 := (HXE.out _ HB6.out).cell (j := 2) rfl
    have d3 := (HXE.out _ HB6.out).cell (j := 3) rfl
    have d4 := (HXE.out _ HB6.out).cell (j := 4) rfl
    obtain ⟨b3, hb3⟩ : ∃ b, (e.kind == 3) = b := ⟨_, rfl⟩
    by_cases hall : (e.kind = 3 ∧ a.frm = e.a ∧ a.to = e.b ∧ e.at_ ≤ t)
    ·obtain ⟨hn1, hn2⟩ := hap_n HH.out hall.1
     have hvv : vb = va + e.n := by
      have h := HLT.out
      unfold lateA at h
      rw [if_pos hall] at h
      exact h
     have f3 : b3 = true := by rw [← hb3]; simp [hall.1]
     have f1 : (a.frm == e.a) = true := by simp [hall.2.1]
     have f2 : (a.to == e.b) = true := by simp [hall.2.2.1]
     have f4 := hall.2.2.2
     have hvn : (vb != va + e.n) = false := by rw [hvv]; simp
     subst f3
     clear hall hvv
     go_wp2_with fail
     go_roundw
     case rel => exact ⟨k + 1, by omega, by go_num, HV6.out⟩
     case measure => simp [intOf]; omega
    ·have hvv : vb = va := by
      have h := HLT.out
      unfold lateA at h
      rw [if_neg hall] at h
      omega
     have HALL := Lib.hid hall
     have hvn : (vb != va + 0) = false := by rw [hvv]; simp
     have hvn2 : (vb != va) = false := by rw [hvv]; simp
     clear hall hvv
     cases b3
     ·go_wp2_with fail
      go_roundw
      case rel => exact ⟨k + 1, by omega, by go_num, HV6.out⟩
      case measure => simp [intOf]; omega
     by_cases f1 : a.frm = e.a
     ·by_cases f2 : a.to = e.b
      ·have f4 : ¬ e.at_ ≤ t := fun h => HALL.out ⟨by simpa using hb3, f1, f2, h⟩
       have f1' : (a.frm == e.a) = true := by simp [f1]
       have f2' : (a.to == e.b) = true := by simp [f2]
       clear f1 f2
       go_wp2_with fail
       go_roundw
       case rel => exact ⟨k + 1, by omega, by go_num, HV6.out⟩
       case measure => simp [intOf]; omega
      ·have f1' : (a.frm == e.a) = true := by simp [f1]
       have f2' : (a.to == e.b) = false := by simp [f2]
       clear f1 f2
       go_wp2_with fail
       go_roundw
       case rel => exact ⟨k + 1, by omega, by go_num, HV6.out⟩
       case measure => simp [intOf]; omega
     ·have f1' : (a.frm == e.a) = false := by simp [f1]
      clear f1
      go_wp2_with fail
      go_roundw
      case rel => exact ⟨k + 1, by omega, by go_num, HV6.out⟩
      case measure => simp [intOf]; omega
   ·have hke : k = na := by omega
    subst hke
    clear hlt
    go_wp2_with fail
    refine (zV wr (HTb.out _ (HI2.out _ HBR.out))).mono ?_
    rintro e9 w9 ⟨rfl, b9⟩
    have HB9 := Lib.hid ((HI2.out _ HBR.out).trans (b9.mono (HI2.out _ HBR.out).size))
    clear b9
    go_wp2_with fail
    go_ret
    exact ⟨rfl, HB9.out⟩
 cases k3
 rotate_left
 ·skip
  as_aux_lemma =>
  obtain ⟨N', rfl, hN'⟩ := hap_delay HH.out (HK.out.2.2.1.2 rfl)
  have hk4' : k4 = false := by
   cases k4
   ·rfl
   ·have h1 := HK.out.2.2.2.1.2 rfl
    have h2 := HK.out.2.2.1.2 rfl
    omega
  have hk2' : k2 = false := by
   cases k2
   ·rfl
   ·have h1 := HK.out.2.1.2 rfl
    have h2 := HK.out.2.2.1.2 rfl
    omega
  have hk5' : k5 = false := by
   cases k5
   ·rfl
   ·have h1 := HK.out.2.2.2.2.2 rfl
    have h2 := HK.out.2.2.1.2 rfl
    omega
  subst hk4' hk2' hk5'
  have x0 := (HXQ.out _ HS.out.bel).1.cell (j := 0) rfl
  have x1 := (HXQ.out _ HS.out.bel).1.cell (j := 1) rfl
  have q0 : W4.cell? ⟨q, 0, none⟩ = some (.slice P1.a0 N'.places.length P1.c0) := HS.out.bo.cell (j := 0) rfl
  have q1 : W4.cell? ⟨q, 1, none⟩ = some (.slice P1.a1 N'.arcs.length P1.c1) := HS.out.bo.cell (j := 1) rfl
  have g0 := HS.out.bo.frozen 0
  have g1 := HS.out.bo.frozen 1
  clear hN'
  go_upto_region 25 with fail
  obtain ⟨W9, hW9⟩ : ∃ W, (W4.setCell ⟨q, 0, none⟩ (.slice P.a0 x.net.places.length P.c0)).setCell ⟨q, 1, none⟩ (.slice P.a1 x.net.arcs.length P.c1) = W := ⟨_, rfl⟩
  rw [hW9]
  have HZ : Hid (∃ Pz, Blk W9 q 30 (insCs x Pz) ∧ InAt W9 W9.heap.size x Pz ∧ Below q w1 W9) := Lib.hid (by
   have HS9 := (HS.out.box 0 (.slice P.a0 x.net.places.length P.c0)).box 1 (.slice P.a1 x.net.arcs.length P.c1)
   rw [hW9] at HS9
   refine ⟨⟨P.a0, P.c0, P.a1, P.c1, A2, c2, A3, c3, P1.a4, P1.c4, P1.a5, P1.c5⟩, ?_, ?_, HS9.bel⟩
   ·have h := HS9.bo
    rw [insCs_nets x P P1 N' A2 A3 N c3 M c2 HN.out HM.out] at h
    exact h
   ·have h := HS9.inAt (n := x.orders.length) (HYQ.out _ HS9.bel).2 (by omega) (by omega)
    have h2 := net_mix (HXQ.out _ HS9.bel).2 h
    have e8 : ({ ({ ({ x with net := N' } : Ins) with types := ({ x with net := N' } : Ins).types, orders := ({ x with net := N' } : Ins).orders.take x.orders.length } : Ins) with net := x.net } : Ins) = x := by
     show ({ x with orders := x.orders.take x.orders.length } : Ins) = x
     rw [List.take_length]
    rw [e8] at h2
    exact h2)
  clear hW9 x0 x1 q0 q1 g0 g1 e1 hk1 hk2 hk3 hk4 hk5
  obtain ⟨Pz, hz1, hz2, hz3⟩ := HZ.out
  have HZB := Lib.hid hz1
  have HZI := Lib.hid hz2
  have HZW := Lib.hid hz3
  have hzz : q < W9.heap.size := hz1.lt
  have HBW9 := Lib.hid (HI2.out _ hz3)
  clear hz1 hz2 hz3 HZ HS
  obtain ⟨na, hna⟩ : ∃ n, x.net.arcs.length = n := ⟨_, rfl⟩
  have HNA := Lib.hid hna
  have hnab : na ≤ 1024 := by rw [← hna]; exact ((netTo_iff _).1 (net_of HFI.out)).1.2
  clear hna
  go_wp2_with (first
   | ((with_reducible refine zH stIns _ rfl ⟨q, 0, none⟩ (insCs (x) Pz) ?_ ?_ ?_ ?_ ?_); exact rfl; exact rfl; exact HZB.out.cells; exact rfl)
   | ((with_reducible refine zH stIns _ rfl ⟨w.heap.size, 0, none⟩ (insCs (x) P) ?_ ?_ ?_ ?_ ?_); exact rfl; exact rfl; exact (HXQ.out _ HZW.out).1.cells; exact rfl))
  refine (rsame_any x x Pz P W9 HZI.out (HXQ.out _ HZW.out).2).mono ?_
  rw [sameI_self]
  rintro e8 v8 ⟨rfl, b8⟩
  have HC8 := Lib.hid (HZW.out.trans (b8.mono (Nat.le_of_lt hzz)))
  have hq8 : q ≤ v8.heap.size := by have := b8.size; omega
  have HE8 := Lib.hid (Below.refl v8.heap.size v8)
  clear b8 HZB HZI HZW HBW9 hzz
  by_cases ht1 : t < 0
  ·go_wp2_with fail
   refine (zV v8 (HTb.out _ (HI2.out _ HC8.out))).mono ?_
   rintro e9 w9 ⟨rfl, b9⟩
   have HB9 := Lib.hid ((HI2.out _ HC8.out).trans (b9.mono (HI2.out _ HC8.out).size))
   clear b9
   go_wp2_with fail
   go_ret
   exact ⟨rfl, HB9.out⟩
  by_cases ht2 : 4096 < t
  ·go_wp2_with fail
   refine (zV v8 (HTb.out _ (HI2.out _ HC8.out))).mono ?_
   rintro e9 w9 ⟨rfl, b9⟩
   have HB9 := Lib.hid ((HI2.out _ HC8.out).trans (b9.mono (HI2.out _ HC8.out).size))
   clear b9
   go_wp2_with fail
   go_ret
   exact ⟨rfl, HB9.out⟩
  have HT : Hid (0 ≤ t ∧ t ≤ 4096) := Lib.hid (by omega)
  go_upto_region 30 with fail
  go_loopw [10] (fun i wr => ∃ k : Nat, k ≤ na ∧ i = .int .i64 k ∧ Below v8.heap.size v8 wr) (fun i _ => na - (intOf i).toNat)
  case atStart => exact ⟨0, by omega, rfl, HE8.out⟩
  case round =>
   obtain ⟨k, hk, rfl, hb⟩ := hrel
   have HBR := Lib.hid (HC8.out.trans (hb.mono hq8))
   have HBV := Lib.hid hb
   have hvz := hb.size
   have x1 : wr.cell? ⟨w.heap.size, 1, none⟩ = some (.slice P.a1 na P.c1) := by rw [← HNA.out]; exact (HXQ.out _ HBR.out).1.cell (j := 1) rfl
   clear hb
   by_cases hlt : k < na
   ·obtain ⟨a, ha⟩ : ∃ a, x.net.arcs[k]? = some a := ⟨_, List.getElem?_eq_getElem (by rw [HNA.out]; exact hlt)⟩
    obtain ⟨a', ha', hfr, hto, hpr, _, hlt'⟩ := hap_arc HH.out ha
    have hl := hlt' t
    have hok := ar_ok (net_of HFI.out) ha
    have hok' := ar_ok (net_of HYF.out) ha'
    have hbd := arcA_bd hok HT.out
    obtain ⟨ad, cs0, hA, hadb, hat0, hcs0⟩ := ((HXQ.out _ HBR.out).2.arcs).2 k a ha
    obtain ⟨C0, c0, C1, c1, rfl, ht0, hs0, hf0⟩ := rArc_at hat0
    have HCE : Hid (CellsAt wr (ad.add (k * 6)) (zB a C0 c0 C1 c1)) := Lib.hid (fun j u hu => by rw [add_of_add]; exact hcs0 j u hu)
    have HAO := Lib.hid (And.intro ha hok)
    have HGY : Hid (∀ w', Below q w1 w' → Calls Tryz.prog 27 #[.agg #[.slice P1.a0 ({ x with net := N' }).net.places.length P1.c0, .slice P1.a1 ({ x with net := N' }).net.arcs.length P1.c1], .int .i64 a.profile, .int .i64 a.frm, .int .i64 a.to, .int .i64 t] w' fun e w'' => e = .returned (.tuple #[.int .i64 (arcA a' t), .int .i64 a'.miles, .int .i64 0]) ∧ Below w'.heap.size w' w'') := Lib.hid (fun w' h' => by
     have h := rgo_any ({ x with net := N' }).net k a' P1.a0 P1.c0 P1.a1 P1.c1 t w' (HYQ.out _ h').2.arcs ha' hok' HT.out
     rw [hfr, hto, hpr] at h
     exact h)
    have HGX : Hid (∀ w', Below q w1 w' → Calls Tryz.prog 27 #[.agg #[.slice P.a0 x.net.places.length P.c0, .slice P.a1 na P.c1], .int .i64 a.profile, .int .i64 a.frm, .int .i64 a.to, .int .i64 t] w' fun e w'' => e = .returned (.tuple #[.int .i64 (arcA a t), .int .i64 a.miles, .int .i64 0]) ∧ Below w'.heap.size w' w'') := Lib.hid (fun w' h' => by
     have h := rgo_any x.net k a P.a0 P.c0 P.a1 P.c1 t w' (HXQ.out _ h').2.arcs HAO.out.1 HAO.out.2 HT.out
     rw [HNA.out] at h
     exact h)
    have HLT : Hid (arcA a' t = arcA a t + lateA e a t) := Lib.hid hl
    obtain ⟨va, hva⟩ : ∃ v, arcA a t = v := ⟨_, rfl⟩
    obtain ⟨vb, hvb⟩ : ∃ v, arcA a' t = v := ⟨_, rfl⟩
    rw [hva] at HGX HLT hbd
    rw [hvb] at HGY HLT
    obtain ⟨mb, hmb⟩ : ∃ v, a'.miles = v := ⟨_, rfl⟩
    rw [hmb] at HGY
    obtain ⟨hbd1, hbd2⟩ := hbd
    have hk0 : (0 : Int) ≤ (k : Int) := by omega
    have hkn : (k : Int) < (na : Int) := by omega
    rw [hA] at x1
    clear ha ha' hfr hto hpr hlt' hl hok hok' hA hat0 hcs0 ht0 hs0 hf0 hva hvb hmb HAO
    go_upto_region 33 with (first
     | ((with_reducible refine zH stArc' _ rfl (ad.add (k * 6)) (zB a C0 c0 C1 c1) ?_ ?_ ?_ ?_ ?_); exact rfl; exact rfl; exact HCE.out; exact rfl)
     | ((with_reducible refine zJ stArc' rfl _ _ rfl wr.heap.size (arcL 0 0 0 (.slice none 0 0)) (zB a C0 c0 C1 c1) ?_ ?_ ?_ ?_ ?_ (yC _ _ _ _ _) ?_); exact rfl; exact rfl; exact Blk.new wr _ _; exact rfl; exact rfl; intro v4 k1 k2 k3 k4; have K := lib.h4 k1 k2 k3 k4; clear k1 k2 k3 k4))
    (try simp only [lib.hly])
    have b4 : Below wr.heap.size wr v4 := ((Below.refl _ _).alloc (Nat.le_refl _) _).trans K.out.2.2.2
    have HV4 := Lib.hid (HBV.out.trans (b4.mono hvz))
    have HB4 := Lib.hid (HC8.out.trans (HV4.out.mono hq8))
    obtain ⟨qa, hqa⟩ : ∃ v, wr.heap.size = v := ⟨_, rfl⟩
    have HQ : Hid (∀ w', Below v4.heap.size v4 w' → Blk w' qa 59 (zB a C0 c0 C1 c1)) := Lib.hid (fun w' h' => by rw [← hqa]; exact Blk.below K.out.1 h')
    have HE4 := Lib.hid (Below.refl v4.heap.size v4)
    have z4 := HB4.out.size
    rw [hqa]
    clear K b4 hqa x1 HCE
    have q0 := (HQ.out _ HE4.out).cell (j := 0) rfl
    have q1 := (HQ.out _ HE4.out).cell (j := 1) rfl
    have q2 := (HQ.out _ HE4.out).cell (j := 2) rfl
    have x0 : v4.cell? ⟨w.heap.size, 0, none⟩ = some (.slice P.a0 x.net.places.length P.c0) := (HXQ.out _ HB4.out).1.cell (j := 0) rfl
    have x1 : v4.cell? ⟨w.heap.size, 1, none⟩ = some (.slice P.a1 na P.c1) := by rw [← HNA.out]; exact (HXQ.out _ HB4.out).1.cell (j := 1) rfl
    go_wp2_with fail
    refine (HGX.out v4 HB4.out).mono ?_
    rintro e5 v5 ⟨rfl, b5⟩
    have HD5 := Lib.hid b5
    have HV5 := Lib.hid (HV4.out.trans (b5.mono HV4.out.size))
    have HB5 := Lib.hid (HC8.out.trans (HV5.out.mono hq8))
    clear b5 q0 q1 q2 x0 x1
    have q0 := (HQ.out _ HD5.out).cell (j := 0) rfl
    have q1 := (HQ.out _ HD5.out).cell (j := 1) rfl
    have q2 := (HQ.out _ HD5.out).cell (j := 2) rfl
    have y0 : v5.cell? ⟨g7, 0, none⟩ = some (.slice P1.a0 ({ x with net := N' }).net.places.length P1.c0) := (HYQ.out _ HB5.out).1.cell (j := 0) rfl
    have y1 : v5.cell? ⟨g7, 1, none⟩ = some (.slice P1.a1 ({ x with net := N' }).net.arcs.length P1.c1) := (HYQ.out _ HB5.out).1.cell (j := 1) rfl
    go_wp2_with fail
    refine (HGY.out v5 HB5.out).mono ?_
    rintro e6 v6 ⟨rfl, b6⟩
    have HD6 := Lib.hid (HD5.out.trans (b6.mono HD5.out.size))
    have HV6 := Lib.hid (HV5.out.trans (b6.mono HV5.out.size))
    have HB6 := Lib.hid (HC8.out.trans (HV6.out.mono hq8))
    clear b6 q0 q1 q2 y0 y1
    have q0 := (HQ.out _ HD6.out).cell (j := 0) rfl
    have q1 := (HQ.out _ HD6.out).cell (j := 1) rfl
    have d0 := (HXE.out _ HB6.out).cell (j := 0) rfl
    have d1 := (HXE.out _ HB6.out).cell (j := 1) rfl
    have d2 := (HXE.out _ HB6.out).cell (j := 2) rfl
    have d3 := (HXE.out _ HB6.out).cell (j := 3) rfl
    have d4 := (HXE.out _ HB6.out).cell (j := 4) rfl
    obtain ⟨b3, hb3⟩ : ∃ b, (e.kind == 3) = b := ⟨_, rfl⟩
    by_cases hall : (e.kind = 3 ∧ a.frm = e.a ∧ a.to = e.b ∧ e.at_ ≤ t)
    ·obtain ⟨hn1, hn2⟩ := hap_n HH.out hall.1
     have hvv : vb = va + e.n := by
      have h := HLT.out
      unfold lateA at h
      rw [if_pos hall] at h
      exact h
     have f3 : b3 = true := by rw [← hb3]; simp [hall.1]
     have f1 : (a.frm == e.a) = true := by simp [hall.2.1]
     have f2 : (a.to == e.b) = true := by simp [hall.2.2.1]
     have f4 := hall.2.2.2
     have hvn : (vb != va + e.n) = false := by rw [hvv]; simp
     subst f3
     clear hall hvv
     go_wp2_with fail
     go_roundw
     case rel => exact ⟨k + 1, by omega, by go_num, HV6.out⟩
     case measure => simp [intOf]; omega
    ·have hvv : vb = va := by
      have h := HLT.out
      unfold lateA at h
      rw [if_neg hall] at h
      omega
     have HALL := Lib.hid hall
     have hvn : (vb != va + 0) = false := by rw [hvv]; simp
     have hvn2 : (vb != va) = false := by rw [hvv]; simp
     clear hall hvv
     cases b3
     ·go_wp2_with fail
      go_roundw
      case rel => exact ⟨k + 1, by omega, by go_num, HV6.out⟩
      case measure => simp [intOf]; omega
     by_cases f1 : a.frm = e.a
     ·by_cases f2 : a.to = e.b
      ·have f4 : ¬ e.at_ ≤ t := fun h => HALL.out ⟨by simpa using hb3, f1, f2, h⟩
       have f1' : (a.frm == e.a) = true := by simp [f1]
       have f2' : (a.to == e.b) = true := by simp [f2]
       clear f1 f2
       go_wp2_with fail
       go_roundw
       case rel => exact ⟨k + 1, by omega, by go_num, HV6.out⟩
       case measure => simp [intOf]; omega
      ·have f1' : (a.frm == e.a) = true := by simp [f1]
       have f2' : (a.to == e.b) = false := by simp [f2]
       clear f1 f2
       go_wp2_with fail
       go_roundw
       case rel => exact ⟨k + 1, by omega, by go_num, HV6.out⟩
       case measure => simp [intOf]; omega
     ·have f1' : (a.frm == e.a) = false := by simp [f1]
      clear f1
      go_wp2_with fail
      go_roundw
      case rel => exact ⟨k + 1, by omega, by go_num, HV6.out⟩
      case measure => simp [intOf]; omega
   ·have hke : k = na := by omega
    subst hke
    clear hlt
    go_wp2_with fail
    refine (zV wr (HTb.out _ (HI2.out _ HBR.out))).mono ?_
    rintro e9 w9 ⟨rfl, b9⟩
    have HB9 := Lib.hid ((HI2.out _ HBR.out).trans (b9.mono (HI2.out _ HBR.out).size))
    clear b9
    go_wp2_with fail
    go_ret
    exact ⟨rfl, HB9.out⟩
 cases k4
 rotate_left
 ·skip
  as_aux_lemma =>
  obtain ⟨j, o, o', hj, ho, rfl⟩ := hap_brk HH.out (HK.out.2.2.2.1.2 rfl)
  have hk2' : k2 = false := by
   cases k2
   ·rfl
   ·have h1 := HK.out.2.1.2 rfl
    have h2 := HK.out.2.2.2.1.2 rfl
    omega
  have hk5' : k5 = false := by
   cases k5
   ·rfl
   ·have h1 := HK.out.2.2.2.2.2 rfl
    have h2 := HK.out.2.2.2.1.2 rfl
    omega
  subst hk2' hk5'
  have hMM : x.types.length = M := by
   have := HM.out
   rw [show ({ x with types := x.types.set j o' } : Ins).types = x.types.set j o' from rfl, List.length_set] at this
   exact this
  have hjM : j < M := by rw [← hMM]; exact (List.getElem?_eq_some_iff.1 ho).1
  obtain ⟨g, cap, hv, hgb, hglt⟩ := HS.out.ownT.form (by omega)
  obtain rfl : A2 = some ⟨g, 0, none⟩ := by injection hv
  obtain ⟨ad, cs0, hAd, hadb, hat, hcs⟩ := ((HQX.out _ HS.out.bel).types).elem ho
  obtain ⟨D, dd, rfl, hI, hf⟩ := rTy_at hat
  have hqz := HS.out.bo.lt
  have hbq := HBQ.out
  have x2 : W4.cell? ⟨w.heap.size, 2, none⟩ = some (.slice (some ad) M P.c2) := by rw [← hMM, ← hAd]; exact (HXQ.out _ HS.out.bel).1.cell (j := 2) rfl
  have z2 : W4.cell? ⟨q, 2, none⟩ = some (.slice (some ⟨g, 0, none⟩) M c2) := HS.out.bo.cell (j := 2) rfl
  have e2 : W4.cell? ⟨w.heap.size + 1, 2, none⟩ = some (.int .i64 j) := by rw [← hj]; exact (HXE.out _ HS.out.bel).cell (j := 2) rfl
  have hce : CellsAt W4 (ad.add (j * 14)) (zG o D dd) := hcs
  have HIO : Hid (yM W4 (fun b => b < B) D o.cap ∧ TyFits o) := Lib.hid ⟨yM.low hI (HB8.out.size) (fun b h => by omega), hf⟩
  have hj0 : (0 : Int) ≤ (j : Int) := by omega
  have hjn : (j : Int) < (M : Int) := by omega
  have had : (ad.add (j * 14)).block < W4.heap.size := by rw [ad_block]; have := HB8.out.size; omega
  have hwz4 : w.heap.size + 1 < W4.heap.size := by omega
  have HSS : Hid (∀ w', Below W4.heap.size W4 w' → w'.cell? ⟨w.heap.size, 2, none⟩ = some (.slice (some ad) M P.c2) ∧ w'.cell? ⟨q, 2, none⟩ = some (.slice (some ⟨g, 0, none⟩) M c2) ∧ w'.cell? ⟨w.heap.size + 1, 2, none⟩ = some (.int .i64 j) ∧ CellsAt w' (ad.add (j * 14)) (zG o D dd)) := Lib.hid (fun w' h' => ⟨(h'.cell (p := ⟨w.heap.size, 2, none⟩) (by show w.heap.size < W4.heap.size; omega)).trans x2, (h'.cell (p := ⟨q, 2, none⟩) (by show q < W4.heap.size; omega)).trans z2, (h'.cell (p := ⟨w.heap.size + 1, 2, none⟩) (by show w.heap.size + 1 < W4.heap.size; omega)).trans e2, hce.below h' had⟩)
  have HO := Lib.hid ho
  have HX2 := Lib.hid x2
  have HE2 := Lib.hid e2
  have HCE := Lib.hid hce
  clear hAd hat hcs hI hf hv hce ho hj hMM hbq
  go_upto_region 22 with fail
  (refine wp_region_held_drew (S := (fun w' => w'.cell? ⟨w.heap.size, 2, none⟩ = some (.slice (some ad) M P.c2) ∧ w'.cell? ⟨q, 2, none⟩ = some (.slice (some ⟨g, 0, none⟩) M c2) ∧ w'.cell? ⟨w.heap.size + 1, 2, none⟩ = some (.int .i64 j) ∧ CellsAt w' (ad.add (j * 14)) (zG o D dd))) (by kernel_rfl) ?_ (fun hHeld => ?_))
  ·exact HSS.out _ (Below.refl _ _).drew
  (refine lib.tk 0 ?_ rfl (by kernel_rfl) (fun _ _ _ h => h) ?_ (by assumption) ?_; rotate_left; (focus (intro w hSw; (try dsimp only at hSw); go_simp; all_goals with_reducible rfl)); (try simp only [lib.hly]))
  (refine lib.tk 1 ?_ rfl (by kernel_rfl) (fun _ _ _ h => h) ?_ (by assumption) ?_; rotate_left; (focus (intro w hSw; (try dsimp only at hSw); go_simp; all_goals with_reducible rfl)); (try simp only [lib.hly]))
  (refine lib.tk 2 ?_ rfl (by kernel_rfl) (fun _ _ _ h => h) ?_ (by assumption) ?_; rotate_left; (focus (intro w hSw; (try dsimp only at hSw); go_simp; all_goals with_reducible rfl)); (try simp only [lib.hly]))
  (refine lib.tk 3 ?_ rfl (by kernel_rfl) (fun _ _ _ h => h) ?_ (by assumption) ?_; rotate_left; (focus (intro w hSw; (try dsimp only at hSw); go_simp; all_goals with_reducible rfl)); (try simp only [lib.hly]))
  (refine lib.tk 4 ?_ rfl (by kernel_rfl) (fun _ _ _ h => h) ?_ (by assumption) ?_; rotate_left; (focus (intro w hSw; (try dsimp only at hSw); go_simp; all_goals with_reducible rfl)); (try simp only [lib.hly]))
  (refine lib.tk 5 ?_ rfl (by kernel_rfl) (fun _ _ _ h => h) ?_ (by assumption) ?_; rotate_left; (focus (intro w hSw; (try dsimp only at hSw); go_simp; all_goals with_reducible rfl)); (try simp only [lib.hly]))
  (refine lib.tk 6 ?_ rfl (by kernel_rfl) (fun _ _ _ h => h) ?_ (by assumption) ?_; rotate_left; (focus (intro w hSw; (try dsimp only at hSw); go_simp; all_goals with_reducible rfl)); (try simp only [lib.hly]))
  (refine lib.tk 7 ?_ rfl (by kernel_rfl) (fun _ _ _ h => h) ?_ (by assumption) ?_; rotate_left; (focus (intro w hSw; (try dsimp only at hSw); go_simp; all_goals with_reducible rfl)); (try simp only [lib.hly]))
  (refine lib.tk 8 ?_ rfl (by kernel_rfl) (fun _ _ _ h => h) ?_ (by assumption) ?_; rotate_left; (focus (intro w hSw; (try dsimp only at hSw); go_simp; all_goals with_reducible rfl)); (try simp only [lib.hly]))
  (refine lib.tk 9 _ rfl (by kernel_rfl) (fun _ _ _ h => h) (fun _ hSw => yG stTy rfl rfl hSw.2.2.2 rfl) (by assumption) ?_; (try simp only [lib.hly]))
  (refine lib.tk 10 ?_ rfl (by kernel_rfl) (fun _ _ _ h => h) ?_ (by assumption) ?_; rotate_left; (focus (intro w hSw; (try dsimp only at hSw); go_simp; all_goals with_reducible rfl)); (try simp only [lib.hly]))
  have HS8 := Lib.hid (HS.out.below ((Below.refl _ _).drew))
  (refine wpAnyH_ready (rs := [11]) (by kernel_rfl) (by simp) ?_; refine AllReadyH.cons rfl (fun K hK => ?_) AllReadyH.nil)
  refine off.yF stTy rfl _ _ rfl g (j * 14) (zG o D dd) rfl rfl (off.own_there HS8.out.ownT (by have h1 := HS8.out.ownT.1; omega)) rfl (tyCells_one _ _ _) ?_
  have HS9 : Hid (ApSt B w1 q N M (some ⟨g, 0, none⟩) c2 (setM CS2 (j * 14) (zG o D dd)) ((x.types.set j o').set j o) A3 c3 CS3 x.orders p2 (((insCs ({ x with types := x.types.set j o' } : Ins) P1).set 3 (.slice A3 N c3)).set 2 (.slice (some ⟨g, 0, none⟩) M c2)) (W4.drew.setCells g (j * 14) (zG o D dd))) := Lib.hid (by
   refine HS8.out.putT hgb (by rw [List.length_set]; exact HM.out) ?_
   exact EG.put (r := oTy) HS8.out.elsT (by rw [HM.out]; exact hjM) rfl (oTy_mk (t := o) (zU HIO.out.1 (Nat.le_refl _) (fun b hb hp => ⟨hp, rfl⟩)) HIO.out.2))
  obtain ⟨W9, hW9⟩ : ∃ W, W4.drew.setCells g (j * 14) (zG o D dd) = W := ⟨_, rfl⟩
  rw [hW9] at HS9 ⊢
  have HC9 : Hid (CellsAt W9 (ad.add (j * 14)) (zG o D dd)) := Lib.hid (HCE.out.heap (by rw [ad_block]; exact (HS9.out.bel.block ad.block (by have := HBQ.out; omega)).trans (HS.out.bel.block ad.block (by have := HBQ.out; omega)).symm))
  have x2' : W9.cell? ⟨w.heap.size, 2, none⟩ = some (.slice (some ad) M P.c2) := (HS9.out.bel.cell (p := ⟨w.heap.size, 2, none⟩) (by show w.heap.size < q; have := HBQ.out; omega)).trans ((HS.out.bel.cell (p := ⟨w.heap.size, 2, none⟩) (by show w.heap.size < q; have := HBQ.out; omega)).symm.trans HX2.out)
  have e2' : W9.cell? ⟨w.heap.size + 1, 2, none⟩ = some (.int .i64 j) := (HS9.out.bel.cell (p := ⟨w.heap.size + 1, 2, none⟩) (by show w.heap.size + 1 < q; have := HBQ.out; omega)).trans ((HS.out.bel.cell (p := ⟨w.heap.size + 1, 2, none⟩) (by show w.heap.size + 1 < q; have := HBQ.out; omega)).symm.trans HE2.out)
  have z2' : W9.cell? ⟨q, 2, none⟩ = some (.slice (some ⟨g, 0, none⟩) M c2) := HS9.out.bo.cell (j := 2) rfl
  clear hW9
  refine hK.out _ _ ⟨x2', z2', e2', HC9.out⟩ (fun hHeld => ?_)
  clear hK K x2' e2' z2'
  (try simp only [lib.hly])
  (refine wpAnyH_done (by kernel_rfl) ?_ _)
  go_upto_region 25 with fail
  have HZ : Hid (∃ Pz, Blk W9 q 30 (insCs x Pz) ∧ InAt W9 W9.heap.size x Pz ∧ Below q w1 W9) := Lib.hid (HS9.out.fin (HYQ.out _ HS9.out.bel).2 (by omega) (by omega) (by
   show ({ x with types := (x.types.set j o').set j o } : Ins) = x
   rw [set_back HO.out]))
  clear e1 hk1 hk2 hk3 hk4 hk5 HS8 HS9 HC9 HSS HCE HIO HX2 HE2
  obtain ⟨Pz, hz1, hz2, hz3⟩ := HZ.out
  have HZB := Lib.hid hz1
  have HZI := Lib.hid hz2
  have HZW := Lib.hid hz3
  have hzz : q < W9.heap.size := hz1.lt
  have HBW9 := Lib.hid (HI2.out _ hz3)
  clear hz1 hz2 hz3 HZ HS
  obtain ⟨na, hna⟩ : ∃ n, x.net.arcs.length = n := ⟨_, rfl⟩
  have HNA := Lib.hid hna
  have hnab : na ≤ 1024 := by rw [← hna]; exact ((netTo_iff _).1 (net_of HFI.out)).1.2
  clear hna
  go_wp2_with (first
   | ((with_reducible refine zH stIns _ rfl ⟨q, 0, none⟩ (insCs (x) Pz) ?_ ?_ ?_ ?_ ?_); exact rfl; exact rfl; exact HZB.out.cells; exact rfl)
   | ((with_reducible refine zH stIns _ rfl ⟨w.heap.size, 0, none⟩ (insCs (x) P) ?_ ?_ ?_ ?_ ?_); exact rfl; exact rfl; exact (HXQ.out _ HZW.out).1.cells; exact rfl))
  refine (rsame_any x x Pz P W9 HZI.out (HXQ.out _ HZW.out).2).mono ?_
  rw [sameI_self]
  rintro e8 v8 ⟨rfl, b8⟩
  have HC8 := Lib.hid (HZW.out.trans (b8.mono (Nat.le_of_lt hzz)))
  have hq8 : q ≤ v8.heap.size := by have := b8.size; omega
  have HE8 := Lib.hid (Below.refl v8.heap.size v8)
  clear b8 HZB HZI HZW HBW9 hzz
  by_cases ht1 : t < 0
  ·go_wp2_with fail
   refine (zV v8 (HTb.out _ (HI2.out _ HC8.out))).mono ?_
   rintro e9 w9 ⟨rfl, b9⟩
   have HB9 := Lib.hid ((HI2.out _ HC8.out).trans (b9.mono (HI2.out _ HC8.out).size))
   clear b9
   go_wp2_with fail
   go_ret
   exact ⟨rfl, HB9.out⟩
  by_cases ht2 : 4096 < t
  ·go_wp2_with fail
   refine (zV v8 (HTb.out _ (HI2.out _ HC8.out))).mono ?_
   rintro e9 w9 ⟨rfl, b9⟩
   have HB9 := Lib.hid ((HI2.out _ HC8.out).trans (b9.mono (HI2.out _ HC8.out).size))
   clear b9
   go_wp2_with fail
   go_ret
   exact ⟨rfl, HB9.out⟩
  have HT : Hid (0 ≤ t ∧ t ≤ 4096) := Lib.hid (by omega)
  go_upto_region 30 with fail
  go_loopw [10] (fun i wr => ∃ k : Nat, k ≤ na ∧ i = .int .i64 k ∧ Below v8.heap.size v8 wr) (fun i _ => na - (intOf i).toNat)
  case atStart => exact ⟨0, by omega, rfl, HE8.out⟩
  case round =>
   obtain ⟨k, hk, rfl, hb⟩ := hrel
   have HBR := Lib.hid (HC8.out.trans (hb.mono hq8))
   have HBV := Lib.hid hb
   have hvz := hb.size
   have x1 : wr.cell? ⟨w.heap.size, 1, none⟩ = some (.slice P.a1 na P.c1) := by rw [← HNA.out]; exact (HXQ.out _ HBR.out).1.cell (j := 1) rfl
   clear hb
   by_cases hlt : k < na
   ·obtain ⟨a, ha⟩ : ∃ a, x.net.arcs[k]? = some a := ⟨_, List.getElem?_eq_getElem (by rw [HNA.out]; exact hlt)⟩
    obtain ⟨a', ha', hfr, hto, hpr, _, hlt'⟩ := hap_arc HH.out ha
    have hl := hlt' t
    have hok := ar_ok (net_of HFI.out) ha
    have hok' := ar_ok (net_of HYF.out) ha'
    have hbd := arcA_bd hok HT.out
    obtain ⟨ad, cs0, hA, hadb, hat0, hcs0⟩ := ((HXQ.out _ HBR.out).2.arcs).2 k a ha
    obtain ⟨C0, c0, C1, c1, rfl, ht0, hs0, hf0⟩ := rArc_at hat0
    have HCE : Hid (CellsAt wr (ad.add (k * 6)) (zB a C0 c0 C1 c1)) := Lib.hid (fun j u hu => by rw [add_of_add]; exact hcs0 j u hu)
    have HAO := Lib.hid (And.intro ha hok)
    have HGY : Hid (∀ w', Below q w1 w' → Calls Tryz.prog 27 #[.agg #[.slice P1.a0 ({ x with types := x.types.set j o' }).net.places.length P1.c0, .slice P1.a1 ({ x with types := x.types.set j o' }).net.arcs.length P1.c1], .int .i64 a.profile, .int .i64 a.frm, .int .i64 a.to, .int .i64 t] w' fun e w'' => e = .returned (.tuple #[.int .i64 (arcA a' t), .int .i64 a'.miles, .int .i64 0]) ∧ Below w'.heap.size w' w'') := Lib.hid (fun w' h' => by
     have h := rgo_any ({ x with types := x.types.set j o' }).net k a' P1.a0 P1.c0 P1.a1 P1.c1 t w' (HYQ.out _ h').2.arcs ha' hok' HT.out
     rw [hfr, hto, hpr] at h
     exact h)
    have HGX : Hid (∀ w', Below q w1 w' → Calls Tryz.prog 27 #[.agg #[.slice P.a0 x.net.places.length P.c0, .slice P.a1 na P.c1], .int .i64 a.profile, .int .i64 a.frm, .int .i64 a.to, .int .i64 t] w' fun e w'' => e = .returned (.tuple #[.int .i64 (arcA a t), .int .i64 a.miles, .int .i64 0]) ∧ Below w'.heap.size w' w'') := Lib.hid (fun w' h' => by
     have h := rgo_any x.net k a P.a0 P.c0 P.a1 P.c1 t w' (HXQ.out _ h').2.arcs HAO.out.1 HAO.out.2 HT.out
     rw [HNA.out] at h
     exact h)
    have HLT : Hid (arcA a' t = arcA a t + lateA e a t) := Lib.hid hl
    obtain ⟨va, hva⟩ : ∃ v, arcA a t = v := ⟨_, rfl⟩
    obtain ⟨vb, hvb⟩ : ∃ v, arcA a' t = v := ⟨_, rfl⟩
    rw [hva] at HGX HLT hbd
    rw [hvb] at HGY HLT
    obtain ⟨mb, hmb⟩ : ∃ v, a'.miles = v := ⟨_, rfl⟩
    rw [hmb] at HGY
    obtain ⟨hbd1, hbd2⟩ := hbd
    have hk0 : (0 : Int) ≤ (k : Int) := by omega
    have hkn : (k : Int) < (na : Int) := by omega
    rw [hA] at x1
    clear ha ha' hfr hto hpr hlt' hl hok hok' hA hat0 hcs0 ht0 hs0 hf0 hva hvb hmb HAO
    go_upto_region 33 with (first
     | ((with_reducible refine zH stArc' _ rfl (ad.add (k * 6)) (zB a C0 c0 C1 c1) ?_ ?_ ?_ ?_ ?_); exact rfl; exact rfl; exact HCE.out; exact rfl)
     | ((with_reducible refine zJ stArc' rfl _ _ rfl wr.heap.size (arcL 0 0 0 (.slice none 0 0)) (zB a C0 c0 C1 c1) ?_ ?_ ?_ ?_ ?_ (yC _ _ _ _ _) ?_); exact rfl; exact rfl; exact Blk.new wr _ _; exact rfl; exact rfl; intro v4 k1 k2 k3 k4; have K := lib.h4 k1 k2 k3 k4; clear k1 k2 k3 k4))
    (try simp only [lib.hly])
    have b4 : Below wr.heap.size wr v4 := ((Below.refl _ _).alloc (Nat.le_refl _) _).trans K.out.2.2.2
    have HV4 := Lib.hid (HBV.out.trans (b4.mono hvz))
    have HB4 := Lib.hid (HC8.out.trans (HV4.out.mono hq8))
    obtain ⟨qa, hqa⟩ : ∃ v, wr.heap.size = v := ⟨_, rfl⟩
    have HQ : Hid (∀ w', Below v4.heap.size v4 w' → Blk w' qa 59 (zB a C0 c0 C1 c1)) := Lib.hid (fun w' h' => by rw [← hqa]; exact Blk.below K.out.1 h')
    have HE4 := Lib.hid (Below.refl v4.heap.size v4)
    have z4 := HB4.out.size
    rw [hqa]
    clear K b4 hqa x1 HCE
    have q0 := (HQ.out _ HE4.out).cell (j := 0) rfl
    have q1 := (HQ.out _ HE4.out).cell (j := 1) rfl
    have q2 := (HQ.out _ HE4.out).cell (j := 2) rfl
    have x0 : v4.cell? ⟨w.heap.size, 0, none⟩ = some (.slice P.a0 x.net.places.length P.c0) := (HXQ.out _ HB4.out).1.cell (j := 0) rfl
    have x1 : v4.cell? ⟨w.heap.size, 1, none⟩ = some (.slice P.a1 na P.c1) := by rw [← HNA.out]; exact (HXQ.out _ HB4.out).1.cell (j := 1) rfl
    go_wp2_with fail
    refine (HGX.out v4 HB4.out).mono ?_
    rintro e5 v5 ⟨rfl, b5⟩
    have HD5 := Lib.hid b5
    have HV5 := Lib.hid (HV4.out.trans (b5.mono HV4.out.size))
    have HB5 := Lib.hid (HC8.out.trans (HV5.out.mono hq8))
    clear b5 q0 q1 q2 x0 x1
    have q0 := (HQ.out _ HD5.out).cell (j := 0) rfl
    have q1 := (HQ.out _ HD5.out).cell (j := 1) rfl
    have q2 := (HQ.out _ HD5.out).cell (j := 2) rfl
    have y0 : v5.cell? ⟨g7, 0, none⟩ = some (.slice P1.a0 ({ x with types := x.types.set j o' }).net.places.length P1.c0) := (HYQ.out _ HB5.out).1.cell (j := 0) rfl
    have y1 : v5.cell? ⟨g7, 1, none⟩ = some (.slice P1.a1 ({ x with types := x.types.set j o' }).net.arcs.length P1.c1) := (HYQ.out _ HB5.out).1.cell (j := 1) rfl
    go_wp2_with fail
    refine (HGY.out v5 HB5.out).mono ?_
    rintro e6 v6 ⟨rfl, b6⟩
    have HD6 := Lib.hid (HD5.out.trans (b6.mono HD5.out.size))
    have HV6 := Lib.hid (HV5.out.trans (b6.mono HV5.out.size))
    have HB6 := Lib.hid (HC8.out.trans (HV6.out.mono hq8))
    clear b6 q0 q1 q2 y0 y1
    have q0 := (HQ.out _ HD6.out).cell (j := 0) rfl
    have q1 := (HQ.out _ HD6.out).cell (j := 1) rfl
    have d0 := (HXE.out _ HB6.out).cell (j := 0) rfl
    have d1 := (HXE.out _ HB6.out).cell (j := 1) rfl
    have d2 := (HXE.out _ HB6.out).cell (j := 2) rfl
    have d3 := (HXE.out _ HB6.out).cell (j := 3) rfl
    have d4 := (HXE.out _ HB6.out).cell (j := 4) rfl
    obtain ⟨b3, hb3⟩ : ∃ b, (e.kind == 3) = b := ⟨_, rfl⟩
    by_cases hall : (e.kind = 3 ∧ a.frm = e.a ∧ a.to = e.b ∧ e.at_ ≤ t)
    ·obtain ⟨hn1, hn2⟩ := hap_n HH.out hall.1
     have hvv : vb = va + e.n := by
      have h := HLT.out
      unfold lateA at h
      rw [if_pos hall] at h
      exact h
     have f3 : b3 = true := by rw [← hb3]; simp [hall.1]
     have f1 : (a.frm == e.a) = true := by simp [hall.2.1]
     have f2 : (a.to == e.b) = true := by simp [hall.2.2.1]
     have f4 := hall.2.2.2
     have hvn : (vb != va + e.n) = false := by rw [hvv]; simp
     subst f3
     clear hall hvv
     go_wp2_with fail
     go_roundw
     case rel => exact ⟨k + 1, by omega, by go_num, HV6.out⟩
     case measure => simp [intOf]; omega
    ·have hvv : vb = va := by
      have h := HLT.out
      unfold lateA at h
      rw [if_neg hall] at h
      omega
     have HALL := Lib.hid hall
     have hvn : (vb != va + 0) = false := by rw [hvv]; simp
     have hvn2 : (vb != va) = false := by rw [hvv]; simp
     clear hall hvv
     cases b3
     ·go_wp2_with fail
      go_roundw
      case rel => exact ⟨k + 1, by omega, by go_num, HV6.out⟩
      case measure => simp [intOf]; omega
     by_cases f1 : a.frm = e.a
     ·by_cases f2 : a.to = e.b
      ·have f4 : ¬ e.at_ ≤ t := fun h => HALL.out ⟨by simpa using hb3, f1, f2, h⟩
       have f1' : (a.frm == e.a) = true := by simp [f1]
       have f2' : (a.to == e.b) = true := by simp [f2]
       clear f1 f2
       go_wp2_with fail
       go_roundw
       case rel => exact ⟨k + 1, by omega, by go_num, HV6.out⟩
       case measure => simp [intOf]; omega
      ·have f1' : (a.frm == e.a) = true := by simp [f1]
       have f2' : (a.to == e.b) = false := by simp [f2]
       clear f1 f2
       go_wp2_with fail
       go_roundw
       case rel => exact ⟨k + 1, by omega, by go_num, HV6.out⟩
       case measure => simp [intOf]; omega
     ·have f1' : (a.frm == e.a) = false := by simp [f1]
      clear f1
      go_wp2_with fail
      go_roundw
      case rel => exact ⟨k + 1, by omega, by go_num, HV6.out⟩
      case measure => simp [intOf]; omega
   ·have hke : k = na := by omega
    subst hke
    clear hlt
    go_wp2_with fail
    refine (zV wr (HTb.out _ (HI2.out _ HBR.out))).mono ?_
    rintro e9 w9 ⟨rfl, b9⟩
    have HB9 := Lib.hid ((HI2.out _ HBR.out).trans (b9.mono (HI2.out _ HBR.out).size))
    clear b9
    go_wp2_with fail
    go_ret
    exact ⟨rfl, HB9.out⟩
 cases k2
 rotate_left
 ·skip
  as_aux_lemma =>
  obtain ⟨j, o, o', hj, ho, rfl⟩ := hap_ord HH.out (fun h => by have := HK.out.1.1 h; cases this) (fun h => by have := HK.out.2.2.1.1 h; cases this) (fun h => by have := HK.out.2.2.2.1.1 h; cases this)
  have hMM : x.orders.length = N := by
   have := HN.out
   rw [show ({ x with orders := x.orders.set j o' } : Ins).orders = x.orders.set j o' from rfl, List.length_set] at this
   exact this
  have hjM : j < N := by rw [← hMM]; exact (List.getElem?_eq_some_iff.1 ho).1
  obtain ⟨g, cap, hv, hgb, hglt⟩ := HS.out.ownO.form (by omega)
  obtain rfl : A3 = some ⟨g, 0, none⟩ := by injection hv
  have hgp : g < p2 := HS.out.sepO g rfl
  obtain ⟨ad, cs0, hAd, hadb, hat, hcs⟩ := ((HQX.out _ HS.out.bel).orders).elem ho
  obtain ⟨D, dd, rfl, hI, hf⟩ := rOrd_at hat
  have hqz := HS.out.bo.lt
  have hbq := HBQ.out
  have x2 : W4.cell? ⟨w.heap.size, 3, none⟩ = some (.slice (some ad) N P.c3) := by rw [← hMM, ← hAd]; exact (HXQ.out _ HS.out.bel).1.cell (j := 3) rfl
  have z2 : W4.cell? ⟨q, 3, none⟩ = some (.slice (some ⟨g, 0, none⟩) N c3) := HS.out.bo.cell (j := 3) rfl
  have e2 : W4.cell? ⟨w.heap.size + 1, 2, none⟩ = some (.int .i64 j) := by rw [← hj]; exact (HXE.out _ HS.out.bel).cell (j := 2) rfl
  have hce : CellsAt W4 (ad.add (j * 16)) (zA o D dd) := hcs
  have HIO : Hid (yM W4 (fun b => b < B) D o.load ∧ yL o) := Lib.hid ⟨yM.low hI (HB8.out.size) (fun b h => by omega), hf⟩
  have hj0 : (0 : Int) ≤ (j : Int) := by omega
  have hjn : (j : Int) < (N : Int) := by omega
  have had : (ad.add (j * 16)).block < W4.heap.size := by rw [ad_block]; have := HB8.out.size; omega
  have hwz4 : w.heap.size + 1 < W4.heap.size := by omega
  have HSS : Hid (∀ w', Below W4.heap.size W4 w' → w'.cell? ⟨w.heap.size, 3, none⟩ = some (.slice (some ad) N P.c3) ∧ w'.cell? ⟨q, 3, none⟩ = some (.slice (some ⟨g, 0, none⟩) N c3) ∧ w'.cell? ⟨w.heap.size + 1, 2, none⟩ = some (.int .i64 j) ∧ CellsAt w' (ad.add (j * 16)) (zA o D dd)) := Lib.hid (fun w' h' => ⟨(h'.cell (p := ⟨w.heap.size, 3, none⟩) (by show w.heap.size < W4.heap.size; omega)).trans x2, (h'.cell (p := ⟨q, 3, none⟩) (by show q < W4.heap.size; omega)).trans z2, (h'.cell (p := ⟨w.heap.size + 1, 2, none⟩) (by show w.heap.size + 1 < W4.heap.size; omega)).trans e2, hce.below h' had⟩)
  have HO := Lib.hid ho
  have HX2 := Lib.hid x2
  have HE2 := Lib.hid e2
  have HCE := Lib.hid hce
  clear hAd hat hcs hI hf hv hce ho hj hMM hbq
  go_upto_region 18 with fail
  (refine wp_region_held_drew (S := (fun w' => w'.cell? ⟨w.heap.size, 3, none⟩ = some (.slice (some ad) N P.c3) ∧ w'.cell? ⟨q, 3, none⟩ = some (.slice (some ⟨g, 0, none⟩) N c3) ∧ w'.cell? ⟨w.heap.size + 1, 2, none⟩ = some (.int .i64 j) ∧ CellsAt w' (ad.add (j * 16)) (zA o D dd))) (by kernel_rfl) ?_ (fun hHeld => ?_))
  ·exact HSS.out _ (Below.refl _ _).drew
  (refine lib.tk 0 ?_ rfl (by kernel_rfl) (fun _ _ _ h => h) ?_ (by assumption) ?_; rotate_left; (focus (intro w hSw; (try dsimp only at hSw); go_simp; all_goals with_reducible rfl)); (try simp only [lib.hly]))
  (refine lib.tk 1 ?_ rfl (by kernel_rfl) (fun _ _ _ h => h) ?_ (by assumption) ?_; rotate_left; (focus (intro w hSw; (try dsimp only at hSw); go_simp; all_goals with_reducible rfl)); (try simp only [lib.hly]))
  (refine lib.tk 2 ?_ rfl (by kernel_rfl) (fun _ _ _ h => h) ?_ (by assumption) ?_; rotate_left; (focus (intro w hSw; (try dsimp only at hSw); go_simp; all_goals with_reducible rfl)); (try simp only [lib.hly]))
  (refine lib.tk 3 ?_ rfl (by kernel_rfl) (fun _ _ _ h => h) ?_ (by assumption) ?_; rotate_left; (focus (intro w hSw; (try dsimp only at hSw); go_simp; all_goals with_reducible rfl)); (try simp only [lib.hly]))
  (refine lib.tk 4 ?_ rfl (by kernel_rfl) (fun _ _ _ h => h) ?_ (by assumption) ?_; rotate_left; (focus (intro w hSw; (try dsimp only at hSw); go_simp; all_goals with_reducible rfl)); (try simp only [lib.hly]))
  (refine lib.tk 5 ?_ rfl (by kernel_rfl) (fun _ _ _ h => h) ?_ (by assumption) ?_; rotate_left; (focus (intro w hSw; (try dsimp only at hSw); go_simp; all_goals with_reducible rfl)); (try simp only [lib.hly]))
  (refine lib.tk 6 ?_ rfl (by kernel_rfl) (fun _ _ _ h => h) ?_ (by assumption) ?_; rotate_left; (focus (intro w hSw; (try dsimp only at hSw); go_simp; all_goals with_reducible rfl)); (try simp only [lib.hly]))
  (refine lib.tk 7 ?_ rfl (by kernel_rfl) (fun _ _ _ h => h) ?_ (by assumption) ?_; rotate_left; (focus (intro w hSw; (try dsimp only at hSw); go_simp; all_goals with_reducible rfl)); (try simp only [lib.hly]))
  (refine lib.tk 8 ?_ rfl (by kernel_rfl) (fun _ _ _ h => h) ?_ (by assumption) ?_; rotate_left; (focus (intro w hSw; (try dsimp only at hSw); go_simp; all_goals with_reducible rfl)); (try simp only [lib.hly]))
  (refine lib.tk 9 _ rfl (by kernel_rfl) (fun _ _ _ h => h) (fun _ hSw => yG stOrd' rfl rfl hSw.2.2.2 rfl) (by assumption) ?_; (try simp only [lib.hly]))
  (refine lib.tk 10 ?_ rfl (by kernel_rfl) (fun _ _ _ h => h) ?_ (by assumption) ?_; rotate_left; (focus (intro w hSw; (try dsimp only at hSw); go_simp; all_goals with_reducible rfl)); (try simp only [lib.hly]))
  have HS8 := Lib.hid (HS.out.below ((Below.refl _ _).drew))
  (refine wpAnyH_ready (rs := [11]) (by kernel_rfl) (by simp) ?_; refine AllReadyH.cons rfl (fun K hK => ?_) AllReadyH.nil)
  refine off.yF stOrd' rfl _ _ rfl g (j * 16) (zA o D dd) rfl rfl (off.own_there HS8.out.ownO (by have h1 := HS8.out.ownO.1; omega)) rfl (zR _ _ _) ?_
  have HS9 : Hid (ApSt B w1 q N M A2 c2 CS2 x.types (some ⟨g, 0, none⟩) c3 (setM CS3 (j * 16) (zA o D dd)) ((x.orders.set j o').set j o) p2 (((insCs ({ x with orders := x.orders.set j o' } : Ins) P1).set 3 (.slice (some ⟨g, 0, none⟩) N c3)).set 2 (.slice A2 M c2)) (W4.drew.setCells g (j * 16) (zA o D dd))) := Lib.hid (by
   refine HS8.out.putO hgb hgp (by rw [List.length_set]; exact HN.out) ?_
   exact EG.put (r := oOrd) HS8.out.elsO (by rw [HN.out]; exact hjM) rfl (oOrd_mk (t := o) (zU HIO.out.1 (Nat.le_refl _) (fun b hb hp => ⟨hp, rfl⟩)) HIO.out.2))
  obtain ⟨W9, hW9⟩ : ∃ W, W4.drew.setCells g (j * 16) (zA o D dd) = W := ⟨_, rfl⟩
  rw [hW9] at HS9 ⊢
  have HC9 : Hid (CellsAt W9 (ad.add (j * 16)) (zA o D dd)) := Lib.hid (HCE.out.heap (by rw [ad_block]; exact (HS9.out.bel.block ad.block (by have := HBQ.out; omega)).trans (HS.out.bel.block ad.block (by have := HBQ.out; omega)).symm))
  have x2' : W9.cell? ⟨w.heap.size, 3, none⟩ = some (.slice (some ad) N P.c3) := (HS9.out.bel.cell (p := ⟨w.heap.size, 3, none⟩) (by show w.heap.size < q; have := HBQ.out; omega)).trans ((HS.out.bel.cell (p := ⟨w.heap.size, 3, none⟩) (by show w.heap.size < q; have := HBQ.out; omega)).symm.trans HX2.out)
  have e2' : W9.cell? ⟨w.heap.size + 1, 2, none⟩ = some (.int .i64 j) := (HS9.out.bel.cell (p := ⟨w.heap.size + 1, 2, none⟩) (by show w.heap.size + 1 < q; have := HBQ.out; omega)).trans ((HS.out.bel.cell (p := ⟨w.heap.size + 1, 2, none⟩) (by show w.heap.size + 1 < q; have := HBQ.out; omega)).symm.trans HE2.out)
  have z2' : W9.cell? ⟨q, 3, none⟩ = some (.slice (some ⟨g, 0, none⟩) N c3) := HS9.out.bo.cell (j := 3) rfl
  clear hW9
  refine hK.out _ _ ⟨x2', z2', e2', HC9.out⟩ (fun hHeld => ?_)
  clear hK K x2' e2' z2'
  (try simp only [lib.hly])
  (refine wpAnyH_done (by kernel_rfl) ?_ _)
  go_upto_region 25 with fail
  have HZ : Hid (∃ Pz, Blk W9 q 30 (insCs x Pz) ∧ InAt W9 W9.heap.size x Pz ∧ Below q w1 W9) := Lib.hid (HS9.out.fin (HYQ.out _ HS9.out.bel).2 (by omega) (by omega) (by
   show ({ x with orders := (x.orders.set j o').set j o } : Ins) = x
   rw [set_back HO.out]))
  clear e1 hk1 hk2 hk3 hk4 hk5 HS8 HS9 HC9 HSS HCE HIO HX2 HE2
  obtain ⟨Pz, hz1, hz2, hz3⟩ := HZ.out
  have HZB := Lib.hid hz1
  have HZI := Lib.hid hz2
  have HZW := Lib.hid hz3
  have hzz : q < W9.heap.size := hz1.lt
  have HBW9 := Lib.hid (HI2.out _ hz3)
  clear hz1 hz2 hz3 HZ HS
  obtain ⟨na, hna⟩ : ∃ n, x.net.arcs.length = n := ⟨_, rfl⟩
  have HNA := Lib.hid hna
  have hnab : na ≤ 1024 := by rw [← hna]; exact ((netTo_iff _).1 (net_of HFI.out)).1.2
  clear hna
  go_wp2_with (first
   | ((with_reducible refine zH stIns _ rfl ⟨q, 0, none⟩ (insCs (x) Pz) ?_ ?_ ?_ ?_ ?_); exact rfl; exact rfl; exact HZB.out.cells; exact rfl)
   | ((with_reducible refine zH stIns _ rfl ⟨w.heap.size, 0, none⟩ (insCs (x) P) ?_ ?_ ?_ ?_ ?_); exact rfl; exact rfl; exact (HXQ.out _ HZW.out).1.cells; exact rfl))
  refine (rsame_any x x Pz P W9 HZI.out (HXQ.out _ HZW.out).2).mono ?_
  rw [sameI_self]
  rintro e8 v8 ⟨rfl, b8⟩
  have HC8 := Lib.hid (HZW.out.trans (b8.mono (Nat.le_of_lt hzz)))
  have hq8 : q ≤ v8.heap.size := by have := b8.size; omega
  have HE8 := Lib.hid (Below.refl v8.heap.size v8)
  clear b8 HZB HZI HZW HBW9 hzz
  by_cases ht1 : t < 0
  ·go_wp2_with fail
   refine (zV v8 (HTb.out _ (HI2.out _ HC8.out))).mono ?_
   rintro e9 w9 ⟨rfl, b9⟩
   have HB9 := Lib.hid ((HI2.out _ HC8.out).trans (b9.mono (HI2.out _ HC8.out).size))
   clear b9
   go_wp2_with fail
   go_ret
   exact ⟨rfl, HB9.out⟩
  by_cases ht2 : 4096 < t
  ·go_wp2_with fail
   refine (zV v8 (HTb.out _ (HI2.out _ HC8.out))).mono ?_
   rintro e9 w9 ⟨rfl, b9⟩
   have HB9 := Lib.hid ((HI2.out _ HC8.out).trans (b9.mono (HI2.out _ HC8.out).size))
   clear b9
   go_wp2_with fail
   go_ret
   exact ⟨rfl, HB9.out⟩
  have HT : Hid (0 ≤ t ∧ t ≤ 4096) := Lib.hid (by omega)
  go_upto_region 30 with fail
  go_loopw [10] (fun i wr => ∃ k : Nat, k ≤ na ∧ i = .int .i64 k ∧ Below v8.heap.size v8 wr) (fun i _ => na - (intOf i).toNat)
  case atStart => exact ⟨0, by omega, rfl, HE8.out⟩
  case round =>
   obtain ⟨k, hk, rfl, hb⟩ := hrel
   have HBR := Lib.hid (HC8.out.trans (hb.mono hq8))
   have HBV := Lib.hid hb
   have hvz := hb.size
   have x1 : wr.cell? ⟨w.heap.size, 1, none⟩ = some (.slice P.a1 na P.c1) := by rw [← HNA.out]; exact (HXQ.out _ HBR.out).1.cell (j := 1) rfl
   clear hb
   by_cases hlt : k < na
   ·obtain ⟨a, ha⟩ : ∃ a, x.net.arcs[k]? = some a := ⟨_, List.getElem?_eq_getElem (by rw [HNA.out]; exact hlt)⟩
    obtain ⟨a', ha', hfr, hto, hpr, _, hlt'⟩ := hap_arc HH.out ha
    have hl := hlt' t
    have hok := ar_ok (net_of HFI.out) ha
    have hok' := ar_ok (net_of HYF.out) ha'
    have hbd := arcA_bd hok HT.out
    obtain ⟨ad, cs0, hA, hadb, hat0, hcs0⟩ := ((HXQ.out _ HBR.out).2.arcs).2 k a ha
    obtain ⟨C0, c0, C1, c1, rfl, ht0, hs0, hf0⟩ := rArc_at hat0
    have HCE : Hid (CellsAt wr (ad.add (k * 6)) (zB a C0 c0 C1 c1)) := Lib.hid (fun j u hu => by rw [add_of_add]; exact hcs0 j u hu)
    have HAO := Lib.hid (And.intro ha hok)
    have HGY : Hid (∀ w', Below q w1 w' → Calls Tryz.prog 27 #[.agg #[.slice P1.a0 ({ x with orders := x.orders.set j o' }).net.places.length P1.c0, .slice P1.a1 ({ x with orders := x.orders.set j o' }).net.arcs.length P1.c1], .int .i64 a.profile, .int .i64 a.frm, .int .i64 a.to, .int .i64 t] w' fun e w'' => e = .returned (.tuple #[.int .i64 (arcA a' t), .int .i64 a'.miles, .int .i64 0]) ∧ Below w'.heap.size w' w'') := Lib.hid (fun w' h' => by
     have h := rgo_any ({ x with orders := x.orders.set j o' }).net k a' P1.a0 P1.c0 P1.a1 P1.c1 t w' (HYQ.out _ h').2.arcs ha' hok' HT.out
     rw [hfr, hto, hpr] at h
     exact h)
    have HGX : Hid (∀ w', Below q w1 w' → Calls Tryz.prog 27 #[.agg #[.slice P.a0 x.net.places.length P.c0, .slice P.a1 na P.c1], .int .i64 a.profile, .int .i64 a.frm, .int .i64 a.to, .int .i64 t] w' fun e w'' => e = .returned (.tuple #[.int .i64 (arcA a t), .int .i64 a.miles, .int .i64 0]) ∧ Below w'.heap.size w' w'') := Lib.hid (fun w' h' => by
     have h := rgo_any x.net k a P.a0 P.c0 P.a1 P.c1 t w' (HXQ.out _ h').2.arcs HAO.out.1 HAO.out.2 HT.out
     rw [HNA.out] at h
     exact h)
    have HLT : Hid (arcA a' t = arcA a t + lateA e a t) := Lib.hid hl
    obtain ⟨va, hva⟩ : ∃ v, arcA a t = v := ⟨_, rfl⟩
    obtain ⟨vb, hvb⟩ : ∃ v, arcA a' t = v := ⟨_, rfl⟩
    rw [hva] at HGX HLT hbd
    rw [hvb] at HGY HLT
    obtain ⟨mb, hmb⟩ : ∃ v, a'.miles = v := ⟨_, rfl⟩
    rw [hmb] at HGY
    obtain ⟨hbd1, hbd2⟩ := hbd
    have hk0 : (0 : Int) ≤ (k : Int) := by omega
    have hkn : (k : Int) < (na : Int) := by omega
    rw [hA] at x1
    clear ha ha' hfr hto hpr hlt' hl hok hok' hA hat0 hcs0 ht0 hs0 hf0 hva hvb hmb HAO
    go_upto_region 33 with (first
     | ((with_reducible refine zH stArc' _ rfl (ad.add (k * 6)) (zB a C0 c0 C1 c1) ?_ ?_ ?_ ?_ ?_); exact rfl; exact rfl; exact HCE.out; exact rfl)
     | ((with_reducible refine zJ stArc' rfl _ _ rfl wr.heap.size (arcL 0 0 0 (.slice none 0 0)) (zB a C0 c0 C1 c1) ?_ ?_ ?_ ?_ ?_ (yC _ _ _ _ _) ?_); exact rfl; exact rfl; exact Blk.new wr _ _; exact rfl; exact rfl; intro v4 k1 k2 k3 k4; have K := lib.h4 k1 k2 k3 k4; clear k1 k2 k3 k4))
    (try simp only [lib.hly])
    have b4 : Below wr.heap.size wr v4 := ((Below.refl _ _).alloc (Nat.le_refl _) _).trans K.out.2.2.2
    have HV4 := Lib.hid (HBV.out.trans (b4.mono hvz))
    have HB4 := Lib.hid (HC8.out.trans (HV4.out.mono hq8))
    obtain ⟨qa, hqa⟩ : ∃ v, wr.heap.size = v := ⟨_, rfl⟩
    have HQ : Hid (∀ w', Below v4.heap.size v4 w' → Blk w' qa 59 (zB a C0 c0 C1 c1)) := Lib.hid (fun w' h' => by rw [← hqa]; exact Blk.below K.out.1 h')
    have HE4 := Lib.hid (Below.refl v4.heap.size v4)
    have z4 := HB4.out.size
    rw [hqa]
    clear K b4 hqa x1 HCE
    have q0 := (HQ.out _ HE4.out).cell (j := 0) rfl
    have q1 := (HQ.out _ HE4.out).cell (j := 1) rfl
    have q2 := (HQ.out _ HE4.out).cell (j := 2) rfl
    have x0 : v4.cell? ⟨w.heap.size, 0, none⟩ = some (.slice P.a0 x.net.places.length P.c0) := (HXQ.out _ HB4.out).1.cell (j := 0) rfl
    have x1 : v4.cell? ⟨w.heap.size, 1, none⟩ = some (.slice P.a1 na P.c1) := by rw [← HNA.out]; exact (HXQ.out _ HB4.out).1.cell (j := 1) rfl
    go_wp2_with fail
    refine (HGX.out v4 HB4.out).mono ?_
    rintro e5 v5 ⟨rfl, b5⟩
    have HD5 := Lib.hid b5
    have HV5 := Lib.hid (HV4.out.trans (b5.mono HV4.out.size))
    have HB5 := Lib.hid (HC8.out.trans (HV5.out.mono hq8))
    clear b5 q0 q1 q2 x0 x1
    have q0 := (HQ.out _ HD5.out).cell (j := 0) rfl
    have q1 := (HQ.out _ HD5.out).cell (j := 1) rfl
    have q2 := (HQ.out _ HD5.out).cell (j := 2) rfl
    have y0 : v5.cell? ⟨g7, 0, none⟩ = some (.slice P1.a0 ({ x with orders := x.orders.set j o' }).net.places.length P1.c0) := (HYQ.out _ HB5.out).1.cell (j := 0) rfl
    have y1 : v5.cell? ⟨g7, 1, none⟩ = some (.slice P1.a1 ({ x with orders := x.orders.set j o' }).net.arcs.length P1.c1) := (HYQ.out _ HB5.out).1.cell (j := 1) rfl
    go_wp2_with fail
    refine (HGY.out v5 HB5.out).mono ?_
    rintro e6 v6 ⟨rfl, b6⟩
    have HD6 := Lib.hid (HD5.out.trans (b6.mono HD5.out.size))
    have HV6 := Lib.hid (HV5.out.trans (b6.mono HV5.out.size))
    have HB6 := Lib.hid (HC8.out.trans (HV6.out.mono hq8))
    clear b6 q0 q1 q2 y0 y1
    have q0 := (HQ.out _ HD6.out).cell (j := 0) rfl
    have q1 := (HQ.out _ HD6.out).cell (j := 1) rfl
    have d0 := (HXE.out _ HB6.out).cell (j := 0) rfl
    have d1 := (HXE.out _ HB6.out).cell (j := 1) rfl
    have d2 := (HXE.out _ HB6.out).cell (j := 2) rfl
    have d3 := (HXE.out _ HB6.out).cell (j := 3) rfl
    have d4 := (HXE.out _ HB6.out).cell (j := 4) rfl
    obtain ⟨b3, hb3⟩ : ∃ b, (e.kind == 3) = b := ⟨_, rfl⟩
    by_cases hall : (e.kind = 3 ∧ a.frm = e.a ∧ a.to = e.b ∧ e.at_ ≤ t)
    ·obtain ⟨hn1, hn2⟩ := hap_n HH.out hall.1
     have hvv : vb = va + e.n := by
      have h := HLT.out
      unfold lateA at h
      rw [if_pos hall] at h
      exact h
     have f3 : b3 = true := by rw [← hb3]; simp [hall.1]
     have f1 : (a.frm == e.a) = true := by simp [hall.2.1]
     have f2 : (a.to == e.b) = true := by simp [hall.2.2.1]
     have f4 := hall.2.2.2
     have hvn : (vb != va + e.n) = false := by rw [hvv]; simp
     subst f3
     clear hall hvv
     go_wp2_with fail
     go_roundw
     case rel => exact ⟨k + 1, by omega, by go_num, HV6.out⟩
     case measure => simp [intOf]; omega
    ·have hvv : vb = va := by
      have h := HLT.out
      unfold lateA at h
      rw [if_neg hall] at h
      omega
     have HALL := Lib.hid hall
     have hvn : (vb != va + 0) = false := by rw [hvv]; simp
     have hvn2 : (vb != va) = false := by rw [hvv]; simp
     clear hall hvv
     cases b3
     ·go_wp2_with fail
      go_roundw
      case rel => exact ⟨k + 1, by omega, by go_num, HV6.out⟩
      case measure => simp [intOf]; omega
     by_cases f1 : a.frm = e.a
     ·by_cases f2 : a.to = e.b
      ·have f4 : ¬ e.at_ ≤ t := fun h => HALL.out ⟨by simpa using hb3, f1, f2, h⟩
       have f1' : (a.frm == e.a) = true := by simp [f1]
       have f2' : (a.to == e.b) = true := by simp [f2]
       clear f1 f2
       go_wp2_with fail
       go_roundw
       case rel => exact ⟨k + 1, by omega, by go_num, HV6.out⟩
       case measure => simp [intOf]; omega
      ·have f1' : (a.frm == e.a) = true := by simp [f1]
       have f2' : (a.to == e.b) = false := by simp [f2]
       clear f1 f2
       go_wp2_with fail
       go_roundw
       case rel => exact ⟨k + 1, by omega, by go_num, HV6.out⟩
       case measure => simp [intOf]; omega
     ·have f1' : (a.frm == e.a) = false := by simp [f1]
      clear f1
      go_wp2_with fail
      go_roundw
      case rel => exact ⟨k + 1, by omega, by go_num, HV6.out⟩
      case measure => simp [intOf]; omega
   ·have hke : k = na := by omega
    subst hke
    clear hlt
    go_wp2_with fail
    refine (zV wr (HTb.out _ (HI2.out _ HBR.out))).mono ?_
    rintro e9 w9 ⟨rfl, b9⟩
    have HB9 := Lib.hid ((HI2.out _ HBR.out).trans (b9.mono (HI2.out _ HBR.out).size))
    clear b9
    go_wp2_with fail
    go_ret
    exact ⟨rfl, HB9.out⟩
 cases k5
 ·exfalso
  have h1 := HKD.out
  have h2 : ¬ e.kind = 1 := fun h => by have := HK.out.1.1 h; cases this
  have h3 : ¬ e.kind = 2 := fun h => by have := HK.out.2.1.1 h; cases this
  have h4 : ¬ e.kind = 3 := fun h => by have := HK.out.2.2.1.1 h; cases this
  have h5 : ¬ e.kind = 4 := fun h => by have := HK.out.2.2.2.1.1 h; cases this
  have h6 : ¬ e.kind = 5 := fun h => by have := HK.out.2.2.2.2.1 h; cases this
  omega
 ·skip
  as_aux_lemma =>
  obtain ⟨j, o, o', hj, ho, rfl⟩ := hap_ord HH.out (fun h => by have := HK.out.1.1 h; cases this) (fun h => by have := HK.out.2.2.1.1 h; cases this) (fun h => by have := HK.out.2.2.2.1.1 h; cases this)
  have hMM : x.orders.length = N := by
   have := HN.out
   rw [show ({ x with orders := x.orders.set j o' } : Ins).orders = x.orders.set j o' from rfl, List.length_set] at this
   exact this
  have hjM : j < N := by rw [← hMM]; exact (List.getElem?_eq_some_iff.1 ho).1
  obtain ⟨g, cap, hv, hgb, hglt⟩ := HS.out.ownO.form (by omega)
  obtain rfl : A3 = some ⟨g, 0, none⟩ := by injection hv
  have hgp : g < p2 := HS.out.sepO g rfl
  obtain ⟨ad, cs0, hAd, hadb, hat, hcs⟩ := ((HQX.out _ HS.out.bel).orders).elem ho
  obtain ⟨D, dd, rfl, hI, hf⟩ := rOrd_at hat
  have hqz := HS.out.bo.lt
  have hbq := HBQ.out
  have x2 : W4.cell? ⟨w.heap.size, 3, none⟩ = some (.slice (some ad) N P.c3) := by rw [← hMM, ← hAd]; exact (HXQ.out _ HS.out.bel).1.cell (j := 3) rfl
  have z2 : W4.cell? ⟨q, 3, none⟩ = some (.slice (some ⟨g, 0, none⟩) N c3) := HS.out.bo.cell (j := 3) rfl
  have e2 : W4.cell? ⟨w.heap.size + 1, 2, none⟩ = some (.int .i64 j) := by rw [← hj]; exact (HXE.out _ HS.out.bel).cell (j := 2) rfl
  have hce : CellsAt W4 (ad.add (j * 16)) (zA o D dd) := hcs
  have HIO : Hid (yM W4 (fun b => b < B) D o.load ∧ yL o) := Lib.hid ⟨yM.low hI (HB8.out.size) (fun b h => by omega), hf⟩
  have hj0 : (0 : Int) ≤ (j : Int) := by omega
  have hjn : (j : Int) < (N : Int) := by omega
  have had : (ad.add (j * 16)).block < W4.heap.size := by rw [ad_block]; have := HB8.out.size; omega
  have hwz4 : w.heap.size + 1 < W4.heap.size := by omega
  have HSS : Hid (∀ w', Below W4.heap.size W4 w' → w'.cell? ⟨w.heap.size, 3, none⟩ = some (.slice (some ad) N P.c3) ∧ w'.cell? ⟨q, 3, none⟩ = some (.slice (some ⟨g, 0, none⟩) N c3) ∧ w'.cell? ⟨w.heap.size + 1, 2, none⟩ = some (.int .i64 j) ∧ CellsAt w' (ad.add (j * 16)) (zA o D dd)) := Lib.hid (fun w' h' => ⟨(h'.cell (p := ⟨w.heap.size, 3, none⟩) (by show w.heap.size < W4.heap.size; omega)).trans x2, (h'.cell (p := ⟨q, 3, none⟩) (by show q < W4.heap.size; omega)).trans z2, (h'.cell (p := ⟨w.heap.size + 1, 2, none⟩) (by show w.heap.size + 1 < W4.heap.size; omega)).trans e2, hce.below h' had⟩)
  have HO := Lib.hid ho
  have HX2 := Lib.hid x2
  have HE2 := Lib.hid e2
  have HCE := Lib.hid hce
  clear hAd hat hcs hI hf hv hce ho hj hMM hbq
  go_upto_region 18 with fail
  (refine wp_region_held_drew (S := (fun w' => w'.cell? ⟨w.heap.size, 3, none⟩ = some (.slice (some ad) N P.c3) ∧ w'.cell? ⟨q, 3, none⟩ = some (.slice (some ⟨g, 0, none⟩) N c3) ∧ w'.cell? ⟨w.heap.size + 1, 2, none⟩ = some (.int .i64 j) ∧ CellsAt w' (ad.add (j * 16)) (zA o D dd))) (by kernel_rfl) ?_ (fun hHeld => ?_))
  ·exact HSS.out _ (Below.refl _ _).drew
  (refine lib.tk 0 ?_ rfl (by kernel_rfl) (fun _ _ _ h => h) ?_ (by assumption) ?_; rotate_left; (focus (intro w hSw; (try dsimp only at hSw); go_simp; all_goals with_reducible rfl)); (try simp only [lib.hly]))
  (refine lib.tk 1 ?_ rfl (by kernel_rfl) (fun _ _ _ h => h) ?_ (by assumption) ?_; rotate_left; (focus (intro w hSw; (try dsimp only at hSw); go_simp; all_goals with_reducible rfl)); (try simp only [lib.hly]))
  (refine lib.tk 2 ?_ rfl (by kernel_rfl) (fun _ _ _ h => h) ?_ (by assumption) ?_; rotate_left; (focus (intro w hSw; (try dsimp only at hSw); go_simp; all_goals with_reducible rfl)); (try simp only [lib.hly]))
  (refine lib.tk 3 ?_ rfl (by kernel_rfl) (fun _ _ _ h => h) ?_ (by assumption) ?_; rotate_left; (focus (intro w hSw; (try dsimp only at hSw); go_simp; all_goals with_reducible rfl)); (try simp only [lib.hly]))
  (refine lib.tk 4 ?_ rfl (by kernel_rfl) (fun _ _ _ h => h) ?_ (by assumption) ?_; rotate_left; (focus (intro w hSw; (try dsimp only at hSw); go_simp; all_goals with_reducible rfl)); (try simp only [lib.hly]))
  (refine lib.tk 5 ?_ rfl (by kernel_rfl) (fun _ _ _ h => h) ?_ (by assumption) ?_; rotate_left; (focus (intro w hSw; (try dsimp only at hSw); go_simp; all_goals with_reducible rfl)); (try simp only [lib.hly]))
  (refine lib.tk 6 ?_ rfl (by kernel_rfl) (fun _ _ _ h => h) ?_ (by assumption) ?_; rotate_left; (focus (intro w hSw; (try dsimp only at hSw); go_simp; all_goals with_reducible rfl)); (try simp only [lib.hly]))
  (refine lib.tk 7 ?_ rfl (by kernel_rfl) (fun _ _ _ h => h) ?_ (by assumption) ?_; rotate_left; (focus (intro w hSw; (try dsimp only at hSw); go_simp; all_goals with_reducible rfl)); (try simp only [lib.hly]))
  (refine lib.tk 8 ?_ rfl (by kernel_rfl) (fun _ _ _ h => h) ?_ (by assumption) ?_; rotate_left; (focus (intro w hSw; (try dsimp only at hSw); go_simp; all_goals with_reducible rfl)); (try simp only [lib.hly]))
  (refine lib.tk 9 _ rfl (by kernel_rfl) (fun _ _ _ h => h) (fun _ hSw => yG stOrd' rfl rfl hSw.2.2.2 rfl) (by assumption) ?_; (try simp only [lib.hly]))
  (refine lib.tk 10 ?_ rfl (by kernel_rfl) (fun _ _ _ h => h) ?_ (by assumption) ?_; rotate_left; (focus (intro w hSw; (try dsimp only at hSw); go_simp; all_goals with_reducible rfl)); (try simp only [lib.hly]))
  have HS8 := Lib.hid (HS.out.below ((Below.refl _ _).drew))
  (refine wpAnyH_ready (rs := [11]) (by kernel_rfl) (by simp) ?_; refine AllReadyH.cons rfl (fun K hK => ?_) AllReadyH.nil)
  refine off.yF stOrd' rfl _ _ rfl g (j * 16) (zA o D dd) rfl rfl (off.own_there HS8.out.ownO (by have h1 := HS8.out.ownO.1; omega)) rfl (zR _ _ _) ?_
  have HS9 : Hid (ApSt B w1 q N M A2 c2 CS2 x.types (some ⟨g, 0, none⟩) c3 (setM CS3 (j * 16) (zA o D dd)) ((x.orders.set j o').set j o) p2 (((insCs ({ x with orders := x.orders.set j o' } : Ins) P1).set 3 (.slice (some ⟨g, 0, none⟩) N c3)).set 2 (.slice A2 M c2)) (W4.drew.setCells g (j * 16) (zA o D dd))) := Lib.hid (by
   refine HS8.out.putO hgb hgp (by rw [List.length_set]; exact HN.out) ?_
   exact EG.put (r := oOrd) HS8.out.elsO (by rw [HN.out]; exact hjM) rfl (oOrd_mk (t := o) (zU HIO.out.1 (Nat.le_refl _) (fun b hb hp => ⟨hp, rfl⟩)) HIO.out.2))
  obtain ⟨W9, hW9⟩ : ∃ W, W4.drew.setCells g (j * 16) (zA o D dd) = W := ⟨_, rfl⟩
  rw [hW9] at HS9 ⊢
  have HC9 : Hid (CellsAt W9 (ad.add (j * 16)) (zA o D dd)) := Lib.hid (HCE.out.heap (by rw [ad_block]; exact (HS9.out.bel.block ad.block (by have := HBQ.out; omega)).trans (HS.out.bel.block ad.block (by have := HBQ.out; omega)).symm))
  have x2' : W9.cell? ⟨w.heap.size, 3, none⟩ = some (.slice (some ad) N P.c3) := (HS9.out.bel.cell (p := ⟨w.heap.size, 3, none⟩) (by show w.heap.size < q; have := HBQ.out; omega)).trans ((HS.out.bel.cell (p := ⟨w.heap.size, 3, none⟩) (by show w.heap.size < q; have := HBQ.out; omega)).symm.trans HX2.out)
  have e2' : W9.cell? ⟨w.heap.size + 1, 2, none⟩ = some (.int .i64 j) := (HS9.out.bel.cell (p := ⟨w.heap.size + 1, 2, none⟩) (by show w.heap.size + 1 < q; have := HBQ.out; omega)).trans ((HS.out.bel.cell (p := ⟨w.heap.size + 1, 2, none⟩) (by show w.heap.size + 1 < q; have := HBQ.out; omega)).symm.trans HE2.out)
  have z2' : W9.cell? ⟨q, 3, none⟩ = some (.slice (some ⟨g, 0, none⟩) N c3) := HS9.out.bo.cell (j := 3) rfl
  clear hW9
  refine hK.out _ _ ⟨x2', z2', e2', HC9.out⟩ (fun hHeld => ?_)
  clear hK K x2' e2' z2'
  (try simp only [lib.hly])
  (refine wpAnyH_done (by kernel_rfl) ?_ _)
  go_upto_region 25 with fail
  have HZ : Hid (∃ Pz, Blk W9 q 30 (insCs x Pz) ∧ InAt W9 W9.heap.size x Pz ∧ Below q w1 W9) := Lib.hid (HS9.out.fin (HYQ.out _ HS9.out.bel).2 (by omega) (by omega) (by
   show ({ x with orders := (x.orders.set j o').set j o } : Ins) = x
   rw [set_back HO.out]))
  clear e1 hk1 hk2 hk3 hk4 hk5 HS8 HS9 HC9 HSS HCE HIO HX2 HE2
  obtain ⟨Pz, hz1, hz2, hz3⟩ := HZ.out
  have HZB := Lib.hid hz1
  have HZI := Lib.hid hz2
  have HZW := Lib.hid hz3
  have hzz : q < W9.heap.size := hz1.lt
  have HBW9 := Lib.hid (HI2.out _ hz3)
  clear hz1 hz2 hz3 HZ HS
  obtain ⟨na, hna⟩ : ∃ n, x.net.arcs.length = n := ⟨_, rfl⟩
  have HNA := Lib.hid hna
  have hnab : na ≤ 1024 := by rw [← hna]; exact ((netTo_iff _).1 (net_of HFI.out)).1.2
  clear hna
  go_wp2_with (first
   | ((with_reducible refine zH stIns _ rfl ⟨q, 0, none⟩ (insCs (x) Pz) ?_ ?_ ?_ ?_ ?_); exact rfl; exact rfl; exact HZB.out.cells; exact rfl)
   | ((with_reducible refine zH stIns _ rfl ⟨w.heap.size, 0, none⟩ (insCs (x) P) ?_ ?_ ?_ ?_ ?_); exact rfl; exact rfl; exact (HXQ.out _ HZW.out).1.cells; exact rfl))
  refine (rsame_any x x Pz P W9 HZI.out (HXQ.out _ HZW.out).2).mono ?_
  rw [sameI_self]
  rintro e8 v8 ⟨rfl, b8⟩
  have HC8 := Lib.hid (HZW.out.trans (b8.mono (Nat.le_of_lt hzz)))
  have hq8 : q ≤ v8.heap.size := by have := b8.size; omega
  have HE8 := Lib.hid (Below.refl v8.heap.size v8)
  clear b8 HZB HZI HZW HBW9 hzz
  by_cases ht1 : t < 0
  ·go_wp2_with fail
   refine (zV v8 (HTb.out _ (HI2.out _ HC8.out))).mono ?_
   rintro e9 w9 ⟨rfl, b9⟩
   have HB9 := Lib.hid ((HI2.out _ HC8.out).trans (b9.mono (HI2.out _ HC8.out).size))
   clear b9
   go_wp2_with fail
   go_ret
   exact ⟨rfl, HB9.out⟩
  by_cases ht2 : 4096 < t
  ·go_wp2_with fail
   refine (zV v8 (HTb.out _ (HI2.out _ HC8.out))).mono ?_
   rintro e9 w9 ⟨rfl, b9⟩
   have HB9 := Lib.hid ((HI2.out _ HC8.out).trans (b9.mono (HI2.out _ HC8.out).size))
   clear b9
   go_wp2_with fail
   go_ret
   exact ⟨rfl, HB9.out⟩
  have HT : Hid (0 ≤ t ∧ t ≤ 4096) := Lib.hid (by omega)
  go_upto_region 30 with fail
  go_loopw [10] (fun i wr => ∃ k : Nat, k ≤ na ∧ i = .int .i64 k ∧ Below v8.heap.size v8 wr) (fun i _ => na - (intOf i).toNat)
  case atStart => exact ⟨0, by omega, rfl, HE8.out⟩
  case round =>
   obtain ⟨k, hk, rfl, hb⟩ := hrel
   have HBR := Lib.hid (HC8.out.trans (hb.mono hq8))
   have HBV := Lib.hid hb
   have hvz := hb.size
   have x1 : wr.cell? ⟨w.heap.size, 1, none⟩ = some (.slice P.a1 na P.c1) := by rw [← HNA.out]; exact (HXQ.out _ HBR.out).1.cell (j := 1) rfl
   clear hb
   by_cases hlt : k < na
   ·obtain ⟨a, ha⟩ : ∃ a, x.net.arcs[k]? = some a := ⟨_, List.getElem?_eq_getElem (by rw [HNA.out]; exact hlt)⟩
    obtain ⟨a', ha', hfr, hto, hpr, _, hlt'⟩ := hap_arc HH.out ha
    have hl := hlt' t
    have hok := ar_ok (net_of HFI.out) ha
    have hok' := ar_ok (net_of HYF.out) ha'
    have hbd := arcA_bd hok HT.out
    obtain ⟨ad, cs0, hA, hadb, hat0, hcs0⟩ := ((HXQ.out _ HBR.out).2.arcs).2 k a ha
    obtain ⟨C0, c0, C1, c1, rfl, ht0, hs0, hf0⟩ := rArc_at hat0
    have HCE : Hid (CellsAt wr (ad.add (k * 6)) (zB a C0 c0 C1 c1)) := Lib.hid (fun j u hu => by rw [add_of_add]; exact hcs0 j u hu)
    have HAO := Lib.hid (And.intro ha hok)
    have HGY : Hid (∀ w', Below q w1 w' → Calls Tryz.prog 27 #[.agg #[.slice P1.a0 ({ x with orders := x.orders.set j o' }).net.places.length P1.c0, .slice P1.a1 ({ x with orders := x.orders.set j o' }).net.arcs.length P1.c1], .int .i64 a.profile, .int .i64 a.frm, .int .i64 a.to, .int .i64 t] w' fun e w'' => e = .returned (.tuple #[.int .i64 (arcA a' t), .int .i64 a'.miles, .int .i64 0]) ∧ Below w'.heap.size w' w'') := Lib.hid (fun w' h' => by
     have h := rgo_any ({ x with orders := x.orders.set j o' }).net k a' P1.a0 P1.c0 P1.a1 P1.c1 t w' (HYQ.out _ h').2.arcs ha' hok' HT.out
     rw [hfr, hto, hpr] at h
     exact h)
    have HGX : Hid (∀ w', Below q w1 w' → Calls Tryz.prog 27 #[.agg #[.slice P.a0 x.net.places.length P.c0, .slice P.a1 na P.c1], .int .i64 a.profile, .int .i64 a.frm, .int .i64 a.to, .int .i64 t] w' fun e w'' => e = .returned (.tuple #[.int .i64 (arcA a t), .int .i64 a.miles, .int .i64 0]) ∧ Below w'.heap.size w' w'') := Lib.hid (fun w' h' => by
     have h := rgo_any x.net k a P.a0 P.c0 P.a1 P.c1 t w' (HXQ.out _ h').2.arcs HAO.out.1 HAO.out.2 HT.out
     rw [HNA.out] at h
     exact h)
    have HLT : Hid (arcA a' t = arcA a t + lateA e a t) := Lib.hid hl
    obtain ⟨va, hva⟩ : ∃ v, arcA a t = v := ⟨_, rfl⟩
    obtain ⟨vb, hvb⟩ : ∃ v, arcA a' t = v := ⟨_, rfl⟩
    rw [hva] at HGX HLT hbd
    rw [hvb] at HGY HLT
    obtain ⟨mb, hmb⟩ : ∃ v, a'.miles = v := ⟨_, rfl⟩
    rw [hmb] at HGY
    obtain ⟨hbd1, hbd2⟩ := hbd
    have hk0 : (0 : Int) ≤ (k : Int) := by omega
    have hkn : (k : Int) < (na : Int) := by omega
    rw [hA] at x1
    clear ha ha' hfr hto hpr hlt' hl hok hok' hA hat0 hcs0 ht0 hs0 hf0 hva hvb hmb HAO
    go_upto_region 33 with (first
     | ((with_reducible refine zH stArc' _ rfl (ad.add (k * 6)) (zB a C0 c0 C1 c1) ?_ ?_ ?_ ?_ ?_); exact rfl; exact rfl; exact HCE.out; exact rfl)
     | ((with_reducible refine zJ stArc' rfl _ _ rfl wr.heap.size (arcL 0 0 0 (.slice none 0 0)) (zB a C0 c0 C1 c1) ?_ ?_ ?_ ?_ ?_ (yC _ _ _ _ _) ?_); exact rfl; exact rfl; exact Blk.new wr _ _; exact rfl; exact rfl; intro v4 k1 k2 k3 k4; have K := lib.h4 k1 k2 k3 k4; clear k1 k2 k3 k4))
    (try simp only [lib.hly])
    have b4 : Below wr.heap.size wr v4 := ((Below.refl _ _).alloc (Nat.le_refl _) _).trans K.out.2.2.2
    have HV4 := Lib.hid (HBV.out.trans (b4.mono hvz))
    have HB4 := Lib.hid (HC8.out.trans (HV4.out.mono hq8))
    obtain ⟨qa, hqa⟩ : ∃ v, wr.heap.size = v := ⟨_, rfl⟩
    have HQ : Hid (∀ w', Below v4.heap.size v4 w' → Blk w' qa 59 (zB a C0 c0 C1 c1)) := Lib.hid (fun w' h' => by rw [← hqa]; exact Blk.below K.out.1 h')
    have HE4 := Lib.hid (Below.refl v4.heap.size v4)
    have z4 := HB4.out.size
    rw [hqa]
    clear K b4 hqa x1 HCE
    have q0 := (HQ.out _ HE4.out).cell (j := 0) rfl
    have q1 := (HQ.out _ HE4.out).cell (j := 1) rfl
    have q2 := (HQ.out _ HE4.out).cell (j := 2) rfl
    have x0 : v4.cell? ⟨w.heap.size, 0, none⟩ = some (.slice P.a0 x.net.places.length P.c0) := (HXQ.out _ HB4.out).1.cell (j := 0) rfl
    have x1 : v4.cell? ⟨w.heap.size, 1, none⟩ = some (.slice P.a1 na P.c1) := by rw [← HNA.out]; exact (HXQ.out _ HB4.out).1.cell (j := 1) rfl
    go_wp2_with fail
    refine (HGX.out v4 HB4.out).mono ?_
    rintro e5 v5 ⟨rfl, b5⟩
    have HD5 := Lib.hid b5
    have HV5 := Lib.hid (HV4.out.trans (b5.mono HV4.out.size))
    have HB5 := Lib.hid (HC8.out.trans (HV5.out.mono hq8))
    clear b5 q0 q1 q2 x0 x1
    have q0 := (HQ.out _ HD5.out).cell (j := 0) rfl
    have q1 := (HQ.out _ HD5.out).cell (j := 1) rfl
    have q2 := (HQ.out _ HD5.out).cell (j := 2) rfl
    have y0 : v5.cell? ⟨g7, 0, none⟩ = some (.slice P1.a0 ({ x with orders := x.orders.set j o' }).net.places.length P1.c0) := (HYQ.out _ HB5.out).1.cell (j := 0) rfl
    have y1 : v5.cell? ⟨g7, 1, none⟩ = some (.slice P1.a1 ({ x with orders := x.orders.set j o' }).net.arcs.length P1.c1) := (HYQ.out _ HB5.out).1.cell (j := 1) rfl
    go_wp2_with fail
    refine (HGY.out v5 HB5.out).mono ?_
    rintro e6 v6 ⟨rfl, b6⟩
    have HD6 := Lib.hid (HD5.out.trans (b6.mono HD5.out.size))
    have HV6 := Lib.hid (HV5.out.trans (b6.mono HV5.out.size))
    have HB6 := Lib.hid (HC8.out.trans (HV6.out.mono hq8))
    clear b6 q0 q1 q2 y0 y1
    have q0 := (HQ.out _ HD6.out).cell (j := 0) rfl
    have q1 := (HQ.out _ HD6.out).cell (j := 1) rfl
    have d0 := (HXE.out _ HB6.out).cell (j := 0) rfl
    have d1 := (HXE.out _ HB6.out).cell (j := 1) rfl
    have d2 := (HXE.out _ HB6.out).cell (j := 2) rfl
    have d3 := (HXE.out _ HB6.out).cell (j := 3) rfl
    have d4 := (HXE.out _ HB6.out).cell (j := 4) rfl
    obtain ⟨b3, hb3⟩ : ∃ b, (e.kind == 3) = b := ⟨_, rfl⟩
    by_cases hall : (e.kind = 3 ∧ a.frm = e.a ∧ a.to = e.b ∧ e.at_ ≤ t)
    ·obtain ⟨hn1, hn2⟩ := hap_n HH.out hall.1
     have hvv : vb = va + e.n := by
      have h := HLT.out
      unfold lateA at h
      rw [if_pos hall] at h
      exact h
     have f3 : b3 = true := by rw [← hb3]; simp [hall.1]
     have f1 : (a.frm == e.a) = true := by simp [hall.2.1]
     have f2 : (a.to == e.b) = true := by simp [hall.2.2.1]
     have f4 := hall.2.2.2
     have hvn : (vb != va + e.n) = false := by rw [hvv]; simp
     subst f3
     clear hall hvv
     go_wp2_with fail
     go_roundw
     case rel => exact ⟨k + 1, by omega, by go_num, HV6.out⟩
     case measure => simp [intOf]; omega
    ·have hvv : vb = va := by
      have h := HLT.out
      unfold lateA at h
      rw [if_neg hall] at h
      omega
     have HALL := Lib.hid hall
     have hvn : (vb != va + 0) = false := by rw [hvv]; simp
     have hvn2 : (vb != va) = false := by rw [hvv]; simp
     clear hall hvv
     cases b3
     ·go_wp2_with fail
      go_roundw
      case rel => exact ⟨k + 1, by omega, by go_num, HV6.out⟩
      case measure => simp [intOf]; omega
     by_cases f1 : a.frm = e.a
     ·by_cases f2 : a.to = e.b
      ·have f4 : ¬ e.at_ ≤ t := fun h => HALL.out ⟨by simpa using hb3, f1, f2, h⟩
       have f1' : (a.frm == e.a) = true := by simp [f1]
       have f2' : (a.to == e.b) = true := by simp [f2]
       clear f1 f2
       go_wp2_with fail
       go_roundw
       case rel => exact ⟨k + 1, by omega, by go_num, HV6.out⟩
       case measure => simp [intOf]; omega
      ·have f1' : (a.frm == e.a) = true := by simp [f1]
       have f2' : (a.to == e.b) = false := by simp [f2]
       clear f1 f2
       go_wp2_with fail
       go_roundw
       case rel => exact ⟨k + 1, by omega, by go_num, HV6.out⟩
       case measure => simp [intOf]; omega
     ·have f1' : (a.frm == e.a) = false := by simp [f1]
      clear f1
      go_wp2_with fail
      go_roundw
      case rel => exact ⟨k + 1, by omega, by go_num, HV6.out⟩
      case measure => simp [intOf]; omega
   ·have hke : k = na := by omega
    subst hke
    clear hlt
    go_wp2_with fail
    refine (zV wr (HTb.out _ (HI2.out _ HBR.out))).mono ?_
    rintro e9 w9 ⟨rfl, b9⟩
    have HB9 := Lib.hid ((HI2.out _ HBR.out).trans (b9.mono (HI2.out _ HBR.out).size))
    clear b9
    go_wp2_with fail
    go_ret
    exact ⟨rfl, HB9.out⟩
end Go.Proofs.YtofabhenmplkoaaGreatDoor.evt

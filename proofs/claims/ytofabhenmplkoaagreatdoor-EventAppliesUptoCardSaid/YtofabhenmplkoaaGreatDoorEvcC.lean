import Derived.Test.YtofabhenmplkoaaGreatDoorRefE
import Derived.Test.YtofabhenmplkoaaGreatDoorEvcB
set_option linter.unusedVariables false
set_option linter.unusedSimpArgs false
/- The instance after an event. The reference. -/
namespace Go.Proofs.YtofabhenmplkoaaGreatDoor.evt
open Go.RowKit
open lib rd app els off typ big ord
open ins hiding zOrd bOrd
open gen
theorem hap_one {x y : Ins} {e : Evt} (h : hapF x e = .ok y) (h1 : e.kind = 1) : (addR x e.order).1 = y ∧ (addR x e.order).2 = 0 := by
 unfold hapF at h
 rw [if_pos h1] at h
 split at h
 ·cases h
 split at h
 ·rename_i h0
  injection h with h
  exact ⟨h, h0⟩
 ·cases h
theorem hap_two {x y : Ins} {e : Evt} (h : hapF x e = .ok y) (h2 : e.kind = 2) : ∃ (j : Nat) (o : Ord), e.a = j ∧ x.orders[j]? = some o ∧ y = { x with orders := x.orders.set j { o with off := true } } := by
 unfold hapF at h
 rw [if_neg (by omega), if_neg (by omega), if_neg (by omega)] at h
 split at h
 ·cases h
 rename_i hr
 obtain ⟨j, o, hj, ho, _⟩ := thr_ok (Decidable.not_not.1 hr)
 rw [hj, Int.toNat_natCast, ho] at h
 dsimp only at h
 try rw [if_pos h2] at h
 injection h with h
 exact ⟨j, o, hj, ho, h.symm⟩
theorem hap_five {x y : Ins} {e : Evt} (h : hapF x e = .ok y) (h5 : e.kind = 5) : ∃ (j : Nat) (o : Ord), e.a = j ∧ x.orders[j]? = some o ∧ (shfB o.pick e.n && shfB o.drop e.n) = true ∧ y = { x with orders := x.orders.set j (shfO o e.n) } := by
 unfold hapF at h
 rw [if_neg (by omega), if_neg (by omega), if_neg (by omega)] at h
 split at h
 ·cases h
 rename_i hr
 obtain ⟨j, o, hj, ho, _⟩ := thr_ok (Decidable.not_not.1 hr)
 rw [hj, Int.toNat_natCast, ho] at h
 dsimp only at h
 try rw [if_neg (by omega)] at h
 split at h
 ·rename_i hb
  injection h with h
  exact ⟨j, o, hj, ho, hb, h.symm⟩
 ·cases h
theorem hap_four {x y : Ins} {e : Evt} (h : hapF x e = .ok y) (h4 : e.kind = 4) : ∃ (j : Nat) (t : Ty), e.a = j ∧ x.types[j]? = some t ∧ ¬ t.count = 0 ∧ y = { x with types := x.types.set j { t with count := t.count - 1 } } := by
 unfold hapF at h
 rw [if_neg (by omega), if_neg (by omega), if_pos h4] at h
 split at h
 ·cases h
 rename_i hr
 split at h
 ·cases h
 rename_i t ht
 split at h
 ·cases h
 rename_i hc
 injection h with h
 exact ⟨e.a.toNat, t, by omega, ht, hc, h.symm⟩
theorem hap_three {x y : Ins} {e : Evt} (h : hapF x e = .ok y) (h3 : e.kind = 3) : ∃ N, y = { x with net := N } ∧ slwF x.net e.a e.b e.at_ e.n = .ok N := by
 unfold hapF at h
 rw [if_neg (by omega), if_pos h3] at h
 split at h
 ·cases h
 split at h
 ·cases h
 ·rename_i N hN
  injection h with h
  exact ⟨N, h.symm, hN⟩
set_option maxRecDepth 20000 in
set_option maxHeartbeats 8000000 in
theorem rapply_any (x : Ins) (P : InP) (e : Evt) (C : Option Addr) (c : Nat) (B : Nat) (w : World) (hB : B ≤ w.heap.size) (hA : InAt w B x P) (hF : insF x = []) (hC : Ints w B C e.order.load) (hf : yN e) :
  Calls Tryz.prog 18 #[InV x P, .agg (z8 e C c).toArray] w (AplOut w B (appF x e)) := by
 have h : InAt w w.heap.size x P := hA.more hB
 have HA := Lib.hid hA
 show Calls Tryz.prog 18 #[InV x P, .agg #[.int .i64 e.at_, .int .i64 e.kind, .int .i64 e.a, .int .i64 e.b, .int .i64 e.n, .string e.order.name, .slice C e.order.load.length c, .int .i64 e.order.pick.place, .int .i64 e.order.pick.opn, .int .i64 e.order.pick.close, .int .i64 e.order.pick.service, .int .i64 e.order.drop.place, .int .i64 e.order.drop.opn, .int .i64 e.order.drop.close, .int .i64 e.order.drop.service, .int .i64 e.order.skills, .int .i64 e.order.penalty, .int .i64 e.order.split, .int .i64 e.order.last, .int .i64 e.order.now, .bool e.order.off]] w _
 have HF := Lib.hid hF
 have HFT := Lib.hid hf
 have HCC := Lib.hid hC
 have HLM := Lib.hid (lim.lim_of hF)
 obtain ⟨W0, hW0⟩ : ∃ W0, ((w.alloc (.cells (insCs x P).toArray 30)).alloc (.cells (z8 e C c).toArray 37)).alloc (.cells nilCs.toArray 30) = W0 := ⟨_, rfl⟩
 have hB0 : Below w.heap.size w W0 := by rw [← hW0]; exact (((Below.refl _ _).alloc (Nat.le_refl _) _).alloc (by simp) _).alloc (by simp; omega) _
 have z0 : W0.heap.size = w.heap.size + 3 := by rw [← hW0]; simp
 have b0 : Blk W0 w.heap.size 30 (insCs x P) := by
  rw [← hW0]
  exact ((Blk.new w _ _).kept (World.grownBy_alloc _ _ none) (by simp)).kept (World.grownBy_alloc _ _ none) (by simp)
 have b1 : Blk W0 (w.heap.size + 1) 37 (z8 e C c) := by
  rw [← hW0]
  have h := Blk.new (w.alloc (.cells (insCs x P).toArray 30)) 37 (z8 e C c)
  rw [show (w.alloc (.cells (insCs x P).toArray 30)).heap.size = w.heap.size + 1 by simp] at h
  exact h.kept (World.grownBy_alloc _ _ none) (by simp)
 have b2 : Blk W0 (w.heap.size + 2) 30 nilCs := by
  rw [← hW0]
  have h := Blk.new ((w.alloc (.cells (insCs x P).toArray 30)).alloc (.cells (z8 e C c).toArray 37)) 30 nilCs
  rw [show ((w.alloc (.cells (insCs x P).toArray 30)).alloc (.cells (z8 e C c).toArray 37)).heap.size = w.heap.size + 2 by simp] at h
  exact h
 have hW1 : ((w.alloc (.cells #[.slice P.a0 x.net.places.length P.c0, .slice P.a1 x.net.arcs.length P.c1, .slice P.a2 x.types.length P.c2, .slice P.a3 x.orders.length P.c3, .slice P.a4 x.apart.length P.c4, .slice P.a5 x.before.length P.c5] 30)).alloc (.cells #[.int .i64 e.at_, .int .i64 e.kind, .int .i64 e.a, .int .i64 e.b, .int .i64 e.n, .string e.order.name, .slice C e.order.load.length c, .int .i64 e.order.pick.place, .int .i64 e.order.pick.opn, .int .i64 e.order.pick.close, .int .i64 e.order.pick.service, .int .i64 e.order.drop.place, .int .i64 e.order.drop.opn, .int .i64 e.order.drop.close, .int .i64 e.order.drop.service, .int .i64 e.order.skills, .int .i64 e.order.penalty, .int .i64 e.order.split, .int .i64 e.order.last, .int .i64 e.order.now, .bool e.order.off] 37)).alloc (.cells #[.slice none 0 0, .slice none 0 0, .slice none 0 0, .slice none 0 0, .slice none 0 0, .slice none 0 0] 30) = W0 := hW0
 have HX := Lib.hid (fun w' (h' : Below W0.heap.size W0 w') => And.intro (b0.below h') (And.intro (b1.below h') (b2.below h')))
 have HI := Lib.hid (fun w' (h' : Below w.heap.size w w') => h.go h')
 have HW1 := Lib.hid hW1
 have C0 := Below.refl W0.heap.size W0
 clear hW0 hW1 b0 b1 b2
 simp only [InV]
 obtain ⟨r, hr⟩ : ∃ r, appF x e = r := ⟨_, rfl⟩
 have HR := Lib.hid hr
 rw [hr]
 have HX0 := Lib.hid (HX.out _ C0)
 clear h hA hF hr hC hf
 go_enter Tryz.func18, Tryz.ntmps18
 go_upto_region 1 with fail
 rw [HW1.out]
 clear HW1
 have hck := rcheck_any x P 0 e C c B W0 (Nat.le_trans hB hB0.size) (HA.out.below (hB0.mono hB)) HF.out (HCC.out.below (hB0.mono hB)) HFT.out
 obtain ⟨k, hk⟩ : ∃ k, chkF x 0 e = k := ⟨_, rfl⟩
 rw [hk] at hck
 have HK := Lib.hid hk
 clear hk
 go_wp2_with (first
  | ((with_reducible refine zH stIns _ rfl ⟨w.heap.size, 0, none⟩ (insCs (x) P) ?_ ?_ ?_ ?_ ?_); exact rfl; exact rfl; exact HX0.out.1.cells; exact rfl)
  | ((with_reducible refine zH stEvt _ rfl ⟨(w.heap.size + 1), 0, none⟩ (z8 e C c) ?_ ?_ ?_ ?_ ?_); exact rfl; exact rfl; exact HX0.out.2.1.cells; exact rfl))
 refine hck.mono ?_
 rintro e2 w1 ⟨rfl, b1⟩
 have HBW := Lib.hid (hB0.trans (b1.mono (by omega)))
 have HX1 := Lib.hid (HX.out _ b1)
 have hz1 : w.heap.size + 3 ≤ w1.heap.size := by have := b1.size; omega
 clear b1 HX0 hck
 by_cases hk0 : k = 0
 rotate_left
 ·have HRR : Hid (r = (nilI, k)) := Lib.hid (by rw [← HR.out]; exact app_bad HK.out hk0)
  have hkk : (k != 0) = true := by simp [hk0]
  clear HR hk0
  go_wp2_with ((with_reducible refine zJ stIns rfl _ _ rfl (w.heap.size + 2) nilCs (insCs (nilI) nilP) ?_ ?_ ?_ ?_ ?_ (zT _ _) ?_); exact rfl; exact rfl; exact HX1.out.2.2; exact rfl; exact rfl; intro wz k1 k2 k3 k4; have K := lib.h4 k1 k2 k3 k4; clear k1 k2 k3 k4)
  have HRz : Blk wz (w.heap.size + 2) 30 (insCs (nilI) nilP) := K.out.1
  refine bodyPost_ret (v := .tuple #[.agg (insCs (nilI) nilP).toArray, .int .i64 k]) (big.zK stIns Tryz.results18 rfl rfl HRz.cells rfl) rfl ?_
  rw [HRR.out]
  exact ⟨nilP, rfl, InFr.nil, HBW.out.trans (K.out.2.2.2.mono (by omega))⟩
 subst hk0
 obtain ⟨y, hy, hry, hkd⟩ := app_good HK.out
 have HRR : Hid (r = (y, 0)) := Lib.hid (by rw [← HR.out]; exact hry)
 have HY := Lib.hid hy
 have hk5 : e.kind = 1 ∨ e.kind = 2 ∨ e.kind = 3 ∨ e.kind = 4 ∨ e.kind = 5 := by omega
 clear HR HK hy hry hkd
 obtain ⟨CS3, hl3, hr3, ho3⟩ := catO HA.out.orders hB
 obtain ⟨CS2, hl2, hr2, ho2⟩ := catT HA.out.types hB
 obtain ⟨N, hN⟩ : ∃ N, x.orders.length = N := ⟨_, rfl⟩
 obtain ⟨M, hM⟩ : ∃ M, x.types.length = M := ⟨_, rfl⟩
 have hN20 : N ≤ 20 := by rw [← hN]; exact HLM.out.orders
 have hM20 : M ≤ 20 := by rw [← hM]; exact HLM.out.types
 rw [hN] at hr3
 rw [hM] at hr2
 have HN := Lib.hid hN
 have HM := Lib.hid hM
 have HR3 := Lib.hid hr3
 have HR2 := Lib.hid hr2
 have HO3 := Lib.hid ho3
 have HO2 := Lib.hid ho2
 clear hN hM hr3 hr2 ho3 ho2 hl3 hl2
 go_upto_region 5 with (first
  | ((with_reducible refine zH stIns _ rfl ⟨w.heap.size, 0, none⟩ (insCs (x) P) ?_ ?_ ?_ ?_ ?_); exact rfl; exact rfl; exact HX1.out.1.cells; exact rfl)
  | ((with_reducible refine zJ stIns rfl _ _ rfl w1.heap.size nilCs (insCs x P) ?_ ?_ ?_ ?_ ?_ (zT _ _) ?_); exact rfl; exact rfl; exact World.alloc_heap_new w1 _; exact rfl; exact rfl; intro w2 k1 k2 k3 k4; have K := lib.h4 k1 k2 k3 k4; clear k1 k2 k3 k4))
 (try simp only [lib.hly])
 have sx : w2.heap.size = w1.heap.size + 1 := by rw [K.out.2.2.1]; simp
 have bx : Below w1.heap.size w1 w2 := ((Below.refl _ _).alloc (Nat.le_refl _) _).trans K.out.2.2.2
 have k1' : Blk w2 w1.heap.size 30 (insCs x P) := K.out.1
 clear K
 obtain ⟨q, hq⟩ : ∃ q, w1.heap.size = q := ⟨_, rfl⟩
 rw [hq] at bx sx k1' hz1 ⊢
 have HQ1 : Hid (w.heap.size + 3 ≤ q) := Lib.hid hz1
 have HQW : Hid (w.heap.size ≤ q) := Lib.hid (by omega)
 have hX2 := (fun w' (h' : Below q w1 w') => And.intro (HX1.out.1.below (h'.mono (by omega))) (HX1.out.2.1.below (h'.mono (by omega))))
 have HX2 := Lib.hid hX2
 have HI2 : Hid (∀ w', Below q w1 w' → Below w.heap.size w w') := Lib.hid (fun w' h' => HBW.out.trans (h'.mono (by omega)))
 have HBX := Lib.hid bx
 have HBO2 := Lib.hid k1'
 clear hX2 bx k1' hz1
 obtain ⟨p3, hp3⟩ : ∃ p, q + 1 = p := ⟨_, rfl⟩
 rw [hp3] at sx
 have x3 : w2.cell? ⟨w.heap.size, 3, none⟩ = some (.slice P.a3 N P.c3) := by rw [← HN.out]; exact (HX2.out _ HBX.out).1.cell (j := 3) rfl
 have hwp3 : w.heap.size < p3 := by have := HQ1.out; omega
 have HE3 : Hid ((w2.alloc (.cells #[] 35)).ownsRow p3 35 16 (.slice (some ⟨p3, 0, none⟩) 0 0) 0 []) := Lib.hid (by
  have h := World.ownsRow_made (base := p3) (e := 35) (size := 16) w2 #[] 0 (by omega) (by decide) rfl
  rw [sx] at h
  exact h)
 have HB3 : Hid (Below q w1 (w2.alloc (.cells #[] 35))) := Lib.hid (HBX.out.alloc (by omega) _)
 have HA3 : Hid (p3 ≤ (w2.alloc (.cells #[] 35)).heap.size) := Lib.hid (by simp; omega)
 have HRD3 : Hid (Reads (w2.alloc (.cells #[] 35)) B 16 P.a3 N CS3) := Lib.hid (HR3.out _ _ ((HI2.out _ HB3.out).mono hB) (Nat.le_refl _)).1
 have HF3 : Hid (∀ A c w5, (w2.alloc (.cells #[] 35)).grownBy w5 (Value.slice (some ⟨p3, 0, none⟩) 0 0).ownBlock → w5.ownsRow p3 35 16 (.slice A N c) N ([] ++ CS3) →
   (w5.cell? ⟨q, 3, none⟩ = some (.slice P.a3 N P.c3) ∧ w5.frozen? ⟨q, 3, none⟩ = false) ∧ w5.setCell ⟨q, 3, none⟩ (.slice A N c) = w5.setCell ⟨q, 3, none⟩ (.slice A N c) ∧ Below q w1 (w5.setCell ⟨q, 3, none⟩ (.slice A N c)) ∧ Blk (w5.setCell ⟨q, 3, none⟩ (.slice A N c)) q 30 ((insCs x P).set 3 (.slice A N c)) ∧ (w5.setCell ⟨q, 3, none⟩ (.slice A N c)).ownsRow (q + 1) 35 16 (.slice A N c) N CS3) := Lib.hid (fun A c w5 hg hown => by
  obtain ⟨b5, hown5⟩ := cat_new sx hg hown
  have hb : Blk w5 q 30 (insCs x P) := HBO2.out.below (by rw [sx]; exact b5)
  have hbw : Below q w1 w5 := HBX.out.trans (b5.mono (by omega))
  refine ⟨⟨by rw [← HN.out]; exact hb.cell (j := 3) rfl, hb.frozen 3⟩, rfl, hbw.setCell (p := ⟨q, 3, none⟩) (Nat.le_refl _) _, hb.set 3 _, ?_⟩
  have h2 := yH w5 q 3 (.slice A N c)
  exact own_grown (zY hown5 (by omega)) h2 (ownBlock_ne hown5 fun b hb => by have := own_base hown5 b hb; omega))
 go_upto_region 6 with (at_builtin; go_loud (refine zX ord_elem _ _ rfl p3 (.slice (some ⟨p3, 0, none⟩) 0 0) 0 [] rfl HE3.out B P.a3 N P.c3 CS3 rfl HRD3.out HO3.out (by omega) HA3.out rfl ?_); intro A3 c3 w3 hown3 hg3; (rw [Nat.zero_add] at hown3); go_loud (obtain ⟨⟨x33, f33⟩, hset3, bl3, bo3, own3⟩ := HF3.out _ _ _ hg3 hown3))
 (try simp only [lib.hly])
 obtain ⟨W3, hW3⟩ : ∃ W, w3.setCell ⟨q, 3, none⟩ (.slice A3 N c3) = W := ⟨_, rfl⟩
 rw [hW3] at bl3 bo3 own3 ⊢
 have BL3 := Lib.hid bl3
 have BO3 := Lib.hid bo3
 have OW3 := Lib.hid own3
 clear hset3 hW3 x33 f33 hown3 hg3 HE3 HF3 HRD3 HA3 HB3 sx x3 bl3 bo3 own3 HBO2 HBX
 obtain ⟨p2, hp2⟩ : ∃ p, W3.heap.size = p := ⟨_, rfl⟩
 have HQP : Hid (q < p2) := Lib.hid (by rw [← hp2]; exact BO3.out.lt)
 have x2 : W3.cell? ⟨w.heap.size, 2, none⟩ = some (.slice P.a2 M P.c2) := by rw [← HM.out]; exact (HX2.out _ BL3.out).1.cell (j := 2) rfl
 have hwp2 : w.heap.size < p2 := by have := HQ1.out; have := HQP.out; omega
 have HE2 : Hid ((W3.alloc (.cells #[] 56)).ownsRow p2 56 14 (.slice (some ⟨p2, 0, none⟩) 0 0) 0 []) := Lib.hid (by
  have h := World.ownsRow_made (base := p2) (e := 56) (size := 14) W3 #[] 0 (by omega) (by decide) rfl
  rw [hp2] at h
  exact h)
 have HB2 : Hid (Below q w1 (W3.alloc (.cells #[] 56))) := Lib.hid (BL3.out.alloc (by have := HQP.out; omega) _)
 have HA2 : Hid (p2 ≤ (W3.alloc (.cells #[] 56)).heap.size) := Lib.hid (by simp; omega)
 have HRD2 : Hid (Reads (W3.alloc (.cells #[] 56)) B 14 P.a2 M CS2) := Lib.hid (HR2.out _ _ ((HI2.out _ HB2.out).mono hB) (Nat.le_refl _)).1
 have HF2 : Hid (∀ A c w5, (W3.alloc (.cells #[] 56)).grownBy w5 (Value.slice (some ⟨p2, 0, none⟩) 0 0).ownBlock → w5.ownsRow p2 56 14 (.slice A M c) M ([] ++ CS2) →
   (w5.cell? ⟨q, 2, none⟩ = some (.slice P.a2 M P.c2) ∧ w5.frozen? ⟨q, 2, none⟩ = false) ∧ ApSt B w1 q N M A c CS2 x.types A3 c3 CS3 x.orders p2 (((insCs x P).set 3 (.slice A3 N c3)).set 2 (.slice A M c)) (w5.setCell ⟨q, 2, none⟩ (.slice A M c))) := Lib.hid (fun A c w5 hg hown => by
  obtain ⟨b5, hown5⟩ := cat_new hp2 hg hown
  have b5' : Below W3.heap.size W3 w5 := by rw [hp2]; exact b5
  have hb := BO3.out.below b5'
  have hqp := HQP.out
  have hq1 := HQ1.out
  have hbw : Below q w1 w5 := BL3.out.trans (b5.mono (by omega))
  have hh := (HI2.out _ hbw).mono hB
  refine ⟨⟨by rw [← HM.out]; exact hb.cell (j := 2) rfl, hb.frozen 2⟩, ApSt.box (bcs := (insCs x P).set 3 (.slice A3 N c3)) ⟨own_below OW3.out b5', fun b hb9 => by have := (World.ownsRow.lt OW3.out b hb9).2; omega, hown5, by omega, (HR3.out _ _ hh (Nat.le_refl _)).2, (HR2.out _ _ hh (Nat.le_refl _)).2, HN.out, HM.out, hb, hbw, by omega⟩ 2 _⟩)
 go_upto_region 7 with (at_builtin; go_loud (refine zX ty_elem _ _ rfl p2 (.slice (some ⟨p2, 0, none⟩) 0 0) 0 [] rfl HE2.out B P.a2 M P.c2 CS2 rfl HRD2.out HO2.out (by omega) HA2.out rfl ?_); intro A2 c2 w4 hown4 hg4; (rw [Nat.zero_add] at hown4); go_loud (obtain ⟨⟨x44, f44⟩, hs4⟩ := HF2.out _ _ _ hg4 hown4))
 (try simp only [lib.hly])
 obtain ⟨W4, hW4⟩ : ∃ W, w4.setCell ⟨q, 2, none⟩ (.slice A2 M c2) = W := ⟨_, rfl⟩
 rw [hW4] at hs4 ⊢
 have HS := Lib.hid hs4
 clear hW4 x44 f44 hown4 hg4 HE2 HF2 HRD2 HA2 HB2 hp2 x2 hs4 BL3 BO3 OW3
 have HXE := Lib.hid (fun w' (h' : Below q w1 w') => (HX2.out _ h').2)
 have e1 := (HXE.out _ HS.out.bel).cell (j := 1) rfl
 have HBW4 : Hid (Below w.heap.size w W4) := Lib.hid (HI2.out _ HS.out.bel)
 rcases hk5 with hk | hk | hk | hk | hk
 ·obtain ⟨hy1, hy2⟩ := hap_one HY.out hk
  go_wp2_with (first
   | ((with_reducible refine zH stIns _ rfl ⟨w.heap.size, 0, none⟩ (insCs (x) P) ?_ ?_ ?_ ?_ ?_); exact rfl; exact rfl; exact (HX2.out _ HS.out.bel).1.cells; exact rfl)
   | ((with_reducible refine zH stOrd' _ rfl ⟨(w.heap.size + 1), 5, none⟩ (zA e.order C c) ?_ ?_ ?_ ?_ ?_); exact rfl; exact rfl; exact (ord_evt (HXE.out _ HS.out.bel)); exact rfl))
  refine (raddF_any x P e.order C c B W4 (Nat.le_trans hB HBW4.out.size) (HA.out.below (HBW4.out.mono hB)) (HCC.out.below (HBW4.out.mono hB)) HFT.out.2.2.2.2.2 (lim_add e.order HLM.out)).mono ?_
  intro e5 w5 h5
  unfold AddOutF at h5
  rw [hy1, hy2] at h5
  obtain ⟨P1, rfl, hI1, b5⟩ := h5
  have HQZ := Lib.hid HS.out.bo.lt
  have HX5 : Hid (Blk w5 (w.heap.size + 2) 30 nilCs) := Lib.hid ((HX1.out.2.2.below (HS.out.bel.mono (by have := HQ1.out; omega))).below b5)
  have HB5 := Lib.hid (HBW4.out.trans (b5.mono HBW4.out.size))
  have HI5 := Lib.hid hI1
  have HZ4 : Hid (w.heap.size + 3 ≤ W4.heap.size) := Lib.hid (by have := HQZ.out; have := HQ1.out; omega)
  clear hI1 b5 hy1 hy2 e1
  go_wp2_with ((with_reducible refine zJ stIns rfl _ _ rfl (w.heap.size + 2) nilCs (insCs (y) P1) ?_ ?_ ?_ ?_ ?_ (zT _ _) ?_); exact rfl; exact rfl; exact HX5.out; exact rfl; exact rfl; intro wz k1 k2 k3 k4; have K := lib.h4 k1 k2 k3 k4; clear k1 k2 k3 k4)
  have HRz : Blk wz (w.heap.size + 2) 30 (insCs (y) P1) := K.out.1
  refine bodyPost_ret (v := .tuple #[.agg (insCs (y) P1).toArray, .int .i64 0]) (big.zK stIns Tryz.results18 rfl rfl HRz.cells rfl) rfl ?_
  rw [HRR.out]
  have hgz : w5.heap.size ≤ wz.heap.size := by rw [K.out.2.2.1]; exact Nat.le_refl _
  have hz4 := HZ4.out
  exact ⟨_, rfl, (InFr.keep HI5.out hgz (fun b hb hp => K.out.2.1 b (by rcases hp with h | h <;> omega))).weak (Nat.le_refl _) (by omega), HB5.out.trans (K.out.2.2.2.mono (by omega))⟩
 ·obtain ⟨j, o, hj, ho, rfl⟩ := hap_two HY.out hk
  have hjN : j < N := by rw [← HN.out]; exact (List.getElem?_eq_some_iff.1 ho).1
  have HO := Lib.hid ho
  obtain ⟨g, cap, hv, hgb, hglt⟩ := HS.out.ownO.form (by omega)
  obtain rfl : A3 = some ⟨g, 0, none⟩ := by injection hv
  have hgp : g < p2 := HS.out.sepO g rfl
  obtain ⟨C0, c0, hce, hof, hio, hth⟩ := HS.out.ordAt ho
  have x3 : W4.cell? ⟨q, 3, none⟩ = some (.slice (some ⟨g, 0, none⟩) N c3) := HS.out.bo.cell (j := 3) rfl
  have e2 : W4.cell? ⟨w.heap.size + 1, 2, none⟩ = some (.int .i64 j) := by rw [← hj]; exact (HXE.out _ HS.out.bel).cell (j := 2) rfl
  have y15 : W4.cell? ⟨g, j * 16 + 15, none⟩ = some (.bool o.off) := hce 15 _ rfl
  have f15 := HS.out.ownO.frozenAt (j * 16 + 15)
  have hj0 : (0 : Int) ≤ (j : Int) := by omega
  have hjn : (j : Int) < (N : Int) := by omega
  clear hce hof hio hth hj ho hv
  go_upto_region 22 with fail
  obtain ⟨W9, hW9⟩ : ∃ W, W4.setCell ⟨g, j * 16 + 15, none⟩ (.bool true) = W := ⟨_, rfl⟩
  rw [hW9]
  have HS9 : Hid (ApSt B w1 q N M A2 c2 CS2 x.types (some ⟨g, 0, none⟩) c3 (setM CS3 (j * 16 + 15) [.bool true]) (x.orders.set j { o with off := true }) p2 (((insCs x P).set 3 (.slice (some ⟨g, 0, none⟩) N c3)).set 2 (.slice A2 M c2)) W9) := Lib.hid (by
   rw [← hW9]
   refine HS.out.putO (o := j * 16 + 15) (vs := [.bool true]) hgb hgp (by rw [List.length_set]; exact HN.out) ?_
   refine EG.mod (r := oOrd) HS.out.elsO (by rw [HN.out]; exact hjN) (show 15 < 16 by decide) ?_
   obtain ⟨D, dd, hc, hi, hf⟩ := oOrd_at (HS.out.elsO.2 j o HO.out)
   rw [hc]
   exact oOrd_mk (t := { o with off := true }) hi hf)
  clear hW9 y15 f15 x3 e1 e2 HS
  have HB9 : Hid (Below w.heap.size w W9) := Lib.hid (HBW.out.trans (HS9.out.bel.mono HQW.out))
  have HX9 : Hid (Blk W9 (w.heap.size + 2) 30 nilCs) := Lib.hid (HX1.out.2.2.below (HS9.out.bel.mono (by have := HQ1.out; omega)))
  have HBO : Hid (Blk W9 q 30 (insCs ({ x with orders := x.orders.set j { o with off := true } }) ⟨P.a0, P.c0, P.a1, P.c1, A2, c2, some ⟨g, 0, none⟩, c3, P.a4, P.c4, P.a5, P.c5⟩)) := Lib.hid (by rw [← (insCs_two x P x.types (x.orders.set j { o with off := true }) A2 (some ⟨g, 0, none⟩) N c3 M c2 (by rw [List.length_set]; exact HN.out) HM.out)]; exact HS9.out.bo)
  have HFR : Hid (InFr W9 B (w.heap.size + 3) ({ x with orders := x.orders.set j { o with off := true } }) ⟨P.a0, P.c0, P.a1, P.c1, A2, c2, some ⟨g, 0, none⟩, c3, P.a4, P.c4, P.a5, P.c5⟩) := Lib.hid (ApSt.fr (P := P) (x := x) HS9.out HA.out hB (by have := HQ1.out; omega) HB9.out (by omega) (by omega) (fitF_arcs ((HA.out.below (HB9.out.mono hB)).arcs) (Nat.le_trans hB HB9.out.size) (fun b h => .inl h)) rfl)
  go_wp2_with (first
   | ((with_reducible refine zH stIns _ rfl ⟨q, 0, none⟩ (insCs ({ x with orders := x.orders.set j { o with off := true } }) ⟨P.a0, P.c0, P.a1, P.c1, A2, c2, some ⟨g, 0, none⟩, c3, P.a4, P.c4, P.a5, P.c5⟩) ?_ ?_ ?_ ?_ ?_); exact rfl; exact rfl; exact HBO.out.cells; exact rfl)
   | ((with_reducible refine zJ stIns rfl _ _ rfl (w.heap.size + 2) nilCs (insCs ({ x with orders := x.orders.set j { o with off := true } }) ⟨P.a0, P.c0, P.a1, P.c1, A2, c2, some ⟨g, 0, none⟩, c3, P.a4, P.c4, P.a5, P.c5⟩) ?_ ?_ ?_ ?_ ?_ (zT _ _) ?_); exact rfl; exact rfl; exact HX9.out; exact rfl; exact rfl; intro wz k1 k2 k3 k4; have K := lib.h4 k1 k2 k3 k4; clear k1 k2 k3 k4))
  have HRz : Blk wz (w.heap.size + 2) 30 (insCs ({ x with orders := x.orders.set j { o with off := true } }) ⟨P.a0, P.c0, P.a1, P.c1, A2, c2, some ⟨g, 0, none⟩, c3, P.a4, P.c4, P.a5, P.c5⟩) := K.out.1
  refine bodyPost_ret (v := .tuple #[.agg (insCs ({ x with orders := x.orders.set j { o with off := true } }) ⟨P.a0, P.c0, P.a1, P.c1, A2, c2, some ⟨g, 0, none⟩, c3, P.a4, P.c4, P.a5, P.c5⟩).toArray, .int .i64 0]) (big.zK stIns Tryz.results18 rfl rfl HRz.cells rfl) rfl ?_
  rw [HRR.out]
  have hgz : W9.heap.size ≤ wz.heap.size := by rw [K.out.2.2.1]; exact Nat.le_refl _
  exact ⟨_, rfl, (InFr.keep HFR.out hgz (fun b hb hp => K.out.2.1 b (by rcases hp with h | h <;> omega))).weak (Nat.le_refl _) (by omega), HB9.out.trans (K.out.2.2.2.mono (by omega))⟩
 ·obtain ⟨N', rfl, hN'⟩ := hap_three HY.out hk
  have HSL := Lib.hid hN'
  have HPL := Lib.hid (slw_places hN')
  clear hN'
  have x0 := (HX2.out _ HS.out.bel).1.cell (j := 0) rfl
  have x1 := (HX2.out _ HS.out.bel).1.cell (j := 1) rfl
  have e0 := (HXE.out _ HS.out.bel).cell (j := 0) rfl
  have e2 := (HXE.out _ HS.out.bel).cell (j := 2) rfl
  have e3 := (HXE.out _ HS.out.bel).cell (j := 3) rfl
  have e4 := (HXE.out _ HS.out.bel).cell (j := 4) rfl
  go_wp2_with fail
  refine (rslower_any x.net P.a0 P.c0 P.a1 P.c1 e.a e.b e.at_ e.n B W4 (Nat.le_trans hB HBW4.out.size) (HA.out.below (HBW4.out.mono hB)).arcs (by have := HLM.out.arcs; omega) (slow_of HF.out)).mono ?_
  rw [HSL.out]
  rintro e5 w5 ⟨A9, c9, rfl, hrow, b5⟩
  have HROW := Lib.hid hrow
  clear hrow x0 x1 e0 e2 e3 e4
  have HS5 := Lib.hid (HS.out.below b5)
  have HB5 := Lib.hid (HBW4.out.trans (b5.mono HBW4.out.size))
  have HQZ := Lib.hid HS.out.bo.lt
  have HZ5 := Lib.hid b5.size
  clear b5 HS e1
  go_upto_region 14 with fail
  obtain ⟨W5, hW5⟩ : ∃ W, w5.alloc (.cells #[.slice P.a0 N'.places.length P.c0, .slice A9 N'.arcs.length c9] 25) = W := ⟨_, rfl⟩
  obtain ⟨nb, hnb⟩ : ∃ n, w5.heap.size = n := ⟨_, rfl⟩
  have bw5 : Below w5.heap.size w5 W5 := by rw [← hW5]; exact (Below.refl _ _).alloc (Nat.le_refl _) _
  have hnw : Blk W5 nb 25 [.slice P.a0 N'.places.length P.c0, .slice A9 N'.arcs.length c9] := by rw [← hW5, ← hnb]; exact Blk.new w5 _ _
  rw [hW5, hnb]
  have HS6 := Lib.hid (HS5.out.below bw5)
  have HK5 : Hid (∀ b, b < w5.heap.size → W5.heap[b]? = w5.heap[b]?) := Lib.hid (fun b h => bw5.block b h)
  have HZ6 := Lib.hid bw5.size
  have n0 := hnw.cell (j := 0) rfl
  have n1 := hnw.cell (j := 1) rfl
  have q0 : W5.cell? ⟨q, 0, none⟩ = some (.slice P.a0 x.net.places.length P.c0) := HS6.out.bo.cell (j := 0) rfl
  have q1 : W5.cell? ⟨q, 1, none⟩ = some (.slice P.a1 x.net.arcs.length P.c1) := HS6.out.bo.cell (j := 1) rfl
  have g0 := HS6.out.bo.frozen 0
  have g1 := HS6.out.bo.frozen 1
  clear hW5 bw5 hnw HS5
  go_upto_region 22 with fail
  obtain ⟨W9, hW9⟩ : ∃ W, (W5.setCell ⟨q, 0, none⟩ (.slice P.a0 N'.places.length P.c0)).setCell ⟨q, 1, none⟩ (.slice A9 N'.arcs.length c9) = W := ⟨_, rfl⟩
  rw [hW9]
  have HS9 : Hid (ApSt B w1 q N M A2 c2 CS2 x.types A3 c3 CS3 x.orders p2 (((((insCs x P).set 3 (.slice A3 N c3)).set 2 (.slice A2 M c2)).set 0 (.slice P.a0 N'.places.length P.c0)).set 1 (.slice A9 N'.arcs.length c9)) W9) := Lib.hid (by
   rw [← hW9]
   exact (HS6.out.box 0 _).box 1 _)
  have HK9 : Hid (∀ b, b ≠ q → W9.heap[b]? = W5.heap[b]?) := Lib.hid (fun b hb => by rw [← hW9]; exact (Below.heap_setCell _ ⟨q, 1, none⟩ _ b hb).trans (Below.heap_setCell _ ⟨q, 0, none⟩ _ b hb))
  have HZ9 : Hid (W9.heap.size = W5.heap.size) := Lib.hid (by rw [← hW9]; simp [World.setCell])
  clear hW9 n0 n1 q0 q1 g0 g1 HS6 hnb
  have HB9 : Hid (Below w.heap.size w W9) := Lib.hid (HBW.out.trans (HS9.out.bel.mono HQW.out))
  have HX9 : Hid (Blk W9 (w.heap.size + 2) 30 nilCs) := Lib.hid (HX1.out.2.2.below (HS9.out.bel.mono (by have := HQ1.out; omega)))
  have HBO : Hid (Blk W9 q 30 (insCs ({ x with net := N' }) ⟨P.a0, P.c0, A9, c9, A2, c2, A3, c3, P.a4, P.c4, P.a5, P.c5⟩)) := Lib.hid (by rw [← (insCs_three x P N' A2 A3 A9 N c3 M c2 c9 HN.out HM.out)]; exact HS9.out.bo)
  have HFR : Hid (InFr W9 B (w.heap.size + 3) ({ x with net := N' }) ⟨P.a0, P.c0, A9, c9, A2, c2, A3, c3, P.a4, P.c4, P.a5, P.c5⟩) := Lib.hid (ApSt.fr (P := P) (x := x) HS9.out HA.out hB (by have := HQ1.out; omega) HB9.out (by omega) (by omega) (HROW.out.keep (by rw [HZ9.out]; exact HZ6.out) (fun b hb hp => ⟨by have := HQZ.out; have := HQ1.out; rcases hp with h | h <;> omega, (HK9.out b (by have := HQZ.out; have := HQ1.out; rcases hp with h | h <;> omega)).trans (HK5.out b hb)⟩)) HPL.out)
  go_wp2_with (first
   | ((with_reducible refine zH stIns _ rfl ⟨q, 0, none⟩ (insCs ({ x with net := N' }) ⟨P.a0, P.c0, A9, c9, A2, c2, A3, c3, P.a4, P.c4, P.a5, P.c5⟩) ?_ ?_ ?_ ?_ ?_); exact rfl; exact rfl; exact HBO.out.cells; exact rfl)
   | ((with_reducible refine zJ stIns rfl _ _ rfl (w.heap.size + 2) nilCs (insCs ({ x with net := N' }) ⟨P.a0, P.c0, A9, c9, A2, c2, A3, c3, P.a4, P.c4, P.a5, P.c5⟩) ?_ ?_ ?_ ?_ ?_ (zT _ _) ?_); exact rfl; exact rfl; exact HX9.out; exact rfl; exact rfl; intro wz k1 k2 k3 k4; have K := lib.h4 k1 k2 k3 k4; clear k1 k2 k3 k4))
  have HRz : Blk wz (w.heap.size + 2) 30 (insCs ({ x with net := N' }) ⟨P.a0, P.c0, A9, c9, A2, c2, A3, c3, P.a4, P.c4, P.a5, P.c5⟩) := K.out.1
  refine bodyPost_ret (v := .tuple #[.agg (insCs ({ x with net := N' }) ⟨P.a0, P.c0, A9, c9, A2, c2, A3, c3, P.a4, P.c4, P.a5, P.c5⟩).toArray, .int .i64 0]) (big.zK stIns Tryz.results18 rfl rfl HRz.cells rfl) rfl ?_
  rw [HRR.out]
  have hgz : W9.heap.size ≤ wz.heap.size := by rw [K.out.2.2.1]; exact Nat.le_refl _
  exact ⟨_, rfl, (InFr.keep HFR.out hgz (fun b hb hp => K.out.2.1 b (by rcases hp with h | h <;> omega))).weak (Nat.le_refl _) (by omega), HB9.out.trans (K.out.2.2.2.mono (by omega))⟩
 ·obtain ⟨j, t, hj, ho, hc0, rfl⟩ := hap_four HY.out hk
  have hjM : j < M := by rw [← HM.out]; exact (List.getElem?_eq_some_iff.1 ho).1
  have HO := Lib.hid ho
  obtain ⟨hcb1, hcb2⟩ := cnt_of HF.out t (List.mem_of_getElem? ho)
  obtain ⟨g, cap, hv, hgb, hglt⟩ := HS.out.ownT.form (by omega)
  obtain rfl : A2 = some ⟨g, 0, none⟩ := by injection hv
  obtain ⟨C0, c0, hce, hof, hio, hth⟩ := HS.out.tyAt ho
  have x2 : W4.cell? ⟨q, 2, none⟩ = some (.slice (some ⟨g, 0, none⟩) M c2) := HS.out.bo.cell (j := 2) rfl
  have e2 : W4.cell? ⟨w.heap.size + 1, 2, none⟩ = some (.int .i64 j) := by rw [← hj]; exact (HXE.out _ HS.out.bel).cell (j := 2) rfl
  have y1 : W4.cell? ⟨g, j * 14 + 1, none⟩ = some (.int .i64 t.count) := hce 1 _ rfl
  have f1 := HS.out.ownT.frozenAt (j * 14 + 1)
  have hj0 : (0 : Int) ≤ (j : Int) := by omega
  have hjn : (j : Int) < (M : Int) := by omega
  clear hce hof hio hth hj ho hv
  go_upto_region 22 with fail
  obtain ⟨W9, hW9⟩ : ∃ W, W4.setCell ⟨g, j * 14 + 1, none⟩ (.int .i64 (t.count - 1)) = W := ⟨_, rfl⟩
  rw [hW9]
  have HS9 : Hid (ApSt B w1 q N M (some ⟨g, 0, none⟩) c2 (setM CS2 (j * 14 + 1) [.int .i64 (t.count - 1)]) (x.types.set j { t with count := t.count - 1 }) A3 c3 CS3 x.orders p2 (((insCs x P).set 3 (.slice A3 N c3)).set 2 (.slice (some ⟨g, 0, none⟩) M c2)) W9) := Lib.hid (by
   rw [← hW9]
   refine HS.out.putT (o := j * 14 + 1) (vs := [.int .i64 (t.count - 1)]) hgb (by rw [List.length_set]; exact HM.out) ?_
   refine EG.mod (r := oTy) HS.out.elsT (by rw [HM.out]; exact hjM) (show 1 < 14 by decide) ?_
   obtain ⟨D, dd, hc, hi, hf⟩ := oTy_at (HS.out.elsT.2 j t HO.out)
   rw [hc]
   refine oTy_mk (t := { t with count := t.count - 1 }) hi ?_
   unfold TyFits at hf ⊢
   simp only
   omega)
  clear hW9 y1 f1 x2 e1 e2 HS
  have HB9 : Hid (Below w.heap.size w W9) := Lib.hid (HBW.out.trans (HS9.out.bel.mono HQW.out))
  have HX9 : Hid (Blk W9 (w.heap.size + 2) 30 nilCs) := Lib.hid (HX1.out.2.2.below (HS9.out.bel.mono (by have := HQ1.out; omega)))
  have HBO : Hid (Blk W9 q 30 (insCs ({ x with types := x.types.set j { t with count := t.count - 1 } }) ⟨P.a0, P.c0, P.a1, P.c1, some ⟨g, 0, none⟩, c2, A3, c3, P.a4, P.c4, P.a5, P.c5⟩)) := Lib.hid (by rw [← (insCs_two x P (x.types.set j { t with count := t.count - 1 }) x.orders (some ⟨g, 0, none⟩) A3 N c3 M c2 HN.out (by rw [List.length_set]; exact HM.out))]; exact HS9.out.bo)
  have HFR : Hid (InFr W9 B (w.heap.size + 3) ({ x with types := x.types.set j { t with count := t.count - 1 } }) ⟨P.a0, P.c0, P.a1, P.c1, some ⟨g, 0, none⟩, c2, A3, c3, P.a4, P.c4, P.a5, P.c5⟩) := Lib.hid (ApSt.fr (P := P) (x := x) HS9.out HA.out hB (by have := HQ1.out; omega) HB9.out (by omega) (by omega) (fitF_arcs ((HA.out.below (HB9.out.mono hB)).arcs) (Nat.le_trans hB HB9.out.size) (fun b h => .inl h)) rfl)
  go_wp2_with (first
   | ((with_reducible refine zH stIns _ rfl ⟨q, 0, none⟩ (insCs ({ x with types := x.types.set j { t with count := t.count - 1 } }) ⟨P.a0, P.c0, P.a1, P.c1, some ⟨g, 0, none⟩, c2, A3, c3, P.a4, P.c4, P.a5, P.c5⟩) ?_ ?_ ?_ ?_ ?_); exact rfl; exact rfl; exact HBO.out.cells; exact rfl)
   | ((with_reducible refine zJ stIns rfl _ _ rfl (w.heap.size + 2) nilCs (insCs ({ x with types := x.types.set j { t with count := t.count - 1 } }) ⟨P.a0, P.c0, P.a1, P.c1, some ⟨g, 0, none⟩, c2, A3, c3, P.a4, P.c4, P.a5, P.c5⟩) ?_ ?_ ?_ ?_ ?_ (zT _ _) ?_); exact rfl; exact rfl; exact HX9.out; exact rfl; exact rfl; intro wz k1 k2 k3 k4; have K := lib.h4 k1 k2 k3 k4; clear k1 k2 k3 k4))
  have HRz : Blk wz (w.heap.size + 2) 30 (insCs ({ x with types := x.types.set j { t with count := t.count - 1 } }) ⟨P.a0, P.c0, P.a1, P.c1, some ⟨g, 0, none⟩, c2, A3, c3, P.a4, P.c4, P.a5, P.c5⟩) := K.out.1
  refine bodyPost_ret (v := .tuple #[.agg (insCs ({ x with types := x.types.set j { t with count := t.count - 1 } }) ⟨P.a0, P.c0, P.a1, P.c1, some ⟨g, 0, none⟩, c2, A3, c3, P.a4, P.c4, P.a5, P.c5⟩).toArray, .int .i64 0]) (big.zK stIns Tryz.results18 rfl rfl HRz.cells rfl) rfl ?_
  rw [HRR.out]
  have hgz : W9.heap.size ≤ wz.heap.size := by rw [K.out.2.2.1]; exact Nat.le_refl _
  exact ⟨_, rfl, (InFr.keep HFR.out hgz (fun b hb hp => K.out.2.1 b (by rcases hp with h | h <;> omega))).weak (Nat.le_refl _) (by omega), HB9.out.trans (K.out.2.2.2.mono (by omega))⟩
 ·obtain ⟨j, o, hj, ho, hsb, rfl⟩ := hap_five HY.out hk
  have hjN : j < N := by rw [← HN.out]; exact (List.getElem?_eq_some_iff.1 ho).1
  have HO := Lib.hid ho
  obtain ⟨hg1, hg2⟩ := good_of HF.out o (List.mem_of_getElem? ho)
  obtain ⟨g, cap, hv, hgb, hglt⟩ := HS.out.ownO.form (by omega)
  obtain rfl : A3 = some ⟨g, 0, none⟩ := by injection hv
  have hgp : g < p2 := HS.out.sepO g rfl
  obtain ⟨ad, cs0, hAd, hadb, hat, hcs⟩ := ((HA.out.below (HBW4.out.mono hB)).orders).elem ho
  obtain ⟨D, dd, rfl, hI, hf⟩ := rOrd_at hat
  have x3 : W4.cell? ⟨w.heap.size, 3, none⟩ = some (.slice (some ad) N P.c3) := by rw [← HN.out, ← hAd]; exact (HX2.out _ HS.out.bel).1.cell (j := 3) rfl
  have e2 : W4.cell? ⟨w.heap.size + 1, 2, none⟩ = some (.int .i64 j) := by rw [← hj]; exact (HXE.out _ HS.out.bel).cell (j := 2) rfl
  have e4 : W4.cell? ⟨w.heap.size + 1, 4, none⟩ = some (.int .i64 e.n) := (HXE.out _ HS.out.bel).cell (j := 4) rfl
  have hj0 : (0 : Int) ≤ (j : Int) := by omega
  have hjn : (j : Int) < (N : Int) := by omega
  have hwq : w.heap.size + 3 ≤ W4.heap.size := by have := HS.out.bo.lt; have := HQ1.out; omega
  have had1 : (ad.add (j * 16)).block < W4.heap.size := by rw [ad_block]; have := HBW4.out.size; omega
  have hcd : CellsAt W4 (ad.add (j * 16)) (zA o D dd) := hcs
  have HSS : Hid (∀ w', Below W4.heap.size W4 w' → w'.cell? ⟨w.heap.size, 3, none⟩ = some (.slice (some ad) N P.c3) ∧ w'.cell? ⟨w.heap.size + 1, 2, none⟩ = some (.int .i64 j) ∧ w'.cell? ⟨w.heap.size + 1, 4, none⟩ = some (.int .i64 e.n) ∧ CellsAt w' (ad.add (j * 16)) (zA o D dd)) := Lib.hid (fun w' h' => ⟨(h'.cell (p := ⟨w.heap.size, 3, none⟩) (by show w.heap.size < W4.heap.size; omega)).trans x3, (h'.cell (p := ⟨w.heap.size + 1, 2, none⟩) (by show w.heap.size + 1 < W4.heap.size; omega)).trans e2, (h'.cell (p := ⟨w.heap.size + 1, 4, none⟩) (by show w.heap.size + 1 < W4.heap.size; omega)).trans e4, hcd.below h' had1⟩)
  have HSH : Hid (∀ w, Calls Tryz.prog 51 #[.agg (zA o D dd).toArray, .int .i64 e.n] w fun e1 w' => e1 = .returned (.tuple #[.agg (zA (shfO o e.n) D dd).toArray, .int .i64 0]) ∧ Below w.heap.size w w') := Lib.hid (fun w => by
   have h := rshifted_any o D dd e.n w hg1 hg2 HFT.out.2.2.2.2.1
   unfold rshV at h
   rw [if_pos hsb] at h
   exact h)
  obtain ⟨o', ho'⟩ : ∃ o', shfO o e.n = o' := ⟨_, rfl⟩
  have HOF : Hid (yL o' ∧ yM W4 (fun b => b < B) D o'.load) := Lib.hid (by
   rw [← ho']
   have h5 := shfR_fits (n := e.n) hg1 hg2 hf
   rw [shfR_ok hsb] at h5
   exact ⟨h5, yM.low hI (Nat.le_trans hB HBW4.out.size) (fun b h => h)⟩)
  rw [ho'] at HSH HRR
  clear hg1 hg2 hat hcs hI hf hcd ho hj hsb hv hAd x3 e2 e4
  have hal : Below W4.heap.size W4 (W4.alloc (.cells gen.zOrd.toArray 35)) := (Below.refl _ _).alloc (Nat.le_refl _) _
  have HAL := Lib.hid hal
  have HNA : Hid (Blk (W4.alloc (.cells gen.zOrd.toArray 35)) W4.heap.size 35 gen.zOrd) := Lib.hid (Blk.new W4 _ _)
  have B44 := Lib.hid (Below.refl W4.heap.size W4)
  clear hal
  go_upto_region 20 with fail
  clear hk
  go_cut [10, 11] (fun v _ wx => ∃ gb, v = .pointer (some ⟨gb, 0, none⟩) ∧ Blk wx gb 35 (zA o' D dd) ∧ Below W4.heap.size W4 wx)
  case first => as_aux_lemma =>
   (refine wp_region_held_drew (S := (fun w' => w'.cell? ⟨w.heap.size, 3, none⟩ = some (.slice (some ad) N P.c3) ∧ w'.cell? ⟨w.heap.size + 1, 2, none⟩ = some (.int .i64 j) ∧ w'.cell? ⟨w.heap.size + 1, 4, none⟩ = some (.int .i64 e.n) ∧ CellsAt w' (ad.add (j * 16)) (zA o D dd))) (by kernel_rfl) ?_ (fun hHeld => ?_))
   ·exact HSS.out _ B44.out.drew
   (refine lib.tk 0 ?_ rfl (by kernel_rfl) (fun _ _ _ h => h) ?_ (by assumption) ?_; rotate_left; (focus (intro w hSw; (try dsimp only at hSw); go_simp; all_goals with_reducible rfl)); (try simp only [lib.hly]))
   (refine lib.tk 1 ?_ rfl (by kernel_rfl) (fun _ _ _ h => h) ?_ (by assumption) ?_; rotate_left; (focus (intro w hSw; (try dsimp only at hSw); go_simp; all_goals with_reducible rfl)); (try simp only [lib.hly]))
   (refine lib.tk 2 ?_ rfl (by kernel_rfl) (fun _ _ _ h => h) ?_ (by assumption) ?_; rotate_left; (focus (intro w hSw; (try dsimp only at hSw); go_simp; all_goals with_reducible rfl)); (try simp only [lib.hly]))
   (refine lib.tk 3 ?_ rfl (by kernel_rfl) (fun _ _ _ h => h) ?_ (by assumption) ?_; rotate_left; (focus (intro w hSw; (try dsimp only at hSw); go_simp; all_goals with_reducible rfl)); (try simp only [lib.hly]))
   (refine lib.tk 4 ?_ rfl (by kernel_rfl) (fun _ _ _ h => h) ?_ (by assumption) ?_; rotate_left; (focus (intro w hSw; (try dsimp only at hSw); go_simp; all_goals with_reducible rfl)); (try simp only [lib.hly]))
   (refine lib.tk 6 ?_ rfl (by kernel_rfl) (fun _ _ _ h => h) ?_ (by assumption) ?_; rotate_left; (focus (intro w hSw; (try dsimp only at hSw); go_simp; all_goals with_reducible rfl)); (try simp only [lib.hly]))
   (refine lib.tk 7 ?_ rfl (by kernel_rfl) (fun _ _ _ h => h) ?_ (by assumption) ?_; rotate_left; (focus (intro w hSw; (try dsimp only at hSw); go_simp; all_goals with_reducible rfl)); (try simp only [lib.hly]))
   (refine lib.tk 5 _ rfl (by kernel_rfl) (fun _ _ _ h => h) (fun _ hSw => yG stOrd' rfl rfl hSw.2.2.2 rfl) (by assumption) ?_; (try simp only [lib.hly]))
   refine wpAnyH_ready (rs := [8, 12]) (by kernel_rfl) (by simp) ?_
   refine AllReadyH.cons rfl (fun K hK => ?_) (AllReadyH.cons rfl (fun K hK => ?_) AllReadyH.nil)
   ·go_simp
    refine (HSH.out _).mono ?_
    rintro e5 w5 ⟨rfl, b5⟩
    have HB5 : Hid (Below W4.heap.size W4 w5) := Lib.hid ((B44.out.drew).trans b5)
    clear b5
    refine hK.out _ _ (HSS.out _ HB5.out) (fun hHeld => ?_)
    clear hK K
    (try simp only [lib.hly])
    (refine lib.tk 9 ?_ rfl (by kernel_rfl) (fun _ _ _ h => h) ?_ (by assumption) ?_; rotate_left; (focus (intro w hSw; (try dsimp only at hSw); go_simp; all_goals with_reducible rfl)); (try simp only [lib.hly]))
    (refine lib.tk 10 ?_ rfl (by kernel_rfl) (fun _ _ _ h => h) ?_ (by assumption) ?_; rotate_left; (focus (intro w hSw; (try dsimp only at hSw); go_simp; all_goals with_reducible rfl)); (try simp only [lib.hly]))
    (refine lib.tk 11 ?_ rfl (by kernel_rfl) (fun _ _ _ h => h) ?_ (by assumption) ?_; rotate_left; (focus (intro w hSw; (try dsimp only at hSw); go_simp; all_goals with_reducible rfl)); (try simp only [lib.hly]))
    (refine wpAnyH_ready (rs := [12]) (by kernel_rfl) (by simp) ?_; refine AllReadyH.cons rfl (fun K hK => ?_) AllReadyH.nil)
    go_simp
    have HB6 : Hid (Below W4.heap.size W4 (w5.alloc (.cells gen.zOrd.toArray 35))) := Lib.hid (HB5.out.alloc HB5.out.size _)
    have HN6 : Hid (Blk (w5.alloc (.cells gen.zOrd.toArray 35)) w5.heap.size 35 gen.zOrd) := Lib.hid (Blk.new w5 _ _)
    have HZ5 := Lib.hid HB5.out.size
    refine hK.out _ _ (HSS.out _ HB6.out) (fun hHeld => ?_)
    clear hK K
    (try simp only [lib.hly])
    (refine wpAnyH_ready (rs := [13]) (by kernel_rfl) (by simp) ?_; refine AllReadyH.cons rfl (fun K hK => ?_) AllReadyH.nil)
    refine yE stOrd' rfl _ _ rfl w5.heap.size gen.zOrd (zA o' D dd) rfl rfl HN6.out rfl rfl (zR _ _ _) ?_
    intro w8 k1 k2 k3 k4
    have HB8 : Hid (Below W4.heap.size W4 w8) := Lib.hid (HB6.out.trans (k4.mono HZ5.out))
    have HK8 := Lib.hid k1
    clear k1 k2 k3 k4
    refine hK.out _ _ (HSS.out _ HB8.out) (fun hHeld => ?_)
    clear hK K
    (try simp only [lib.hly])
    (refine lib.tk 14 ?_ rfl (by kernel_rfl) (fun _ _ _ h => h) ?_ (by assumption) ?_; rotate_left; (focus (intro w hSw; (try dsimp only at hSw); go_simp; all_goals with_reducible rfl)); (try simp only [lib.hly]))
    (refine wpAnyH_done (by kernel_rfl) ?_ _)
    go_wp2
    go_meet
    exact ⟨_, rfl, HK8.out, HB8.out⟩
   ·go_simp
    refine hK.out _ _ (HSS.out _ HAL.out.drew) (fun hHeld => ?_)
    clear hK K
    (try simp only [lib.hly])
    (refine wpAnyH_ready (rs := [8]) (by kernel_rfl) (by simp) ?_; refine AllReadyH.cons rfl (fun K hK => ?_) AllReadyH.nil)
    go_simp
    refine (HSH.out _).mono ?_
    rintro e5 w5 ⟨rfl, b5⟩
    have HB5 : Hid (Below W4.heap.size W4 w5) := Lib.hid (HAL.out.drew.trans (b5.mono HAL.out.size))
    have HN6 : Hid (Blk w5 W4.heap.size 35 gen.zOrd) := Lib.hid ((HNA.out.below (Below.refl _ _).drew).below b5)
    clear b5
    refine hK.out _ _ (HSS.out _ HB5.out) (fun hHeld => ?_)
    clear hK K
    (try simp only [lib.hly])
    (refine lib.tk 9 ?_ rfl (by kernel_rfl) (fun _ _ _ h => h) ?_ (by assumption) ?_; rotate_left; (focus (intro w hSw; (try dsimp only at hSw); go_simp; all_goals with_reducible rfl)); (try simp only [lib.hly]))
    (refine lib.tk 10 ?_ rfl (by kernel_rfl) (fun _ _ _ h => h) ?_ (by assumption) ?_; rotate_left; (focus (intro w hSw; (try dsimp only at hSw); go_simp; all_goals with_reducible rfl)); (try simp only [lib.hly]))
    (refine lib.tk 11 ?_ rfl (by kernel_rfl) (fun _ _ _ h => h) ?_ (by assumption) ?_; rotate_left; (focus (intro w hSw; (try dsimp only at hSw); go_simp; all_goals with_reducible rfl)); (try simp only [lib.hly]))
    (refine wpAnyH_ready (rs := [13]) (by kernel_rfl) (by simp) ?_; refine AllReadyH.cons rfl (fun K hK => ?_) AllReadyH.nil)
    refine yE stOrd' rfl _ _ rfl W4.heap.size gen.zOrd (zA o' D dd) rfl rfl HN6.out rfl rfl (zR _ _ _) ?_
    intro w8 k1 k2 k3 k4
    have HB8 : Hid (Below W4.heap.size W4 w8) := Lib.hid (HB5.out.trans k4)
    have HK8 := Lib.hid k1
    clear k1 k2 k3 k4
    refine hK.out _ _ (HSS.out _ HB8.out) (fun hHeld => ?_)
    clear hK K
    (try simp only [lib.hly])
    (refine lib.tk 14 ?_ rfl (by kernel_rfl) (fun _ _ _ h => h) ?_ (by assumption) ?_; rotate_left; (focus (intro w hSw; (try dsimp only at hSw); go_simp; all_goals with_reducible rfl)); (try simp only [lib.hly]))
    (refine wpAnyH_done (by kernel_rfl) ?_ _)
    go_wp2
    go_meet
    exact ⟨_, rfl, HK8.out, HB8.out⟩
  obtain ⟨gb, rfl, hgk, b8⟩ := hcut
  have HGK := Lib.hid hgk
  have HS8 := Lib.hid (HS.out.below b8)
  have HO8 : Hid (yM wc (fun b => b < B) D o'.load) := Lib.hid (zU HOF.out.2 b8.size (fun b hb hp => ⟨hp, b8.block b hb⟩))
  have x3 : wc.cell? ⟨q, 3, none⟩ = some (.slice (some ⟨g, 0, none⟩) N c3) := HS8.out.bo.cell (j := 3) rfl
  have e2 := (HSS.out _ b8).2.1
  clear hgk b8 HS HSS HSH HAL HNA B44 e1 had1
  go_upto_region 22 with (first
   | ((with_reducible refine zH stOrd' _ rfl ⟨gb, 0, none⟩ (zA o' D dd) ?_ ?_ ?_ ?_ ?_); exact rfl; exact rfl; exact HGK.out.cells; exact rfl)
   | ((with_reducible refine off.yJ stOrd' rfl _ _ rfl g (j * 16) (zA o' D dd) ?_ ?_ ?_ ?_ ?_ ?_); exact rfl; exact rfl; exact (own_there HS8.out.ownO (by have h1 := HS8.out.ownO.1; omega)); exact rfl; exact (zR _ _ _)))
  obtain ⟨W9, hW9⟩ : ∃ W, wc.setCells g (j * 16) (zA o' D dd) = W := ⟨_, rfl⟩
  rw [hW9]
  have HS9 : Hid (ApSt B w1 q N M A2 c2 CS2 x.types (some ⟨g, 0, none⟩) c3 (setM CS3 (j * 16) (zA o' D dd)) (x.orders.set j o') p2 (((insCs x P).set 3 (.slice (some ⟨g, 0, none⟩) N c3)).set 2 (.slice A2 M c2)) W9) := Lib.hid (by
   rw [← hW9]
   refine HS8.out.putO hgb hgp (by rw [List.length_set]; exact HN.out) ?_
   exact EG.put (r := oOrd) HS8.out.elsO (by rw [HN.out]; exact hjN) rfl (oOrd_mk (t := o') HO8.out HOF.out.1))
  clear hW9 x3 e2 HS8 HGK
  have HB9 : Hid (Below w.heap.size w W9) := Lib.hid (HBW.out.trans (HS9.out.bel.mono HQW.out))
  have HX9 : Hid (Blk W9 (w.heap.size + 2) 30 nilCs) := Lib.hid (HX1.out.2.2.below (HS9.out.bel.mono (by have := HQ1.out; omega)))
  have HBO : Hid (Blk W9 q 30 (insCs ({ x with orders := x.orders.set j o' }) ⟨P.a0, P.c0, P.a1, P.c1, A2, c2, some ⟨g, 0, none⟩, c3, P.a4, P.c4, P.a5, P.c5⟩)) := Lib.hid (by rw [← (insCs_two x P x.types (x.orders.set j o') A2 (some ⟨g, 0, none⟩) N c3 M c2 (by rw [List.length_set]; exact HN.out) HM.out)]; exact HS9.out.bo)
  have HFR : Hid (InFr W9 B (w.heap.size + 3) ({ x with orders := x.orders.set j o' }) ⟨P.a0, P.c0, P.a1, P.c1, A2, c2, some ⟨g, 0, none⟩, c3, P.a4, P.c4, P.a5, P.c5⟩) := Lib.hid (ApSt.fr (P := P) (x := x) HS9.out HA.out hB (by have := HQ1.out; omega) HB9.out (by omega) (by omega) (fitF_arcs ((HA.out.below (HB9.out.mono hB)).arcs) (Nat.le_trans hB HB9.out.size) (fun b h => .inl h)) rfl)
  go_wp2_with (first
   | ((with_reducible refine zH stIns _ rfl ⟨q, 0, none⟩ (insCs ({ x with orders := x.orders.set j o' }) ⟨P.a0, P.c0, P.a1, P.c1, A2, c2, some ⟨g, 0, none⟩, c3, P.a4, P.c4, P.a5, P.c5⟩) ?_ ?_ ?_ ?_ ?_); exact rfl; exact rfl; exact HBO.out.cells; exact rfl)
   | ((with_reducible refine zJ stIns rfl _ _ rfl (w.heap.size + 2) nilCs (insCs ({ x with orders := x.orders.set j o' }) ⟨P.a0, P.c0, P.a1, P.c1, A2, c2, some ⟨g, 0, none⟩, c3, P.a4, P.c4, P.a5, P.c5⟩) ?_ ?_ ?_ ?_ ?_ (zT _ _) ?_); exact rfl; exact rfl; exact HX9.out; exact rfl; exact rfl; intro wz k1 k2 k3 k4; have K := lib.h4 k1 k2 k3 k4; clear k1 k2 k3 k4))
  have HRz : Blk wz (w.heap.size + 2) 30 (insCs ({ x with orders := x.orders.set j o' }) ⟨P.a0, P.c0, P.a1, P.c1, A2, c2, some ⟨g, 0, none⟩, c3, P.a4, P.c4, P.a5, P.c5⟩) := K.out.1
  refine bodyPost_ret (v := .tuple #[.agg (insCs ({ x with orders := x.orders.set j o' }) ⟨P.a0, P.c0, P.a1, P.c1, A2, c2, some ⟨g, 0, none⟩, c3, P.a4, P.c4, P.a5, P.c5⟩).toArray, .int .i64 0]) (big.zK stIns Tryz.results18 rfl rfl HRz.cells rfl) rfl ?_
  rw [HRR.out]
  have hgz : W9.heap.size ≤ wz.heap.size := by rw [K.out.2.2.1]; exact Nat.le_refl _
  exact ⟨_, rfl, (InFr.keep HFR.out hgz (fun b hb hp => K.out.2.1 b (by rcases hp with h | h <;> omega))).weak (Nat.le_refl _) (by omega), HB9.out.trans (K.out.2.2.2.mono (by omega))⟩
end Go.Proofs.YtofabhenmplkoaaGreatDoor.evt

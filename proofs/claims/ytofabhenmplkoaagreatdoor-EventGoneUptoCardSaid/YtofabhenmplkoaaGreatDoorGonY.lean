/- What an order needs; the orders that a cancellation removes. Both sides. -/
import Derived.Test.YtofabhenmplkoaaGreatDoorGonX
set_option linter.unusedVariables false
set_option linter.unusedSimpArgs false
namespace Go.Proofs.YtofabhenmplkoaaGreatDoor.gon
open Go.RowKit
open lib rd typ app big ord gen evt
open ins hiding zOrd bOrd
theorem gand1 (n : Int) : bits .and .i64 n 1 = n % 2 := by
 have h1 : (BitVec.ofInt 64 1).toNat = 2 ^ 1 - 1 := by decide
 have key : (BitVec.ofInt 64 n &&& BitVec.ofInt 64 1).toNat = (n % ((2 ^ 64 : Nat) : Int)).toNat % 2 ^ 1 := by
  rw [BitVec.toNat_and, BitVec.toNat_ofInt, h1, Nat.and_two_pow_sub_one_eq_mod]
 show IntKind.i64.wrap ((BitVec.ofInt 64 n &&& BitVec.ofInt 64 1).toNat : Nat) = n % 2
 rw [key, IntKind.wrap_i64]
 omega
theorem shl_natW {a : Nat} (h : a ≤ 20) : IntKind.i64.wrap (2 ^ a) = ((2 ^ a : Nat) : Int) := by
 have hp := pow_small h
 have e : ((2 : Int) ^ a) = ((2 ^ a : Nat) : Int) := by simp
 rw [e]
 generalize 2 ^ a = z at hp
 rw [IntKind.wrap_i64]
 omega
structure PrOk (x : Ins) : Prop where
 few : x.orders.length ≤ 20
 len : x.before.length ≤ 100000
 alen : x.apart.length ≤ 100000
 inE : InE x.orders.length x.before
 inA : InE x.orders.length x.apart
 ne : ∀ p ∈ x.before, p.1 ≠ p.2
 neA : ∀ p ∈ x.apart, p.1 ≠ p.2
set_option maxRecDepth 20000 in
set_option maxHeartbeats 4000000 in
theorem needs_any (x : Ins) (P : InP) (i : Nat) (w : World) (h : InAt w w.heap.size x P) (hp : PrOk x) (hi : i < x.orders.length) :
  Calls Tryz.prog 82 #[InV x P, .int .i64 i] w fun e w' => e = .returned (.int .i64 (needN x.before x.orders.length i : Nat)) ∧ Below w.heap.size w w' := by
 obtain ⟨W0, hW0⟩ : ∃ W0, w.alloc (.cells (insCs x P).toArray 30) = W0 := ⟨_, rfl⟩
 have hB0 : Below w.heap.size w W0 := by rw [← hW0]; exact (Below.refl _ _).alloc (Nat.le_refl _) _
 have z0 := hB0.size
 have b0 : Blk W0 w.heap.size 30 (insCs x P) := by rw [← hW0]; exact World.alloc_heap_new w _
 have hs0 := b0.lt
 have HX := Lib.hid (fun w' (h' : Below W0.heap.size W0 w') => (b0.below h'))
 have HI := Lib.hid (fun w' (h' : Below w.heap.size w w') => h.go h')
 have hW1 : w.alloc (.cells #[.slice P.a0 x.net.places.length P.c0, .slice P.a1 x.net.arcs.length P.c1, .slice P.a2 x.types.length P.c2, .slice P.a3 x.orders.length P.c3, .slice P.a4 x.apart.length P.c4, .slice P.a5 x.before.length P.c5] 30) = W0 := hW0
 have HW1 := Lib.hid hW1
 have HB0 := Lib.hid hB0
 have C0 := Below.refl W0.heap.size W0
 clear hW0 hW1 b0 hB0
 simp only [InV]
 have hHB := (HI.out W0 HB0.out).before
 have HBR := Lib.hid (fun w' (h' : Below w.heap.size w w') => (HI.out _ h').before)
 have hin := hp.inE
 have hl := hp.len
 have hn20 := hp.few
 obtain ⟨n, hn⟩ : ∃ n, x.orders.length = n := ⟨_, rfl⟩
 obtain ⟨m, hm⟩ : ∃ n, x.before.length = n := ⟨_, rfl⟩
 have HIN := Lib.hid hin
 have HNM := Lib.hid (And.intro hn hm)
 obtain ⟨r, hr⟩ : ∃ r, needN x.before x.orders.length i = r := ⟨_, rfl⟩
 have HR := Lib.hid hr
 rw [hr]
 have c3 : ∀ w', Below W0.heap.size W0 w' → w'.cell? ⟨w.heap.size, 3, none⟩ = some (.slice P.a3 n P.c3) := fun w' h' => by rw [← hn]; exact (HX.out _ h').cell (j := 3) rfl
 have c5 : ∀ w', Below W0.heap.size W0 w' → w'.cell? ⟨w.heap.size, 5, none⟩ = some (.slice P.a5 m P.c5) := fun w' h' => by rw [← hm]; exact (HX.out _ h').cell (j := 5) rfl
 have HCC := Lib.hid (fun w' (h' : Below W0.heap.size W0 w') => And.intro (c3 w' h') (c5 w' h'))
 have x3 := c3 _ C0
 have HCH : Hid (∀ w', Below w.heap.size w w' → Calls Tryz.prog 136 #[.int .i64 n, .slice P.a5 m P.c5] w' fun e w'' => ∃ g c' L, e = .returned (.slice (some ⟨g, 0, none⟩) n c') ∧ Sound n x.before L ∧ (rnC x.before L x.before.length).2 = false ∧ w''.ownsRow w'.heap.size 3 1 (.slice (some ⟨g, 0, none⟩) n c') n (intsN L) ∧ Below w'.heap.size w' w'') := Lib.hid (fun w' h' => by
  rw [← hm, ← hn]
  exact chains_any x.orders.length x.before P.a5 P.c5 w' (HBR.out _ h') HIN.out (by omega) hn20 hl)
 rw [hn] at hi hn20 hin
 have hi0 : ¬ (i : Int) < 0 := by omega
 have hi1 : ¬ (n : Int) ≤ (i : Int) := by omega
 have hi2 : (0 : Int) ≤ (i : Int) := by omega
 have hi3 : (i : Int) < (n : Int) := by omega
 have hps := pow_small hn20
 have hsi := shl_nat (show i ≤ 20 by omega)
 have hpi := pow_small (show i ≤ 20 by omega)
 obtain ⟨z, hz⟩ : ∃ z, 2 ^ i = z := ⟨_, rfl⟩
 have HZ := Lib.hid hz
 have HP2 := Lib.hid hps
 rw [hz] at hsi hpi
 have HSI : Hid (IntKind.i64.wrap (2 ^ i) = (z : Int)) := Lib.hid (by rw [shl_natW (show i ≤ 20 by omega), HZ.out])
 clear h hHB hin hl hp hn hm hr c3 c5 hz hps
 go_enter Tryz.func82, Tryz.ntmps82
 go_upto_region 1 with fail
 rw [HW1.out]
 clear HW1
 go_upto_region 3 with fail
 clear x3
 (refine wp_region_held_drew (S := (fun w' => w'.cell? ⟨w.heap.size, 3, none⟩ = some (.slice P.a3 n P.c3) ∧ w'.cell? ⟨w.heap.size, 5, none⟩ = some (.slice P.a5 m P.c5))) (by kernel_rfl) ?_ (fun hHeld => ?_))
 ·exact HCC.out _ C0.drew
 (refine lib.tk 0 ?_ rfl (by kernel_rfl) (fun _ _ _ h => h) ?_ (by assumption) ?_; rotate_left; (focus (intro w hSw; (try dsimp only at hSw); go_simp; all_goals with_reducible rfl)); (try simp only [lib.hly]))
 (refine lib.tk 1 ?_ rfl (by kernel_rfl) (fun _ _ _ h => h) ?_ (by assumption) ?_; rotate_left; (focus (intro w hSw; (try dsimp only at hSw); go_simp; all_goals with_reducible rfl)); (try simp only [lib.hly]))
 (refine lib.tk 2 ?_ rfl (by kernel_rfl) (fun _ _ _ h => h) ?_ (by assumption) ?_; rotate_left; (focus (intro w hSw; (try dsimp only at hSw); go_simp; all_goals with_reducible rfl)); (try simp only [lib.hly]))
 (refine lib.tk 3 ?_ rfl (by kernel_rfl) (fun _ _ _ h => h) ?_ (by assumption) ?_; rotate_left; (focus (intro w hSw; (try dsimp only at hSw); go_simp; all_goals with_reducible rfl)); (try simp only [lib.hly]))
 (refine lib.tk 4 ?_ rfl (by kernel_rfl) (fun _ _ _ h => h) ?_ (by assumption) ?_; rotate_left; (focus (intro w hSw; (try dsimp only at hSw); go_simp; all_goals with_reducible rfl)); (try simp only [lib.hly]))
 (refine lib.tk 6 ?_ rfl (by kernel_rfl) (fun _ _ _ h => h) ?_ (by assumption) ?_; rotate_left; (focus (intro w hSw; (try dsimp only at hSw); go_simp; all_goals with_reducible rfl)); (try simp only [lib.hly]))
 (refine lib.tk 9 ?_ rfl (by kernel_rfl) (fun _ _ _ h => h) ?_ (by assumption) ?_; rotate_left; (focus (intro w hSw; (try dsimp only at hSw); go_simp; all_goals with_reducible rfl)); (try simp only [lib.hly]))
 (refine lib.tk 10 ?_ rfl (by kernel_rfl) (fun _ _ _ h => h) ?_ (by assumption) ?_; rotate_left; (focus (intro w hSw; (try dsimp only at hSw); go_simp; all_goals with_reducible rfl)); (try simp only [lib.hly]))
 (refine wpAnyH_ready (rs := [5]) (by kernel_rfl) (by simp) ?_; refine AllReadyH.cons rfl (fun K hK => ?_) AllReadyH.nil)
 go_simp
 refine (HCH.out _ HB0.out.drew).mono ?_
 rintro e5 w5 ⟨g, c', L, rfl, hs, hc, hown, b5⟩
 have B5 : Below W0.heap.size W0 w5 := C0.drew.trans b5
 have HB5 := Lib.hid (HB0.out.trans (B5.mono z0))
 have cc := own_at hown hs.len hi
 have HOR : Hid (at0 L i ||| z = r) := Lib.hid (by
  rw [← HR.out, ← HZ.out]
  have h := need_chains hs (by rw [← HNM.out.1]; exact HIN.out) hc hi
  rw [h, HNM.out.1])
 have hll := at0_lt hs.lt i
 obtain ⟨v, hv⟩ : ∃ v, at0 L i = v := ⟨_, rfl⟩
 rw [hv] at cc HOR hll
 have hor := orN v z (by have := HP2.out; omega) (by omega)
 rw [HOR.out] at hor
 have HS5 := Lib.hid (HCC.out _ B5)
 clear b5 hs hc hown hv hll B5
 refine hK.out _ _ (HS5.out) (fun hHeld => ?_)
 clear hK K
 (try simp only [lib.hly])
 (refine lib.tk 7 ?_ rfl (by kernel_rfl) (fun _ _ _ h => h) ?_ (by assumption) ?_; rotate_left; (focus (intro w hSw; (try dsimp only at hSw); go_simp; all_goals with_reducible rfl)); (try simp only [lib.hly]))
 (refine wpAnyH_ready (rs := [8]) (by kernel_rfl) (by simp) ?_; refine AllReadyH.cons rfl (fun K hK => ?_) AllReadyH.nil)
 go_simp
 refine hK.out _ _ (HS5.out) (fun hHeld => ?_)
 clear hK K
 (try simp only [lib.hly])
 (refine lib.tk 11 ?_ rfl (by kernel_rfl) (fun _ _ _ h => h) ?_ (by assumption) ?_; rotate_left; (focus (intro w hSw; (try dsimp only at hSw); go_simp; all_goals with_reducible rfl)); (try simp only [lib.hly]))
 (refine lib.tk 12 ?_ rfl (by kernel_rfl) (fun _ _ _ h => h) ?_ (by assumption) ?_; rotate_left; (focus (intro w hSw; (try dsimp only at hSw); go_simp; all_goals with_reducible rfl)); (try simp only [lib.hly]))
 (refine wpAnyH_done (by kernel_rfl) ?_ _)
 go_wp2_with fail
 go_ret
 exact ⟨ret_int (by rw [HSI.out]; exact hor), HB5.out⟩
theorem bitTo_or (p : Nat → Bool) (k : Nat) : bitTo p k ||| 2 ^ k = bitTo p k + 2 ^ k := or_bit (bitTo_lt p k)
set_option maxRecDepth 20000 in
set_option maxHeartbeats 4000000 in
theorem egone_any (x : Ins) (P : InP) (e : Evt) (C : Option Addr) (c : Nat) (w : World) (h : InAt w w.heap.size x P) (hp : PrOk x) :
  Calls Tryz.prog 28 #[InV x P, .agg (z8 e C c).toArray] w fun en w' => en = .returned (.int .i64 (gonF x e : Nat)) ∧ Below w.heap.size w w' := by
 show Calls Tryz.prog 28 #[InV x P, .agg #[.int .i64 e.at_, .int .i64 e.kind, .int .i64 e.a, .int .i64 e.b, .int .i64 e.n, .string e.order.name, .slice C e.order.load.length c, .int .i64 e.order.pick.place, .int .i64 e.order.pick.opn, .int .i64 e.order.pick.close, .int .i64 e.order.pick.service, .int .i64 e.order.drop.place, .int .i64 e.order.drop.opn, .int .i64 e.order.drop.close, .int .i64 e.order.drop.service, .int .i64 e.order.skills, .int .i64 e.order.penalty, .int .i64 e.order.split, .int .i64 e.order.last, .int .i64 e.order.now, .bool e.order.off]] w _
 obtain ⟨W0, hW0⟩ : ∃ W0, (w.alloc (.cells (insCs x P).toArray 30)).alloc (.cells (z8 e C c).toArray 37) = W0 := ⟨_, rfl⟩
 have hB0 : Below w.heap.size w W0 := by rw [← hW0]; exact ((Below.refl _ _).alloc (Nat.le_refl _) _).alloc (by simp) _
 have z0 : W0.heap.size = w.heap.size + 2 := by rw [← hW0]; simp
 have b0 : Blk W0 w.heap.size 30 (insCs x P) := by
  rw [← hW0]
  exact (Blk.new w _ _).kept (World.grownBy_alloc _ _ none) (by simp)
 have b1 : Blk W0 (w.heap.size + 1) 37 (z8 e C c) := by
  rw [← hW0]
  have h := Blk.new (w.alloc (.cells (insCs x P).toArray 30)) 37 (z8 e C c)
  rw [show (w.alloc (.cells (insCs x P).toArray 30)).heap.size = w.heap.size + 1 by simp] at h
  exact h
 have hW1 : (w.alloc (.cells #[.slice P.a0 x.net.places.length P.c0, .slice P.a1 x.net.arcs.length P.c1, .slice P.a2 x.types.length P.c2, .slice P.a3 x.orders.length P.c3, .slice P.a4 x.apart.length P.c4, .slice P.a5 x.before.length P.c5] 30)).alloc (.cells #[.int .i64 e.at_, .int .i64 e.kind, .int .i64 e.a, .int .i64 e.b, .int .i64 e.n, .string e.order.name, .slice C e.order.load.length c, .int .i64 e.order.pick.place, .int .i64 e.order.pick.opn, .int .i64 e.order.pick.close, .int .i64 e.order.pick.service, .int .i64 e.order.drop.place, .int .i64 e.order.drop.opn, .int .i64 e.order.drop.close, .int .i64 e.order.drop.service, .int .i64 e.order.skills, .int .i64 e.order.penalty, .int .i64 e.order.split, .int .i64 e.order.last, .int .i64 e.order.now, .bool e.order.off] 37) = W0 := hW0
 have HX := Lib.hid (fun w' (h' : Below W0.heap.size W0 w') => And.intro (b0.below h') (b1.below h'))
 have HI := Lib.hid (fun w' (h' : Below w.heap.size w w') => h.go h')
 have HW1 := Lib.hid hW1
 have C0 := Below.refl W0.heap.size W0
 clear hW0 hW1 b0 b1
 simp only [InV]
 have HPO := Lib.hid hp
 have hn20 := hp.few
 obtain ⟨n, hn⟩ : ∃ n, x.orders.length = n := ⟨_, rfl⟩
 have HNM := Lib.hid hn
 obtain ⟨r, hr⟩ : ∃ r, gonF x e = r := ⟨_, rfl⟩
 have HR := Lib.hid hr
 rw [hr]
 have HX0 := Lib.hid (HX.out _ C0)
 have HB0 := Lib.hid hB0
 have e1 := HX0.out.2.cell (j := 1) rfl
 have e2 := HX0.out.2.cell (j := 2) rfl
 have x3 : W0.cell? ⟨w.heap.size, 3, none⟩ = some (.slice P.a3 n P.c3) := by rw [← hn]; exact HX0.out.1.cell (j := 3) rfl
 have HZ0 := Lib.hid z0
 rw [hn] at hn20
 clear h hp hr hn
 go_enter Tryz.func28, Tryz.ntmps28
 go_upto_region 1 with fail
 rw [HW1.out]
 clear HW1
 by_cases hk2 : ¬ e.kind = 2
 ·have HRR : Hid (r = 0) := Lib.hid (by rw [← HR.out]; exact gonF_no (.inl hk2))
  have hk : (e.kind != 2) = true := by simp [hk2]
  have hk' : (e.kind == 2) = false := by simp [hk2]
  clear hk2
  go_wp2_with fail
  go_ret
  exact ⟨by rw [HRR.out]; rfl, HB0.out⟩
 have hk2' : e.kind = 2 := Decidable.not_not.1 hk2
 have HK2 := Lib.hid hk2'
 have hk : (e.kind != 2) = false := by simp [hk2']
 have hk' : (e.kind == 2) = true := by simp [hk2']
 clear hk2 hk2'
 by_cases ha1 : e.a < 0
 ·have HRR : Hid (r = 0) := Lib.hid (by rw [← HR.out]; exact gonF_no (.inr (.inl ha1)))
  go_wp2_with fail
  go_ret
  exact ⟨by rw [HRR.out]; rfl, HB0.out⟩
 by_cases ha2 : (n : Int) ≤ e.a
 ·have HRR : Hid (r = 0) := Lib.hid (by rw [← HR.out]; exact gonF_no (.inr (.inr (by rw [HNM.out]; exact ha2))))
  go_wp2_with fail
  go_ret
  exact ⟨by rw [HRR.out]; rfl, HB0.out⟩
 obtain ⟨A, hA⟩ : ∃ A : Nat, e.a = A := ⟨e.a.toNat, by omega⟩
 have hAn : A < n := by omega
 have HRR : Hid (r = bitTo (gonP x A) n) := Lib.hid (by rw [← HR.out, gonF_yes HK2.out hA (by rw [HNM.out]; exact hAn)]; unfold gonN; rw [HNM.out])
 have HX2 : Hid (∀ w', Below W0.heap.size W0 w' → w'.cell? ⟨w.heap.size + 1, 2, none⟩ = some (.int .i64 A)) := Lib.hid (fun w' h' => by rw [← hA]; exact (HX.out _ h').2.cell (j := 2) rfl)
 have hAi1 : ¬ (A : Int) < 0 := by omega
 have hAi2 : ¬ (n : Int) ≤ (A : Int) := by omega
 have hA0 : (0 : Int) ≤ (A : Int) := by omega
 have hA20 : (A : Int) ≤ 20 := by omega
 have HND : Hid (∀ (i : Nat) w', i < n → Below w.heap.size w w' → Calls Tryz.prog 82 #[.agg (insCs x P).toArray, .int .i64 i] w' fun e w'' => e = .returned (.int .i64 (needN x.before x.orders.length i : Nat)) ∧ Below w'.heap.size w' w'') := Lib.hid (fun i w' hi h' => needs_any x P i w' (HI.out _ h') HPO.out (by rw [HNM.out]; exact hi))
 clear e2
 have e2 := HX2.out _ C0
 rw [hA] at ha1 ha2
 have HAA := Lib.hid hA
 clear hA ha1 ha2 HR
 have HC0 := Lib.hid C0
 have hzw : w.heap.size + 1 < W0.heap.size := by have := HZ0.out; omega
 obtain ⟨ad, cs0, hAd, -, -, -⟩ := ((HI.out _ HB0.out).orders).elem (List.getElem?_eq_getElem (show A < x.orders.length by rw [HNM.out]; exact hAn))
 rw [hAd] at x3 ⊢
 have HAD := Lib.hid hAd
 clear hAd
 go_upto_region 5 with fail
 clear e1 e2 x3 hk hk'
 go_loopw [5, 27] (fun s i wr => ∃ k : Nat, k ≤ n ∧ i = .int .i64 k ∧ s = .int .i64 (bitTo (gonP x A) k : Nat) ∧ Below W0.heap.size W0 wr) (fun _ i _ => n - (intOf i).toNat)
 case atStart => exact ⟨0, by omega, rfl, rfl, HC0.out⟩
 case round =>
  obtain ⟨k, hk, rfl, rfl, hb⟩ := hrel
  have HBV := Lib.hid hb
  have HBW := Lib.hid (HB0.out.trans (hb.mono (by have := HZ0.out; omega)))
  have hvz := hb.size
  have hsb := bitTo_lt (gonP x A) k
  have hps := pow_small (show k ≤ 20 by omega)
  obtain ⟨S, hS⟩ : ∃ S, bitTo (gonP x A) k = S := ⟨_, rfl⟩
  have HS := Lib.hid hS
  rw [hS] at hsb ⊢
  have hS20 : S < 1048576 := by omega
  clear hS hb
  by_cases hlt : k < n
  ·obtain ⟨o, ho⟩ : ∃ o, x.orders[k]? = some o := ⟨_, List.getElem?_eq_getElem (by rw [HNM.out]; exact hlt)⟩
   obtain ⟨ad', cs0, hAd, hadb, hat, hcs⟩ := ((HI.out _ HBW.out).orders).elem ho
   obtain rfl : ad' = ad := Option.some.inj (hAd.symm.trans HAD.out)
   obtain ⟨D, dd, rfl, hI, hf⟩ := rOrd_at hat
   have HCE : Hid (CellsAt wr (ad'.add (k * 16)) (zA o D dd)) := Lib.hid hcs
   have HON := Lib.hid (on_of ho)
   have hk0 : (0 : Int) ≤ (k : Int) := by omega
   have hkn : (k : Int) < (n : Int) := by omega
   clear hAd
   clear ho hat hcs hI hf
   go_upto_region 7 with (first
    | ((with_reducible refine zH stOrd' _ rfl (ad'.add (k * 16)) (zA o D dd) ?_ ?_ ?_ ?_ ?_); exact rfl; exact rfl; exact HCE.out; exact rfl)
    | ((with_reducible refine zJ stOrd' rfl _ _ rfl wr.heap.size gen.zOrd (zA o D dd) ?_ ?_ ?_ ?_ ?_ (zR _ _ _) ?_); exact rfl; exact rfl; exact Blk.new wr _ _; exact rfl; exact rfl; intro v4 k1 k2 k3 k4; have K := lib.h4 k1 k2 k3 k4; clear k1 k2 k3 k4))
   (try simp only [lib.hly])
   have b4 : Below wr.heap.size wr v4 := ((Below.refl _ _).alloc (Nat.le_refl _) _).trans K.out.2.2.2
   have HV4 := Lib.hid (HBV.out.trans (b4.mono hvz))
   have HB4 := Lib.hid (HB0.out.trans (HV4.out.mono (by have := HZ0.out; omega)))
   obtain ⟨qa, hqa⟩ : ∃ v, wr.heap.size = v := ⟨_, rfl⟩
   have HQ : Hid (∀ w', Below v4.heap.size v4 w' → w'.cell? ⟨qa, 15, none⟩ = some (.bool o.off)) := Lib.hid (fun w' h' => by
    rw [← hqa]
    exact (Blk.below (show Blk v4 wr.heap.size 35 (zA o D dd) from K.out.1) h').cell (j := 15) rfl)
   have HE4 := Lib.hid (Below.refl v4.heap.size v4)
   rw [hqa]
   have HXK : Hid (∀ w', Below v4.heap.size v4 w' → CellsAt w' ⟨w.heap.size, 0, none⟩ (insCs x P) ∧ w'.cell? ⟨w.heap.size + 1, 2, none⟩ = some (.int .i64 A)) := Lib.hid (fun w' h' => ⟨(HX.out _ (HV4.out.trans (h'.mono HV4.out.size))).1.cells, HX2.out _ (HV4.out.trans (h'.mono HV4.out.size))⟩)
   have hz4 := HV4.out.size
   clear K b4 hqa HCE
   obtain ⟨of, hof⟩ : ∃ b, o.off = b := ⟨_, rfl⟩
   rw [hof] at HON HQ
   clear hof
   cases of
   ·have HNN := HND.out k v4 hlt HB4.out
    have hnl := need_lt x.before x.orders.length k
    have HNX : Hid (∀ b, b = (needN x.before x.orders.length k).testBit A → gonP x A k = b) := Lib.hid (fun b hb => by
     unfold gonP
     rw [HON.out, ← hb]
     rfl)
    obtain ⟨z, hz⟩ : ∃ z, needN x.before x.orders.length k = z := ⟨_, rfl⟩
    rw [hz] at HNX hnl
    have HNC : Hid (∀ w', Below w.heap.size w w' → Calls Tryz.prog 82 #[.agg (insCs x P).toArray, .int .i64 k] w' fun e w'' => e = .returned (.int .i64 (z : Int)) ∧ Below w'.heap.size w' w'') := Lib.hid (fun w' h' => by
     have h := HND.out k w' hlt h'
     rw [hz] at h
     exact h)
    rw [HNM.out] at hnl
    have hzb := lt20 hn20 hnl
    have hbt : (bits .and .i64 ((z : Int) / 2 ^ A) 1 == 1) = z.testBit A := by
     rw [gand1, Nat.testBit_eq_decide_div_mod_eq, Bool.eq_iff_iff, beq_iff_eq, decide_eq_true_eq]
     have e : ((z : Int) / 2 ^ A) = ((z / 2 ^ A : Nat) : Int) := by simp
     rw [e]
     omega
    obtain ⟨tb, htb⟩ : ∃ b, z.testBit A = b := ⟨_, rfl⟩
    rw [htb] at hbt
    have HGP := Lib.hid (HNX.out tb htb.symm)
    clear hz htb HNX HNN hnl
    go_upto_region 7 with fail
    (refine wp_region_held_drew (S := (fun w' => w'.cell? ⟨qa, 15, none⟩ = some (.bool false) ∧ CellsAt w' ⟨w.heap.size, 0, none⟩ (insCs x P) ∧ w'.cell? ⟨w.heap.size + 1, 2, none⟩ = some (.int .i64 A))) (by kernel_rfl) ?_ (fun hHeld => ?_))
    ·exact ⟨HQ.out _ HE4.out.drew, HXK.out _ HE4.out.drew⟩
    (refine lib.tk 0 ?_ rfl (by kernel_rfl) (fun _ _ _ h => h) ?_ (by assumption) ?_; rotate_left; (focus (intro w hSw; (try dsimp only at hSw); go_simp; all_goals with_reducible rfl)); (try simp only [lib.hly]))
    (refine lib.tk 1 ?_ rfl (by kernel_rfl) (fun _ _ _ h => h) ?_ (by assumption) ?_; rotate_left; (focus (intro w hSw; (try dsimp only at hSw); go_simp; all_goals with_reducible rfl)); (try simp only [lib.hly]))
    (refine lib.tk 2 ?_ rfl (by kernel_rfl) (fun _ _ _ h => h) ?_ (by assumption) ?_; rotate_left; (focus (intro w hSw; (try dsimp only at hSw); go_simp; all_goals with_reducible rfl)); (try simp only [lib.hly]))
    (refine lib.tk 3 ?_ rfl (by kernel_rfl) (fun _ _ _ h => h) ?_ (by assumption) ?_; rotate_left; (focus (intro w hSw; (try dsimp only at hSw); go_simp; all_goals with_reducible rfl)); (try simp only [lib.hly]))
    (refine lib.tk 4 _ rfl (by kernel_rfl) (fun _ _ _ h => h) (fun _ hSw => yG stIns rfl rfl hSw.2.1 rfl) (by assumption) ?_; (try simp only [lib.hly]))
    (refine lib.tk 5 ?_ rfl (by kernel_rfl) (fun _ _ _ h => h) ?_ (by assumption) ?_; rotate_left; (focus (intro w hSw; (try dsimp only at hSw); go_simp; all_goals with_reducible rfl)); (try simp only [lib.hly]))
    (refine lib.tk 7 ?_ rfl (by kernel_rfl) (fun _ _ _ h => h) ?_ (by assumption) ?_; rotate_left; (focus (intro w hSw; (try dsimp only at hSw); go_simp; all_goals with_reducible rfl)); (try simp only [lib.hly]))
    (refine lib.tk 8 ?_ rfl (by kernel_rfl) (fun _ _ _ h => h) ?_ (by assumption) ?_; rotate_left; (focus (intro w hSw; (try dsimp only at hSw); go_simp; all_goals with_reducible rfl)); (try simp only [lib.hly]))
    (refine wpAnyH_ready (rs := [6]) (by kernel_rfl) (by simp) ?_; refine AllReadyH.cons rfl (fun K hK => ?_) AllReadyH.nil)
    go_simp
    refine (HNC.out _ HB4.out.drew).mono ?_
    rintro e5 v5 ⟨rfl, b5⟩
    have HD5 := Lib.hid (HE4.out.drew.trans b5)
    have HV5 := Lib.hid (HV4.out.trans (HD5.out.mono HV4.out.size))
    clear b5
    refine hK.out _ _ ((⟨HQ.out _ HD5.out, HXK.out _ HD5.out⟩)) (fun hHeld => ?_)
    clear hK K
    (try simp only [lib.hly])
    (refine lib.tk 9 ?_ rfl (by kernel_rfl) (fun _ _ _ h => h) ?_ (by assumption) ?_; rotate_left; (focus (intro w hSw; (try dsimp only at hSw); go_simp; all_goals with_reducible rfl)); (try simp only [lib.hly]))
    (refine lib.tk 10 ?_ rfl (by kernel_rfl) (fun _ _ _ h => h) ?_ (by assumption) ?_; rotate_left; (focus (intro w hSw; (try dsimp only at hSw); go_simp; all_goals with_reducible rfl)); (try simp only [lib.hly]))
    (refine lib.tk 11 ?_ rfl (by kernel_rfl) (fun _ _ _ h => h) ?_ (by assumption) ?_; rotate_left; (focus (intro w hSw; (try dsimp only at hSw); go_simp; all_goals with_reducible rfl)); (try simp only [lib.hly]))
    (refine lib.tk 12 ?_ rfl (by kernel_rfl) (fun _ _ _ h => h) ?_ (by assumption) ?_; rotate_left; (focus (intro w hSw; (try dsimp only at hSw); go_simp; all_goals with_reducible rfl)); (try simp only [lib.hly]))
    (refine wpAnyH_done (by kernel_rfl) ?_ _)
    cases tb
    ·have HBN : Hid (bitTo (gonP x A) (k + 1) = S) := Lib.hid (by rw [bitTo_no HGP.out, HS.out])
     go_wp2
     go_roundw
     case rel => exact ⟨k + 1, by omega, by go_num, by first | (rw [HBN.out]; done) | (rw [HBN.out, Int.natCast_add]), HV5.out⟩
     case measure => simp [intOf]; omega
    ·have hsh := shl_nat (show k ≤ 20 by omega)
     have hpk := pow_small (show k ≤ 20 by omega)
     have hor := orN S (2 ^ k) (Nat.lt_trans hS20 (by decide)) (Nat.lt_of_le_of_lt hpk (by decide))
     have hbo := bitTo_or (gonP x A) k
     rw [HS.out] at hbo
     rw [hbo] at hor
     have HBN : Hid (bitTo (gonP x A) (k + 1) = S + 2 ^ k) := Lib.hid (by rw [bitTo_yes HGP.out, HS.out])
     obtain ⟨zk, hzk⟩ : ∃ zk, 2 ^ k = zk := ⟨_, rfl⟩
     rw [hzk] at hsh hpk hor HBN
     clear hbo hzk
     go_wp2
     go_roundw
     case rel => exact ⟨k + 1, by omega, by go_num, by first | (rw [HBN.out]; done) | (rw [HBN.out, Int.natCast_add]), HV5.out⟩
     case measure => simp [intOf]; omega
   ·have HBN : Hid (bitTo (gonP x A) (k + 1) = S) := Lib.hid (by
     rw [bitTo_no (by unfold gonP; rw [HON.out]; rfl), HS.out])
    go_upto_region 7 with fail
    (refine wp_region_held_drew (S := (fun w' => w'.cell? ⟨qa, 15, none⟩ = some (.bool true) ∧ CellsAt w' ⟨w.heap.size, 0, none⟩ (insCs x P) ∧ w'.cell? ⟨w.heap.size + 1, 2, none⟩ = some (.int .i64 A))) (by kernel_rfl) ?_ (fun hHeld => ?_))
    ·exact ⟨HQ.out _ HE4.out.drew, HXK.out _ HE4.out.drew⟩
    (refine lib.tk 0 ?_ rfl (by kernel_rfl) (fun _ _ _ h => h) ?_ (by assumption) ?_; rotate_left; (focus (intro w hSw; (try dsimp only at hSw); go_simp; all_goals with_reducible rfl)); (try simp only [lib.hly]))
    (refine lib.tk 1 ?_ rfl (by kernel_rfl) (fun _ _ _ h => h) ?_ (by assumption) ?_; rotate_left; (focus (intro w hSw; (try dsimp only at hSw); go_simp; all_goals with_reducible rfl)); (try simp only [lib.hly]))
    (refine lib.tk 2 ?_ rfl (by kernel_rfl) (fun _ _ _ h => h) ?_ (by assumption) ?_; rotate_left; (focus (intro w hSw; (try dsimp only at hSw); go_simp; all_goals with_reducible rfl)); (try simp only [lib.hly]))
    (refine lib.tk 3 ?_ rfl (by kernel_rfl) (fun _ _ _ h => h) ?_ (by assumption) ?_; rotate_left; (focus (intro w hSw; (try dsimp only at hSw); go_simp; all_goals with_reducible rfl)); (try simp only [lib.hly]))
    (refine wpAnyH_take (i := 4) (v := undef) rfl (by kernel_rfl) (by kernel_rfl) (by kernel_rfl) (fun _ _ _ h => h) (Or.inr ⟨by kernel_rfl, rfl⟩) (by assumption) ?_; (try simp only [lib.hly]))
    (refine wpAnyH_take (i := 5) (v := undef) rfl (by kernel_rfl) (by kernel_rfl) (by kernel_rfl) (fun _ _ _ h => h) (Or.inr ⟨by kernel_rfl, rfl⟩) (by assumption) ?_; (try simp only [lib.hly]))
    (refine wpAnyH_take (i := 6) (v := undef) rfl (by kernel_rfl) (by kernel_rfl) (by kernel_rfl) (fun _ _ _ h => h) (Or.inr ⟨by kernel_rfl, rfl⟩) (by assumption) ?_; (try simp only [lib.hly]))
    (refine wpAnyH_take (i := 7) (v := undef) rfl (by kernel_rfl) (by kernel_rfl) (by kernel_rfl) (fun _ _ _ h => h) (Or.inr ⟨by kernel_rfl, rfl⟩) (by assumption) ?_; (try simp only [lib.hly]))
    (refine wpAnyH_take (i := 8) (v := undef) rfl (by kernel_rfl) (by kernel_rfl) (by kernel_rfl) (fun _ _ _ h => h) (Or.inr ⟨by kernel_rfl, rfl⟩) (by assumption) ?_; (try simp only [lib.hly]))
    (refine wpAnyH_take (i := 9) (v := undef) rfl (by kernel_rfl) (by kernel_rfl) (by kernel_rfl) (fun _ _ _ h => h) (Or.inr ⟨by kernel_rfl, rfl⟩) (by assumption) ?_; (try simp only [lib.hly]))
    (refine wpAnyH_take (i := 10) (v := undef) rfl (by kernel_rfl) (by kernel_rfl) (by kernel_rfl) (fun _ _ _ h => h) (Or.inr ⟨by kernel_rfl, rfl⟩) (by assumption) ?_; (try simp only [lib.hly]))
    (refine wpAnyH_take (i := 11) (v := undef) rfl (by kernel_rfl) (by kernel_rfl) (by kernel_rfl) (fun _ _ _ h => h) (Or.inr ⟨by kernel_rfl, rfl⟩) (by assumption) ?_; (try simp only [lib.hly]))
    (refine lib.tk 12 ?_ rfl (by kernel_rfl) (fun _ _ _ h => h) ?_ (by assumption) ?_; rotate_left; (focus (intro w hSw; (try dsimp only at hSw); go_simp; all_goals with_reducible rfl)); (try simp only [lib.hly]))
    (refine wpAnyH_done (by kernel_rfl) ?_ _)
    go_wp2
    go_roundw
    case rel => exact ⟨k + 1, by omega, by go_num, by rw [HBN.out], HV4.out.drew⟩
    case measure => simp [intOf]; omega
  ·have hke : k = n := by omega
   have HRS : Hid (r = S) := Lib.hid (by rw [HRR.out, ← hke, HS.out])
   clear hke
   go_wp2_with fail
   go_ret
   exact ⟨by rw [HRS.out]; rfl, HBW.out⟩
end Go.Proofs.YtofabhenmplkoaaGreatDoor.gon
namespace Go.Proofs.YtofabhenmplkoaaGreatDoor.gon
open Go.RowKit
open lib rd typ app big ord gen evt
open ins hiding zOrd bOrd
set_option maxRecDepth 20000 in
set_option maxHeartbeats 4000000 in
theorem rneeds_any (x : Ins) (P : InP) (i : Nat) (w : World) (h : InAt w w.heap.size x P) (hp : PrOk x) (hi : i < x.orders.length) :
  Calls Tryz.prog 31 #[InV x P, .int .i64 i] w fun e w' => e = .returned (.int .i64 (needN x.before x.orders.length i : Nat)) ∧ Below w.heap.size w w' := by
 obtain ⟨W0, hW0⟩ : ∃ W0, w.alloc (.cells (insCs x P).toArray 30) = W0 := ⟨_, rfl⟩
 have hB0 : Below w.heap.size w W0 := by rw [← hW0]; exact (Below.refl _ _).alloc (Nat.le_refl _) _
 have z0 := hB0.size
 have b0 : Blk W0 w.heap.size 30 (insCs x P) := by rw [← hW0]; exact World.alloc_heap_new w _
 have hs0 := b0.lt
 have HX := Lib.hid (fun w' (h' : Below W0.heap.size W0 w') => (b0.below h'))
 have HI := Lib.hid (fun w' (h' : Below w.heap.size w w') => h.go h')
 have hW1 : w.alloc (.cells #[.slice P.a0 x.net.places.length P.c0, .slice P.a1 x.net.arcs.length P.c1, .slice P.a2 x.types.length P.c2, .slice P.a3 x.orders.length P.c3, .slice P.a4 x.apart.length P.c4, .slice P.a5 x.before.length P.c5] 30) = W0 := hW0
 have HW1 := Lib.hid hW1
 have HB0 := Lib.hid hB0
 have C0 := Below.refl W0.heap.size W0
 clear hW0 hW1 b0 hB0
 simp only [InV]
 have HPO := Lib.hid hp
 have hn20 := hp.few
 obtain ⟨n, hn⟩ : ∃ n, x.orders.length = n := ⟨_, rfl⟩
 obtain ⟨m, hm⟩ : ∃ n, x.before.length = n := ⟨_, rfl⟩
 have HNM := Lib.hid (And.intro hn hm)
 obtain ⟨r, hr⟩ : ∃ r, needN x.before x.orders.length i = r := ⟨_, rfl⟩
 have HR : Hid (r = bitTo (needP x.before n i) n) := Lib.hid (by rw [← hr, hn]; rfl)
 rw [hr]
 have c3 : ∀ w', Below W0.heap.size W0 w' → w'.cell? ⟨w.heap.size, 3, none⟩ = some (.slice P.a3 n P.c3) := fun w' h' => by rw [← hn]; exact (HX.out _ h').cell (j := 3) rfl
 have c5 : ∀ w', Below W0.heap.size W0 w' → w'.cell? ⟨w.heap.size, 5, none⟩ = some (.slice P.a5 m P.c5) := fun w' h' => by rw [← hm]; exact (HX.out _ h').cell (j := 5) rfl
 have HCC := Lib.hid (fun w' (h' : Below W0.heap.size W0 w') => And.intro (c3 w' h') (c5 w' h'))
 have x3 := c3 _ C0
 have HIN : Hid (InE n x.before) := Lib.hid (by rw [← hn]; exact hp.inE)
 rw [hn] at hi hn20
 have HRC : Hid (∀ (f : Nat) w', f < n → Below w.heap.size w w' → Calls Tryz.prog 84 #[.int .i64 n, .slice P.a5 m P.c5, .int .i64 f] w' fun e w'' => e = .returned (.int .i64 (goR x.before f (n + 1) : Nat)) ∧ Below w'.heap.size w' w'') := Lib.hid (fun f w' hf h' => by
  rw [← hm]
  exact rreach_any n x.before f P.a5 P.c5 w' (HI.out _ h').before HIN.out hn20 HPO.out.len hf)
 have hi0 : ¬ (i : Int) < 0 := by omega
 have hi1 : ¬ (n : Int) ≤ (i : Int) := by omega
 have HC0 := Lib.hid C0
 clear h hp hn hm hr c3 c5
 go_enter Tryz.func31, Tryz.ntmps31
 go_upto_region 1 with fail
 rw [HW1.out]
 clear HW1
 go_upto_region 6 with fail
 clear x3
 go_loopw [6, 7] (fun s kk wr => ∃ (k S : Nat), k ≤ n ∧ kk = .int .i64 k ∧ s = .int .i64 S ∧ Hid (S = bitTo (needP x.before n i) k) ∧ Below W0.heap.size W0 wr) (fun _ kk _ => n - (intOf kk).toNat)
 case atStart => exact ⟨0, 0, by omega, rfl, rfl, Lib.hid rfl, HC0.out⟩
 case round =>
  obtain ⟨k, S, hk, rfl, rfl, HS, hb⟩ := hrel
  have HBW := Lib.hid (HB0.out.trans (hb.mono z0))
  have HBV := Lib.hid hb
  have hz := HBW.out.size
  have hsl := bitTo_lt (needP x.before n i) k
  rw [← HS.out] at hsl
  have hpk := pow_small (show k ≤ 20 by omega)
  have hS20 : S < 1048576 := by omega
  have HBT := Lib.hid (rbit_any k (by omega))
  obtain ⟨zk, hzk⟩ : ∃ zk, 2 ^ k = zk := ⟨_, rfl⟩
  rw [hzk] at HBT hpk hsl
  have HZK := Lib.hid hzk
  clear hb hzk
  by_cases hlt : k < n
  ·have hkn : (k : Int) < (n : Int) := by omega
   have hk0 : (0 : Int) ≤ (k : Int) := by omega
   by_cases hki : k = i
   ·have HN : Hid (bitTo (needP x.before n i) (k + 1) = S + zk) := Lib.hid (by
     rw [bitTo_yes (by unfold needP; rw [hki]; simp), HS.out, HZK.out])
    have hki2 : ((k : Int) == (i : Int)) = true := by simp [hki]
    clear hki
    go_wp2_with fail
    refine (HBT.out wr).mono ?_
    rintro e4 w4 ⟨rfl, b4⟩
    have HB4 := Lib.hid (HBV.out.trans (b4.mono HBV.out.size))
    clear b4
    go_wp2_with fail
    go_roundw
    case rel => exact ⟨k + 1, S + zk, by omega, by go_num, by first | rfl | go_num | (simp; omega), Lib.hid HN.out.symm, HB4.out⟩
    case measure => simp [intOf]; omega
   ·have hki2 : ((k : Int) == (i : Int)) = false := by simp; omega
    obtain ⟨T, hT⟩ : ∃ T, goR x.before k (n + 1) = T := ⟨_, rfl⟩
    have hTl := (goR_sound k HIN.out (n + 1)).lt
    have hre := HRC.out k wr hlt HBW.out
    rw [hT] at hTl hre
    have hTs : T < 4611686018427387904 := by have := pow_small hn20; omega
    have HHS := Lib.hid (fun w' => rhas_any T i hTs (by omega) w')
    obtain ⟨tb, htb⟩ : ∃ b, T.testBit i = b := ⟨_, rfl⟩
    rw [htb] at HHS
    have HNP : Hid (needP x.before n i k = tb) := Lib.hid (by
     unfold needP
     rw [hT, htb]
     simp [hki])
    have x5 := (HCC.out _ HBV.out).2
    clear hki hT htb hTl
    go_wp2_with fail
    refine hre.mono ?_
    rintro e4 w4 ⟨rfl, b4⟩
    have HB4 := Lib.hid (HBV.out.trans (b4.mono HBV.out.size))
    clear b4 hre x5
    go_wp2_with fail
    refine (HHS.out w4).mono ?_
    rintro e5 w5 ⟨rfl, b5⟩
    have HB5 := Lib.hid (HB4.out.trans (b5.mono HB4.out.size))
    clear b5
    cases tb
    ·have HN : Hid (bitTo (needP x.before n i) (k + 1) = S) := Lib.hid (by rw [bitTo_no HNP.out, HS.out])
     go_wp2_with fail
     go_roundw
     case rel => exact ⟨k + 1, S, by omega, by go_num, rfl, Lib.hid HN.out.symm, HB5.out⟩
     case measure => simp [intOf]; omega
    ·have HN : Hid (bitTo (needP x.before n i) (k + 1) = S + zk) := Lib.hid (by rw [bitTo_yes HNP.out, HS.out, HZK.out])
     go_wp2_with fail
     refine (HBT.out w5).mono ?_
     rintro e6 w6 ⟨rfl, b6⟩
     have HB6 := Lib.hid (HB5.out.trans (b6.mono HB5.out.size))
     clear b6
     go_wp2_with fail
     go_roundw
     case rel => exact ⟨k + 1, S + zk, by omega, by go_num, by first | rfl | go_num | (simp; omega), Lib.hid HN.out.symm, HB6.out⟩
     case measure => simp [intOf]; omega
  ·have hke : k = n := by omega
   have hkn : ¬ (k : Int) < (n : Int) := by omega
   have HRS : Hid (r = S) := Lib.hid (by rw [HR.out, HS.out, hke])
   clear hke
   go_wp2_with fail
   go_ret
   exact ⟨by rw [HRS.out]; rfl, HBW.out⟩
set_option maxRecDepth 20000 in
set_option maxHeartbeats 4000000 in
theorem rall_any (x : Ins) (P : InP) (w : World) (h : InAt w w.heap.size x P) (hn20 : x.orders.length ≤ 20) :
  Calls Tryz.prog 30 #[InV x P] w fun e w' => e = .returned (.int .i64 (allN x : Nat)) ∧ Below w.heap.size w w' := by
 obtain ⟨W0, hW0⟩ : ∃ W0, w.alloc (.cells (insCs x P).toArray 30) = W0 := ⟨_, rfl⟩
 have hB0 : Below w.heap.size w W0 := by rw [← hW0]; exact (Below.refl _ _).alloc (Nat.le_refl _) _
 have z0 := hB0.size
 have b0 : Blk W0 w.heap.size 30 (insCs x P) := by rw [← hW0]; exact World.alloc_heap_new w _
 have hs0 := b0.lt
 have HX := Lib.hid (fun w' (h' : Below W0.heap.size W0 w') => (b0.below h'))
 have HI := Lib.hid (fun w' (h' : Below w.heap.size w w') => h.go h')
 have hW1 : w.alloc (.cells #[.slice P.a0 x.net.places.length P.c0, .slice P.a1 x.net.arcs.length P.c1, .slice P.a2 x.types.length P.c2, .slice P.a3 x.orders.length P.c3, .slice P.a4 x.apart.length P.c4, .slice P.a5 x.before.length P.c5] 30) = W0 := hW0
 have HW1 := Lib.hid hW1
 have HB0 := Lib.hid hB0
 have C0 := Below.refl W0.heap.size W0
 clear hW0 hW1 b0 hB0
 simp only [InV]
 obtain ⟨n, hn⟩ : ∃ n, x.orders.length = n := ⟨_, rfl⟩
 have HNM := Lib.hid hn
 obtain ⟨r, hr⟩ : ∃ r, allN x = r := ⟨_, rfl⟩
 have HR : Hid (r = bitTo (onP x.orders) n) := Lib.hid (by rw [← hr, ← hn]; rfl)
 rw [hr]
 have HCC : Hid (∀ w', Below W0.heap.size W0 w' → w'.cell? ⟨w.heap.size, 3, none⟩ = some (.slice P.a3 n P.c3)) := Lib.hid (fun w' h' => by rw [← hn]; exact (HX.out _ h').cell (j := 3) rfl)
 have HC0 := Lib.hid C0
 rw [hn] at hn20
 clear h hr hn
 go_enter Tryz.func30, Tryz.ntmps30
 go_upto_region 1 with fail
 rw [HW1.out]
 clear HW1
 go_upto_region 4 with fail
 go_loopw [3, 4, 5] (fun s b kk wr => ∃ (k S Z : Nat), k ≤ n ∧ kk = .int .i64 k ∧ s = .int .i64 S ∧ b = .int .i64 Z ∧ Hid (S = bitTo (onP x.orders) k ∧ Z = 2 ^ k) ∧ Below W0.heap.size W0 wr) (fun _ _ kk _ => n - (intOf kk).toNat)
 case atStart => exact ⟨0, 0, 1, by omega, rfl, rfl, rfl, Lib.hid ⟨rfl, rfl⟩, HC0.out⟩
 case round =>
  obtain ⟨k, S, Z, hk, rfl, rfl, rfl, HS, hb⟩ := hrel
  have HBW := Lib.hid (HB0.out.trans (hb.mono z0))
  have HBV := Lib.hid hb
  have hsl := bitTo_lt (onP x.orders) k
  rw [← HS.out.1] at hsl
  have hpk := pow_small (show k ≤ 20 by omega)
  rw [← HS.out.2] at hpk hsl
  have hS20 : S < 1048576 := by omega
  have x3 := HCC.out _ HBV.out
  clear hb
  by_cases hlt : k < n
  ·obtain ⟨o, ho⟩ : ∃ o, x.orders[k]? = some o := ⟨_, List.getElem?_eq_getElem (by rw [HNM.out]; exact hlt)⟩
   obtain ⟨ad, cs0, hA, hadb, hat, hcs⟩ := ((HI.out _ HBW.out).orders).elem ho
   obtain ⟨D, dd, rfl, hI, hf⟩ := rOrd_at hat
   have y15 : wr.cell? ⟨(ad.add (k * 16)).block, (ad.add (k * 16)).off + 15, none⟩ = some (.bool o.off) := by rw [← add_split, ← add_of_add]; exact hcs 15 _ rfl
   have HON := Lib.hid (on_of ho)
   have hk0 : (0 : Int) ≤ (k : Int) := by omega
   have hkn : (k : Int) < (n : Int) := by omega
   have hk63 : (k : Int) < 63 := by omega
   rw [hA] at x3
   obtain ⟨of, hof⟩ : ∃ b, o.off = b := ⟨_, rfl⟩
   rw [hof] at HON y15
   have HZ2 : Hid (Z * 2 = 2 ^ (k + 1)) := Lib.hid (by rw [HS.out.2, Nat.pow_succ])
   clear ho hA hat hcs hI hf hof
   cases of
   ·have HN : Hid (bitTo (onP x.orders) (k + 1) = S + Z) := Lib.hid (by rw [bitTo_yes HON.out, HS.out.1, HS.out.2])
    go_wp2_with fail
    go_roundw
    case rel => exact ⟨k + 1, S + Z, Z * 2, by omega, by go_num, by first | rfl | go_num | (simp; omega), by first | rfl | go_num | (simp; omega), Lib.hid ⟨HN.out.symm, HZ2.out⟩, HBV.out⟩
    case measure => simp [intOf]; omega
   ·have HN : Hid (bitTo (onP x.orders) (k + 1) = S) := Lib.hid (by rw [bitTo_no HON.out, HS.out.1])
    go_wp2_with fail
    go_roundw
    case rel => exact ⟨k + 1, S, Z * 2, by omega, by go_num, rfl, by first | rfl | go_num | (simp; omega), Lib.hid ⟨HN.out.symm, HZ2.out⟩, HBV.out⟩
    case measure => simp [intOf]; omega
  ·have hke : k = n := by omega
   have hkn : ¬ (k : Int) < (n : Int) := by omega
   have HRS : Hid (r = S) := Lib.hid (by rw [HR.out, HS.out.1, hke])
   clear hke
   go_wp2_with fail
   go_ret
   exact ⟨by rw [HRS.out]; rfl, HBW.out⟩
end Go.Proofs.YtofabhenmplkoaaGreatDoor.gon
namespace Go.Proofs.YtofabhenmplkoaaGreatDoor.gon
open Go.RowKit
open lib rd typ app big ord gen evt
open ins hiding zOrd bOrd
theorem wrap_two {S z : Nat} (h1 : S < 1048576) (h2 : z ≤ 1048576) : wrap64 ((S : Int) + (z : Int)) = (S : Int) + (z : Int) := by
 unfold wrap64
 omega
theorem u64w {A : Nat} (h : A ≤ 20) : min (IntKind.u64.wrap (A : Int)).toNat 64 = A := by
 have e : IntKind.u64.wrap (A : Int) = (A : Int) := by
  unfold IntKind.wrap
  simp [IntKind.signed, IntKind.bits]
  omega
 rw [e]
 omega
theorem bit_form (z A : Nat) (h : A ≤ 20) : (((z : Int) / 2 ^ min (IntKind.u64.wrap (A : Int)).toNat 64).tmod 2 == 1) = z.testBit A := by
 rw [u64w h]
 have e : ((z : Int) / 2 ^ A) = ((z / 2 ^ A : Nat) : Int) := by simp
 rw [e, Int.tmod_eq_emod_of_nonneg (Int.natCast_nonneg _), Nat.testBit_eq_decide_div_mod_eq, Bool.eq_iff_iff, beq_iff_eq, decide_eq_true_eq]
 omega
set_option maxRecDepth 20000 in
set_option maxHeartbeats 4000000 in
theorem rgone_any (x : Ins) (P : InP) (e : Evt) (C : Option Addr) (c : Nat) (w : World) (h : InAt w w.heap.size x P) (hp : PrOk x) :
  Calls Tryz.prog 29 #[InV x P, .agg (z8 e C c).toArray] w fun en w' => en = .returned (.int .i64 (gonF x e : Nat)) ∧ Below w.heap.size w w' := by
 show Calls Tryz.prog 29 #[InV x P, .agg #[.int .i64 e.at_, .int .i64 e.kind, .int .i64 e.a, .int .i64 e.b, .int .i64 e.n, .string e.order.name, .slice C e.order.load.length c, .int .i64 e.order.pick.place, .int .i64 e.order.pick.opn, .int .i64 e.order.pick.close, .int .i64 e.order.pick.service, .int .i64 e.order.drop.place, .int .i64 e.order.drop.opn, .int .i64 e.order.drop.close, .int .i64 e.order.drop.service, .int .i64 e.order.skills, .int .i64 e.order.penalty, .int .i64 e.order.split, .int .i64 e.order.last, .int .i64 e.order.now, .bool e.order.off]] w _
 obtain ⟨W0, hW0⟩ : ∃ W0, (w.alloc (.cells (insCs x P).toArray 30)).alloc (.cells (z8 e C c).toArray 37) = W0 := ⟨_, rfl⟩
 have hB0 : Below w.heap.size w W0 := by rw [← hW0]; exact ((Below.refl _ _).alloc (Nat.le_refl _) _).alloc (by simp) _
 have z0 : W0.heap.size = w.heap.size + 2 := by rw [← hW0]; simp
 have b0 : Blk W0 w.heap.size 30 (insCs x P) := by
  rw [← hW0]
  exact (Blk.new w _ _).kept (World.grownBy_alloc _ _ none) (by simp)
 have b1 : Blk W0 (w.heap.size + 1) 37 (z8 e C c) := by
  rw [← hW0]
  have h := Blk.new (w.alloc (.cells (insCs x P).toArray 30)) 37 (z8 e C c)
  rw [show (w.alloc (.cells (insCs x P).toArray 30)).heap.size = w.heap.size + 1 by simp] at h
  exact h
 have hW1 : (w.alloc (.cells #[.slice P.a0 x.net.places.length P.c0, .slice P.a1 x.net.arcs.length P.c1, .slice P.a2 x.types.length P.c2, .slice P.a3 x.orders.length P.c3, .slice P.a4 x.apart.length P.c4, .slice P.a5 x.before.length P.c5] 30)).alloc (.cells #[.int .i64 e.at_, .int .i64 e.kind, .int .i64 e.a, .int .i64 e.b, .int .i64 e.n, .string e.order.name, .slice C e.order.load.length c, .int .i64 e.order.pick.place, .int .i64 e.order.pick.opn, .int .i64 e.order.pick.close, .int .i64 e.order.pick.service, .int .i64 e.order.drop.place, .int .i64 e.order.drop.opn, .int .i64 e.order.drop.close, .int .i64 e.order.drop.service, .int .i64 e.order.skills, .int .i64 e.order.penalty, .int .i64 e.order.split, .int .i64 e.order.last, .int .i64 e.order.now, .bool e.order.off] 37) = W0 := hW0
 have HX := Lib.hid (fun w' (h' : Below W0.heap.size W0 w') => And.intro (b0.below h') (b1.below h'))
 have HI := Lib.hid (fun w' (h' : Below w.heap.size w w') => h.go h')
 have HW1 := Lib.hid hW1
 have C0 := Below.refl W0.heap.size W0
 clear hW0 hW1 b0 b1
 simp only [InV]
 have HPO := Lib.hid hp
 have hn20 := hp.few
 obtain ⟨n, hn⟩ : ∃ n, x.orders.length = n := ⟨_, rfl⟩
 have HNM := Lib.hid hn
 obtain ⟨r, hr⟩ : ∃ r, gonF x e = r := ⟨_, rfl⟩
 have HR := Lib.hid hr
 rw [hr]
 have HX0 := Lib.hid (HX.out _ C0)
 have HB0 := Lib.hid hB0
 have e1 := HX0.out.2.cell (j := 1) rfl
 have e2 := HX0.out.2.cell (j := 2) rfl
 have x3 : W0.cell? ⟨w.heap.size, 3, none⟩ = some (.slice P.a3 n P.c3) := by rw [← hn]; exact HX0.out.1.cell (j := 3) rfl
 have HZ0 := Lib.hid z0
 rw [hn] at hn20
 clear h hp hr hn
 go_enter Tryz.func29, Tryz.ntmps29
 go_upto_region 1 with fail
 rw [HW1.out]
 clear HW1
 by_cases hk2 : ¬ e.kind = 2
 ·have HRR : Hid (r = 0) := Lib.hid (by rw [← HR.out]; exact gonF_no (.inl hk2))
  have hk : (e.kind != 2) = true := by simp [hk2]
  have hk' : (e.kind == 2) = false := by simp [hk2]
  clear hk2
  go_wp2_with fail
  go_ret
  exact ⟨by rw [HRR.out]; rfl, HB0.out⟩
 have hk2' : e.kind = 2 := Decidable.not_not.1 hk2
 have HK2 := Lib.hid hk2'
 have hk : (e.kind != 2) = false := by simp [hk2']
 have hk' : (e.kind == 2) = true := by simp [hk2']
 clear hk2 hk2'
 by_cases ha1 : e.a < 0
 ·have HRR : Hid (r = 0) := Lib.hid (by rw [← HR.out]; exact gonF_no (.inr (.inl ha1)))
  go_wp2_with fail
  go_ret
  exact ⟨by rw [HRR.out]; rfl, HB0.out⟩
 by_cases ha2 : (n : Int) ≤ e.a
 ·have HRR : Hid (r = 0) := Lib.hid (by rw [← HR.out]; exact gonF_no (.inr (.inr (by rw [HNM.out]; exact ha2))))
  go_wp2_with fail
  go_ret
  exact ⟨by rw [HRR.out]; rfl, HB0.out⟩
 obtain ⟨A, hA⟩ : ∃ A : Nat, e.a = A := ⟨e.a.toNat, by omega⟩
 have hAn : A < n := by omega
 have HRR : Hid (r = bitTo (gonP x A) n) := Lib.hid (by rw [← HR.out, gonF_yes HK2.out hA (by rw [HNM.out]; exact hAn)]; unfold gonN; rw [HNM.out])
 have HX2 : Hid (∀ w', Below W0.heap.size W0 w' → w'.cell? ⟨w.heap.size + 1, 2, none⟩ = some (.int .i64 A)) := Lib.hid (fun w' h' => by rw [← hA]; exact (HX.out _ h').2.cell (j := 2) rfl)
 have hAi1 : ¬ (A : Int) < 0 := by omega
 have hAi2 : ¬ (n : Int) ≤ (A : Int) := by omega
 have hA0 : (0 : Int) ≤ (A : Int) := by omega
 have hA20 : (A : Int) ≤ 20 := by omega
 have hA62 : ¬ (62 : Int) < (A : Int) := by omega
 have HND : Hid (∀ (i : Nat) w', i < n → Below w.heap.size w w' → Calls Tryz.prog 31 #[.agg (insCs x P).toArray, .int .i64 i] w' fun e w'' => e = .returned (.int .i64 (needN x.before x.orders.length i : Nat)) ∧ Below w'.heap.size w' w'') := Lib.hid (fun i w' hi h' => rneeds_any x P i w' (HI.out _ h') HPO.out (by rw [HNM.out]; exact hi))
 have HX3 : Hid (∀ w', Below W0.heap.size W0 w' → w'.cell? ⟨w.heap.size, 3, none⟩ = some (.slice P.a3 n P.c3)) := Lib.hid (fun w' h' => by rw [← HNM.out]; exact (HX.out _ h').1.cell (j := 3) rfl)
 clear e2
 have e2 := HX2.out _ C0
 rw [hA] at ha1 ha2
 clear hA ha1 ha2 HR
 have HC0 := Lib.hid C0
 have hzw : w.heap.size + 1 < W0.heap.size := by have := HZ0.out; omega
 go_upto_region 5 with fail
 clear e1 e2 x3 hk hk'
 go_loopw [5, 6] (fun s i wr => ∃ k : Nat, k ≤ n ∧ i = .int .i64 k ∧ s = .int .i64 (bitTo (gonP x A) k : Nat) ∧ Below W0.heap.size W0 wr) (fun _ i _ => n - (intOf i).toNat)
 case atStart => exact ⟨0, by omega, rfl, rfl, HC0.out⟩
 case round =>
  obtain ⟨k, hk, rfl, rfl, hb⟩ := hrel
  have HBV := Lib.hid hb
  have HBW := Lib.hid (HB0.out.trans (hb.mono (by have := HZ0.out; omega)))
  have hvz := hb.size
  have hsb := bitTo_lt (gonP x A) k
  have hps := pow_small (show k ≤ 20 by omega)
  obtain ⟨S, hS⟩ : ∃ S, bitTo (gonP x A) k = S := ⟨_, rfl⟩
  have HS := Lib.hid hS
  rw [hS] at hsb ⊢
  have hS20 : S < 1048576 := by omega
  have x3 := HX3.out _ HBV.out
  clear hS hb
  by_cases hlt : k < n
  ·obtain ⟨o, ho⟩ : ∃ o, x.orders[k]? = some o := ⟨_, List.getElem?_eq_getElem (by rw [HNM.out]; exact hlt)⟩
   obtain ⟨ad, cs0, hAd, hadb, hat, hcs⟩ := ((HI.out _ HBW.out).orders).elem ho
   obtain ⟨D, dd, rfl, hI, hf⟩ := rOrd_at hat
   have y15 : wr.cell? ⟨(ad.add (k * 16)).block, (ad.add (k * 16)).off + 15, none⟩ = some (.bool o.off) := by rw [← add_split, ← add_of_add]; exact hcs 15 _ rfl
   have HON := Lib.hid (on_of ho)
   have hk0 : (0 : Int) ≤ (k : Int) := by omega
   have hkn : (k : Int) < (n : Int) := by omega
   have hk62 : (k : Int) ≤ 62 := by omega
   obtain ⟨of, hof⟩ : ∃ b, o.off = b := ⟨_, rfl⟩
   rw [hof] at HON y15
   have had : (ad.add (k * 16)).block < wr.heap.size := by rw [ad_block]; omega
   have HSS : Hid (∀ w', Below wr.heap.size wr w' → (w'.cell? ⟨w.heap.size, 3, none⟩ = some (.slice (some ad) n P.c3) ∧ w'.cell? ⟨(ad.add (k * 16)).block, (ad.add (k * 16)).off + 15, none⟩ = some (.bool of)) ∧ CellsAt w' ⟨w.heap.size, 0, none⟩ (insCs x P) ∧ w'.cell? ⟨w.heap.size + 1, 2, none⟩ = some (.int .i64 A)) := Lib.hid (fun w' h' => ⟨⟨by rw [← hAd]; exact HX3.out _ (HBV.out.trans (h'.mono hvz)), (h'.cell (p := ⟨(ad.add (k * 16)).block, (ad.add (k * 16)).off + 15, none⟩) had).trans y15⟩, (HX.out _ (HBV.out.trans (h'.mono hvz))).1.cells, HX2.out _ (HBV.out.trans (h'.mono hvz))⟩)
   rw [hAd] at x3
   have HE4 := Lib.hid (Below.refl wr.heap.size wr)
   clear ho hat hcs hI hf hof hAd y15
   go_upto_region 7 with fail
   clear x3
   cases of
   ·have hnl := need_lt x.before x.orders.length k
    have HNX : Hid (∀ b, b = (needN x.before x.orders.length k).testBit A → gonP x A k = b) := Lib.hid (fun b hb => by
     unfold gonP
     rw [HON.out, ← hb]
     rfl)
    obtain ⟨z, hz⟩ : ∃ z, needN x.before x.orders.length k = z := ⟨_, rfl⟩
    rw [hz] at HNX hnl
    have HNC : Hid (∀ w', Below w.heap.size w w' → Calls Tryz.prog 31 #[.agg (insCs x P).toArray, .int .i64 k] w' fun e w'' => e = .returned (.int .i64 (z : Int)) ∧ Below w'.heap.size w' w'') := Lib.hid (fun w' h' => by
     have h := HND.out k w' hlt h'
     rw [hz] at h
     exact h)
    rw [HNM.out] at hnl
    have hzb := lt20 hn20 hnl
    have hbt := bit_form z A (by omega)
    obtain ⟨tb, htb⟩ : ∃ b, z.testBit A = b := ⟨_, rfl⟩
    rw [htb] at hbt
    have HGP := Lib.hid (HNX.out tb htb.symm)
    clear hz htb HNX hnl
    (refine wp_region_held_drew (S := (fun w' => (w'.cell? ⟨w.heap.size, 3, none⟩ = some (.slice (some ad) n P.c3) ∧ w'.cell? ⟨(ad.add (k * 16)).block, (ad.add (k * 16)).off + 15, none⟩ = some (.bool false)) ∧ CellsAt w' ⟨w.heap.size, 0, none⟩ (insCs x P) ∧ w'.cell? ⟨w.heap.size + 1, 2, none⟩ = some (.int .i64 A))) (by kernel_rfl) ?_ (fun hHeld => ?_))
    ·exact HSS.out _ HE4.out.drew
    (refine lib.tk 0 ?_ rfl (by kernel_rfl) (fun _ _ _ h => h) ?_ (by assumption) ?_; rotate_left; (focus (intro w hSw; (try dsimp only at hSw); go_simp; all_goals with_reducible rfl)); (try simp only [lib.hly]))
    (refine lib.tk 1 ?_ rfl (by kernel_rfl) (fun _ _ _ h => h) ?_ (by assumption) ?_; rotate_left; (focus (intro w hSw; (try dsimp only at hSw); go_simp; all_goals with_reducible rfl)); (try simp only [lib.hly]))
    (refine lib.tk 2 ?_ rfl (by kernel_rfl) (fun _ _ _ h => h) ?_ (by assumption) ?_; rotate_left; (focus (intro w hSw; (try dsimp only at hSw); go_simp; all_goals with_reducible rfl)); (try simp only [lib.hly]))
    (refine lib.tk 3 ?_ rfl (by kernel_rfl) (fun _ _ _ h => h) ?_ (by assumption) ?_; rotate_left; (focus (intro w hSw; (try dsimp only at hSw); go_simp; all_goals with_reducible rfl)); (try simp only [lib.hly]))
    (refine lib.tk 4 ?_ rfl (by kernel_rfl) (fun _ _ _ h => h) ?_ (by assumption) ?_; rotate_left; (focus (intro w hSw; (try dsimp only at hSw); go_simp; all_goals with_reducible rfl)); (try simp only [lib.hly]))
    (refine lib.tk 5 ?_ rfl (by kernel_rfl) (fun _ _ _ h => h) ?_ (by assumption) ?_; rotate_left; (focus (intro w hSw; (try dsimp only at hSw); go_simp; all_goals with_reducible rfl)); (try simp only [lib.hly]))
    (refine lib.tk 6 ?_ rfl (by kernel_rfl) (fun _ _ _ h => h) ?_ (by assumption) ?_; rotate_left; (focus (intro w hSw; (try dsimp only at hSw); go_simp; all_goals with_reducible rfl)); (try simp only [lib.hly]))
    (refine lib.tk 7 ?_ rfl (by kernel_rfl) (fun _ _ _ h => h) ?_ (by assumption) ?_; rotate_left; (focus (intro w hSw; (try dsimp only at hSw); go_simp; all_goals with_reducible rfl)); (try simp only [lib.hly]))
    (refine lib.tk 8 _ rfl (by kernel_rfl) (fun _ _ _ h => h) (fun _ hSw => yG stIns rfl rfl hSw.2.1 rfl) (by assumption) ?_; (try simp only [lib.hly]))
    (refine lib.tk 9 ?_ rfl (by kernel_rfl) (fun _ _ _ h => h) ?_ (by assumption) ?_; rotate_left; (focus (intro w hSw; (try dsimp only at hSw); go_simp; all_goals with_reducible rfl)); (try simp only [lib.hly]))
    (refine lib.tk 11 ?_ rfl (by kernel_rfl) (fun _ _ _ h => h) ?_ (by assumption) ?_; rotate_left; (focus (intro w hSw; (try dsimp only at hSw); go_simp; all_goals with_reducible rfl)); (try simp only [lib.hly]))
    (refine lib.tk 12 ?_ rfl (by kernel_rfl) (fun _ _ _ h => h) ?_ (by assumption) ?_; rotate_left; (focus (intro w hSw; (try dsimp only at hSw); go_simp; all_goals with_reducible rfl)); (try simp only [lib.hly]))
    (refine lib.tk 13 ?_ rfl (by kernel_rfl) (fun _ _ _ h => h) ?_ (by assumption) ?_; rotate_left; (focus (intro w hSw; (try dsimp only at hSw); go_simp; all_goals with_reducible rfl)); (try simp only [lib.hly]))
    (refine wpAnyH_ready (rs := [10]) (by kernel_rfl) (by simp) ?_; refine AllReadyH.cons rfl (fun K hK => ?_) AllReadyH.nil)
    go_simp
    refine (HNC.out _ HBW.out.drew).mono ?_
    rintro e5 v5 ⟨rfl, b5⟩
    have HD5 := Lib.hid (HE4.out.drew.trans b5)
    have HV5 := Lib.hid (HBV.out.trans (HD5.out.mono hvz))
    clear b5
    refine hK.out _ _ (HSS.out _ HD5.out) (fun hHeld => ?_)
    clear hK K
    (try simp only [lib.hly])
    (refine lib.tk 14 ?_ rfl (by kernel_rfl) (fun _ _ _ h => h) ?_ (by assumption) ?_; rotate_left; (focus (intro w hSw; (try dsimp only at hSw); go_simp; all_goals with_reducible rfl)); (try simp only [lib.hly]))
    (refine lib.tk 15 ?_ rfl (by kernel_rfl) (fun _ _ _ h => h) ?_ (by assumption) ?_; rotate_left; (focus (intro w hSw; (try dsimp only at hSw); go_simp; all_goals with_reducible rfl)); (try simp only [lib.hly]))
    (refine lib.tk 16 ?_ rfl (by kernel_rfl) (fun _ _ _ h => h) ?_ (by assumption) ?_; rotate_left; (focus (intro w hSw; (try dsimp only at hSw); go_simp; all_goals with_reducible rfl)); (try simp only [lib.hly]))
    (refine lib.tk 17 ?_ rfl (by kernel_rfl) (fun _ _ _ h => h) ?_ (by assumption) ?_; rotate_left; (focus (intro w hSw; (try dsimp only at hSw); go_simp; all_goals with_reducible rfl)); (try simp only [lib.hly]))
    (refine wpAnyH_done (by kernel_rfl) ?_ _)
    cases tb
    ·have HBN : Hid (bitTo (gonP x A) (k + 1) = S) := Lib.hid (by rw [bitTo_no HGP.out, HS.out])
     go_wp2
     go_roundw
     case rel => exact ⟨k + 1, by omega, by go_num, by rw [HBN.out], HV5.out⟩
     case measure => simp [intOf]; omega
    ·have hsh := shl_nat (show k ≤ 20 by omega)
     have hpk := pow_small (show k ≤ 20 by omega)
     have HBN : Hid (bitTo (gonP x A) (k + 1) = S + 2 ^ k) := Lib.hid (by rw [bitTo_yes HGP.out, HS.out])
     obtain ⟨zk, hzk⟩ : ∃ zk, 2 ^ k = zk := ⟨_, rfl⟩
     rw [hzk] at hsh hpk HBN
     clear hzk
     go_wp2
     go_roundw
     case rel => exact ⟨k + 1, by omega, by go_num, by rw [HBN.out, Int.natCast_add]; rw [wrap_two hS20 hpk], HV5.out⟩
     case measure => simp [intOf]; omega
   ·have HBN : Hid (bitTo (gonP x A) (k + 1) = S) := Lib.hid (by
     rw [bitTo_no (by unfold gonP; rw [HON.out]; rfl), HS.out])
    (refine wp_region_held_drew (S := (fun w' => (w'.cell? ⟨w.heap.size, 3, none⟩ = some (.slice (some ad) n P.c3) ∧ w'.cell? ⟨(ad.add (k * 16)).block, (ad.add (k * 16)).off + 15, none⟩ = some (.bool true)) ∧ CellsAt w' ⟨w.heap.size, 0, none⟩ (insCs x P) ∧ w'.cell? ⟨w.heap.size + 1, 2, none⟩ = some (.int .i64 A))) (by kernel_rfl) ?_ (fun hHeld => ?_))
    ·exact HSS.out _ HE4.out.drew
    (refine lib.tk 0 ?_ rfl (by kernel_rfl) (fun _ _ _ h => h) ?_ (by assumption) ?_; rotate_left; (focus (intro w hSw; (try dsimp only at hSw); go_simp; all_goals with_reducible rfl)); (try simp only [lib.hly]))
    (refine lib.tk 1 ?_ rfl (by kernel_rfl) (fun _ _ _ h => h) ?_ (by assumption) ?_; rotate_left; (focus (intro w hSw; (try dsimp only at hSw); go_simp; all_goals with_reducible rfl)); (try simp only [lib.hly]))
    (refine lib.tk 2 ?_ rfl (by kernel_rfl) (fun _ _ _ h => h) ?_ (by assumption) ?_; rotate_left; (focus (intro w hSw; (try dsimp only at hSw); go_simp; all_goals with_reducible rfl)); (try simp only [lib.hly]))
    (refine lib.tk 3 ?_ rfl (by kernel_rfl) (fun _ _ _ h => h) ?_ (by assumption) ?_; rotate_left; (focus (intro w hSw; (try dsimp only at hSw); go_simp; all_goals with_reducible rfl)); (try simp only [lib.hly]))
    (refine lib.tk 4 ?_ rfl (by kernel_rfl) (fun _ _ _ h => h) ?_ (by assumption) ?_; rotate_left; (focus (intro w hSw; (try dsimp only at hSw); go_simp; all_goals with_reducible rfl)); (try simp only [lib.hly]))
    (refine lib.tk 5 ?_ rfl (by kernel_rfl) (fun _ _ _ h => h) ?_ (by assumption) ?_; rotate_left; (focus (intro w hSw; (try dsimp only at hSw); go_simp; all_goals with_reducible rfl)); (try simp only [lib.hly]))
    (refine lib.tk 6 ?_ rfl (by kernel_rfl) (fun _ _ _ h => h) ?_ (by assumption) ?_; rotate_left; (focus (intro w hSw; (try dsimp only at hSw); go_simp; all_goals with_reducible rfl)); (try simp only [lib.hly]))
    (refine lib.tk 7 ?_ rfl (by kernel_rfl) (fun _ _ _ h => h) ?_ (by assumption) ?_; rotate_left; (focus (intro w hSw; (try dsimp only at hSw); go_simp; all_goals with_reducible rfl)); (try simp only [lib.hly]))
    (refine wpAnyH_take (i := 8) (v := undef) rfl (by kernel_rfl) (by kernel_rfl) (by kernel_rfl) (fun _ _ _ h => h) (Or.inr ⟨by kernel_rfl, rfl⟩) (by assumption) ?_; (try simp only [lib.hly]))
    (refine wpAnyH_take (i := 9) (v := undef) rfl (by kernel_rfl) (by kernel_rfl) (by kernel_rfl) (fun _ _ _ h => h) (Or.inr ⟨by kernel_rfl, rfl⟩) (by assumption) ?_; (try simp only [lib.hly]))
    (refine wpAnyH_take (i := 10) (v := undef) rfl (by kernel_rfl) (by kernel_rfl) (by kernel_rfl) (fun _ _ _ h => h) (Or.inr ⟨by kernel_rfl, rfl⟩) (by assumption) ?_; (try simp only [lib.hly]))
    (refine wpAnyH_take (i := 11) (v := undef) rfl (by kernel_rfl) (by kernel_rfl) (by kernel_rfl) (fun _ _ _ h => h) (Or.inr ⟨by kernel_rfl, rfl⟩) (by assumption) ?_; (try simp only [lib.hly]))
    (refine wpAnyH_take (i := 12) (v := undef) rfl (by kernel_rfl) (by kernel_rfl) (by kernel_rfl) (fun _ _ _ h => h) (Or.inr ⟨by kernel_rfl, rfl⟩) (by assumption) ?_; (try simp only [lib.hly]))
    (refine wpAnyH_take (i := 13) (v := undef) rfl (by kernel_rfl) (by kernel_rfl) (by kernel_rfl) (fun _ _ _ h => h) (Or.inr ⟨by kernel_rfl, rfl⟩) (by assumption) ?_; (try simp only [lib.hly]))
    (refine wpAnyH_take (i := 14) (v := undef) rfl (by kernel_rfl) (by kernel_rfl) (by kernel_rfl) (fun _ _ _ h => h) (Or.inr ⟨by kernel_rfl, rfl⟩) (by assumption) ?_; (try simp only [lib.hly]))
    (refine wpAnyH_take (i := 15) (v := undef) rfl (by kernel_rfl) (by kernel_rfl) (by kernel_rfl) (fun _ _ _ h => h) (Or.inr ⟨by kernel_rfl, rfl⟩) (by assumption) ?_; (try simp only [lib.hly]))
    (refine wpAnyH_take (i := 16) (v := undef) rfl (by kernel_rfl) (by kernel_rfl) (by kernel_rfl) (fun _ _ _ h => h) (Or.inr ⟨by kernel_rfl, rfl⟩) (by assumption) ?_; (try simp only [lib.hly]))
    (refine lib.tk 17 ?_ rfl (by kernel_rfl) (fun _ _ _ h => h) ?_ (by assumption) ?_; rotate_left; (focus (intro w hSw; (try dsimp only at hSw); go_simp; all_goals with_reducible rfl)); (try simp only [lib.hly]))
    (refine wpAnyH_done (by kernel_rfl) ?_ _)
    go_wp2
    go_roundw
    case rel => exact ⟨k + 1, by omega, by go_num, by rw [HBN.out], HBV.out.drew⟩
    case measure => simp [intOf]; omega
  ·have hke : k = n := by omega
   have hkn : ¬ (k : Int) < (n : Int) := by omega
   have HRS : Hid (r = S) := Lib.hid (by rw [HRR.out, ← hke, HS.out])
   clear hke
   go_wp2_with fail
   go_ret
   exact ⟨by rw [HRS.out]; rfl, HBW.out⟩
end Go.Proofs.YtofabhenmplkoaaGreatDoor.gon
namespace Go.Proofs.YtofabhenmplkoaaGreatDoor.gon
open Go.RowKit
open lib rd typ app big ord gen evt
open ins hiding zOrd bOrd
open eqg rul
def NotOk (e : Ending) : Prop := ∃ k : Int, k ≠ 0 ∧ e = .returned (.int .i64 k)
theorem has_one {i : Nat} (hi : i ≤ 20) (b : Nat) (hb : b < 1000000) (w : World) : Calls Tryz.prog 83 #[.int .i64 (2 ^ i : Nat), .int .i64 b] w fun e w' => e = .returned (.bool (decide (i = b))) ∧ Below w.heap.size w w' := by
 have h := rhas_any (2 ^ i) b (by have := pow_small hi; omega) hb w
 rw [Nat.testBit_two_pow] at h
 exact h
set_option maxRecDepth 20000 in
set_option maxHeartbeats 4000000 in
theorem rallowed_no (x : Ins) (P : InP) (i j0 a0 : Nat) (w : World) (h : InAt w w.heap.size x P) (hp : PrOk x) (hi : i < x.orders.length) (hj : x.before[j0]? = some ((a0 : Int), (i : Int))) :
  Calls Tryz.prog 32 #[InV x P, .int .i64 (2 ^ i : Nat)] w fun e w' => NotOk e ∧ Below w.heap.size w w' := by
 obtain ⟨W0, hW0⟩ : ∃ W0, w.alloc (.cells (insCs x P).toArray 30) = W0 := ⟨_, rfl⟩
 have hB0 : Below w.heap.size w W0 := by rw [← hW0]; exact (Below.refl _ _).alloc (Nat.le_refl _) _
 have z0 := hB0.size
 have b0 : Blk W0 w.heap.size 30 (insCs x P) := by rw [← hW0]; exact World.alloc_heap_new w _
 have hs0 := b0.lt
 have HX := Lib.hid (fun w' (h' : Below W0.heap.size W0 w') => (b0.below h'))
 have HI := Lib.hid (fun w' (h' : Below w.heap.size w w') => h.go h')
 have hW1 : w.alloc (.cells #[.slice P.a0 x.net.places.length P.c0, .slice P.a1 x.net.arcs.length P.c1, .slice P.a2 x.types.length P.c2, .slice P.a3 x.orders.length P.c3, .slice P.a4 x.apart.length P.c4, .slice P.a5 x.before.length P.c5] 30) = W0 := hW0
 have HW1 := Lib.hid hW1
 have HB0 := Lib.hid hB0
 have C0 := Below.refl W0.heap.size W0
 clear hW0 hW1 b0 hB0
 simp only [InV]
 have hn20 := hp.few
 have ha0 : a0 ≠ i := fun e => hp.ne _ (List.mem_of_getElem? hj) (by rw [e])
 have HPO := Lib.hid hp
 obtain ⟨n, hn⟩ : ∃ n, x.orders.length = n := ⟨_, rfl⟩
 obtain ⟨m, hm⟩ : ∃ n, x.before.length = n := ⟨_, rfl⟩
 obtain ⟨l, hl⟩ : ∃ n, x.apart.length = n := ⟨_, rfl⟩
 have HNM := Lib.hid (And.intro hn (And.intro hm hl))
 have hmb : m ≤ 100000 := by rw [← hm]; exact hp.len
 have hlb : l ≤ 100000 := by rw [← hl]; exact hp.alen
 have hj0 : j0 < m := by rw [← hm]; exact (List.getElem?_eq_some_iff.1 hj).1
 have HIN : Hid (InE n x.before ∧ InE n x.apart) := Lib.hid (by rw [← hn]; exact ⟨hp.inE, hp.inA⟩)
 have HCC : Hid (∀ w', Below W0.heap.size W0 w' → w'.cell? ⟨w.heap.size, 3, none⟩ = some (.slice P.a3 n P.c3) ∧ w'.cell? ⟨w.heap.size, 4, none⟩ = some (.slice P.a4 l P.c4) ∧ w'.cell? ⟨w.heap.size, 5, none⟩ = some (.slice P.a5 m P.c5)) := Lib.hid (fun w' h' => ⟨by rw [← hn]; exact (HX.out _ h').cell (j := 3) rfl, by rw [← hl]; exact (HX.out _ h').cell (j := 4) rfl, by rw [← hm]; exact (HX.out _ h').cell (j := 5) rfl⟩)
 rw [hn] at hi hn20
 have hi20 : i ≤ 20 := by omega
 have HBT := Lib.hid (rbit_any n (by omega))
 have HPW : Hid (2 ^ i < 2 ^ n) := Lib.hid (Nat.pow_lt_pow_right (by decide) hi)
 have hps := pow_small hn20
 have HH := Lib.hid (fun (b : Nat) (hb : b < 1000000) w => has_one hi20 b hb w)
 obtain ⟨z, hz⟩ : ∃ z, 2 ^ i = z := ⟨_, rfl⟩
 obtain ⟨zn, hzn⟩ : ∃ z, 2 ^ n = z := ⟨_, rfl⟩
 rw [hz] at HH HPW ⊢
 rw [hzn] at HBT HPW hps
 have hzz := HPW.out
 have HJ := Lib.hid hj
 have HC0 := Lib.hid C0
 have x3 := (HCC.out _ C0).1
 clear h hp hn hm hl hj hz hzn
 go_enter Tryz.func32, Tryz.ntmps32
 go_upto_region 1 with fail
 rw [HW1.out]
 clear HW1
 go_wp2_with fail
 refine (HBT.out W0).mono ?_
 rintro e1 w1 ⟨rfl, b1⟩
 have HB1 := Lib.hid b1
 have z1 := b1.size
 clear b1 x3
 go_upto_region 5 with fail
 have d1 : decide (zn ≤ z) = false := decide_eq_false (by omega)
 have d2 : decide ((z : Int) < 0) = false := decide_eq_false (by omega)
 simp only [d1, d2, Bool.or_false, Bool.false_or]
 clear d1 d2
 go_loopw [6] (fun kk wr => ∃ k : Nat, k ≤ n ∧ kk = .int .i64 k ∧ Below W0.heap.size W0 wr) (fun kk _ => n - (intOf kk).toNat)
 case atStart => exact ⟨0, by omega, rfl, HB1.out⟩
 case round =>
  obtain ⟨k, hk, rfl, hb⟩ := hrel
  have HBV := Lib.hid hb
  have HBW := Lib.hid (HB0.out.trans (hb.mono z0))
  clear hb
  by_cases hlt : k < n
  ·have hk0 : (0 : Int) ≤ (k : Int) := by omega
   have hkn : (k : Int) < (n : Int) := by omega
   have hh := HH.out k (by omega) wr
   obtain ⟨tb, htb⟩ : ∃ b, decide (i = k) = b := ⟨_, rfl⟩
   rw [htb] at hh
   clear htb
   go_wp2_with fail
   refine hh.mono ?_
   rintro e2 w2 ⟨rfl, b2⟩
   have HB2 := Lib.hid (HBV.out.trans (b2.mono HBV.out.size))
   have HW2 := Lib.hid (HB0.out.trans (HB2.out.mono z0))
   clear b2 hh
   cases tb
   ·go_wp2_with fail
    go_roundw
    case rel => exact ⟨k + 1, by omega, by go_num, HB2.out⟩
    case measure => simp [intOf]; omega
   ·obtain ⟨o, ho⟩ : ∃ o, x.orders[k]? = some o := ⟨_, List.getElem?_eq_getElem (by rw [HNM.out.1]; exact hlt)⟩
    obtain ⟨ad, cs0, hA, hadb, hat, hcs⟩ := ((HI.out _ HW2.out).orders).elem ho
    obtain ⟨D, dd, rfl, hI, hf⟩ := rOrd_at hat
    have y15 : w2.cell? ⟨(ad.add (k * 16)).block, (ad.add (k * 16)).off + 15, none⟩ = some (.bool o.off) := by rw [← add_split, ← add_of_add]; exact hcs 15 _ rfl
    have x3 : w2.cell? ⟨w.heap.size, 3, none⟩ = some (.slice (some ad) n P.c3) := by rw [← hA]; exact (HCC.out _ HB2.out).1
    obtain ⟨of, hof⟩ : ∃ b, o.off = b := ⟨_, rfl⟩
    rw [hof] at y15
    clear ho hA hat hcs hI hf hof
    cases of
    ·go_wp2_with fail
     go_roundw
     case rel => exact ⟨k + 1, by omega, by go_num, HB2.out⟩
     case measure => simp [intOf]; omega
    ·go_wp2_with fail
     go_ret
     exact ⟨⟨9, by decide, rfl⟩, HW2.out⟩
  ·have hkn : ¬ (k : Int) < (n : Int) := by omega
   have HV8 := Lib.hid (Below.refl wr.heap.size wr)
   obtain ⟨v8, hv8⟩ : ∃ v, wr = v := ⟨_, rfl⟩
   subst hv8
   go_upto_region 10 with fail
   go_loopw [7] (fun kk wz => ∃ k : Nat, k ≤ l ∧ kk = .int .i64 k ∧ Below W0.heap.size W0 wz) (fun kk _ => l - (intOf kk).toNat)
   case atStart => exact ⟨0, by omega, rfl, HBV.out⟩
   case round =>
    obtain ⟨q, hq, rfl, hb2⟩ := hrel
    have HCV := Lib.hid hb2
    have HCW := Lib.hid (HB0.out.trans (hb2.mono z0))
    have x4 := (HCC.out _ HCV.out).2.1
    clear hb2
    by_cases hlq : q < l
    ·obtain ⟨p, hp⟩ : ∃ p, x.apart[q]? = some p := ⟨_, List.getElem?_eq_getElem (by rw [HNM.out.2.2]; exact hlq)⟩
     obtain ⟨ad, hA0, hadb, ⟨m0, m1⟩, hpf1, hpf2⟩ := row_Two ((HI.out _ HCW.out).apart) hp
     have hpe := HIN.out.2 p (List.mem_of_getElem? hp)
     have hpn := HPO.out.neA p (List.mem_of_getElem? hp)
     obtain ⟨pa, pb⟩ := p
     dsimp only at hpe m0 m1 hpn
     obtain ⟨a, rfl⟩ : ∃ a : Nat, pa = a := ⟨pa.toNat, by omega⟩
     obtain ⟨d, rfl⟩ : ∃ d : Nat, pb = d := ⟨pb.toNat, by omega⟩
     have hq0 : (0 : Int) ≤ (q : Int) := by omega
     have hql : (q : Int) < (l : Int) := by omega
     have hh := HH.out a (by omega) wr
     have HHD := Lib.hid (HH.out d (by omega))
     obtain ⟨ta, hta⟩ : ∃ b, decide (i = a) = b := ⟨_, rfl⟩
     obtain ⟨td, htd⟩ : ∃ b, decide (i = d) = b := ⟨_, rfl⟩
     rw [hta] at hh
     rw [htd] at HHD
     rw [hA0] at x4
     have HX4 := Lib.hid (fun w' (h' : Below wr.heap.size wr w') => And.intro ((h'.cell (p := ⟨w.heap.size, 4, none⟩) (by have := HCW.out.size; have := HCV.out.size; show w.heap.size < wr.heap.size; omega)).trans x4) ((h'.cell (p := ⟨(ad.add (q * 2)).block, (ad.add (q * 2)).off + 1, none⟩) (by show (ad.add (q * 2)).block < wr.heap.size; rw [ad_block]; exact hadb)).trans m1))
     clear hp hpf1 hpf2 hta htd hA0 hpe hpn
     go_wp2_with fail
     refine hh.mono ?_
     rintro e2 w2 ⟨rfl, b2⟩
     have HB2 := Lib.hid (HCV.out.trans (b2.mono HCV.out.size))
     have x4 := (HX4.out _ b2).1
     have m1 := (HX4.out _ b2).2
     clear b2 hh
     cases ta
     ·go_wp2_with fail
      go_roundw
      case rel => exact ⟨q + 1, by omega, by go_num, HB2.out⟩
      case measure => simp [intOf]; omega
     ·go_wp2_with fail
      refine (HHD.out w2).mono ?_
      rintro e3 w3 ⟨rfl, b3⟩
      have HB3 := Lib.hid (HB2.out.trans (b3.mono HB2.out.size))
      clear b3
      cases td
      ·go_wp2_with fail
       go_roundw
       case rel => exact ⟨q + 1, by omega, by go_num, HB3.out⟩
       case measure => simp [intOf]; omega
      ·go_wp2_with fail
       go_ret
       exact ⟨⟨20, by decide, rfl⟩, HB0.out.trans (HB3.out.mono z0)⟩
    ·have hql : ¬ (q : Int) < (l : Int) := by omega
     obtain ⟨v9, hv9⟩ : ∃ v, wr = v := ⟨_, rfl⟩
     subst hv9
     go_upto_region 15 with fail
     clear x4
     go_loopw [8] (fun kk wz => ∃ k : Nat, k ≤ j0 ∧ kk = .int .i64 k ∧ Below W0.heap.size W0 wz) (fun kk _ => m - (intOf kk).toNat)
     case atStart => exact ⟨0, by omega, rfl, HCV.out⟩
     case round =>
      obtain ⟨t, ht, rfl, hb3⟩ := hrel
      have HDV := Lib.hid hb3
      have HDW := Lib.hid (HB0.out.trans (hb3.mono z0))
      have x5 := (HCC.out _ HDV.out).2.2
      clear hb3
      obtain ⟨p, hp⟩ : ∃ p, x.before[t]? = some p := ⟨_, List.getElem?_eq_getElem (by rw [HNM.out.2.1]; omega)⟩
      obtain ⟨ad, hA0, hadb, ⟨m0, m1⟩, hpf1, hpf2⟩ := row_Two ((HI.out _ HDW.out).before) hp
      have hpe := HIN.out.1 p (List.mem_of_getElem? hp)
      have HTJ : Hid (t = j0 → p = ((a0 : Int), (i : Int))) := Lib.hid (fun e => by rw [e, HJ.out] at hp; exact (Option.some.inj hp).symm)
      obtain ⟨pa, pb⟩ := p
      dsimp only at hpe m0 m1
      obtain ⟨a, rfl⟩ : ∃ a : Nat, pa = a := ⟨pa.toNat, by omega⟩
      obtain ⟨d, rfl⟩ : ∃ d : Nat, pb = d := ⟨pb.toNat, by omega⟩
      have ht0 : (0 : Int) ≤ (t : Int) := by omega
      have htm : (t : Int) < (m : Int) := by omega
      have hh := HH.out d (by omega) wr
      have HHA := Lib.hid (HH.out a (by omega))
      obtain ⟨ta, hta⟩ : ∃ b, decide (i = a) = b := ⟨_, rfl⟩
      obtain ⟨td, htd⟩ : ∃ b, decide (i = d) = b := ⟨_, rfl⟩
      rw [htd] at hh
      rw [hta] at HHA
      have HTT : Hid (t = j0 → td = true ∧ ta = false) := Lib.hid (fun e => by
       have h := HTJ.out e
       injection h with h1 h2
       have h3 : a = a0 := by omega
       have h4 : d = i := by omega
       refine ⟨by rw [← htd, h4]; simp, by rw [← hta, h3]; exact decide_eq_false (fun e => ha0 e.symm)⟩)
      rw [hA0] at x5
      have HX5 := Lib.hid (fun w' (h' : Below wr.heap.size wr w') => And.intro ((h'.cell (p := ⟨w.heap.size, 5, none⟩) (by have := HDW.out.size; have := HDV.out.size; show w.heap.size < wr.heap.size; omega)).trans x5) ((h'.cell (p := ad.add (t * 2)) (by rw [ad_block]; exact hadb)).trans m0))
      clear hp hpf1 hpf2 hta htd hA0 hpe HTJ
      go_wp2_with fail
      refine hh.mono ?_
      rintro e2 w2 ⟨rfl, b2⟩
      have HB2 := Lib.hid (HDV.out.trans (b2.mono HDV.out.size))
      have x5 := (HX5.out _ b2).1
      have m0 := (HX5.out _ b2).2
      clear b2 hh
      cases td
      ·have htj : t < j0 := by
        rcases Nat.lt_or_ge t j0 with h | h
        ·exact h
        ·have := (HTT.out (by omega)).1; cases this
       go_wp2_with fail
       go_roundw
       case rel => exact ⟨t + 1, by omega, by go_num, HB2.out⟩
       case measure => simp [intOf]; omega
      ·go_wp2_with fail
       refine (HHA.out w2).mono ?_
       rintro e3 w3 ⟨rfl, b3⟩
       have HB3 := Lib.hid (HB2.out.trans (b3.mono HB2.out.size))
       clear b3
       cases ta
       ·go_wp2_with fail
        go_ret
        exact ⟨⟨21, by decide, rfl⟩, HB0.out.trans (HB3.out.mono z0)⟩
       ·have htj : t < j0 := by
         rcases Nat.lt_or_ge t j0 with h | h
         ·exact h
         ·have := (HTT.out (by omega)).2; cases this
        go_wp2_with fail
        go_roundw
        case rel => exact ⟨t + 1, by omega, by go_num, HB3.out⟩
        case measure => simp [intOf]; omega
end Go.Proofs.YtofabhenmplkoaaGreatDoor.gon

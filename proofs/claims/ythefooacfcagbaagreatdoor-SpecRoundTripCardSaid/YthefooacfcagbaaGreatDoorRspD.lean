/- The reference's line of an order. -/
import Derived.Test.YthefooacfcagbaaGreatDoorRspC
namespace Go.Proofs.YthefooacfcagbaaGreatDoor.spc
open Go.RowKit
open lib rd app els typ big gen
open txt (in64 By strV strV_of decW joinS)
set_option linter.unusedVariables false
set_option linter.unusedSimpArgs false
theorem stopF_84 {s : Stp} (h : StpFits s) : (stopF s).length ≤ 10000000 := by
 unfold stopF
 split
 ·simp
 ·refine join_len20 [58] rfl (fun u hu => ?_) (by simp [stpN])
  obtain ⟨z, hz, rfl⟩ := List.mem_map.1 hu
  obtain ⟨h1, h2, h3, h4⟩ := h
  simp only [stpN, List.mem_cons, List.not_mem_nil, or_false] at hz
  rcases hz with rfl | rfl | rfl | rfl
  ·have := itoa_len h1; omega
  ·have := itoa_len h2; omega
  ·have := itoa_len h3; omega
  ·have := itoa_len h4; omega
theorem stpN_in {s : Stp} (h : StpFits s) : ∀ z ∈ stpN s, in64 z := by
 obtain ⟨h1, h2, h3, h4⟩ := h
 intro z hz
 simp only [stpN, List.mem_cons, List.not_mem_nil, or_false] at hz
 rcases hz with rfl | rfl | rfl | rfl <;> first | exact h1 | exact h2 | exact h3 | exact h4
theorem opick (a : Ord) (C : Option Addr) (c : Nat) (j : Nat) (u : Value) (h : (StpCells a.pick)[j]? = some u) : (OrdCells a C c)[2 + j]? = some u := by
 rcases j with _ | _ | _ | _ | j <;> first | exact h | (simp [StpCells] at h)
theorem odrop (a : Ord) (C : Option Addr) (c : Nat) (j : Nat) (u : Value) (h : (StpCells a.drop)[j]? = some u) : (OrdCells a C c)[6 + j]? = some u := by
 rcases j with _ | _ | _ | _ | j <;> first | exact h | (simp [StpCells] at h)
set_option maxRecDepth 20000 in
set_option maxHeartbeats 8000000 in
theorem rforder_any (t : Ord) (C : Option Addr) (c : Nat) (w : World) (hI : Ints w w.heap.size C t.load) (hok : ordOk t) (hld : t.load.length ≤ 100000) :
  Calls Tryz.prog 27 #[.agg (OrdCells t C c).toArray] w fun e w' => e = .returned (.string ⟨(lineB (.order t)).toArray⟩) ∧ Below w.heap.size w w' := by
 show Calls Tryz.prog 27 #[.agg #[.string t.name, .slice C t.load.length c, .int .i64 t.pick.place, .int .i64 t.pick.opn, .int .i64 t.pick.close, .int .i64 t.pick.service, .int .i64 t.drop.place, .int .i64 t.drop.opn, .int .i64 t.drop.close, .int .i64 t.drop.service, .int .i64 t.skills, .int .i64 t.penalty, .int .i64 t.split, .int .i64 t.last, .int .i64 t.now, .bool t.off]] w _
 obtain ⟨hw, ⟨hnm, hp, hd, i1, i2, i3, i4, i5⟩, hc64⟩ := hok
 have k2 : ∀ z ∈ [t.skills, t.penalty, t.split, t.last, t.now], in64 z := fun z hz => by
  simp only [List.mem_cons, List.not_mem_nil, or_false] at hz
  rcases hz with rfl | rfl | rfl | rfl | rfl <;> assumption
 have HKB := Lib.hid (order_bytes t)
 obtain ⟨R, hR⟩ : ∃ R, (⟨(lineB (.order t)).toArray⟩ : ByteArray) = R := ⟨_, rfl⟩
 rw [hR] at HKB ⊢
 have HC2 : Hid (∀ (v : World) A, Ints v v.heap.size A [t.skills, t.penalty, t.split, t.last, t.now] → Calls Tryz.prog 25 #[.slice A 5 5] v fun e w' => e = .returned (.string ⟨(numsB [t.skills, t.penalty, t.split, t.last, t.now]).toArray⟩) ∧ Below v.heap.size v w') := Lib.hid fun v A h => rfnumbers_any _ A 5 5 rfl v h k2 (by decide)
 have HCP : Hid (∀ v : World, Calls Tryz.prog 15 #[.agg (StpCells t.pick).toArray] v fun e w' => e = .returned (.string ⟨(stopF t.pick).toArray⟩) ∧ Below v.heap.size v w') := Lib.hid fun v => rfstop_any t.pick v (stpN_in hp)
 have HCD : Hid (∀ v : World, Calls Tryz.prog 15 #[.agg (StpCells t.drop).toArray] v fun e w' => e = .returned (.string ⟨(stopF t.drop).toArray⟩) ∧ Below v.heap.size v w') := Lib.hid fun v => rfstop_any t.drop v (stpN_in hd)
 have s2 := numsB_len k2
 have s3 := listF_small hc64 hld
 have s4 := stopF_84 hp
 have s5 := stopF_84 hd
 rw [← arr_size] at s2 s3 s4 s5
 obtain ⟨N2, hN2⟩ : ∃ N, (⟨(numsB [t.skills, t.penalty, t.split, t.last, t.now]).toArray⟩ : ByteArray) = N := ⟨_, rfl⟩
 obtain ⟨N3, hN3⟩ : ∃ N, (⟨(listF t.load).toArray⟩ : ByteArray) = N := ⟨_, rfl⟩
 obtain ⟨N4, hN4⟩ : ∃ N, (⟨(stopF t.pick).toArray⟩ : ByteArray) = N := ⟨_, rfl⟩
 obtain ⟨N5, hN5⟩ : ∃ N, (⟨(stopF t.drop).toArray⟩ : ByteArray) = N := ⟨_, rfl⟩
 have HC3 : Hid (∀ (v : World), Below w.heap.size w v → Calls Tryz.prog 58 #[.slice C t.load.length c] v fun e w' => e = .returned (.string ⟨(listF t.load).toArray⟩) ∧ Below v.heap.size v w') := Lib.hid fun v h => rflist_any t.load C _ c rfl v ((hI.below h).more h.size) hc64 hld
 rw [hN2] at s2 HC2 HKB
 rw [hN3] at s3 HC3 HKB
 rw [hN4] at s4 HCP HKB
 rw [hN5] at s5 HCD HKB
 have e2 : 21 * [t.skills, t.penalty, t.split, t.last, t.now].length = 105 := rfl
 rw [e2] at s2
 have h32 : (⟨#[32]⟩ : ByteArray).size = 1 := rfl
 have h6 : (⟨#[111, 114, 100, 101, 114, 32]⟩ : ByteArray).size = 6 := rfl
 have hon : (⟨#[32, 111, 110, 10]⟩ : ByteArray).size = 4 := rfl
 have hoff : (⟨#[32, 111, 102, 102, 10]⟩ : ByteArray).size = 5 := rfl
 obtain ⟨W1, hW1⟩ : ∃ W, w.alloc (.cells (OrdCells t C c).toArray 66) = W := ⟨_, rfl⟩
 have HW1 := Lib.hid hW1
 have HQ : Hid (∀ v, Below W1.heap.size W1 v → Blk v w.heap.size 66 (OrdCells t C c)) := Lib.hid (fun v hv => Blk.below (by rw [← hW1]; exact Blk.new w _ _) hv)
 have HL1 : Hid (Below w.heap.size w W1) := Lib.hid (by rw [← hW1]; exact (Below.refl _ _).alloc (Nat.le_refl _) _)
 clear hI hw hp hd i1 i2 i3 i4 i5 k2 hR hN2 hN3 hN4 hN5 hW1 hc64 e2
 go_enter Tryz.func27, Tryz.ntmps27
 go_upto_region 1 with fail
 rw [show w.alloc (.cells #[.string t.name, .slice C t.load.length c, .int .i64 t.pick.place, .int .i64 t.pick.opn, .int .i64 t.pick.close, .int .i64 t.pick.service, .int .i64 t.drop.place, .int .i64 t.drop.opn, .int .i64 t.drop.close, .int .i64 t.drop.service, .int .i64 t.skills, .int .i64 t.penalty, .int .i64 t.split, .int .i64 t.last, .int .i64 t.now, .bool t.off] 66) = W1 from HW1.out]
 clear HW1
 go_cut [3] (fun s wx => s = .string (⟨#[111, 114, 100, 101, 114, 32]⟩ ++ t.name ++ ⟨#[32]⟩ ++ N3 ++ ⟨#[32]⟩ ++ N4 ++ ⟨#[32]⟩ ++ N5 ++ N2) ∧ Below W1.heap.size W1 wx)
 case first =>
  (refine wp_region_held_drew (S := (fun v => Blk v w.heap.size 66 (OrdCells t C c))) (by kernel_rfl) ?_ (fun hHeld => ?_))
  ·exact HQ.out _ (Below.refl _ _).drew
  obtain ⟨v0, hv0⟩ : ∃ v, W1.drew = v := ⟨_, rfl⟩
  have HBv0 : Hid (Below W1.heap.size W1 v0) := Lib.hid (by rw [← hv0]; exact (Below.refl _ _).drew)
  rw [hv0] at hHeld ⊢
  (refine lib.tk 0 ?_ rfl (by kernel_rfl) (fun _ _ _ h => h) ?_ (by assumption) ?_; rotate_left; (focus (intro w hSw; (try dsimp only at hSw); go_simp; all_goals with_reducible rfl)); (try simp only [lib.hly]))
  (refine lib.tk 1 _ rfl (by kernel_rfl) (fun _ _ _ h => h) (fun _ hSw => exec_ld_str rfl rfl (hSw.cell (j := 0) rfl)) (by assumption) ?_; (try simp only [lib.hly]))
  (refine lib.tk 2 ?_ rfl (by kernel_rfl) (fun _ _ _ h => h) ?_ (by assumption) ?_; rotate_left; (focus (intro w hSw; (try dsimp only at hSw); go_simp; rw [if_neg]; (try with_reducible rfl); (all_goals (first | omega | (simp only [ByteArray.size_append]; omega))))); (try simp only [lib.hly]))
  (refine lib.tk 3 ?_ rfl (by kernel_rfl) (fun _ _ _ h => h) ?_ (by assumption) ?_; rotate_left; (focus (intro w hSw; (try dsimp only at hSw); go_simp; rw [if_neg]; (try with_reducible rfl); (all_goals (first | omega | (simp only [ByteArray.size_append]; omega))))); (try simp only [lib.hly]))
  (refine lib.tk 4 ?_ rfl (by kernel_rfl) (fun _ _ _ h => h) ?_ (by assumption) ?_; rotate_left; (focus (intro w hSw; (try dsimp only at hSw); go_simp; all_goals with_reducible rfl)); (try simp only [lib.hly]))
  (refine lib.tk 5 _ rfl (by kernel_rfl) (fun _ _ _ h => h) (fun _ hSw => exec_ld_ints rfl rfl (hSw.cell (j := 1) rfl)) (by assumption) ?_; (try simp only [lib.hly]))
  (refine lib.tk 9 ?_ rfl (by kernel_rfl) (fun _ _ _ h => h) ?_ (by assumption) ?_; rotate_left; (focus (intro w hSw; (try dsimp only at hSw); go_simp; all_goals with_reducible rfl)); (try simp only [lib.hly]))
  (refine lib.tk 10 _ rfl (by kernel_rfl) (fun _ _ _ h => h) (fun _ hSw => exec_loadS sStp rfl rfl (Blk.sub hSw (opick t C c)) rfl) (by assumption) ?_; (try simp only [lib.hly]))
  (refine lib.tk 14 ?_ rfl (by kernel_rfl) (fun _ _ _ h => h) ?_ (by assumption) ?_; rotate_left; (focus (intro w hSw; (try dsimp only at hSw); go_simp; all_goals with_reducible rfl)); (try simp only [lib.hly]))
  (refine lib.tk 15 _ rfl (by kernel_rfl) (fun _ _ _ h => h) (fun _ hSw => exec_loadS sStp rfl rfl (Blk.sub hSw (odrop t C c)) rfl) (by assumption) ?_; (try simp only [lib.hly]))
  (refine lib.tk 18 ?_ rfl (by kernel_rfl) (fun _ _ _ h => h) ?_ (by assumption) ?_; rotate_left; (focus (intro w hSw; (try dsimp only at hSw); go_simp; all_goals with_reducible rfl)); (try simp only [lib.hly]))
  (refine lib.tk 19 _ rfl (by kernel_rfl) (fun _ _ _ h => h) (fun _ hSw => exec_ld_int rfl rfl (hSw.cell (j := 10) rfl)) (by assumption) ?_; (try simp only [lib.hly]))
  (refine lib.tk 20 ?_ rfl (by kernel_rfl) (fun _ _ _ h => h) ?_ (by assumption) ?_; rotate_left; (focus (intro w hSw; (try dsimp only at hSw); go_simp; all_goals with_reducible rfl)); (try simp only [lib.hly]))
  (refine lib.tk 21 _ rfl (by kernel_rfl) (fun _ _ _ h => h) (fun _ hSw => exec_ld_int rfl rfl (hSw.cell (j := 11) rfl)) (by assumption) ?_; (try simp only [lib.hly]))
  (refine lib.tk 22 ?_ rfl (by kernel_rfl) (fun _ _ _ h => h) ?_ (by assumption) ?_; rotate_left; (focus (intro w hSw; (try dsimp only at hSw); go_simp; all_goals with_reducible rfl)); (try simp only [lib.hly]))
  (refine lib.tk 23 _ rfl (by kernel_rfl) (fun _ _ _ h => h) (fun _ hSw => exec_ld_int rfl rfl (hSw.cell (j := 12) rfl)) (by assumption) ?_; (try simp only [lib.hly]))
  (refine lib.tk 24 ?_ rfl (by kernel_rfl) (fun _ _ _ h => h) ?_ (by assumption) ?_; rotate_left; (focus (intro w hSw; (try dsimp only at hSw); go_simp; all_goals with_reducible rfl)); (try simp only [lib.hly]))
  (refine lib.tk 25 _ rfl (by kernel_rfl) (fun _ _ _ h => h) (fun _ hSw => exec_ld_int rfl rfl (hSw.cell (j := 13) rfl)) (by assumption) ?_; (try simp only [lib.hly]))
  (refine lib.tk 26 ?_ rfl (by kernel_rfl) (fun _ _ _ h => h) ?_ (by assumption) ?_; rotate_left; (focus (intro w hSw; (try dsimp only at hSw); go_simp; all_goals with_reducible rfl)); (try simp only [lib.hly]))
  (refine lib.tk 27 _ rfl (by kernel_rfl) (fun _ _ _ h => h) (fun _ hSw => exec_ld_int rfl rfl (hSw.cell (j := 14) rfl)) (by assumption) ?_; (try simp only [lib.hly]))
  (refine wpAnyH_ready (rs := [6, 28]) (by kernel_rfl) (by simp) ?_; refine AllReadyH.cons rfl (fun K hK => ?_) (AllReadyH.cons rfl (fun K hK => ?_) AllReadyH.nil))
  ·skip
   go_simp
   refine (HC3.out v0 (HL1.out.trans (HBv0.out.mono HL1.out.size))).mono ?_
   rintro e v1 ⟨rfl, bv1⟩
   have Dv0v1 := Lib.hid bv1
   have HBv1 := Lib.hid (HBv0.out.trans (bv1.mono HBv0.out.size))
   clear bv1
   refine hK.out _ _ ((HQ.out _ HBv1.out)) (fun hHeld => ?_)
   clear hK K
   (try simp only [lib.hly])
   (refine lib.tk 7 ?_ rfl (by kernel_rfl) (fun _ _ _ h => h) ?_ (by assumption) ?_; rotate_left; (focus (intro w hSw; (try dsimp only at hSw); go_simp; rw [if_neg]; (try with_reducible rfl); (all_goals (first | omega | (simp only [ByteArray.size_append]; omega))))); (try simp only [lib.hly]))
   (refine lib.tk 8 ?_ rfl (by kernel_rfl) (fun _ _ _ h => h) ?_ (by assumption) ?_; rotate_left; (focus (intro w hSw; (try dsimp only at hSw); go_simp; rw [if_neg]; (try with_reducible rfl); (all_goals (first | omega | (simp only [ByteArray.size_append]; omega))))); (try simp only [lib.hly]))
   (refine wpAnyH_ready (rs := [11, 28]) (by kernel_rfl) (by simp) ?_; refine AllReadyH.cons rfl (fun K hK => ?_) (AllReadyH.cons rfl (fun K hK => ?_) AllReadyH.nil))
   ·skip
    go_simp
    refine (HCP.out v1).mono ?_
    rintro e v2 ⟨rfl, bv2⟩
    have Dv1v2 := Lib.hid bv2
    have HBv2 := Lib.hid (HBv1.out.trans (bv2.mono HBv1.out.size))
    clear bv2
    refine hK.out _ _ ((HQ.out _ HBv2.out)) (fun hHeld => ?_)
    clear hK K
    (try simp only [lib.hly])
    (refine lib.tk 12 ?_ rfl (by kernel_rfl) (fun _ _ _ h => h) ?_ (by assumption) ?_; rotate_left; (focus (intro w hSw; (try dsimp only at hSw); go_simp; rw [if_neg]; (try with_reducible rfl); (all_goals (first | omega | (simp only [ByteArray.size_append]; omega))))); (try simp only [lib.hly]))
    (refine lib.tk 13 ?_ rfl (by kernel_rfl) (fun _ _ _ h => h) ?_ (by assumption) ?_; rotate_left; (focus (intro w hSw; (try dsimp only at hSw); go_simp; rw [if_neg]; (try with_reducible rfl); (all_goals (first | omega | (simp only [ByteArray.size_append]; omega))))); (try simp only [lib.hly]))
    (refine wpAnyH_ready (rs := [16, 28]) (by kernel_rfl) (by simp) ?_; refine AllReadyH.cons rfl (fun K hK => ?_) (AllReadyH.cons rfl (fun K hK => ?_) AllReadyH.nil))
    ·skip
     go_simp
     refine (HCD.out v2).mono ?_
     rintro e v3 ⟨rfl, bv3⟩
     have Dv2v3 := Lib.hid bv3
     have HBv3 := Lib.hid (HBv2.out.trans (bv3.mono HBv2.out.size))
     clear bv3
     refine hK.out _ _ ((HQ.out _ HBv3.out)) (fun hHeld => ?_)
     clear hK K
     (try simp only [lib.hly])
     (refine lib.tk 17 ?_ rfl (by kernel_rfl) (fun _ _ _ h => h) ?_ (by assumption) ?_; rotate_left; (focus (intro w hSw; (try dsimp only at hSw); go_simp; rw [if_neg]; (try with_reducible rfl); (all_goals (first | omega | (simp only [ByteArray.size_append]; omega))))); (try simp only [lib.hly]))
     (refine wpAnyH_ready (rs := [28]) (by kernel_rfl) (by simp) ?_; refine AllReadyH.cons rfl (fun K hK => ?_) AllReadyH.nil)
     go_simp
     obtain ⟨v4, hv4⟩ : ∃ u, v3.alloc (.cells #[.int .i64 t.skills, .int .i64 t.penalty, .int .i64 t.split, .int .i64 t.last, .int .i64 t.now] 3) = u := ⟨_, rfl⟩
     have Dv3v4 : Hid (Below v3.heap.size v3 v4) := Lib.hid (by rw [← hv4]; exact (Below.refl _ _).alloc (Nat.le_refl _) _)
     have HBv4 : Hid (Below W1.heap.size W1 v4) := Lib.hid (HBv3.out.trans (Dv3v4.out.mono HBv3.out.size))
     have HI5 : Hid (∀ x, Below v4.heap.size v4 x → Ints x x.heap.size (some ⟨v3.heap.size, 0, none⟩) [t.skills, t.penalty, t.split, t.last, t.now]) := Lib.hid (fun x hx => by
      have h := Ints.lit v3 [t.skills, t.penalty, t.split, t.last, t.now] (by simp)
      have e : v3.heap.size + 1 = v4.heap.size := by rw [← hv4, World.size_alloc]
      rw [show v3.alloc (.cells (([t.skills, t.penalty, t.split, t.last, t.now] : List Int).map (.int .i64)).toArray 3) = v4 from hv4, e] at h
      exact (h.below hx).more hx.size)
     rw [hv4]
     clear hv4
     refine hK.out _ _ ((HQ.out _ HBv4.out)) (fun hHeld => ?_)
     clear hK K
     (try simp only [lib.hly])
     (refine wpAnyH_ready (rs := [29]) (by kernel_rfl) (by simp) ?_; refine AllReadyH.cons rfl (fun K hK => ?_) AllReadyH.nil)
     go_simp
     refine (HC2.out v4 _ (HI5.out _ (Below.refl _ _))).mono ?_
     rintro e v5 ⟨rfl, bv5⟩
     have Dv4v5 := Lib.hid bv5
     have HBv5 := Lib.hid (HBv4.out.trans (bv5.mono HBv4.out.size))
     clear bv5
     refine hK.out _ _ ((HQ.out _ HBv5.out)) (fun hHeld => ?_)
     clear hK K
     (try simp only [lib.hly])
     (refine lib.tk 30 ?_ rfl (by kernel_rfl) (fun _ _ _ h => h) ?_ (by assumption) ?_; rotate_left; (focus (intro w hSw; (try dsimp only at hSw); go_simp; rw [if_neg]; (try with_reducible rfl); (all_goals (first | omega | (simp only [ByteArray.size_append]; omega))))); (try simp only [lib.hly]))
     (refine lib.tk 31 ?_ rfl (by kernel_rfl) (fun _ _ _ h => h) ?_ (by assumption) ?_; rotate_left; (focus (intro w hSw; (try dsimp only at hSw); go_simp; all_goals with_reducible rfl)); (try simp only [lib.hly]))
     (refine wpAnyH_done (by kernel_rfl) ?_ _)
     go_wp2
     go_meet
     exact ⟨rfl, HBv5.out⟩
    ·skip
     go_simp
     obtain ⟨v3, hv3⟩ : ∃ u, v2.alloc (.cells #[.int .i64 t.skills, .int .i64 t.penalty, .int .i64 t.split, .int .i64 t.last, .int .i64 t.now] 3) = u := ⟨_, rfl⟩
     have Dv2v3 : Hid (Below v2.heap.size v2 v3) := Lib.hid (by rw [← hv3]; exact (Below.refl _ _).alloc (Nat.le_refl _) _)
     have HBv3 : Hid (Below W1.heap.size W1 v3) := Lib.hid (HBv2.out.trans (Dv2v3.out.mono HBv2.out.size))
     have HI5 : Hid (∀ x, Below v3.heap.size v3 x → Ints x x.heap.size (some ⟨v2.heap.size, 0, none⟩) [t.skills, t.penalty, t.split, t.last, t.now]) := Lib.hid (fun x hx => by
      have h := Ints.lit v2 [t.skills, t.penalty, t.split, t.last, t.now] (by simp)
      have e : v2.heap.size + 1 = v3.heap.size := by rw [← hv3, World.size_alloc]
      rw [show v2.alloc (.cells (([t.skills, t.penalty, t.split, t.last, t.now] : List Int).map (.int .i64)).toArray 3) = v3 from hv3, e] at h
      exact (h.below hx).more hx.size)
     rw [hv3]
     clear hv3
     refine hK.out _ _ ((HQ.out _ HBv3.out)) (fun hHeld => ?_)
     clear hK K
     (try simp only [lib.hly])
     (refine wpAnyH_ready (rs := [16]) (by kernel_rfl) (by simp) ?_; refine AllReadyH.cons rfl (fun K hK => ?_) AllReadyH.nil)
     go_simp
     refine (HCD.out v3).mono ?_
     rintro e v4 ⟨rfl, bv4⟩
     have Dv3v4 := Lib.hid bv4
     have HBv4 := Lib.hid (HBv3.out.trans (bv4.mono HBv3.out.size))
     clear bv4
     refine hK.out _ _ ((HQ.out _ HBv4.out)) (fun hHeld => ?_)
     clear hK K
     (try simp only [lib.hly])
     (refine lib.tk 17 ?_ rfl (by kernel_rfl) (fun _ _ _ h => h) ?_ (by assumption) ?_; rotate_left; (focus (intro w hSw; (try dsimp only at hSw); go_simp; rw [if_neg]; (try with_reducible rfl); (all_goals (first | omega | (simp only [ByteArray.size_append]; omega))))); (try simp only [lib.hly]))
     (refine wpAnyH_ready (rs := [29]) (by kernel_rfl) (by simp) ?_; refine AllReadyH.cons rfl (fun K hK => ?_) AllReadyH.nil)
     go_simp
     refine (HC2.out v4 _ (HI5.out _ (Dv3v4.out))).mono ?_
     rintro e v5 ⟨rfl, bv5⟩
     have Dv4v5 := Lib.hid bv5
     have HBv5 := Lib.hid (HBv4.out.trans (bv5.mono HBv4.out.size))
     clear bv5
     refine hK.out _ _ ((HQ.out _ HBv5.out)) (fun hHeld => ?_)
     clear hK K
     (try simp only [lib.hly])
     (refine lib.tk 30 ?_ rfl (by kernel_rfl) (fun _ _ _ h => h) ?_ (by assumption) ?_; rotate_left; (focus (intro w hSw; (try dsimp only at hSw); go_simp; rw [if_neg]; (try with_reducible rfl); (all_goals (first | omega | (simp only [ByteArray.size_append]; omega))))); (try simp only [lib.hly]))
     (refine lib.tk 31 ?_ rfl (by kernel_rfl) (fun _ _ _ h => h) ?_ (by assumption) ?_; rotate_left; (focus (intro w hSw; (try dsimp only at hSw); go_simp; all_goals with_reducible rfl)); (try simp only [lib.hly]))
     (refine wpAnyH_done (by kernel_rfl) ?_ _)
     go_wp2
     go_meet
     exact ⟨rfl, HBv5.out⟩
   ·skip
    go_simp
    obtain ⟨v2, hv2⟩ : ∃ u, v1.alloc (.cells #[.int .i64 t.skills, .int .i64 t.penalty, .int .i64 t.split, .int .i64 t.last, .int .i64 t.now] 3) = u := ⟨_, rfl⟩
    have Dv1v2 : Hid (Below v1.heap.size v1 v2) := Lib.hid (by rw [← hv2]; exact (Below.refl _ _).alloc (Nat.le_refl _) _)
    have HBv2 : Hid (Below W1.heap.size W1 v2) := Lib.hid (HBv1.out.trans (Dv1v2.out.mono HBv1.out.size))
    have HI5 : Hid (∀ x, Below v2.heap.size v2 x → Ints x x.heap.size (some ⟨v1.heap.size, 0, none⟩) [t.skills, t.penalty, t.split, t.last, t.now]) := Lib.hid (fun x hx => by
     have h := Ints.lit v1 [t.skills, t.penalty, t.split, t.last, t.now] (by simp)
     have e : v1.heap.size + 1 = v2.heap.size := by rw [← hv2, World.size_alloc]
     rw [show v1.alloc (.cells (([t.skills, t.penalty, t.split, t.last, t.now] : List Int).map (.int .i64)).toArray 3) = v2 from hv2, e] at h
     exact (h.below hx).more hx.size)
    rw [hv2]
    clear hv2
    refine hK.out _ _ ((HQ.out _ HBv2.out)) (fun hHeld => ?_)
    clear hK K
    (try simp only [lib.hly])
    (refine wpAnyH_ready (rs := [11]) (by kernel_rfl) (by simp) ?_; refine AllReadyH.cons rfl (fun K hK => ?_) AllReadyH.nil)
    go_simp
    refine (HCP.out v2).mono ?_
    rintro e v3 ⟨rfl, bv3⟩
    have Dv2v3 := Lib.hid bv3
    have HBv3 := Lib.hid (HBv2.out.trans (bv3.mono HBv2.out.size))
    clear bv3
    refine hK.out _ _ ((HQ.out _ HBv3.out)) (fun hHeld => ?_)
    clear hK K
    (try simp only [lib.hly])
    (refine lib.tk 12 ?_ rfl (by kernel_rfl) (fun _ _ _ h => h) ?_ (by assumption) ?_; rotate_left; (focus (intro w hSw; (try dsimp only at hSw); go_simp; rw [if_neg]; (try with_reducible rfl); (all_goals (first | omega | (simp only [ByteArray.size_append]; omega))))); (try simp only [lib.hly]))
    (refine lib.tk 13 ?_ rfl (by kernel_rfl) (fun _ _ _ h => h) ?_ (by assumption) ?_; rotate_left; (focus (intro w hSw; (try dsimp only at hSw); go_simp; rw [if_neg]; (try with_reducible rfl); (all_goals (first | omega | (simp only [ByteArray.size_append]; omega))))); (try simp only [lib.hly]))
    (refine wpAnyH_ready (rs := [16]) (by kernel_rfl) (by simp) ?_; refine AllReadyH.cons rfl (fun K hK => ?_) AllReadyH.nil)
    go_simp
    refine (HCD.out v3).mono ?_
    rintro e v4 ⟨rfl, bv4⟩
    have Dv3v4 := Lib.hid bv4
    have HBv4 := Lib.hid (HBv3.out.trans (bv4.mono HBv3.out.size))
    clear bv4
    refine hK.out _ _ ((HQ.out _ HBv4.out)) (fun hHeld => ?_)
    clear hK K
    (try simp only [lib.hly])
    (refine lib.tk 17 ?_ rfl (by kernel_rfl) (fun _ _ _ h => h) ?_ (by assumption) ?_; rotate_left; (focus (intro w hSw; (try dsimp only at hSw); go_simp; rw [if_neg]; (try with_reducible rfl); (all_goals (first | omega | (simp only [ByteArray.size_append]; omega))))); (try simp only [lib.hly]))
    (refine wpAnyH_ready (rs := [29]) (by kernel_rfl) (by simp) ?_; refine AllReadyH.cons rfl (fun K hK => ?_) AllReadyH.nil)
    go_simp
    refine (HC2.out v4 _ (HI5.out _ ((Dv2v3.out.trans (Dv3v4.out.mono Dv2v3.out.size))))).mono ?_
    rintro e v5 ⟨rfl, bv5⟩
    have Dv4v5 := Lib.hid bv5
    have HBv5 := Lib.hid (HBv4.out.trans (bv5.mono HBv4.out.size))
    clear bv5
    refine hK.out _ _ ((HQ.out _ HBv5.out)) (fun hHeld => ?_)
    clear hK K
    (try simp only [lib.hly])
    (refine lib.tk 30 ?_ rfl (by kernel_rfl) (fun _ _ _ h => h) ?_ (by assumption) ?_; rotate_left; (focus (intro w hSw; (try dsimp only at hSw); go_simp; rw [if_neg]; (try with_reducible rfl); (all_goals (first | omega | (simp only [ByteArray.size_append]; omega))))); (try simp only [lib.hly]))
    (refine lib.tk 31 ?_ rfl (by kernel_rfl) (fun _ _ _ h => h) ?_ (by assumption) ?_; rotate_left; (focus (intro w hSw; (try dsimp only at hSw); go_simp; all_goals with_reducible rfl)); (try simp only [lib.hly]))
    (refine wpAnyH_done (by kernel_rfl) ?_ _)
    go_wp2
    go_meet
    exact ⟨rfl, HBv5.out⟩
  ·skip
   go_simp
   obtain ⟨v1, hv1⟩ : ∃ u, v0.alloc (.cells #[.int .i64 t.skills, .int .i64 t.penalty, .int .i64 t.split, .int .i64 t.last, .int .i64 t.now] 3) = u := ⟨_, rfl⟩
   have Dv0v1 : Hid (Below v0.heap.size v0 v1) := Lib.hid (by rw [← hv1]; exact (Below.refl _ _).alloc (Nat.le_refl _) _)
   have HBv1 : Hid (Below W1.heap.size W1 v1) := Lib.hid (HBv0.out.trans (Dv0v1.out.mono HBv0.out.size))
   have HI5 : Hid (∀ x, Below v1.heap.size v1 x → Ints x x.heap.size (some ⟨v0.heap.size, 0, none⟩) [t.skills, t.penalty, t.split, t.last, t.now]) := Lib.hid (fun x hx => by
    have h := Ints.lit v0 [t.skills, t.penalty, t.split, t.last, t.now] (by simp)
    have e : v0.heap.size + 1 = v1.heap.size := by rw [← hv1, World.size_alloc]
    rw [show v0.alloc (.cells (([t.skills, t.penalty, t.split, t.last, t.now] : List Int).map (.int .i64)).toArray 3) = v1 from hv1, e] at h
    exact (h.below hx).more hx.size)
   rw [hv1]
   clear hv1
   refine hK.out _ _ ((HQ.out _ HBv1.out)) (fun hHeld => ?_)
   clear hK K
   (try simp only [lib.hly])
   (refine wpAnyH_ready (rs := [6]) (by kernel_rfl) (by simp) ?_; refine AllReadyH.cons rfl (fun K hK => ?_) AllReadyH.nil)
   go_simp
   refine (HC3.out v1 (HL1.out.trans (HBv1.out.mono HL1.out.size))).mono ?_
   rintro e v2 ⟨rfl, bv2⟩
   have Dv1v2 := Lib.hid bv2
   have HBv2 := Lib.hid (HBv1.out.trans (bv2.mono HBv1.out.size))
   clear bv2
   refine hK.out _ _ ((HQ.out _ HBv2.out)) (fun hHeld => ?_)
   clear hK K
   (try simp only [lib.hly])
   (refine lib.tk 7 ?_ rfl (by kernel_rfl) (fun _ _ _ h => h) ?_ (by assumption) ?_; rotate_left; (focus (intro w hSw; (try dsimp only at hSw); go_simp; rw [if_neg]; (try with_reducible rfl); (all_goals (first | omega | (simp only [ByteArray.size_append]; omega))))); (try simp only [lib.hly]))
   (refine lib.tk 8 ?_ rfl (by kernel_rfl) (fun _ _ _ h => h) ?_ (by assumption) ?_; rotate_left; (focus (intro w hSw; (try dsimp only at hSw); go_simp; rw [if_neg]; (try with_reducible rfl); (all_goals (first | omega | (simp only [ByteArray.size_append]; omega))))); (try simp only [lib.hly]))
   (refine wpAnyH_ready (rs := [11]) (by kernel_rfl) (by simp) ?_; refine AllReadyH.cons rfl (fun K hK => ?_) AllReadyH.nil)
   go_simp
   refine (HCP.out v2).mono ?_
   rintro e v3 ⟨rfl, bv3⟩
   have Dv2v3 := Lib.hid bv3
   have HBv3 := Lib.hid (HBv2.out.trans (bv3.mono HBv2.out.size))
   clear bv3
   refine hK.out _ _ ((HQ.out _ HBv3.out)) (fun hHeld => ?_)
   clear hK K
   (try simp only [lib.hly])
   (refine lib.tk 12 ?_ rfl (by kernel_rfl) (fun _ _ _ h => h) ?_ (by assumption) ?_; rotate_left; (focus (intro w hSw; (try dsimp only at hSw); go_simp; rw [if_neg]; (try with_reducible rfl); (all_goals (first | omega | (simp only [ByteArray.size_append]; omega))))); (try simp only [lib.hly]))
   (refine lib.tk 13 ?_ rfl (by kernel_rfl) (fun _ _ _ h => h) ?_ (by assumption) ?_; rotate_left; (focus (intro w hSw; (try dsimp only at hSw); go_simp; rw [if_neg]; (try with_reducible rfl); (all_goals (first | omega | (simp only [ByteArray.size_append]; omega))))); (try simp only [lib.hly]))
   (refine wpAnyH_ready (rs := [16]) (by kernel_rfl) (by simp) ?_; refine AllReadyH.cons rfl (fun K hK => ?_) AllReadyH.nil)
   go_simp
   refine (HCD.out v3).mono ?_
   rintro e v4 ⟨rfl, bv4⟩
   have Dv3v4 := Lib.hid bv4
   have HBv4 := Lib.hid (HBv3.out.trans (bv4.mono HBv3.out.size))
   clear bv4
   refine hK.out _ _ ((HQ.out _ HBv4.out)) (fun hHeld => ?_)
   clear hK K
   (try simp only [lib.hly])
   (refine lib.tk 17 ?_ rfl (by kernel_rfl) (fun _ _ _ h => h) ?_ (by assumption) ?_; rotate_left; (focus (intro w hSw; (try dsimp only at hSw); go_simp; rw [if_neg]; (try with_reducible rfl); (all_goals (first | omega | (simp only [ByteArray.size_append]; omega))))); (try simp only [lib.hly]))
   (refine wpAnyH_ready (rs := [29]) (by kernel_rfl) (by simp) ?_; refine AllReadyH.cons rfl (fun K hK => ?_) AllReadyH.nil)
   go_simp
   refine (HC2.out v4 _ (HI5.out _ ((Dv1v2.out.trans ((Dv2v3.out.trans (Dv3v4.out.mono Dv2v3.out.size)).mono Dv1v2.out.size))))).mono ?_
   rintro e v5 ⟨rfl, bv5⟩
   have Dv4v5 := Lib.hid bv5
   have HBv5 := Lib.hid (HBv4.out.trans (bv5.mono HBv4.out.size))
   clear bv5
   refine hK.out _ _ ((HQ.out _ HBv5.out)) (fun hHeld => ?_)
   clear hK K
   (try simp only [lib.hly])
   (refine lib.tk 30 ?_ rfl (by kernel_rfl) (fun _ _ _ h => h) ?_ (by assumption) ?_; rotate_left; (focus (intro w hSw; (try dsimp only at hSw); go_simp; rw [if_neg]; (try with_reducible rfl); (all_goals (first | omega | (simp only [ByteArray.size_append]; omega))))); (try simp only [lib.hly]))
   (refine lib.tk 31 ?_ rfl (by kernel_rfl) (fun _ _ _ h => h) ?_ (by assumption) ?_; rotate_left; (focus (intro w hSw; (try dsimp only at hSw); go_simp; all_goals with_reducible rfl)); (try simp only [lib.hly]))
   (refine wpAnyH_done (by kernel_rfl) ?_ _)
   go_wp2
   go_meet
   exact ⟨rfl, HBv5.out⟩
 obtain ⟨hu, hbx⟩ := hcut
 subst hu
 have HBX := Lib.hid hbx
 have c15 := (HQ.out _ hbx).cell (j := 15) rfl
 have hov1 : ¬ 9223372036854775807 < (⟨#[111, 114, 100, 101, 114, 32]⟩ ++ t.name ++ ⟨#[32]⟩ ++ N3 ++ ⟨#[32]⟩ ++ N4 ++ ⟨#[32]⟩ ++ N5 ++ N2 : ByteArray).size + 4 := by simp only [ByteArray.size_append]; omega
 have hov2 : ¬ 9223372036854775807 < (⟨#[111, 114, 100, 101, 114, 32]⟩ ++ t.name ++ ⟨#[32]⟩ ++ N3 ++ ⟨#[32]⟩ ++ N4 ++ ⟨#[32]⟩ ++ N5 ++ N2 : ByteArray).size + 5 := by simp only [ByteArray.size_append]; omega
 obtain ⟨X, hX⟩ : ∃ X : ByteArray, ⟨#[111, 114, 100, 101, 114, 32]⟩ ++ t.name ++ ⟨#[32]⟩ ++ N3 ++ ⟨#[32]⟩ ++ N4 ++ ⟨#[32]⟩ ++ N5 ++ N2 = X := ⟨_, rfl⟩
 rw [hX] at HKB hov1 hov2 ⊢
 clear hX hbx
 obtain ⟨f, hf⟩ : ∃ f, t.off = f := ⟨_, rfl⟩
 rw [hf] at c15 HKB
 cases f
 ·go_wp2
  go_ret
  exact ⟨by rw [← HKB.out]; rfl, HL1.out.trans (HBX.out.mono HL1.out.size)⟩
 ·go_wp2
  go_ret
  exact ⟨by rw [← HKB.out]; rfl, HL1.out.trans (HBX.out.mono HL1.out.size)⟩
end Go.Proofs.YthefooacfcagbaaGreatDoor.spc

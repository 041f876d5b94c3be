/- The law SpecParts, walked. -/
import Derived.Test.YthefooacfcagbaaGreatDoorAwkS
import Derived.Test.YthefooacfcagbaaGreatDoorRspA
namespace Go.Proofs.YthefooacfcagbaaGreatDoor.spc
open Go.RowKit
open Go.Proofs.YthefooacfcagbaaGreatDoor.lib Go.Proofs.YthefooacfcagbaaGreatDoor.rd Go.Proofs.YthefooacfcagbaaGreatDoor.app Go.Proofs.YthefooacfcagbaaGreatDoor.els Go.Proofs.YthefooacfcagbaaGreatDoor.typ Go.Proofs.YthefooacfcagbaaGreatDoor.big Go.Proofs.YthefooacfcagbaaGreatDoor.gen
open Go.Proofs.YthefooacfcagbaaGreatDoor.txt (in64 By strV strV_of)
set_option linter.unusedVariables false
set_option linter.unusedSimpArgs false

theorem pts_fit {w : World} {B : Nat} {A : Option Addr} {l : List Pt} (h : RowAt rPt w B A l) : ∀ p ∈ l, in64 p.t ∧ in64 p.a := fun p hp => by
  obtain ⟨i, hi⟩ := List.getElem?_of_mem hp
  obtain ⟨ad, hA, hb, hc, hf⟩ := row_Pt h hi
  exact hf
set_option maxRecDepth 20000 in
set_option maxHeartbeats 4000000 in
theorem lawParts_any (s : Stp) (A : Option Addr) (n c : Nat) (l : List Pt) (hn : n = l.length) (w : World) (ht : TabS w) (hs : StpFits s) (hI : RowAt rPt w w.heap.size A l) (h64 : ∀ p ∈ l, in64 p.t ∧ in64 p.a) :
    Calls Tryz.prog 5 #[.agg (StpCells s).toArray, .slice A n c] w fun e w' => e = .returned (.bool true) ∧ Below w.heap.size w w' := by
  have HTB := Lib.hid ht.at_
  have HI := Lib.hid hI
  have H64 := Lib.hid h64
  have HN := Lib.hid hn
  have HS : Hid (∀ z ∈ stpN s, in64 z) := Lib.hid (stp_in hs)
  obtain ⟨W1, hW1⟩ : ∃ W1, w.alloc (.cells (StpCells s).toArray 41) = W1 := ⟨_, rfl⟩
  have HW1 := Lib.hid hW1
  have HC1 : Hid (∀ v, Below W1.heap.size W1 v → Blk v w.heap.size 41 (StpCells s)) := Lib.hid (fun v hv => by
    refine Blk.below ?_ hv
    rw [← hW1]
    exact Blk.new w _ _)
  have HB1 : Hid (Below w.heap.size w W1) := Lib.hid (by rw [← hW1]; exact (Below.refl _ _).alloc (Nat.le_refl _) _)
  have hz1 := HB1.out.size
  clear ht hI h64 hs hW1 hn
  go_enter Tryz.func5, Tryz.ntmps5
  by_cases h40 : 40 < n
  · have h40i : (40 : Int) < (n : Int) := by omega
    have HAW := Lib.hid (awake_any W1 (HTB.out.below HB1.out).now)
    go_upto_region 1 with fail
    rw [HW1.out]
    go_wp2_with (go_at_call 8; refine HAW.out.mono ?_; rintro e w2 ⟨rfl, hb⟩)
    go_ret
    exact ⟨rfl, HB1.out.trans (hb.mono hz1)⟩
  have h40i : ¬ (40 : Int) < (n : Int) := by omega
  go_upto_region 1 with fail
  rw [HW1.out]
  go_upto_region 3 with fail
  (refine wp_region_held_drew (S := (fun v => Blk v w.heap.size 41 (StpCells s))) (by kernel_rfl) ?_ (fun hHeld => ?_))
  · exact HC1.out _ (Below.refl _ _).drew
  have HD1 : Hid (Below W1.heap.size W1 W1.drew) := Lib.hid (Below.refl _ _).drew
  (refine wpAnyH_take (i := 0) (v := _) rfl (by kernel_rfl) (by kernel_rfl) (by kernel_rfl) (fun _ _ _ h => h) (Or.inl ⟨by kernel_rfl, fun _ hSw => exec_loadS sStp rfl rfl hSw.cells rfl⟩) (by assumption) ?_; (try simp only [Act.put, List.getElem_toArray, List.getElem_cons_succ, List.getElem_cons_zero, List.setIfInBounds_toArray, List.set_cons_zero, List.set_cons_succ]))
  (refine wpAnyH_take (i := 2) (v := _) rfl (by kernel_rfl) (by kernel_rfl) (by kernel_rfl) (fun _ _ _ h => h) (Or.inl ⟨by kernel_rfl, fun _ hSw => exec_loadS sStp rfl rfl hSw.cells rfl⟩) (by assumption) ?_; (try simp only [Act.put, List.getElem_toArray, List.getElem_cons_succ, List.getElem_cons_zero, List.setIfInBounds_toArray, List.set_cons_zero, List.set_cons_succ]))
  have hbb : ∀ {v : World}, Below W1.heap.size W1 v → Below w.heap.size w v := fun h => HB1.out.trans (h.mono hz1)
  have HBB := Lib.hid (show ∀ (v : World), Below W1.heap.size W1 v → Below w.heap.size w v from fun v h => hbb h)
  clear hbb
  (refine wpAnyH_ready (rs := [1]) (by kernel_rfl) (by simp) ?_; refine AllReadyH.cons rfl (fun K hK => ?_) AllReadyH.nil)
  go_simp
  refine (sstop_any s _ (HTB.out.below (HBB.out _ HD1.out)).now HS.out).mono ?_
  rintro e v2 ⟨rfl, b2⟩
  have HD2 := Lib.hid (HD1.out.trans (b2.mono HD1.out.size))
  clear b2
  refine hK.out _ _ ((HC1.out _ HD2.out)) (fun hHeld => ?_)
  clear hK K
  (try simp only [Act.put, List.getElem_toArray, List.getElem_cons_succ, List.getElem_cons_zero, List.setIfInBounds_toArray, List.set_cons_zero, List.set_cons_succ])
  (refine wpAnyH_ready (rs := [3]) (by kernel_rfl) (by simp) ?_; refine AllReadyH.cons rfl (fun K hK => ?_) AllReadyH.nil)
  go_simp
  refine (rfstop_any s _ HS.out).mono ?_
  rintro e v3 ⟨rfl, b3⟩
  have HD3 := Lib.hid (HD2.out.trans (b3.mono HD2.out.size))
  clear b3
  refine hK.out _ _ ((HC1.out _ HD3.out)) (fun hHeld => ?_)
  clear hK K
  (try simp only [Act.put, List.getElem_toArray, List.getElem_cons_succ, List.getElem_cons_zero, List.setIfInBounds_toArray, List.set_cons_zero, List.set_cons_succ])
  (refine wpAnyH_take (i := 4) (v := ?_) rfl (by kernel_rfl) (by kernel_rfl) (by kernel_rfl) (fun _ _ _ h => h) (Or.inl ⟨by kernel_rfl, ?_⟩) (by assumption) ?_; rotate_left; (focus (intro w hSw; (try dsimp only at hSw); go_simp; all_goals with_reducible rfl)); (try simp only [Act.put, List.getElem_toArray, List.getElem_cons_succ, List.getElem_cons_zero, List.setIfInBounds_toArray, List.set_cons_zero, List.set_cons_succ]))
  (refine wpAnyH_take (i := 5) (v := ?_) rfl (by kernel_rfl) (by kernel_rfl) (by kernel_rfl) (fun _ _ _ h => h) (Or.inl ⟨by kernel_rfl, ?_⟩) (by assumption) ?_; rotate_left; (focus (intro w hSw; (try dsimp only at hSw); go_simp; all_goals with_reducible rfl)); (try simp only [Act.put, List.getElem_toArray, List.getElem_cons_succ, List.getElem_cons_zero, List.setIfInBounds_toArray, List.set_cons_zero, List.set_cons_succ]))
  (refine wpAnyH_take (i := 6) (v := ?_) rfl (by kernel_rfl) (by kernel_rfl) (by kernel_rfl) (fun _ _ _ h => h) (Or.inl ⟨by kernel_rfl, ?_⟩) (by assumption) ?_; rotate_left; (focus (intro w hSw; (try dsimp only at hSw); go_simp; all_goals with_reducible rfl)); (try simp only [Act.put, List.getElem_toArray, List.getElem_cons_succ, List.getElem_cons_zero, List.setIfInBounds_toArray, List.set_cons_zero, List.set_cons_succ]))
  (refine wpAnyH_take (i := 8) (v := ?_) rfl (by kernel_rfl) (by kernel_rfl) (by kernel_rfl) (fun _ _ _ h => h) (Or.inl ⟨by kernel_rfl, ?_⟩) (by assumption) ?_; rotate_left; (focus (intro w hSw; (try dsimp only at hSw); go_simp; all_goals with_reducible rfl)); (try simp only [Act.put, List.getElem_toArray, List.getElem_cons_succ, List.getElem_cons_zero, List.setIfInBounds_toArray, List.set_cons_zero, List.set_cons_succ]))
  (refine wpAnyH_ready (rs := [7]) (by kernel_rfl) (by simp) ?_; refine AllReadyH.cons rfl (fun K hK => ?_) AllReadyH.nil)
  go_simp
  refine (travel_any l A n c HN.out _ (HTB.out.below (HBB.out _ HD3.out)).now.tabs ((HI.out.below (HBB.out _ HD3.out)).more (HBB.out _ HD3.out).size) H64.out (by omega)).mono ?_
  rintro e v4 ⟨rfl, b4⟩
  have HD4 := Lib.hid (HD3.out.trans (b4.mono HD3.out.size))
  clear b4
  refine hK.out _ _ ((HC1.out _ HD4.out)) (fun hHeld => ?_)
  clear hK K
  (try simp only [Act.put, List.getElem_toArray, List.getElem_cons_succ, List.getElem_cons_zero, List.setIfInBounds_toArray, List.set_cons_zero, List.set_cons_succ])
  (refine wpAnyH_ready (rs := [9]) (by kernel_rfl) (by simp) ?_; refine AllReadyH.cons rfl (fun K hK => ?_) AllReadyH.nil)
  go_simp
  refine (rftravel_any l A n c HN.out _ ((HI.out.below (HBB.out _ HD4.out)).more (HBB.out _ HD4.out).size) H64.out (by omega)).mono ?_
  rintro e v5 ⟨rfl, b5⟩
  have HD5 := Lib.hid (HD4.out.trans (b5.mono HD4.out.size))
  clear b5
  refine hK.out _ _ ((HC1.out _ HD5.out)) (fun hHeld => ?_)
  clear hK K
  (try simp only [Act.put, List.getElem_toArray, List.getElem_cons_succ, List.getElem_cons_zero, List.setIfInBounds_toArray, List.set_cons_zero, List.set_cons_succ])
  (refine wpAnyH_take (i := 10) (v := ?_) rfl (by kernel_rfl) (by kernel_rfl) (by kernel_rfl) (fun _ _ _ h => h) (Or.inl ⟨by kernel_rfl, ?_⟩) (by assumption) ?_; rotate_left; (focus (intro w hSw; (try dsimp only at hSw); go_simp; all_goals with_reducible rfl)); (try simp only [Act.put, List.getElem_toArray, List.getElem_cons_succ, List.getElem_cons_zero, List.setIfInBounds_toArray, List.set_cons_zero, List.set_cons_succ]))
  (refine wpAnyH_take (i := 11) (v := ?_) rfl (by kernel_rfl) (by kernel_rfl) (by kernel_rfl) (fun _ _ _ h => h) (Or.inl ⟨by kernel_rfl, ?_⟩) (by assumption) ?_; rotate_left; (focus (intro w hSw; (try dsimp only at hSw); go_simp; all_goals with_reducible rfl)); (try simp only [Act.put, List.getElem_toArray, List.getElem_cons_succ, List.getElem_cons_zero, List.setIfInBounds_toArray, List.set_cons_zero, List.set_cons_succ]))
  (refine wpAnyH_take (i := 12) (v := ?_) rfl (by kernel_rfl) (by kernel_rfl) (by kernel_rfl) (fun _ _ _ h => h) (Or.inl ⟨by kernel_rfl, ?_⟩) (by assumption) ?_; rotate_left; (focus (intro w hSw; (try dsimp only at hSw); go_simp; all_goals with_reducible rfl)); (try simp only [Act.put, List.getElem_toArray, List.getElem_cons_succ, List.getElem_cons_zero, List.setIfInBounds_toArray, List.set_cons_zero, List.set_cons_succ]))
  (refine wpAnyH_ready (rs := [13]) (by kernel_rfl) (by simp) ?_; refine AllReadyH.cons rfl (fun K hK => ?_) AllReadyH.nil)
  go_simp
  refine (awake_any _ (HTB.out.below (HBB.out _ HD5.out)).now).mono ?_
  rintro e v6 ⟨rfl, b6⟩
  have HD6 := Lib.hid (HD5.out.trans (b6.mono HD5.out.size))
  clear b6
  refine hK.out _ _ ((HC1.out _ HD6.out)) (fun hHeld => ?_)
  clear hK K
  (try simp only [Act.put, List.getElem_toArray, List.getElem_cons_succ, List.getElem_cons_zero, List.setIfInBounds_toArray, List.set_cons_zero, List.set_cons_succ])
  (refine wpAnyH_take (i := 14) (v := ?_) rfl (by kernel_rfl) (by kernel_rfl) (by kernel_rfl) (fun _ _ _ h => h) (Or.inl ⟨by kernel_rfl, ?_⟩) (by assumption) ?_; rotate_left; (focus (intro w hSw; (try dsimp only at hSw); go_simp; all_goals with_reducible rfl)); (try simp only [Act.put, List.getElem_toArray, List.getElem_cons_succ, List.getElem_cons_zero, List.setIfInBounds_toArray, List.set_cons_zero, List.set_cons_succ]))
  (refine wpAnyH_take (i := 15) (v := ?_) rfl (by kernel_rfl) (by kernel_rfl) (by kernel_rfl) (fun _ _ _ h => h) (Or.inl ⟨by kernel_rfl, ?_⟩) (by assumption) ?_; rotate_left; (focus (intro w hSw; (try dsimp only at hSw); go_simp; all_goals with_reducible rfl)); (try simp only [Act.put, List.getElem_toArray, List.getElem_cons_succ, List.getElem_cons_zero, List.setIfInBounds_toArray, List.set_cons_zero, List.set_cons_succ]))
  (refine wpAnyH_done (by kernel_rfl) ?_ _)
  go_wp2
  go_ret
  exact ⟨rfl, HBB.out _ HD6.out⟩
end Go.Proofs.YthefooacfcagbaaGreatDoor.spc

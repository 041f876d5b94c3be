/- spec.Travel, walked. The program. -/
import Derived.Test.YthefooacfcagbaaGreatDoorSpcA
namespace Go.Proofs.YthefooacfcagbaaGreatDoor.spc
open Go.RowKit
open Go.Proofs.YthefooacfcagbaaGreatDoor.lib Go.Proofs.YthefooacfcagbaaGreatDoor.rd Go.Proofs.YthefooacfcagbaaGreatDoor.app Go.Proofs.YthefooacfcagbaaGreatDoor.els Go.Proofs.YthefooacfcagbaaGreatDoor.typ Go.Proofs.YthefooacfcagbaaGreatDoor.big Go.Proofs.YthefooacfcagbaaGreatDoor.gen
open Go.Proofs.YthefooacfcagbaaGreatDoor.txt (in64 By strV strV_of decW decW_any Tabs elem_str toList_data push_one)
set_option linter.unusedVariables false
set_option linter.unusedSimpArgs false

theorem ptF_len {p : Pt} (h : in64 p.t) (h' : in64 p.a) : (ptF p).length ≤ 60 := by
  unfold ptF
  rw [List.length_append, List.length_cons]
  have := itoa_len h
  have := itoa_len h'
  omega
theorem decW_size {n : Int} (h : in64 n) : (decW n).size ≤ 20 := by
  have e : (decW n).size = (Lib.itoa n).length := by unfold decW; simp [ByteArray.size]
  rw [e]
  exact itoa_len h
set_option maxRecDepth 20000 in
set_option maxHeartbeats 1000000 in
theorem travel_any (l : List Pt) (A : Option Addr) (n c : Nat) (hn : n = l.length) (w : World) (ht : Tabs w) (hI : RowAt rPt w w.heap.size A l) (h64 : ∀ p ∈ l, in64 p.t ∧ in64 p.a) (hlen : n ≤ 100000) :
    Calls Tryz.prog 16 #[.slice A n c] w fun e w' => e = .returned (.string ⟨(trvF l).toArray⟩) ∧ Below w.heap.size w w' := by
  have HI := Lib.hid (fun w' (h' : Below w.heap.size w w') => hI.below h')
  have HTb : Hid (∀ w', Below w.heap.size w w' → Tabs w') := Lib.hid (fun w' h => ht.below h)
  have H64 := Lib.hid h64
  have HN := Lib.hid hn
  obtain ⟨r, hr⟩ : ∃ r, trvF l = r := ⟨_, rfl⟩
  have HR := Lib.hid hr
  rw [hr]
  clear hI ht h64 hr
  go_enter Tryz.func16, Tryz.ntmps16
  by_cases h0 : n = 0
  · have hr : r = [46] := by
      rw [← HR.out]
      unfold trvF
      rw [if_pos (List.eq_nil_of_length_eq_zero (by omega))]
    subst hr
    subst h0
    clear hn
    go_wp2
    go_ret
    exact ⟨rfl, Below.refl _ _⟩
  · have hn0 : ¬ (n : Int) = 0 := by omega
    clear hn
    go_upto_region 5 with fail
    try simp only [show ((n : Int) == 0) = false by simpa using h0, show decide ((n : Int) = 0) = false by simpa using h0, show (n == 0) = false by simpa using h0, show decide (n = 0) = false by simpa using h0]
    go_loopw [3, 11] (SRel w (l.map ptF) n) (fun _ i _ => n - (intOf i).toNat)
    case atStart => exact ⟨Below.refl _ _, 0, 0, none, by omega, rfl, rfl, Lib.hid (World.ownsRow_nil _ _ _ _)⟩
    case round =>
      obtain ⟨hb, k, c1, A1, hk, rfl, rfl, hrow⟩ := hrel
      have HBV := Lib.hid hb
      have hbz := hb.size
      clear hb
      by_cases hlt : k < n
      · obtain ⟨p, hp⟩ : ∃ p, l[k]? = some p := ⟨_, List.getElem?_eq_getElem (by rw [← HN.out]; exact hlt)⟩
        obtain ⟨ad, hA, hadb, ⟨m0, m1⟩, hpf⟩ := row_Pt (HI.out _ HBV.out) hp
        obtain ⟨hx64, hy64⟩ := H64.out _ (List.mem_of_getElem? hp)
        have HX := Lib.hid (show (l.map ptF)[k]? = some (ptF p) by rw [List.getElem?_map, hp]; rfl)
        have hk0 : (0 : Int) ≤ (k : Int) := by omega
        have hkn : (k : Int) < (n : Int) := by omega
        subst hA
        clear hp hpf
        go_upto_region 7 with fail
        obtain ⟨v, hv⟩ : ∃ v, wr.alloc (.cells #[.int .i64 p.t, .int .i64 p.a] 89) = v := ⟨_, rfl⟩
        have b1 : Blk v wr.heap.size 89 [.int .i64 p.t, .int .i64 p.a] := by rw [← hv]; exact World.alloc_heap_new wr _
        have bv : Below wr.heap.size wr v := by rw [← hv]; exact (Below.refl _ _).alloc (Nat.le_refl _) _
        have HQ := Lib.hid (fun w' (h' : Below v.heap.size v w') => And.intro ((b1.below h').cell (j := 0) rfl) ((b1.below h').cell (j := 1) rfl))
        have HQB := Lib.hid (fun w' (h' : Below v.heap.size v w') => b1.below h')
        have HNE : Hid (some wr.heap.size ≠ (Value.slice A1 k c1).ownBlock) := Lib.hid (fun e => by have := World.ownsRow.lt hrow.out _ e.symm; omega)
        have HOW := Lib.hid (own_below hrow.out bv)
        have HVV := Lib.hid (HBV.out.trans (bv.mono hbz))
        obtain ⟨s1, hs1⟩ : ∃ s, decW p.t = s := ⟨_, rfl⟩
        obtain ⟨s2, hs2⟩ : ∃ s, decW p.a = s := ⟨_, rfl⟩
        have hz1 : s1.size ≤ 20 := by rw [← hs1]; exact decW_size hx64
        have hz2 : s2.size ≤ 20 := by rw [← hs2]; exact decW_size hy64
        have HD1 : Hid (∀ w', Below w.heap.size w w' → Calls Tryz.prog 41 #[.int .i64 p.t] w' fun e w'' => e = .returned (.string s1) ∧ Below w'.heap.size w' w'') := Lib.hid (fun w' h' => by rw [← hs1]; exact decW_any p.t hx64 w' (HTb.out _ h'))
        have HD2 : Hid (∀ w', Below w.heap.size w w' → Calls Tryz.prog 41 #[.int .i64 p.a] w' fun e w'' => e = .returned (.string s2) ∧ Below w'.heap.size w' w'') := Lib.hid (fun w' h' => by rw [← hs2]; exact decW_any p.a hy64 w' (HTb.out _ h'))
        have HS : Hid ((s1 ++ ⟨#[58]⟩ ++ s2 : ByteArray).data.toList = ptF p) := Lib.hid (by rw [← hs1, ← hs2]; unfold ptF; simp [decW])
        rw [hv]
        clear hs1 hs2 m0 m1 b1 hrow hv
        have hvz := bv.size
        clear bv
        (refine wp_region_held_drew (S := (fun w' => w'.cell? ⟨wr.heap.size, 0, none⟩ = some (.int .i64 p.t) ∧ w'.cell? ⟨wr.heap.size, 1, none⟩ = some (.int .i64 p.a))) (by kernel_rfl) ?_ (fun hHeld => ?_))
        · exact HQ.out _ (Below.refl _ _).drew
        (refine wpAnyH_take (i := 0) (v := ?_) rfl (by kernel_rfl) (by kernel_rfl) (by kernel_rfl) (fun _ _ _ h => h) (Or.inl ⟨by kernel_rfl, ?_⟩) (by assumption) ?_; rotate_left; (focus (intro w hSw; (try dsimp only at hSw); go_simp; all_goals with_reducible rfl)); (try simp only [Act.put, List.getElem_toArray, List.getElem_cons_succ, List.getElem_cons_zero, List.setIfInBounds_toArray, List.set_cons_zero, List.set_cons_succ]))
        (refine wpAnyH_take (i := 1) (v := ?_) rfl (by kernel_rfl) (by kernel_rfl) (by kernel_rfl) (fun _ _ _ h => h) (Or.inl ⟨by kernel_rfl, ?_⟩) (by assumption) ?_; rotate_left; (focus (intro w hSw; (try dsimp only at hSw); go_simp; all_goals with_reducible rfl)); (try simp only [Act.put, List.getElem_toArray, List.getElem_cons_succ, List.getElem_cons_zero, List.setIfInBounds_toArray, List.set_cons_zero, List.set_cons_succ]))
        (refine wpAnyH_take (i := 2) (v := ?_) rfl (by kernel_rfl) (by kernel_rfl) (by kernel_rfl) (fun _ _ _ h => h) (Or.inl ⟨by kernel_rfl, ?_⟩) (by assumption) ?_; rotate_left; (focus (intro w hSw; (try dsimp only at hSw); go_simp; all_goals with_reducible rfl)); (try simp only [Act.put, List.getElem_toArray, List.getElem_cons_succ, List.getElem_cons_zero, List.setIfInBounds_toArray, List.set_cons_zero, List.set_cons_succ]))
        (refine wpAnyH_take (i := 5) (v := ?_) rfl (by kernel_rfl) (by kernel_rfl) (by kernel_rfl) (fun _ _ _ h => h) (Or.inl ⟨by kernel_rfl, ?_⟩) (by assumption) ?_; rotate_left; (focus (intro w hSw; (try dsimp only at hSw); go_simp; all_goals with_reducible rfl)); (try simp only [Act.put, List.getElem_toArray, List.getElem_cons_succ, List.getElem_cons_zero, List.setIfInBounds_toArray, List.set_cons_zero, List.set_cons_succ]))
        (refine wpAnyH_take (i := 6) (v := ?_) rfl (by kernel_rfl) (by kernel_rfl) (by kernel_rfl) (fun _ _ _ h => h) (Or.inl ⟨by kernel_rfl, ?_⟩) (by assumption) ?_; rotate_left; (focus (intro w hSw; (try dsimp only at hSw); go_simp; all_goals with_reducible rfl)); (try simp only [Act.put, List.getElem_toArray, List.getElem_cons_succ, List.getElem_cons_zero, List.setIfInBounds_toArray, List.set_cons_zero, List.set_cons_succ]))
        (refine wpAnyH_ready (rs := [3]) (by kernel_rfl) (by simp) ?_; refine AllReadyH.cons rfl (fun K hK => ?_) AllReadyH.nil)
        go_simp
        refine (HD1.out _ HVV.out.drew).mono ?_
        rintro e3 v3 ⟨rfl, b3⟩
        have HB3 := Lib.hid (((Below.refl v.heap.size v).drew).trans b3)
        have HW3 := Lib.hid (HVV.out.trans (HB3.out.mono HVV.out.size))
        clear b3
        refine hK.out _ _ (HQ.out _ HB3.out) (fun hHeld => ?_)
        clear hK K
        (try simp only [Act.put, List.getElem_toArray, List.getElem_cons_succ, List.getElem_cons_zero, List.setIfInBounds_toArray, List.set_cons_zero, List.set_cons_succ])
        (refine wpAnyH_take (i := 4) (v := ?_) rfl (by kernel_rfl) (by kernel_rfl) (by kernel_rfl) (fun _ _ _ h => h) (Or.inl ⟨by kernel_rfl, ?_⟩) (by assumption) ?_; rotate_left; (focus (intro w hSw; (try dsimp only at hSw); go_simp; rw [if_neg (show ¬ 9223372036854775807 < s1.size + 1 by omega)]; try with_reducible rfl)); (try simp only [Act.put, List.getElem_toArray, List.getElem_cons_succ, List.getElem_cons_zero, List.setIfInBounds_toArray, List.set_cons_zero, List.set_cons_succ]))
        (refine wpAnyH_ready (rs := [7]) (by kernel_rfl) (by simp) ?_; refine AllReadyH.cons rfl (fun K hK => ?_) AllReadyH.nil)
        go_simp
        refine (HD2.out _ HW3.out).mono ?_
        rintro e4 v4 ⟨rfl, b4⟩
        have HB4 := Lib.hid (HB3.out.trans (b4.mono HB3.out.size))
        have HW4 := Lib.hid (HW3.out.trans (b4.mono HW3.out.size))
        clear b4
        refine hK.out _ _ (HQ.out _ HB4.out) (fun hHeld => ?_)
        clear hK K
        (try simp only [Act.put, List.getElem_toArray, List.getElem_cons_succ, List.getElem_cons_zero, List.setIfInBounds_toArray, List.set_cons_zero, List.set_cons_succ])
        obtain ⟨t1, ht1⟩ : ∃ t, s1 ++ (⟨#[58]⟩ : ByteArray) = t := ⟨_, rfl⟩
        have htz : t1.size ≤ 21 := by
          have e : (s1 ++ (⟨#[58]⟩ : ByteArray)).size = s1.size + 1 := by rw [ByteArray.size_append]; rfl
          rw [← ht1]; omega
        have HS2 : Hid ((t1 ++ s2 : ByteArray).data.toList = ptF p) := Lib.hid (by rw [← ht1]; exact HS.out)
        rw [ht1]
        clear ht1 HS
        (refine wpAnyH_take (i := 8) (v := ?_) rfl (by kernel_rfl) (by kernel_rfl) (by kernel_rfl) (fun _ _ _ h => h) (Or.inl ⟨by kernel_rfl, ?_⟩) (by assumption) ?_; rotate_left; (focus (intro w hSw; (try dsimp only at hSw); go_simp; rw [if_neg (show ¬ 9223372036854775807 < t1.size + s2.size by omega)]; try with_reducible rfl)); (try simp only [Act.put, List.getElem_toArray, List.getElem_cons_succ, List.getElem_cons_zero, List.setIfInBounds_toArray, List.set_cons_zero, List.set_cons_succ]))
        obtain ⟨t2, ht2⟩ : ∃ t, t1 ++ s2 = t := ⟨_, rfl⟩
        have HS3 : Hid (t2.data.toList = ptF p) := Lib.hid (by rw [← ht2]; exact HS2.out)
        rw [ht2]
        clear ht2 HS2
        (refine wpAnyH_ready (rs := [9]) (by kernel_rfl) (by simp) ?_; refine AllReadyH.cons rfl (fun K hK => ?_) AllReadyH.nil)
        go_simp
        have ba : Below v4.heap.size v4 (v4.alloc (.cells #[.string t2] 9)) := (Below.refl _ _).alloc (Nat.le_refl _) _
        have HBa := Lib.hid (HB4.out.trans (ba.mono HB4.out.size))
        have HWa := Lib.hid (HW4.out.trans (ba.mono HW4.out.size))
        have HOa := Lib.hid (own_below HOW.out HBa.out)
        have HKa := Lib.hid (HQB.out _ HBa.out)
        refine hK.out _ _ (HQ.out _ HBa.out) (fun hHeld => ?_)
        clear hK K
        (try simp only [Act.put, List.getElem_toArray, List.getElem_cons_succ, List.getElem_cons_zero, List.setIfInBounds_toArray, List.set_cons_zero, List.set_cons_succ])
        (refine wpAnyH_ready (rs := [10]) (by kernel_rfl) (by simp) ?_; refine AllReadyH.cons rfl (fun K hK => ?_) AllReadyH.nil)
        refine step_app elem_str _ _ rfl w.heap.size A1 k c1 (((l.map ptF).take k).map strV) rfl HOa.out ⟨v4.heap.size, 0, none⟩ 1 [.string t2] rfl rfl (cell_one_new _ _ _) (fun u hu => by rw [List.mem_singleton] at hu; rw [hu]; rfl) (by omega) HWa.out.size rfl ?_
        intro g7 c7 w7 hown7 hg7 hx7
        have HW7 := Lib.hid (HWa.out.grown hg7 HWa.out.size (own_base HOa.out))
        have HK7 := Lib.hid (HKa.out.kept hg7 HNE.out)
        have HO7 := Lib.hid hown7
        clear hown7 hg7 hx7
        refine hK.out _ _ (And.intro (HK7.out.cell (j := 0) rfl) (HK7.out.cell (j := 1) rfl)) (fun hHeld => ?_)
        clear hK K
        (try simp only [Act.put, List.getElem_toArray, List.getElem_cons_succ, List.getElem_cons_zero, List.setIfInBounds_toArray, List.set_cons_zero, List.set_cons_succ])
        (refine wpAnyH_take (i := 11) (v := ?_) rfl (by kernel_rfl) (by kernel_rfl) (by kernel_rfl) (fun _ _ _ h => h) (Or.inl ⟨by kernel_rfl, ?_⟩) (by assumption) ?_; rotate_left; (focus (intro w hSw; (try dsimp only at hSw); go_simp; all_goals with_reducible rfl)); (try simp only [Act.put, List.getElem_toArray, List.getElem_cons_succ, List.getElem_cons_zero, List.setIfInBounds_toArray, List.set_cons_zero, List.set_cons_succ]))
        (refine wpAnyH_done (by kernel_rfl) ?_ _)
        go_wp2_with fail
        go_roundw
        case rel => exact ⟨HW7.out, k + 1, c7, _, by omega, by go_num, rfl, Lib.hid (SRel.step HX.out HS3.out HO7.out)⟩
        case measure => simp [intOf]; omega
      · have hkn : ¬ (k : Int) < (n : Int) := by omega
        have hke : k = n := by omega
        subst hke
        obtain ⟨g, c2, hv, _, _⟩ := hrow.out.form (by omega)
        injection hv with e1 e2 e3
        subst e1
        have hall : (l.map ptF).take k = l.map ptF := List.take_of_length_le (by rw [List.length_map, ← HN.out]; exact Nat.le_refl _)
        have hjl : (Lib.join (l.map ptF) [44]).length ≤ 140737488355328 := Nat.le_trans (join_len20 [44] rfl (fun y hy => by
          obtain ⟨z, hz, rfl⟩ := List.mem_map.1 hy
          have := H64.out z hz
          exact ptF_len this.1 this.2) (by rw [List.length_map, ← HN.out]; exact hlen)) (by decide)
        have HJ := Lib.hid (sjoin_any ⟨#[44]⟩ (l.map ptF) g k c1 w.heap.size wr (by rw [List.length_map]; exact HN.out) (by rw [← hall]; exact hrow.out) (by omega) hlen hjl)
        have hr : r = Lib.join (l.map ptF) [44] := by
          rw [← HR.out]
          unfold trvF
          rw [if_neg (fun e => by rw [HN.out, e] at h0; exact h0 rfl)]
        subst hr
        clear hall hjl e2 e3 hrow
        go_wp2_with (go_at_call 42; refine HJ.out.mono ?_; rintro e w1 ⟨rfl, hb1⟩)
        go_ret
        exact ⟨rfl, HBV.out.trans (hb1.mono hbz)⟩
end Go.Proofs.YthefooacfcagbaaGreatDoor.spc

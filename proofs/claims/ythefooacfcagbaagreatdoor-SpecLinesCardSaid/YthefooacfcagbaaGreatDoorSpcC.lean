/- spec.Stop, walked. The program. -/
import Derived.Test.YthefooacfcagbaaGreatDoorSpcA
import Derived.Test.YthefooacfcagbaaGreatDoorShelfS
namespace Go.Proofs.YthefooacfcagbaaGreatDoor.spc
open Go.RowKit
open Go.Proofs.YthefooacfcagbaaGreatDoor.lib Go.Proofs.YthefooacfcagbaaGreatDoor.rd Go.Proofs.YthefooacfcagbaaGreatDoor.app Go.Proofs.YthefooacfcagbaaGreatDoor.els Go.Proofs.YthefooacfcagbaaGreatDoor.typ Go.Proofs.YthefooacfcagbaaGreatDoor.big Go.Proofs.YthefooacfcagbaaGreatDoor.gen
open Go.Proofs.YthefooacfcagbaaGreatDoor.txt (in64 By strV strV_of decW decW_any Tabs elem_str toList_data push_one isD dec_all)
set_option linter.unusedVariables false
set_option linter.unusedSimpArgs false

/-- What the library's tables hold, and a number that it has set aside. -/
structure TabS (w : World) : Prop where
  tabs : Tabs w
  max : ∃ m : Int, w.cell? ⟨0, 0, none⟩ = some (.int .i64 m)
theorem TabS.below {w w' : World} (h : TabS w) (hb : Below w.heap.size w w') : TabS w' := by
  obtain ⟨m, hm⟩ := h.max
  exact ⟨h.tabs.below hb, m, (hb.cell (p := ⟨0, 0, none⟩) (Lib.lt_of_cell hm)).trans hm⟩
theorem stopF_is {s : Stp} (h : ¬ (s.place = -1 ∧ s.opn = 0 ∧ s.close = 0 ∧ s.service = 0)) : Lib.replaceAll (listF (stpN s)) [44] [58] = stopF s := by
  unfold stopF listF
  rw [if_neg h, if_neg (by simp [stpN]), repl_join (by decide)]
  intro x hx
  obtain ⟨z, _, rfl⟩ := List.mem_map.1 hx
  exact dig_no (by decide) (by decide) z
theorem countB_le (s : ByteArray) (l : By) (h : s.data.toList = l) : Lib.countB s ⟨#[44]⟩ ≤ l.length := by
  have e : Lib.countB s ⟨#[44]⟩ = Lib.count s.data.toList [44] := rfl
  rw [e, h, Lib.count_one]
  exact List.count_le_length
set_option maxRecDepth 20000 in
set_option maxHeartbeats 1000000 in
theorem sstop_any (s : Stp) (w : World) (ht : TabS w) (h64 : ∀ x ∈ stpN s, in64 x) :
    Calls Tryz.prog 14 #[.agg (StpCells s).toArray] w fun e w' => e = .returned (.string ⟨(stopF s).toArray⟩) ∧ Below w.heap.size w w' := by
  show Calls Tryz.prog 14 #[.agg #[.int .i64 s.place, .int .i64 s.opn, .int .i64 s.close, .int .i64 s.service]] w _
  have HTb : Hid (∀ w', Below w.heap.size w w' → TabS w') := Lib.hid (fun w' h => ht.below h)
  have H64 := Lib.hid h64
  obtain ⟨r, hr⟩ : ∃ r, stopF s = r := ⟨_, rfl⟩
  have HR := Lib.hid hr
  rw [hr]
  clear ht h64 hr
  go_enter Tryz.func14, Tryz.ntmps14
  by_cases h0 : s.place = -1 ∧ s.opn = 0 ∧ s.close = 0 ∧ s.service = 0
  · have hr : r = [46] := by
      rw [← HR.out]
      unfold stopF
      rw [if_pos h0]
    subst hr
    obtain ⟨h1, h2, h3, h4⟩ := h0
    go_wp2
    go_ret
    exact ⟨rfl, ((Below.refl _ w).alloc (Nat.le_refl _) _).alloc (by simp) _⟩
  · have HS := Lib.hid (stopF_is h0)
    obtain ⟨W1, hW1⟩ : ∃ W1, (w.alloc (.cells #[.int .i64 s.place, .int .i64 s.opn, .int .i64 s.close, .int .i64 s.service] 41)).alloc (.cells #[.int .i64 (-1), .int .i64 0, .int .i64 0, .int .i64 0] 41) = W1 := ⟨_, rfl⟩
    have b0 : Blk W1 w.heap.size 41 [.int .i64 s.place, .int .i64 s.opn, .int .i64 s.close, .int .i64 s.service] := by
      rw [← hW1]
      exact (Blk.new w _ _).kept (World.grownBy_alloc _ _ none) (by simp)
    have hB1 : Below w.heap.size w W1 := by rw [← hW1]; exact ((Below.refl _ _).alloc (Nat.le_refl _) _).alloc (by simp) _
    have HW1 := Lib.hid hW1
    have HB1 := Lib.hid hB1
    have c0 := b0.cell (j := 0) rfl
    have c1 := b0.cell (j := 1) rfl
    have c2 := b0.cell (j := 2) rfl
    have c3 := b0.cell (j := 3) rfl
    have hz1 := hB1.size
    have HL := Lib.hid (Ints.lit W1 (stpN s) (by simp [stpN]))
    obtain ⟨W2, hW2⟩ : ∃ W2, W1.alloc (.cells #[.int .i64 s.place, .int .i64 s.opn, .int .i64 s.close, .int .i64 s.service] 3) = W2 := ⟨_, rfl⟩
    have hz2 : W2.heap.size = W1.heap.size + 1 := by rw [← hW2]; simp
    have HB2 : Hid (Below w.heap.size w W2) := Lib.hid (hB1.trans (by rw [← hW2]; exact (Below.refl _ _).alloc hz1 _))
    have HC : Hid (Calls Tryz.prog 21 #[.slice (some ⟨W1.heap.size, 0, none⟩) 4 4] W2 fun e w' => e = .returned (.string ⟨(listF (stpN s)).toArray⟩) ∧ Below W2.heap.size W2 w') := Lib.hid (by
      refine list_any (stpN s) _ 4 4 (by simp [stpN]) W2 (HTb.out _ HB2.out).tabs ?_ H64.out (by decide)
      have h := HL.out
      rw [hz2, ← hW2]
      exact h)
    have HLN : Hid ((listF (stpN s)).length ≤ 10000000) := Lib.hid (by
      unfold listF
      rw [if_neg (by simp [stpN])]
      refine join_len20 [44] rfl (fun y hy => ?_) (by simp [stpN])
      obtain ⟨z, hz, rfl⟩ := List.mem_map.1 hy
      have := itoa_len (H64.out z hz)
      omega)
    obtain ⟨L, hL⟩ : ∃ L, listF (stpN s) = L := ⟨_, rfl⟩
    rw [hL] at HS HC HLN
    have HRP : Hid (∀ w', Below w.heap.size w w' → Calls Tryz.prog 40 #[.string ⟨L.toArray⟩, .string ⟨#[44]⟩, .string ⟨#[58]⟩] w' fun e w'' => e = .returned (.string ⟨r.toArray⟩) ∧ Below w'.heap.size w' w'') := Lib.hid (fun w' h' => by
      obtain ⟨m, hm⟩ := (HTb.out _ h').max
      have hd : (⟨L.toArray⟩ : ByteArray).data.toList = L := by simp
      have hz : (⟨L.toArray⟩ : ByteArray).size = L.length := by simp [ByteArray.size]
      have hc := countB_le _ L hd
      have hln := HLN.out
      have h1 : (⟨#[58]⟩ : ByteArray).size = 1 := rfl
      have h := Tryz.strings_ReplaceAll ⟨L.toArray⟩ ⟨#[44]⟩ ⟨#[58]⟩ m w' (by rw [hz]; omega) hm (by decide) (by rw [hz, h1]; omega)
      rw [← HR.out, ← HS.out]
      exact h)
    have HW2 := Lib.hid hW2
    have n0 := (Blk.new (w.alloc (.cells #[.int .i64 s.place, .int .i64 s.opn, .int .i64 s.close, .int .i64 s.service] 41)) 41 [.int .i64 (-1), .int .i64 0, .int .i64 0, .int .i64 0])
    have n1 : Blk W1 (w.heap.size + 1) 41 [.int .i64 (-1), .int .i64 0, .int .i64 0, .int .i64 0] := by
      rw [← hW1]
      have e := n0
      rw [World.size_alloc] at e
      exact e
    have d0 := n1.cell (j := 0) rfl
    have d1 := n1.cell (j := 1) rfl
    have d2 := n1.cell (j := 2) rfl
    have d3 := n1.cell (j := 3) rfl
    clear hL b0 hB1 HL hW1 hW2 hz1 hz2 n0 n1
    obtain ⟨p, o, c, v⟩ := s
    dsimp only at c0 c1 c2 c3 h0 HW1 HW2 ⊢
    obtain ⟨m1, hm1⟩ : ∃ m : Int, m = -1 := ⟨_, rfl⟩
    obtain ⟨m2, hm2⟩ : ∃ m : Int, m = 0 := ⟨_, rfl⟩
    rw [← hm1] at d0
    rw [← hm2] at d1 d2 d3
    have hcs : p ≠ m1 ∨ (p = m1 ∧ o ≠ m2) ∨ (p = m1 ∧ o = m2 ∧ c ≠ m2) ∨ (p = m1 ∧ o = m2 ∧ c = m2 ∧ v ≠ m2) := by
      rw [← hm1, ← hm2] at h0
      by_cases e1 : p = m1
      · by_cases e2 : o = m2
        · by_cases e3 : c = m2
          · exact .inr (.inr (.inr ⟨e1, e2, e3, fun e => h0 ⟨e1, e2, e3, e⟩⟩))
          · exact .inr (.inr (.inl ⟨e1, e2, e3⟩))
        · exact .inr (.inl ⟨e1, e2⟩)
      · exact .inl e1
    clear hm1 hm2 h0
    rcases hcs with hq | ⟨rfl, hq⟩ | ⟨rfl, rfl, hq⟩ | ⟨rfl, rfl, rfl, hq⟩
    all_goals (
    have hqb := beq_eq_false_iff_ne.2 hq
    go_upto_region 2 with fail
    rw [HW1.out]
    clear HW1
    go_cut [7] (fun u wx => u = .bool false ∧ W1 = wx)
    case first =>
      go_wp2
      go_meet
      exact ⟨rfl, rfl⟩
    obtain ⟨hu, rfl⟩ := hcut
    subst hu
    clear hq hqb
    go_wp2_with (first
      | (rw [HW2.out]; go_at_call 21; refine HC.out.mono ?_; rintro e1 w1 ⟨rfl, b1⟩)
      | (go_at_call 40; refine (HRP.out _ (HB2.out.trans (b1.mono HB2.out.size))).mono ?_; rintro e2 w2 ⟨rfl, b2⟩))
    go_ret
    exact ⟨rfl, (HB2.out.trans (b1.mono HB2.out.size)).trans (b2.mono (HB2.out.trans (b1.mono HB2.out.size)).size)⟩)
end Go.Proofs.YthefooacfcagbaaGreatDoor.spc

/- spec's reader: stops. -/
import Derived.Test.YthefooacfcagbaaGreatDoorSpcE
namespace Go.Proofs.YthefooacfcagbaaGreatDoor.spc
open Go.RowKit
open Go.Proofs.YthefooacfcagbaaGreatDoor.lib Go.Proofs.YthefooacfcagbaaGreatDoor.rd Go.Proofs.YthefooacfcagbaaGreatDoor.app Go.Proofs.YthefooacfcagbaaGreatDoor.els Go.Proofs.YthefooacfcagbaaGreatDoor.typ Go.Proofs.YthefooacfcagbaaGreatDoor.big Go.Proofs.YthefooacfcagbaaGreatDoor.gen
open Go.Proofs.YthefooacfcagbaaGreatDoor.txt (in64 By strV strV_of decW decW_any Tabs elem_str toList_data push_one Strs numL number_any num_dec dec_num)
set_option linter.unusedVariables false
set_option linter.unusedSimpArgs false

theorem RS.store {w wx wy : World} {b g : Nat} {R : List By} (h : RS w b R wx) (hg : w.heap.size ≤ g) (hk : ∀ k, k ≠ g → wy.heap[k]? = wx.heap[k]?) (hb : Below g wx wy) : RS w b R wy :=
  ⟨h.st.keep fun p hp => hk p (by have := h.lt; omega), ⟨hb.os.trans h.grown.os, hb.tape.trans h.grown.tape, hb.output.trans h.grown.output, Nat.le_trans h.size hb.size, fun k hl hne => (hk k (by omega)).trans (h.grown.block k hl hne)⟩, h.lt⟩
abbrev StpR (s : Stp) (v : Value) (w w' : World) : Prop := v = .agg (StpCells s).toArray
theorem stopF_free (l : Stp) : freeB (stopF l) := word_free (stopF_word l)
def zStp : Stp := ⟨0, 0, 0, 0⟩
def noStp : Stp := ⟨-1, 0, 0, 0⟩
theorem dot_stop : [46] = stopF noStp := rfl
theorem no_fits : StpFits noStp := by unfold StpFits noStp; decide
theorem stopR_none {x : By} (hx : x ≠ [46]) (h : readF (splt 58 x) = none) : ∀ s, StpFits s → x ≠ stopF s := fun s hs e => by
  have h1 := stopR_stopF hs
  rw [← e] at h1
  unfold stopR at h1
  rw [if_neg hx, h] at h1
  cases h1
theorem stopR_len {x : By} {l : List Int} (hx : x ≠ [46]) (h : readF (splt 58 x) = some l) (hl : l.length ≠ 4) : ∀ s, StpFits s → x ≠ stopF s := fun s hs e => by
  have h1 := stopR_stopF hs
  rw [← e] at h1
  unfold stopR at h1
  rw [if_neg hx, h] at h1
  change fourR x l = some s at h1
  unfold fourR at h1
  split at h1
  · exact hl rfl
  · cases h1
theorem stopR_four {x : By} {a b c d : Int} (hx : x ≠ [46]) (h : readF (splt 58 x) = some [a, b, c, d]) (hl : stopF ⟨a, b, c, d⟩ ≠ x) : ∀ s, StpFits s → x ≠ stopF s := fun s hs e => by
  have h1 := stopR_stopF hs
  rw [← e] at h1
  unfold stopR at h1
  rw [if_neg hx, h] at h1
  change fourR x [a, b, c, d] = some s at h1
  have h2 : (if stopF ⟨a, b, c, d⟩ = x then some (⟨a, b, c, d⟩ : Stp) else none) = some s := h1
  rw [if_neg hl] at h2
  cases h2
set_option maxRecDepth 20000 in
set_option maxHeartbeats 1000000 in
theorem rstop_any (b : Nat) (R : List By) (w : World) (h : RdSt w b R) (ht : TabsAt b w) :
    Calls Tryz.prog 103 #[.pointer (some ⟨b, 0, none⟩)] w (OneR stopF StpFits StpR b R w) := by
  have HH := Lib.hid h
  have HTB := Lib.hid ht
  have hbl := h.lt
  obtain ⟨W0, hW0⟩ : ∃ W0, w.alloc (.cells #[.int .i64 0, .int .i64 0, .int .i64 0, .int .i64 0] 41) = W0 := ⟨_, rfl⟩
  have HW0 := Lib.hid hW0
  have HB0 : Hid (Blk W0 w.heap.size 41 (StpCells zStp)) := Lib.hid (by rw [← hW0]; exact Blk.new w _ _)
  have HR0 : Hid (RS w b R W0) := Lib.hid (by rw [← hW0]; exact (RS.start h).alloc _)
  clear h ht hW0
  go_enter Tryz.func103, Tryz.ntmps103
  go_upto_region 1 with fail
  rw [HW0.out]
  go_upto_region 2 with (go_at_call 62; refine (word_any b R _ HR0.out.st).mono ?_; rintro e w1 (⟨x, R', _, rfl, hfr, rfl, rfl, hst⟩ | ⟨hno, rfl, hg⟩))
  · have HST := Lib.hid (HR0.out.next hst)
    have HB1 := Lib.hid (HB0.out.kept hst.grown (by intro e; injection e with e; omega))
    clear hst
    have HTS := Lib.hid (HTB.out.below HST.out.bel)
    have hxl := HH.out.len x (List.mem_cons_self ..)
    by_cases hx : x = [46]
    · subst hx
      go_wp2_with ((with_reducible refine wpList_storeL sStp rfl _ _ rfl w.heap.size (StpCells zStp) (StpCells noStp) ?_ ?_ ?_ ?_ ?_ (stp_one _) ?_); exact rfl; exact rfl; exact HB1.out; exact rfl; exact rfl; intro wz k1 k2 k3 k4; have K := Lib.hid (And.intro k1 (And.intro k2 (And.intro k3 k4))); clear k1 k2 k3 k4)
      refine bodyPost_ret (v := .agg (StpCells noStp).toArray) (big.res_cell sStp Tryz.results103 rfl (Blk.cells K.out.1) rfl) rfl ?_
      exact .inl ⟨noStp, R', _, by rw [dot_stop], no_fits, rfl, rfl, HST.out.store (Nat.le_refl _) K.out.2.1 K.out.2.2.2⟩
    · have hxb : (x == [46]) = false := beq_eq_false_iff_ne.2 hx
      have HX := Lib.hid hx
      clear hfr hx
      go_upto_region 5 with (go_at_call 101; refine (nums_any 58 x hxl w1 HTS.out.now).mono ?_; rintro e w2 ⟨hb, ⟨l, A, d, hr, rfl, hown⟩ | ⟨hr, rfl⟩⟩)
      rotate_left
      · refine ⟨rfl, .inr ⟨fun s R2 h64 e => ?_, rfl, (HST.out.below hb).grown⟩⟩
        injection e with e1 e2
        exact stopR_none HX.out hr s h64 e1
      have HST2 := Lib.hid (HST.out.below hb)
      have HB2 := Lib.hid (HB1.out.below hb)
      have HTS2 := Lib.hid (HTS.out.below (hb.mono (by have := HST.out.size; omega)))
      have HR := Lib.hid hr
      have HOW := Lib.hid hown
      have hbz := hb.size
      have hz1 := HST.out.size
      clear hb hr hown
      obtain ⟨n, hn⟩ : ∃ n, l.length = n := ⟨_, rfl⟩
      have HN := Lib.hid hn
      rw [hn] at HOW ⊢
      clear hn
      by_cases h4 : n = 4
      rotate_left
      · have h4i : ¬ (n : Int) = 4 := by omega
        have h4b : ((n : Int) != 4) = true := by simpa using h4i
        go_wp2_with (go_at_call 67; refine (fail_any _).mono ?_; rintro e w3 ⟨rfl, rfl⟩)
        refine ⟨rfl, .inr ⟨fun s R2 h64 e => ?_, rfl, HST2.out.grown⟩⟩
        injection e with e1 e2
        exact stopR_len HX.out HR.out (by rw [HN.out]; exact h4) s h64 e1
      subst h4
      obtain ⟨a1, a2, a3, a4, rfl⟩ : ∃ a1 a2 a3 a4, l = [a1, a2, a3, a4] := by
        have hl := HN.out
        match l, hl with
        | [a, b, c, d], _ => exact ⟨a, b, c, d, rfl⟩
      obtain ⟨g, c2, hv, hg0, hglt⟩ := HOW.out.form (by omega)
      injection hv with e1 e2 e3
      subst e1
      have g0 := HOW.out.cellAt 0 (by omega)
      have g1 := HOW.out.cellAt 1 (by omega)
      have g2 := HOW.out.cellAt 2 (by omega)
      have g3 := HOW.out.cellAt 3 (by omega)
      simp only [List.map_cons, List.getElem?_cons_zero, List.getElem?_cons_succ] at g0 g1 g2 g3
      clear e2 e3
      go_upto_region 7 with fail
      obtain ⟨W3, hW3⟩ : ∃ W3, (w2.alloc (.cells #[.int .i64 0, .int .i64 0, .int .i64 0, .int .i64 0] 41)).drew = W3 := ⟨_, rfl⟩
      have hz2 : W3.heap.size = w2.heap.size + 1 := by rw [← hW3]; show (w2.alloc _).heap.size = _; simp
      have HW3 := Lib.hid hW3
      have HB3 : Hid (Blk W3 w2.heap.size 41 (StpCells zStp)) := Lib.hid (by rw [← hW3]; exact Blk.new w2 _ _)
      have hbl3 : Below w2.heap.size w2 W3 := by rw [← hW3]; exact ((Below.refl _ _).alloc (Nat.le_refl _) _).drew
      have HQ3 := Lib.hid (And.intro ((hbl3.cell (p := ⟨g, 0, none⟩) hglt).trans g0) (And.intro ((hbl3.cell (p := ⟨g, 1, none⟩) hglt).trans g1) (And.intro ((hbl3.cell (p := ⟨g, 2, none⟩) hglt).trans g2) ((hbl3.cell (p := ⟨g, 3, none⟩) hglt).trans g3))))
      have HL3 := Lib.hid hbl3
      clear hW3 hbl3
      (refine wp_region_held_drew (S := (fun w' => w'.cell? ⟨g, 0, none⟩ = some (.int .i64 a1) ∧ w'.cell? ⟨g, 1, none⟩ = some (.int .i64 a2) ∧ w'.cell? ⟨g, 2, none⟩ = some (.int .i64 a3) ∧ w'.cell? ⟨g, 3, none⟩ = some (.int .i64 a4))) (by kernel_rfl) ?_ (fun hHeld => ?_))
      · exact ⟨g0, g1, g2, g3⟩
      (refine wpAnyH_take (i := 0) (v := ?_) rfl (by kernel_rfl) (by kernel_rfl) (by kernel_rfl) (fun _ _ _ h => h) (Or.inl ⟨by kernel_rfl, ?_⟩) (by assumption) ?_; rotate_left; (focus (intro w hSw; (try dsimp only at hSw); go_simp; all_goals with_reducible rfl)); (try simp only [Act.put, List.getElem_toArray, List.getElem_cons_succ, List.getElem_cons_zero, List.setIfInBounds_toArray, List.set_cons_zero, List.set_cons_succ]))
      (refine wpAnyH_take (i := 1) (v := ?_) rfl (by kernel_rfl) (by kernel_rfl) (by kernel_rfl) (fun _ _ _ h => h) (Or.inl ⟨by kernel_rfl, ?_⟩) (by assumption) ?_; rotate_left; (focus (intro w hSw; (try dsimp only at hSw); go_simp; all_goals with_reducible rfl)); (try simp only [Act.put, List.getElem_toArray, List.getElem_cons_succ, List.getElem_cons_zero, List.setIfInBounds_toArray, List.set_cons_zero, List.set_cons_succ]))
      (refine wpAnyH_take (i := 2) (v := ?_) rfl (by kernel_rfl) (by kernel_rfl) (by kernel_rfl) (fun _ _ _ h => h) (Or.inl ⟨by kernel_rfl, ?_⟩) (by assumption) ?_; rotate_left; (focus (intro w hSw; (try dsimp only at hSw); go_simp; all_goals with_reducible rfl)); (try simp only [Act.put, List.getElem_toArray, List.getElem_cons_succ, List.getElem_cons_zero, List.setIfInBounds_toArray, List.set_cons_zero, List.set_cons_succ]))
      (refine wpAnyH_take (i := 3) (v := ?_) rfl (by kernel_rfl) (by kernel_rfl) (by kernel_rfl) (fun _ _ _ h => h) (Or.inl ⟨by kernel_rfl, ?_⟩) (by assumption) ?_; rotate_left; (focus (intro w hSw; (try dsimp only at hSw); go_simp; all_goals with_reducible rfl)); (try simp only [Act.put, List.getElem_toArray, List.getElem_cons_succ, List.getElem_cons_zero, List.setIfInBounds_toArray, List.set_cons_zero, List.set_cons_succ]))
      (refine wpAnyH_take (i := 4) (v := ?_) rfl (by kernel_rfl) (by kernel_rfl) (by kernel_rfl) (fun _ _ _ h => h) (Or.inl ⟨by kernel_rfl, ?_⟩) (by assumption) ?_; rotate_left; (focus (intro w hSw; (try dsimp only at hSw); go_simp; all_goals with_reducible rfl)); (try simp only [Act.put, List.getElem_toArray, List.getElem_cons_succ, List.getElem_cons_zero, List.setIfInBounds_toArray, List.set_cons_zero, List.set_cons_succ]))
      (refine wpAnyH_take (i := 5) (v := ?_) rfl (by kernel_rfl) (by kernel_rfl) (by kernel_rfl) (fun _ _ _ h => h) (Or.inl ⟨by kernel_rfl, ?_⟩) (by assumption) ?_; rotate_left; (focus (intro w hSw; (try dsimp only at hSw); go_simp; all_goals with_reducible rfl)); (try simp only [Act.put, List.getElem_toArray, List.getElem_cons_succ, List.getElem_cons_zero, List.setIfInBounds_toArray, List.set_cons_zero, List.set_cons_succ]))
      (refine wpAnyH_take (i := 6) (v := ?_) rfl (by kernel_rfl) (by kernel_rfl) (by kernel_rfl) (fun _ _ _ h => h) (Or.inl ⟨by kernel_rfl, ?_⟩) (by assumption) ?_; rotate_left; (focus (intro w hSw; (try dsimp only at hSw); go_simp; all_goals with_reducible rfl)); (try simp only [Act.put, List.getElem_toArray, List.getElem_cons_succ, List.getElem_cons_zero, List.setIfInBounds_toArray, List.set_cons_zero, List.set_cons_succ]))
      (refine wpAnyH_take (i := 7) (v := ?_) rfl (by kernel_rfl) (by kernel_rfl) (by kernel_rfl) (fun _ _ _ h => h) (Or.inl ⟨by kernel_rfl, ?_⟩) (by assumption) ?_; rotate_left; (focus (intro w hSw; (try dsimp only at hSw); go_simp; all_goals with_reducible rfl)); (try simp only [Act.put, List.getElem_toArray, List.getElem_cons_succ, List.getElem_cons_zero, List.setIfInBounds_toArray, List.set_cons_zero, List.set_cons_succ]))
      (refine wpAnyH_take (i := 8) (v := ?_) rfl (by kernel_rfl) (by kernel_rfl) (by kernel_rfl) (fun _ _ _ h => h) (Or.inl ⟨by kernel_rfl, ?_⟩) (by assumption) ?_; rotate_left; (focus (intro w hSw; (try dsimp only at hSw); go_simp; all_goals with_reducible rfl)); (try simp only [Act.put, List.getElem_toArray, List.getElem_cons_succ, List.getElem_cons_zero, List.setIfInBounds_toArray, List.set_cons_zero, List.set_cons_succ]))
      (refine wpAnyH_take (i := 9) (v := ?_) rfl (by kernel_rfl) (by kernel_rfl) (by kernel_rfl) (fun _ _ _ h => h) (Or.inl ⟨by kernel_rfl, ?_⟩) (by assumption) ?_; rotate_left; (focus (intro w hSw; (try dsimp only at hSw); go_simp; all_goals with_reducible rfl)); (try simp only [Act.put, List.getElem_toArray, List.getElem_cons_succ, List.getElem_cons_zero, List.setIfInBounds_toArray, List.set_cons_zero, List.set_cons_succ]))
      (refine wpAnyH_take (i := 10) (v := ?_) rfl (by kernel_rfl) (by kernel_rfl) (by kernel_rfl) (fun _ _ _ h => h) (Or.inl ⟨by kernel_rfl, ?_⟩) (by assumption) ?_; rotate_left; (focus (intro w hSw; (try dsimp only at hSw); go_simp; all_goals with_reducible rfl)); (try simp only [Act.put, List.getElem_toArray, List.getElem_cons_succ, List.getElem_cons_zero, List.setIfInBounds_toArray, List.set_cons_zero, List.set_cons_succ]))
      (refine wpAnyH_take (i := 11) (v := ?_) rfl (by kernel_rfl) (by kernel_rfl) (by kernel_rfl) (fun _ _ _ h => h) (Or.inl ⟨by kernel_rfl, ?_⟩) (by assumption) ?_; rotate_left; (focus (intro w hSw; (try dsimp only at hSw); go_simp; all_goals with_reducible rfl)); (try simp only [Act.put, List.getElem_toArray, List.getElem_cons_succ, List.getElem_cons_zero, List.setIfInBounds_toArray, List.set_cons_zero, List.set_cons_succ]))
      (refine wpAnyH_take (i := 12) (v := ?_) rfl (by kernel_rfl) (by kernel_rfl) (by kernel_rfl) (fun _ _ _ h => h) (Or.inl ⟨by kernel_rfl, ?_⟩) (by assumption) ?_; rotate_left; (focus (intro w hSw; (try dsimp only at hSw); go_simp; all_goals with_reducible rfl)); (try simp only [Act.put, List.getElem_toArray, List.getElem_cons_succ, List.getElem_cons_zero, List.setIfInBounds_toArray, List.set_cons_zero, List.set_cons_succ]))
      (refine wpAnyH_ready (rs := [13]) (by kernel_rfl) (by simp) ?_; refine AllReadyH.cons rfl (fun K hK => ?_) AllReadyH.nil)
      go_simp
      rw [HW3.out]
      refine hK.out _ _ (HQ3.out) (fun hHeld => ?_)
      clear hK K
      (try simp only [Act.put, List.getElem_toArray, List.getElem_cons_succ, List.getElem_cons_zero, List.setIfInBounds_toArray, List.set_cons_zero, List.set_cons_succ])
      (refine wpAnyH_ready (rs := [14]) (by kernel_rfl) (by simp) ?_; refine AllReadyH.cons rfl (fun K hK => ?_) AllReadyH.nil)
      refine step_storeL sStp rfl _ _ rfl w2.heap.size (StpCells zStp) (StpCells ⟨a1, a2, a3, a4⟩) rfl rfl HB3.out rfl rfl (stp_one _) ?_
      intro w4 k1 k2 k3 k4
      have K4 := Lib.hid (And.intro k1 (And.intro k2 k4))
      have q0 := (World.cell?_of_block (a := ⟨g, 0, none⟩) (k2 g (by omega))).trans HQ3.out.1
      have q1 := (World.cell?_of_block (a := ⟨g, 1, none⟩) (k2 g (by omega))).trans HQ3.out.2.1
      have q2 := (World.cell?_of_block (a := ⟨g, 2, none⟩) (k2 g (by omega))).trans HQ3.out.2.2.1
      have q3 := (World.cell?_of_block (a := ⟨g, 3, none⟩) (k2 g (by omega))).trans HQ3.out.2.2.2
      clear k1 k2 k3 k4
      refine hK.out _ _ (⟨q0, q1, q2, q3⟩) (fun hHeld => ?_)
      clear hK K
      (try simp only [Act.put, List.getElem_toArray, List.getElem_cons_succ, List.getElem_cons_zero, List.setIfInBounds_toArray, List.set_cons_zero, List.set_cons_succ])
      (refine wpAnyH_done (by kernel_rfl) ?_ _)
      have HL4 := Lib.hid (HL3.out.trans (K4.out.2.2))
      have HK4 : Hid (Blk w4 w2.heap.size 41 (StpCells ⟨a1, a2, a3, a4⟩)) := Lib.hid K4.out.1
      have HST4 := Lib.hid (HST2.out.below HL4.out)
      have HB4 := Lib.hid (HB2.out.below HL4.out)
      have h64 := (readF_len HR.out).2
      have HF64 : Hid (StpFits ⟨a1, a2, a3, a4⟩) := Lib.hid ⟨h64 _ (by simp), h64 _ (by simp), h64 _ (by simp), h64 _ (by simp)⟩
      have hcs := sstop_any ⟨a1, a2, a3, a4⟩ w4 (HTS2.out.below (HL4.out.mono (by have := HST2.out.lt; have := HST2.out.size; omega))).now h64
      obtain ⟨F, hF⟩ : ∃ F, stopF ⟨a1, a2, a3, a4⟩ = F := ⟨_, rfl⟩
      rw [hF] at hcs
      have HF := Lib.hid hF
      have HCS := Lib.hid hcs
      clear h64 hcs hF q0 q1 q2 q3 g0 g1 g2 g3 hHeld HQ3 HB3 HW3 K4 HL3 hz2
      by_cases he : F = x
      · subst he
        go_wp2_with (first
          | ((with_reducible refine wpList_loadG sStp _ rfl ⟨w2.heap.size, 0, none⟩ (StpCells ⟨a1, a2, a3, a4⟩) ?_ ?_ ?_ ?_ ?_); exact rfl; exact rfl; exact HK4.out.cells; exact rfl)
          | (go_at_call 14; refine HCS.out.mono ?_; rintro e w5 ⟨rfl, b5⟩; have HK5 := Lib.hid (HK4.out.below b5); have HB5 := Lib.hid (HB4.out.below b5); have HST5 := Lib.hid (HST4.out.below b5); clear b5)
          | ((with_reducible refine wpList_loadG sStp _ rfl ⟨w2.heap.size, 0, none⟩ (StpCells ⟨a1, a2, a3, a4⟩) ?_ ?_ ?_ ?_ ?_); exact rfl; exact rfl; exact HK5.out.cells; exact rfl)
          | ((with_reducible refine wpList_storeL sStp rfl _ _ rfl w.heap.size (StpCells zStp) (StpCells ⟨a1, a2, a3, a4⟩) ?_ ?_ ?_ ?_ ?_ (stp_one _) ?_); exact rfl; exact rfl; exact HB5.out; exact rfl; exact rfl; intro wz k1 k2 k3 k4; have K := Lib.hid (And.intro k1 (And.intro k2 (And.intro k3 k4))); clear k1 k2 k3 k4))
        refine bodyPost_ret (v := .agg (StpCells ⟨a1, a2, a3, a4⟩).toArray) (big.res_cell sStp Tryz.results103 rfl (Blk.cells K.out.1) rfl) rfl ?_
        exact .inl ⟨⟨a1, a2, a3, a4⟩, R', _, by rw [HF.out], HF64.out, rfl, rfl, HST5.out.store (Nat.le_refl _) K.out.2.1 K.out.2.2.2⟩
      · have heb : (F == x) = false := beq_eq_false_iff_ne.2 he
        have heb2 : (F != x) = true := by simpa using he
        have HE := Lib.hid he
        clear he
        go_wp2_with (first
          | ((with_reducible refine wpList_loadG sStp _ rfl ⟨w2.heap.size, 0, none⟩ (StpCells ⟨a1, a2, a3, a4⟩) ?_ ?_ ?_ ?_ ?_); exact rfl; exact rfl; exact HK4.out.cells; exact rfl)
          | (go_at_call 14; refine HCS.out.mono ?_; rintro e w5 ⟨rfl, b5⟩; have HST5 := Lib.hid (HST4.out.below b5); clear b5)
          | (go_at_call 67; refine (fail_any _).mono ?_; rintro e w6 ⟨rfl, rfl⟩))
        refine ⟨rfl, .inr ⟨fun s R2 h64 e => ?_, rfl, HST5.out.grown⟩⟩
        injection e with e1 e2
        exact stopR_four HX.out HR.out (by rw [HF.out]; exact HE.out) s h64 e1
  · exact ⟨rfl, .inr ⟨fun l R2 h64 e => hno _ R2 (stopF_word l) e, rfl, HR0.out.grown.trans hg⟩⟩
end Go.Proofs.YthefooacfcagbaaGreatDoor.spc

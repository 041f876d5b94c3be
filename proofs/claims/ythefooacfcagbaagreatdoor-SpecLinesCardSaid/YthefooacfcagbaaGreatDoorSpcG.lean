/- spec's reader: points. -/
import Derived.Test.YthefooacfcagbaaGreatDoorSpcF
namespace Go.Proofs.YthefooacfcagbaaGreatDoor.spc
open Go.RowKit
open Go.Proofs.YthefooacfcagbaaGreatDoor.lib Go.Proofs.YthefooacfcagbaaGreatDoor.rd Go.Proofs.YthefooacfcagbaaGreatDoor.app Go.Proofs.YthefooacfcagbaaGreatDoor.els Go.Proofs.YthefooacfcagbaaGreatDoor.typ Go.Proofs.YthefooacfcagbaaGreatDoor.big Go.Proofs.YthefooacfcagbaaGreatDoor.gen
open Go.Proofs.YthefooacfcagbaaGreatDoor.txt (in64 By strV strV_of decW decW_any Tabs elem_str toList_data push_one Strs numL number_any num_dec dec_num)
set_option linter.unusedVariables false
set_option linter.unusedSimpArgs false

theorem pt_elem : ElemOf 42 89 (.agg #[.int .i64 0, .int .i64 0]) 2 16 := ⟨Tryz.underlying42, by kernel_rfl, rfl, by decide, by decide⟩
def pcs (l : List Pt) : List Value := l.flatMap PtCells
theorem pcs_append (l l' : List Pt) : pcs (l ++ l') = pcs l ++ pcs l' := by unfold pcs; rw [List.flatMap_append]
theorem pcs_at {l : List Pt} {i : Nat} {q : Pt} (h : l[i]? = some q) (j : Nat) (hj : j < 2) : (pcs l)[i * 2 + j]? = (PtCells q)[j]? := flat_at (g := PtCells) (s := 2) (fun _ => rfl) l i q h j hj
abbrev PtsR (l : List Pt) (v : Value) (w w' : World) : Prop := ∃ A d, v = .slice A l.length d ∧ w'.ownsRow w.heap.size 89 2 (.slice A l.length d) l.length (pcs l)
theorem trvF_free (l : List Pt) : freeB (trvF l) := word_free (trvF_word l)
theorem ptsL_bad {L : List By} {k : Nat} {x : By} (h : L[k]? = some x) (hx : ptR x = none) : ptsL L = none := by
  cases hr : ptsL L with
  | none => rfl
  | some l =>
    obtain ⟨h1, h2⟩ := ptsL_some hr
    rw [h1, List.getElem?_map] at h
    cases hl : l[k]? with
    | none => rw [hl] at h; cases h
    | some p =>
      rw [hl] at h
      have e := Option.some.inj h
      rw [← e, ptR_ptF (h2 p (List.mem_of_getElem? hl))] at hx
      cases hx
theorem ptR_none {x : By} (h : readF (splt 58 x) = none) : ptR x = none := by unfold ptR; rw [h]; rfl
theorem ptR_len {x : By} {l : List Int} (h : readF (splt 58 x) = some l) (hl : l.length ≠ 2) : ptR x = none := by
  unfold ptR
  rw [h]
  show twoR l = none
  unfold twoR
  split
  · exact absurd rfl hl
  · rfl
theorem ptR_two {x : By} {a b : Int} (h : readF (splt 58 x) = some [a, b]) : ptR x = some ⟨a, b⟩ := by
  unfold ptR
  rw [h]
  rfl
theorem trvR_bad {x : By} (hx : x ≠ [46]) (h : ptsL (splt 44 x) = none) : ∀ l, (∀ p ∈ l, PtFits p) → x ≠ trvF l := fun l hl e => by
  have h1 := trvR_trvF hl
  rw [← e] at h1
  unfold trvR at h1
  rw [if_neg hx, h] at h1
  cases h1
set_option maxRecDepth 20000 in
set_option maxHeartbeats 1000000 in
theorem rpoints_any (b : Nat) (R : List By) (w : World) (h : RdSt w b R) (ht : TabsAt b w) :
    Calls Tryz.prog 64 #[.pointer (some ⟨b, 0, none⟩)] w (OneR trvF (fun l => ∀ p ∈ l, PtFits p) PtsR b R w) := by
  have HH := Lib.hid h
  have HTB := Lib.hid ht
  clear h ht
  go_enter Tryz.func64, Tryz.ntmps64
  go_upto_region 2 with (go_at_call 62; refine (word_any b R _ HH.out).mono ?_; rintro e w1 (⟨x, R', _, rfl, hfr, rfl, rfl, hst⟩ | ⟨hno, rfl, hg⟩))
  rotate_left
  · exact ⟨rfl, .inr ⟨fun l R2 h64 e => hno _ R2 (trvF_word l) e, rfl, hg⟩⟩
  have HST := Lib.hid hst
  have hz1 := hst.size
  have hbl := hst.lt
  clear hst
  have HTS := Lib.hid (HTB.out.below HST.out.bel)
  have hxl := HH.out.len x (List.mem_cons_self ..)
  by_cases hx : x = [46]
  · subst hx
    go_wp2
    go_ret
    exact .inl ⟨[], R', _, rfl, fun y hy => (by cases hy), rfl, ⟨none, 0, rfl, World.ownsRow_nil _ _ _ _⟩, HST.out⟩
  have hxb : (x == [46]) = false := beq_eq_false_iff_ne.2 hx
  have HX := Lib.hid hx
  obtain ⟨L, hL⟩ : ∃ L, splt 44 x = L := ⟨_, rfl⟩
  have HLX := Lib.hid hL
  have HLL : Hid (∀ y ∈ L, y.length ≤ 100000) := Lib.hid (fun y hy => by have := (splt_len 44 x).2 y (by rw [hL]; exact hy); omega)
  have hLn : L.length ≤ 100001 := by have := (splt_len 44 x).1; have h2 := List.count_le_length (a := 44) (l := x); rw [hL] at this; omega
  have HSP := Lib.hid (ssplit_any 44 x hxl w1 HTS.out.now)
  rw [hL] at HSP
  clear hfr hx hL
  go_upto_region 6 with (go_at_call 100; refine HSP.out.mono ?_; rintro e w2 ⟨n, hn, rfl, hblk, hb1⟩; have HN := Lib.hid hn; have hn1 : n ≤ 100001 := (by omega); clear hn)
  have HBK := Lib.hid hblk
  have HB1 := Lib.hid hb1
  have hz2 := hblk.lt
  clear hblk hb1 HSP
  go_loopw [4, 15] (fun pv i wr => Below w1.heap.size w1 wr ∧ Below (w1.heap.size + 1) w2 wr ∧ ∃ (k d : Nat) (A : Option Addr) (l : List Pt), k ≤ n ∧ i = .int .i64 k ∧ pv = .slice A k d ∧ l.length = k ∧ Hid (L.take k = l.map ptF ∧ (∀ y ∈ l, PtFits y)) ∧ Hid (wr.ownsRow (w1.heap.size + 1) 89 2 (.slice A k d) k (pcs l))) (fun _ i _ => n - (intOf i).toNat)
  case atStart => exact ⟨HB1.out, Below.refl _ _, 0, 0, none, [], by omega, rfl, rfl, rfl, Lib.hid ⟨rfl, fun y hy => by cases hy⟩, Lib.hid (World.ownsRow_nil _ _ _ _)⟩
  case round =>
    obtain ⟨hb, hb', k, d, A, l, hk, rfl, rfl, hlk, hpre, hrow⟩ := hrel
    have HBV := Lib.hid hb
    have HBW := Lib.hid hb'
    have HLK := Lib.hid hlk
    have hbz := hb.size
    have hbz' := hb'.size
    by_cases hlt : k < n
    · obtain ⟨y, hy⟩ : ∃ y, L[k]? = some y := ⟨_, List.getElem?_eq_getElem (by rw [← HN.out]; exact hlt)⟩
      have hcell : wr.cell? ⟨w1.heap.size, k, none⟩ = some (.string ⟨y.toArray⟩) := by
        have h1 := HBK.out.cell (j := k) (u := strV y) (by rw [List.getElem?_map, hy]; rfl)
        exact (hb'.cell (p := ⟨w1.heap.size, k, none⟩) (Nat.lt_succ_self _)).trans h1
      have hyl := HLL.out y (List.mem_of_getElem? hy)
      have HY := Lib.hid hy
      have HTr := Lib.hid (HTS.out.below (hb.mono (by omega)))
      have hkn : (k : Int) < (n : Int) := by omega
      have hk0 : (0 : Int) ≤ (k : Int) := by omega
      clear hy hb hb' hlk
      have hns := nums_any 58 y hyl wr HTr.out.now
      have HNS := Lib.hid hns
      clear hns
      go_upto_region 9 with (go_at_call 101; refine HNS.out.mono ?_; rintro e w3 ⟨hb, ⟨q, Aq, dq, hr, rfl, hown⟩ | ⟨hr, rfl⟩⟩)
      rotate_left
      · refine ⟨rfl, .inr ⟨fun s R2 h64 e => ?_, rfl, (HST.out.below (HBV.out.trans (hb.mono hbz))).grown⟩⟩
        injection e with e1 e2
        exact trvR_bad HX.out (by rw [HLX.out]; exact ptsL_bad HY.out (ptR_none hr)) s h64 e1
      have HB3 := Lib.hid hb
      have HR := Lib.hid hr
      have HOW := Lib.hid hown
      have hb3z := hb.size
      clear hb hr hown HNS
      obtain ⟨j, hj⟩ : ∃ j, q.length = j := ⟨_, rfl⟩
      have HJ := Lib.hid hj
      rw [hj] at HOW ⊢
      clear hj
      by_cases h2 : j = 2
      rotate_left
      · have h2i : ¬ (j : Int) = 2 := by omega
        have h2b : ((j : Int) != 2) = true := by simpa using h2i
        go_wp2_with (go_at_call 67; refine (fail_any _).mono ?_; rintro e w4 ⟨rfl, rfl⟩)
        refine ⟨rfl, .inr ⟨fun s R2 h64 e => ?_, rfl, (HST.out.below (HBV.out.trans (HB3.out.mono hbz))).grown⟩⟩
        injection e with e1 e2
        exact trvR_bad HX.out (by rw [HLX.out]; exact ptsL_bad HY.out (ptR_len HR.out (by rw [HJ.out]; exact h2))) s h64 e1
      subst h2
      obtain ⟨a1, a2, rfl⟩ : ∃ a1 a2, q = [a1, a2] := by
        have hl := HJ.out
        match q, hl with
        | [a, b], _ => exact ⟨a, b, rfl⟩
      obtain ⟨g, c2, hv, hg0, hglt⟩ := HOW.out.form (by omega)
      injection hv with e1 e2 e3
      subst e1
      have g0 := HOW.out.cellAt 0 (by omega)
      have g1 := HOW.out.cellAt 1 (by omega)
      simp only [List.map_cons, List.getElem?_cons_zero, List.getElem?_cons_succ] at g0 g1
      clear e2 e3
      have hgne : Hid (∀ q, (Value.slice A k d).ownBlock = some q → q ≠ g) := Lib.hid (fun q e => by have := (World.ownsRow.lt hrow.out q e).2; omega)
      have HRW := Lib.hid (own_below hrow.out HB3.out)
      have h64 := (readF_len HR.out).2
      have HPF : Hid (PtFits ⟨a1, a2⟩) := Lib.hid ⟨h64 _ (by simp), h64 _ (by simp)⟩
      clear h64
      go_upto_region 11 with fail
      obtain ⟨W4, hW4⟩ : ∃ W4, (w3.alloc (.cells #[.int .i64 a1, .int .i64 a2] 89)).drew = W4 := ⟨_, rfl⟩
      have HW4 := Lib.hid hW4
      have hbl4 : Below w3.heap.size w3 W4 := by rw [← hW4]; exact ((Below.refl _ _).alloc (Nat.le_refl _) _).drew
      have hC4 : ∀ (j : Nat) (u : Value), [Value.int .i64 a1, .int .i64 a2][j]? = some u → W4.cell? ((⟨w3.heap.size, 0, none⟩ : Addr).add j) = some u := fun j u hu => by
        rw [← hW4]
        exact two_new w3 _ _ _ j u hu
      have hz4 : W4.heap.size = w3.heap.size + 1 := by rw [← hW4]; show (w3.alloc _).heap.size = _; simp
      have HC4 := Lib.hid hC4
      have HL4 := Lib.hid hbl4
      have HQ4 := Lib.hid (And.intro ((hbl4.cell (p := ⟨g, 0, none⟩) hglt).trans g0) ((hbl4.cell (p := ⟨g, 1, none⟩) hglt).trans g1))
      have HR4 := Lib.hid (own_below HRW.out hbl4)
      clear hW4 hbl4 hC4
      (refine wp_region_held_drew (S := (fun w' => w'.cell? ⟨g, 0, none⟩ = some (.int .i64 a1) ∧ w'.cell? ⟨g, 1, none⟩ = some (.int .i64 a2))) (by kernel_rfl) ?_ (fun hHeld => ?_))
      · exact ⟨g0, g1⟩
      (refine wpAnyH_take (i := 0) (v := ?_) rfl (by kernel_rfl) (by kernel_rfl) (by kernel_rfl) (fun _ _ _ h => h) (Or.inl ⟨by kernel_rfl, ?_⟩) (by assumption) ?_; rotate_left; (focus (intro w hSw; (try dsimp only at hSw); go_simp; all_goals with_reducible rfl)); (try simp only [Act.put, List.getElem_toArray, List.getElem_cons_succ, List.getElem_cons_zero, List.setIfInBounds_toArray, List.set_cons_zero, List.set_cons_succ]))
      (refine wpAnyH_take (i := 1) (v := ?_) rfl (by kernel_rfl) (by kernel_rfl) (by kernel_rfl) (fun _ _ _ h => h) (Or.inl ⟨by kernel_rfl, ?_⟩) (by assumption) ?_; rotate_left; (focus (intro w hSw; (try dsimp only at hSw); go_simp; all_goals with_reducible rfl)); (try simp only [Act.put, List.getElem_toArray, List.getElem_cons_succ, List.getElem_cons_zero, List.setIfInBounds_toArray, List.set_cons_zero, List.set_cons_succ]))
      (refine wpAnyH_take (i := 2) (v := ?_) rfl (by kernel_rfl) (by kernel_rfl) (by kernel_rfl) (fun _ _ _ h => h) (Or.inl ⟨by kernel_rfl, ?_⟩) (by assumption) ?_; rotate_left; (focus (intro w hSw; (try dsimp only at hSw); go_simp; all_goals with_reducible rfl)); (try simp only [Act.put, List.getElem_toArray, List.getElem_cons_succ, List.getElem_cons_zero, List.setIfInBounds_toArray, List.set_cons_zero, List.set_cons_succ]))
      (refine wpAnyH_take (i := 3) (v := ?_) rfl (by kernel_rfl) (by kernel_rfl) (by kernel_rfl) (fun _ _ _ h => h) (Or.inl ⟨by kernel_rfl, ?_⟩) (by assumption) ?_; rotate_left; (focus (intro w hSw; (try dsimp only at hSw); go_simp; all_goals with_reducible rfl)); (try simp only [Act.put, List.getElem_toArray, List.getElem_cons_succ, List.getElem_cons_zero, List.setIfInBounds_toArray, List.set_cons_zero, List.set_cons_succ]))
      (refine wpAnyH_take (i := 4) (v := ?_) rfl (by kernel_rfl) (by kernel_rfl) (by kernel_rfl) (fun _ _ _ h => h) (Or.inl ⟨by kernel_rfl, ?_⟩) (by assumption) ?_; rotate_left; (focus (intro w hSw; (try dsimp only at hSw); go_simp; all_goals with_reducible rfl)); (try simp only [Act.put, List.getElem_toArray, List.getElem_cons_succ, List.getElem_cons_zero, List.setIfInBounds_toArray, List.set_cons_zero, List.set_cons_succ]))
      (refine wpAnyH_take (i := 5) (v := ?_) rfl (by kernel_rfl) (by kernel_rfl) (by kernel_rfl) (fun _ _ _ h => h) (Or.inl ⟨by kernel_rfl, ?_⟩) (by assumption) ?_; rotate_left; (focus (intro w hSw; (try dsimp only at hSw); go_simp; all_goals with_reducible rfl)); (try simp only [Act.put, List.getElem_toArray, List.getElem_cons_succ, List.getElem_cons_zero, List.setIfInBounds_toArray, List.set_cons_zero, List.set_cons_succ]))
      (refine wpAnyH_take (i := 6) (v := ?_) rfl (by kernel_rfl) (by kernel_rfl) (by kernel_rfl) (fun _ _ _ h => h) (Or.inl ⟨by kernel_rfl, ?_⟩) (by assumption) ?_; rotate_left; (focus (intro w hSw; (try dsimp only at hSw); go_simp; all_goals with_reducible rfl)); (try simp only [Act.put, List.getElem_toArray, List.getElem_cons_succ, List.getElem_cons_zero, List.setIfInBounds_toArray, List.set_cons_zero, List.set_cons_succ]))
      (refine wpAnyH_take (i := 7) (v := ?_) rfl (by kernel_rfl) (by kernel_rfl) (by kernel_rfl) (fun _ _ _ h => h) (Or.inl ⟨by kernel_rfl, ?_⟩) (by assumption) ?_; rotate_left; (focus (intro w hSw; (try dsimp only at hSw); go_simp; all_goals with_reducible rfl)); (try simp only [Act.put, List.getElem_toArray, List.getElem_cons_succ, List.getElem_cons_zero, List.setIfInBounds_toArray, List.set_cons_zero, List.set_cons_succ]))
      (refine wpAnyH_ready (rs := [8]) (by kernel_rfl) (by simp) ?_; refine AllReadyH.cons rfl (fun K hK => ?_) AllReadyH.nil)
      go_simp
      rw [HW4.out]
      refine hK.out _ _ (HQ4.out) (fun hHeld => ?_)
      clear hK K
      (try simp only [Act.put, List.getElem_toArray, List.getElem_cons_succ, List.getElem_cons_zero, List.setIfInBounds_toArray, List.set_cons_zero, List.set_cons_succ])
      (refine wpAnyH_ready (rs := [9]) (by kernel_rfl) (by simp) ?_; refine AllReadyH.cons rfl (fun K hK => ?_) AllReadyH.nil)
      refine step_app pt_elem _ _ rfl (w1.heap.size + 1) A k d (pcs l) rfl HR4.out ⟨w3.heap.size, 0, none⟩ 1 [.int .i64 a1, .int .i64 a2] rfl rfl HC4.out (fun u hu => by simp only [List.mem_cons, List.not_mem_nil, or_false] at hu; rcases hu with rfl | rfl <;> rfl) (by omega) (by omega) rfl ?_
      intro g7 c7 w7 hown7 hg7 hx7
      have HO7 := Lib.hid hown7
      have q0 := hg7.cell (a := ⟨g, 0, none⟩) HQ4.out.1 (by intro e; exact hgne.out g e.symm rfl)
      have q1 := hg7.cell (a := ⟨g, 1, none⟩) HQ4.out.2 (by intro e; exact hgne.out g e.symm rfl)
      have HB7 : Hid (Below (w1.heap.size + 1) w3 w7) := Lib.hid ((HL4.out.mono (by omega)).grown hg7 (by omega) (fun q e => (World.ownsRow.lt HR4.out q e).1))
      clear hown7 hg7 hx7
      refine hK.out _ _ (⟨q0, q1⟩) (fun hHeld => ?_)
      clear hK K
      (try simp only [Act.put, List.getElem_toArray, List.getElem_cons_succ, List.getElem_cons_zero, List.setIfInBounds_toArray, List.set_cons_zero, List.set_cons_succ])
      (refine wpAnyH_take (i := 10) (v := ?_) rfl (by kernel_rfl) (by kernel_rfl) (by kernel_rfl) (fun _ _ _ h => h) (Or.inl ⟨by kernel_rfl, ?_⟩) (by assumption) ?_; rotate_left; (focus (intro w hSw; (try dsimp only at hSw); go_simp; all_goals with_reducible rfl)); (try simp only [Act.put, List.getElem_toArray, List.getElem_cons_succ, List.getElem_cons_zero, List.setIfInBounds_toArray, List.set_cons_zero, List.set_cons_succ]))
      (refine wpAnyH_done (by kernel_rfl) ?_ _)
      clear q0 q1 g0 g1 hHeld
      go_wp2_with fail
      go_roundw
      case rel =>
        refine ⟨(HBV.out.trans (HB3.out.mono hbz)).trans (HB7.out.mono (by omega)), (HBW.out.trans (HB3.out.mono (by omega))).trans HB7.out, k + 1, c7, _, l ++ [⟨a1, a2⟩], by omega, by go_num, rfl, by simp [HLK.out], Lib.hid ⟨?_, ?_⟩, Lib.hid (by rw [pcs_append]; exact HO7.out)⟩
        · rw [List.take_add_one, HY.out, hpre.out.1, (ptF_ptR (ptR_two HR.out)).1, List.map_append]
          rfl
        · intro u hu
          rcases List.mem_append.1 hu with hu | hu
          · exact hpre.out.2 u hu
          · rw [List.mem_singleton] at hu
            subst hu
            exact HPF.out
      case measure => simp [intOf]; omega
    · have hkn : ¬ (k : Int) < (n : Int) := by omega
      have hke : k = n := by omega
      subst hke
      have HF : Hid (trvR x = some l) := Lib.hid (by
        have h1 := hpre.out.1
        rw [List.take_of_length_le (by rw [← HN.out]; exact Nat.le_refl _)] at h1
        unfold trvR
        rw [if_neg HX.out, HLX.out, h1]
        exact ptsL_map hpre.out.2)
      have HO : Hid (wr.ownsRow w1.heap.size 89 2 (.slice A l.length d) l.length (pcs l)) := Lib.hid (by rw [hlk]; exact own_less hrow.out (Nat.le_succ _))
      clear hlk hpre hrow hb hb'
      go_wp2
      go_ret
      have h1 := trvF_trvR HF.out
      exact .inl ⟨l, R', _, by rw [h1.1], h1.2, rfl, ⟨A, d, by rw [HLK.out]; rfl, own_less HO.out hz1⟩, HST.out.below HBV.out⟩
end Go.Proofs.YthefooacfcagbaaGreatDoor.spc

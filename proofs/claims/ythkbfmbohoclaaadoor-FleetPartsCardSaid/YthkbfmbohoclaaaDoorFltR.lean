/- The laws FleetChecks and FleetParts, walked. -/
import Derived.Test.YthkbfmbohoclaaaDoorFltH
import Derived.Test.YthkbfmbohoclaaaDoorFltO
namespace Go.Proofs.YthkbfmbohoclaaaDoor.flt
open Go.RowKit
open Go.Proofs.YthkbfmbohoclaaaDoor.lib Go.Proofs.YthkbfmbohoclaaaDoor.rd Go.Proofs.YthkbfmbohoclaaaDoor.typ Go.Proofs.YthkbfmbohoclaaaDoor.txt Go.Proofs.YthkbfmbohoclaaaDoor.app
set_option linter.unusedVariables false
set_option linter.unusedSimpArgs false

theorem pushIf_mem {xs : List Int} {r : Bool} {u x : Int} (h : x ∈ pushIf xs r u) : x ∈ xs ∨ x = u := by
  unfold pushIf at h
  split at h
  · exact .inl h
  · rw [List.mem_append] at h
    rcases h with h | h
    · exact .inl h
    · exact .inr (by simpa using h)
theorem errsL_bd {P : Int} {l : List Ty} {i : Nat} {t : Ty} {d : Nat} {x : Int} (h : x ∈ errsL P l i t d) : 0 ≤ x ∧ x ≤ 100 := by
  unfold errsL at h
  repeat (rcases pushIf_mem h with h | h; rotate_left; · omega)
  simp at h
theorem decS_size (n : Nat) : (decS n).size ≤ 2 := by
  unfold decS
  split
  · exact Nat.le_succ 1
  · exact Nat.le_refl 2
theorem fltsTo_fits (P : Int) (l : List Ty) : ∀ j, ∀ f ∈ fltsTo P l j, FltFits f
  | 0, f, h => by
    unfold fltsTo at h
    split at h
    · simp at h
    · simp at h
      subst h
      exact ⟨by decide, by decide⟩
  | j + 1, f, h => by
    rw [fltsTo, List.mem_append] at h
    rcases h with h | h
    · exact fltsTo_fits P l j f h
    · unfold fltsAt at h
      split at h
      · rw [List.mem_map] at h
        obtain ⟨e, he, rfl⟩ := h
        have hb := errsL_bd he
        have hs := decS_size j
        exact ⟨⟨by show _ ≤ e; omega, by show e ≤ _; omega⟩, by show (decS j).size ≤ _; omega⟩
      · simp at h

set_option maxRecDepth 100000 in
set_option maxHeartbeats 8000000 in
theorem lawChecks_any (n : Net) (A0 : Option Addr) (d0 : Nat) (A1 : Option Addr) (d1 : Nat) (A : Option Addr) (c : Nat) (l : List Ty) (w : World) (hL : RowAt rTy w w.heap.size A l) (hcap : l.length ≤ c) (hn : n.places.length ≤ 17592186043904) :
    Calls Tryd.prog 3 #[.agg #[.slice A0 n.places.length d0, .slice A1 n.arcs.length d1], .slice A l.length c] w fun e w' => e = .returned (.bool true) ∧ Below w.heap.size w w' := by
  go_enter Tryd.func3, Tryd.ntmps3
  go_wp2_with fail
  obtain ⟨W0, hW0⟩ : ∃ W0, w.alloc (.cells #[.slice A0 n.places.length d0, .slice A1 n.arcs.length d1] 25) = W0 := ⟨_, rfl⟩
  have hs0 : W0.heap.size = w.heap.size + 1 := by rw [← hW0]; simp
  have hS : ∀ w', Below W0.heap.size W0 w' → (w'.cell? ⟨w.heap.size, 0, none⟩ = some (.slice A0 n.places.length d0) ∧ w'.cell? ⟨w.heap.size, 1, none⟩ = some (.slice A1 n.arcs.length d1)) := by
    intro w' h
    refine ⟨(h.cell (p := ⟨w.heap.size, 0, none⟩) (show w.heap.size < W0.heap.size by omega)).trans ?_, (h.cell (p := ⟨w.heap.size, 1, none⟩) (show w.heap.size < W0.heap.size by omega)).trans ?_⟩
    · rw [← hW0]; exact two_new w _ _ _ 0 _ rfl
    · rw [← hW0]; exact two_new w _ _ _ 1 _ rfl
  have hB0 : Below w.heap.size w W0 := by rw [← hW0]; exact (Below.refl _ _).alloc (Nat.le_refl _) _
  have z0 := hB0.size
  have HL := Lib.hid ((hL.below hB0).more z0)
  have HS0 := Lib.hid hs0
  rw [hW0]
  clear hW0 hL hs0
  (refine wp_region_held_drew (S := (fun w' => w'.cell? ⟨w.heap.size, 0, none⟩ = some (.slice A0 n.places.length d0) ∧ w'.cell? ⟨w.heap.size, 1, none⟩ = some (.slice A1 n.arcs.length d1))) (by kernel_rfl) ?_ (fun hHeld => ?_))
  · exact hS _ ((Below.refl _ _).drew)
  (refine wpAnyH_take (i := 0) (v := ?_) rfl (by kernel_rfl) (by kernel_rfl) (by kernel_rfl) (fun _ _ _ h => h) (Or.inl ⟨by kernel_rfl, ?_⟩) (by assumption) ?_; rotate_left; (focus (intro w hSw; (try dsimp only at hSw); go_simp; all_goals with_reducible rfl)); (try simp only [Act.put, List.getElem_toArray, List.getElem_cons_succ, List.getElem_cons_zero, List.setIfInBounds_toArray, List.set_cons_zero, List.set_cons_succ]))
  (refine wpAnyH_ready (rs := [1]) (by kernel_rfl) (by simp) ?_; refine AllReadyH.cons rfl (fun K hK => ?_) AllReadyH.nil; go_simp)
  go_at_call 11
  refine (few_any A c l _ _ (by exact HL.out)).mono ?_
  rintro e w1 ⟨b, rfl, hb, rfl⟩
  (refine hK.out _ _ ?_ (fun hHeld => ?_))
  · exact hS _ ((Below.refl _ _).drew)
  clear hK K
  (try simp only [Act.put, List.getElem_toArray, List.getElem_cons_succ, List.getElem_cons_zero, List.setIfInBounds_toArray, List.set_cons_zero, List.set_cons_succ])
  (refine wpAnyH_take (i := 2) (v := ?_) rfl (by kernel_rfl) (by kernel_rfl) (by kernel_rfl) (fun _ _ _ h => h) (Or.inl ⟨by kernel_rfl, ?_⟩) (by assumption) ?_; rotate_left; (focus (intro w hSw; (try dsimp only at hSw); go_simp; all_goals with_reducible rfl)); (try simp only [Act.put, List.getElem_toArray, List.getElem_cons_succ, List.getElem_cons_zero, List.setIfInBounds_toArray, List.set_cons_zero, List.set_cons_succ]))
  (refine wpAnyH_take (i := 3) (v := ?_) rfl (by kernel_rfl) (by kernel_rfl) (by kernel_rfl) (fun _ _ _ h => h) (Or.inl ⟨by kernel_rfl, ?_⟩) (by assumption) ?_; rotate_left; (focus (intro w hSw; (try dsimp only at hSw); go_simp; all_goals with_reducible rfl)); (try simp only [Act.put, List.getElem_toArray, List.getElem_cons_succ, List.getElem_cons_zero, List.setIfInBounds_toArray, List.set_cons_zero, List.set_cons_succ]))
  cases b
  · skip
    (refine wpAnyH_take (i := 4) (v := undef) rfl (by kernel_rfl) (by kernel_rfl) (by kernel_rfl) (fun _ _ _ h => h) (Or.inr ⟨by kernel_rfl, rfl⟩) (by assumption) ?_; (try simp only [Act.put, List.getElem_toArray, List.getElem_cons_succ, List.getElem_cons_zero, List.setIfInBounds_toArray, List.set_cons_zero, List.set_cons_succ]))
    (refine wpAnyH_take (i := 5) (v := undef) rfl (by kernel_rfl) (by kernel_rfl) (by kernel_rfl) (fun _ _ _ h => h) (Or.inr ⟨by kernel_rfl, rfl⟩) (by assumption) ?_; (try simp only [Act.put, List.getElem_toArray, List.getElem_cons_succ, List.getElem_cons_zero, List.setIfInBounds_toArray, List.set_cons_zero, List.set_cons_succ]))
    (refine wpAnyH_take (i := 6) (v := undef) rfl (by kernel_rfl) (by kernel_rfl) (by kernel_rfl) (fun _ _ _ h => h) (Or.inr ⟨by kernel_rfl, rfl⟩) (by assumption) ?_; (try simp only [Act.put, List.getElem_toArray, List.getElem_cons_succ, List.getElem_cons_zero, List.setIfInBounds_toArray, List.set_cons_zero, List.set_cons_succ]))
    (refine wpAnyH_take (i := 7) (v := undef) rfl (by kernel_rfl) (by kernel_rfl) (by kernel_rfl) (fun _ _ _ h => h) (Or.inr ⟨by kernel_rfl, rfl⟩) (by assumption) ?_; (try simp only [Act.put, List.getElem_toArray, List.getElem_cons_succ, List.getElem_cons_zero, List.setIfInBounds_toArray, List.set_cons_zero, List.set_cons_succ]))
    (refine wpAnyH_take (i := 8) (v := undef) rfl (by kernel_rfl) (by kernel_rfl) (by kernel_rfl) (fun _ _ _ h => h) (Or.inr ⟨by kernel_rfl, rfl⟩) (by assumption) ?_; (try simp only [Act.put, List.getElem_toArray, List.getElem_cons_succ, List.getElem_cons_zero, List.setIfInBounds_toArray, List.set_cons_zero, List.set_cons_succ]))
    (refine wpAnyH_take (i := 9) (v := undef) rfl (by kernel_rfl) (by kernel_rfl) (by kernel_rfl) (fun _ _ _ h => h) (Or.inr ⟨by kernel_rfl, rfl⟩) (by assumption) ?_; (try simp only [Act.put, List.getElem_toArray, List.getElem_cons_succ, List.getElem_cons_zero, List.setIfInBounds_toArray, List.set_cons_zero, List.set_cons_succ]))
    (refine wpAnyH_take (i := 10) (v := undef) rfl (by kernel_rfl) (by kernel_rfl) (by kernel_rfl) (fun _ _ _ h => h) (Or.inr ⟨by kernel_rfl, rfl⟩) (by assumption) ?_; (try simp only [Act.put, List.getElem_toArray, List.getElem_cons_succ, List.getElem_cons_zero, List.setIfInBounds_toArray, List.set_cons_zero, List.set_cons_succ]))
    (refine wpAnyH_take (i := 11) (v := ?_) rfl (by kernel_rfl) (by kernel_rfl) (by kernel_rfl) (fun _ _ _ h => h) (Or.inl ⟨by kernel_rfl, ?_⟩) (by assumption) ?_; rotate_left; (focus (intro w hSw; (try dsimp only at hSw); go_simp; all_goals with_reducible rfl)); (try simp only [Act.put, List.getElem_toArray, List.getElem_cons_succ, List.getElem_cons_zero, List.setIfInBounds_toArray, List.set_cons_zero, List.set_cons_succ]))
    (refine wpAnyH_take (i := 12) (v := ?_) rfl (by kernel_rfl) (by kernel_rfl) (by kernel_rfl) (fun _ _ _ h => h) (Or.inl ⟨by kernel_rfl, ?_⟩) (by assumption) ?_; rotate_left; (focus (intro w hSw; (try dsimp only at hSw); go_simp; all_goals with_reducible rfl)); (try simp only [Act.put, List.getElem_toArray, List.getElem_cons_succ, List.getElem_cons_zero, List.setIfInBounds_toArray, List.set_cons_zero, List.set_cons_succ]))
    (refine wpAnyH_ready (rs := [13]) (by kernel_rfl) (by simp) ?_; refine AllReadyH.cons rfl (fun K hK => ?_) AllReadyH.nil; go_simp)
    go_at_call 15
    refine (awake_any _).mono ?_
    rintro e w2 ⟨rfl, hb2⟩
    have B2 : Below W0.heap.size W0 w2 := ((Below.refl _ _).drew).trans (hb2.mono (by simp))
    (refine hK.out _ _ ?_ (fun hHeld => ?_))
    · exact hS _ B2
    clear hK K
    (try simp only [Act.put, List.getElem_toArray, List.getElem_cons_succ, List.getElem_cons_zero, List.setIfInBounds_toArray, List.set_cons_zero, List.set_cons_succ])
    (refine wpAnyH_take (i := 14) (v := ?_) rfl (by kernel_rfl) (by kernel_rfl) (by kernel_rfl) (fun _ _ _ h => h) (Or.inl ⟨by kernel_rfl, ?_⟩) (by assumption) ?_; rotate_left; (focus (intro w hSw; (try dsimp only at hSw); go_simp; all_goals with_reducible rfl)); (try simp only [Act.put, List.getElem_toArray, List.getElem_cons_succ, List.getElem_cons_zero, List.setIfInBounds_toArray, List.set_cons_zero, List.set_cons_succ]))
    (refine wpAnyH_take (i := 15) (v := ?_) rfl (by kernel_rfl) (by kernel_rfl) (by kernel_rfl) (fun _ _ _ h => h) (Or.inl ⟨by kernel_rfl, ?_⟩) (by assumption) ?_; rotate_left; (focus (intro w hSw; (try dsimp only at hSw); go_simp; all_goals with_reducible rfl)); (try simp only [Act.put, List.getElem_toArray, List.getElem_cons_succ, List.getElem_cons_zero, List.setIfInBounds_toArray, List.set_cons_zero, List.set_cons_succ]))
    (refine wpAnyH_done (by kernel_rfl) ?_ _)
    go_wp2_with fail
    go_ret
    exact ⟨rfl, hB0.trans (B2.mono z0)⟩
  · have hl := hb rfl
    clear hb
    (refine wpAnyH_take (i := 4) (v := ?_) rfl (by kernel_rfl) (by kernel_rfl) (by kernel_rfl) (fun _ _ _ h => h) (Or.inl ⟨by kernel_rfl, ?_⟩) (by assumption) ?_; rotate_left; (focus (intro w hSw; (try dsimp only at hSw); go_simp; all_goals with_reducible rfl)); (try simp only [Act.put, List.getElem_toArray, List.getElem_cons_succ, List.getElem_cons_zero, List.setIfInBounds_toArray, List.set_cons_zero, List.set_cons_succ]))
    (refine wpAnyH_take (i := 5) (v := ?_) rfl (by kernel_rfl) (by kernel_rfl) (by kernel_rfl) (fun _ _ _ h => h) (Or.inl ⟨by kernel_rfl, ?_⟩) (by assumption) ?_; rotate_left; (focus (intro w hSw; (try dsimp only at hSw); go_simp; all_goals with_reducible rfl)); (try simp only [Act.put, List.getElem_toArray, List.getElem_cons_succ, List.getElem_cons_zero, List.setIfInBounds_toArray, List.set_cons_zero, List.set_cons_succ]))
    (refine wpAnyH_take (i := 7) (v := ?_) rfl (by kernel_rfl) (by kernel_rfl) (by kernel_rfl) (fun _ _ _ h => h) (Or.inl ⟨by kernel_rfl, ?_⟩) (by assumption) ?_; rotate_left; (focus (intro w hSw; (try dsimp only at hSw); go_simp; all_goals with_reducible rfl)); (try simp only [Act.put, List.getElem_toArray, List.getElem_cons_succ, List.getElem_cons_zero, List.setIfInBounds_toArray, List.set_cons_zero, List.set_cons_succ]))
    (refine wpAnyH_take (i := 8) (v := ?_) rfl (by kernel_rfl) (by kernel_rfl) (by kernel_rfl) (fun _ _ _ h => h) (Or.inl ⟨by kernel_rfl, ?_⟩) (by assumption) ?_; rotate_left; (focus (intro w hSw; (try dsimp only at hSw); go_simp; all_goals with_reducible rfl)); (try simp only [Act.put, List.getElem_toArray, List.getElem_cons_succ, List.getElem_cons_zero, List.setIfInBounds_toArray, List.set_cons_zero, List.set_cons_succ]))
    (refine wpAnyH_ready (rs := [6]) (by kernel_rfl) (by simp) ?_; refine AllReadyH.cons rfl (fun K hK => ?_) AllReadyH.nil; go_simp)
    go_at_call 13
    refine (check_any n A0 d0 A1 d1 A c l _ (by exact HL.out) (by omega) hcap hn).mono ?_
    rintro e w2 ⟨A2, c2, rfl, hown2, hb2⟩
    have B2 : Below W0.heap.size W0 w2 := ((Below.refl _ _).drew).trans (hb2.mono (by simp))
    have z2 := B2.size
    have R2 := Lib.hid (flts_row hown2 (fltsTo_fits _ _ _) (by have := fltsTo_len ((n.places.length : Int) - 1) l l.length; omega))
    clear hown2
    (refine hK.out _ _ ?_ (fun hHeld => ?_))
    · exact hS _ B2
    clear hK K
    (try simp only [Act.put, List.getElem_toArray, List.getElem_cons_succ, List.getElem_cons_zero, List.setIfInBounds_toArray, List.set_cons_zero, List.set_cons_succ])
    (refine wpAnyH_ready (rs := [9]) (by kernel_rfl) (by simp) ?_; refine AllReadyH.cons rfl (fun K hK => ?_) AllReadyH.nil; go_simp)
    go_at_call 14
    refine (rcheck_any n A0 d0 A1 d1 A c l _ ((HL.out.below B2).more z2) (by omega) hn).mono ?_
    rintro e w3 ⟨A3, c3, rfl, hown3, hb3⟩
    have B3 : Below W0.heap.size W0 w3 := B2.trans (hb3.mono (by omega))
    have z3 := hb3.size
    have R3 := Lib.hid (flts_row hown3 (fltsTo_fits _ _ _) (by have := fltsTo_len ((n.places.length : Int) - 1) l l.length; omega))
    have R23 := Lib.hid (R2.out.below hb3)
    clear hown3
    (refine hK.out _ _ ?_ (fun hHeld => ?_))
    · exact hS _ B3
    clear hK K
    (try simp only [Act.put, List.getElem_toArray, List.getElem_cons_succ, List.getElem_cons_zero, List.setIfInBounds_toArray, List.set_cons_zero, List.set_cons_succ])
    (refine wpAnyH_ready (rs := [10]) (by kernel_rfl) (by simp) ?_; refine AllReadyH.cons rfl (fun K hK => ?_) AllReadyH.nil; go_simp)
    go_at_call 12
    refine (faults_any A2 c2 A3 c3 _ _ rfl _ w2.heap.size w3.heap.size z3 (Nat.le_refl _) R23.out R3.out).mono ?_
    rintro e w4 ⟨rfl, hb4⟩
    have B4 : Below W0.heap.size W0 w4 := B3.trans (hb4.mono (by omega))
    have z4 := B4.size
    (refine hK.out _ _ ?_ (fun hHeld => ?_))
    · exact hS _ B4
    clear hK K
    (try simp only [Act.put, List.getElem_toArray, List.getElem_cons_succ, List.getElem_cons_zero, List.setIfInBounds_toArray, List.set_cons_zero, List.set_cons_succ])
    (refine wpAnyH_take (i := 11) (v := ?_) rfl (by kernel_rfl) (by kernel_rfl) (by kernel_rfl) (fun _ _ _ h => h) (Or.inl ⟨by kernel_rfl, ?_⟩) (by assumption) ?_; rotate_left; (focus (intro w hSw; (try dsimp only at hSw); go_simp; all_goals with_reducible rfl)); (try simp only [Act.put, List.getElem_toArray, List.getElem_cons_succ, List.getElem_cons_zero, List.setIfInBounds_toArray, List.set_cons_zero, List.set_cons_succ]))
    (refine wpAnyH_take (i := 12) (v := ?_) rfl (by kernel_rfl) (by kernel_rfl) (by kernel_rfl) (fun _ _ _ h => h) (Or.inl ⟨by kernel_rfl, ?_⟩) (by assumption) ?_; rotate_left; (focus (intro w hSw; (try dsimp only at hSw); go_simp; all_goals with_reducible rfl)); (try simp only [Act.put, List.getElem_toArray, List.getElem_cons_succ, List.getElem_cons_zero, List.setIfInBounds_toArray, List.set_cons_zero, List.set_cons_succ]))
    (refine wpAnyH_ready (rs := [13]) (by kernel_rfl) (by simp) ?_; refine AllReadyH.cons rfl (fun K hK => ?_) AllReadyH.nil; go_simp)
    go_at_call 15
    refine (awake_any _).mono ?_
    rintro e w5 ⟨rfl, hb5⟩
    have B5 : Below W0.heap.size W0 w5 := B4.trans (hb5.mono (by omega))
    (refine hK.out _ _ ?_ (fun hHeld => ?_))
    · exact hS _ B5
    clear hK K
    (try simp only [Act.put, List.getElem_toArray, List.getElem_cons_succ, List.getElem_cons_zero, List.setIfInBounds_toArray, List.set_cons_zero, List.set_cons_succ])
    (refine wpAnyH_take (i := 14) (v := ?_) rfl (by kernel_rfl) (by kernel_rfl) (by kernel_rfl) (fun _ _ _ h => h) (Or.inl ⟨by kernel_rfl, ?_⟩) (by assumption) ?_; rotate_left; (focus (intro w hSw; (try dsimp only at hSw); go_simp; all_goals with_reducible rfl)); (try simp only [Act.put, List.getElem_toArray, List.getElem_cons_succ, List.getElem_cons_zero, List.setIfInBounds_toArray, List.set_cons_zero, List.set_cons_succ]))
    (refine wpAnyH_take (i := 15) (v := ?_) rfl (by kernel_rfl) (by kernel_rfl) (by kernel_rfl) (fun _ _ _ h => h) (Or.inl ⟨by kernel_rfl, ?_⟩) (by assumption) ?_; rotate_left; (focus (intro w hSw; (try dsimp only at hSw); go_simp; all_goals with_reducible rfl)); (try simp only [Act.put, List.getElem_toArray, List.getElem_cons_succ, List.getElem_cons_zero, List.setIfInBounds_toArray, List.set_cons_zero, List.set_cons_succ]))
    (refine wpAnyH_done (by kernel_rfl) ?_ _)
    go_wp2_with fail
    go_ret
    exact ⟨rfl, hB0.trans (B5.mono z0)⟩
end Go.Proofs.YthkbfmbohoclaaaDoor.flt

/- The law FleetAble, walked. -/
import Derived.Test.YthkbfmbohoclaaaDoorFltO
namespace Go.Proofs.YthkbfmbohoclaaaDoor.flt
open Go.RowKit
open Go.Proofs.YthkbfmbohoclaaaDoor.lib Go.Proofs.YthkbfmbohoclaaaDoor.rd Go.Proofs.YthkbfmbohoclaaaDoor.typ Go.Proofs.YthkbfmbohoclaaaDoor.txt Go.Proofs.YthkbfmbohoclaaaDoor.app Go.Proofs.YthkbfmbohoclaaaDoor.sets
set_option linter.unusedVariables false
set_option linter.unusedSimpArgs false

theorem able_or {s a b : Int} (ha : 0 ≤ a) (hb : 0 ≤ b) (ha2 : a ≤ 9223372036854775807) (hb2 : b ≤ 9223372036854775807) : 0 ≤ bits .or .i64 a b ∧ bits .or .i64 a b ≤ 9223372036854775807 ∧ ableB s (bits .or .i64 a b) = (ableB s a && ableB s b) := by
  obtain ⟨x, rfl⟩ := Int.eq_ofNat_of_zero_le ha
  obtain ⟨y, rfl⟩ := Int.eq_ofNat_of_zero_le hb
  have hlt := or_lt x y (by omega) (by omega)
  rw [or_nat x y (by omega) (by omega)]
  refine ⟨by omega, by omega, ?_⟩
  unfold ableB
  by_cases hs : 0 ≤ s
  · rw [decide_eq_true ⟨hs, by omega⟩, decide_eq_true ⟨hs, ha⟩, decide_eq_true ⟨hs, hb⟩, Bool.true_and, Bool.true_and, Bool.true_and]
    exact in_or_iff x y s.toNat
  · rw [decide_eq_false (by omega), decide_eq_false (by omega)]
    rfl


set_option maxRecDepth 100000 in
set_option maxHeartbeats 8000000 in
theorem lawAble_any (t : Ty) (C : Option Addr) (c : Nat) (a b : Int) (w : World) (t_f : TyFits t) (ha : -9223372036854775808 ≤ a ∧ a ≤ 9223372036854775807) (hb : -9223372036854775808 ≤ b ∧ b ≤ 9223372036854775807) :
    Calls Tryd.prog 4 #[.agg #[.string t.name, .int .i64 t.count, .int .i64 t.frm, .int .i64 t.to, .slice C t.cap.length c, .int .i64 t.skills, .int .i64 t.profile, .int .i64 t.opn, .int .i64 t.close, .int .i64 t.drive, .int .i64 t.rest, .int .i64 t.fixed, .int .i64 t.mile, .int .i64 t.tick], .int .i64 a, .int .i64 b] w fun e w' => e = .returned (.bool true) ∧ Below w.heap.size w w' := by
  obtain ⟨qa, hqa⟩ : ∃ q, ableB t.skills a = q := ⟨_, rfl⟩
  obtain ⟨qb, hqb⟩ : ∃ q, ableB t.skills b = q := ⟨_, rfl⟩
  have HF := Lib.hid t_f
  go_enter Tryd.func4, Tryd.ntmps4
  go_wp2_with fail
  obtain ⟨W0, hW0⟩ : ∃ W0, w.alloc (.cells #[.string t.name, .int .i64 t.count, .int .i64 t.frm, .int .i64 t.to, .slice C t.cap.length c, .int .i64 t.skills, .int .i64 t.profile, .int .i64 t.opn, .int .i64 t.close, .int .i64 t.drive, .int .i64 t.rest, .int .i64 t.fixed, .int .i64 t.mile, .int .i64 t.tick] 35) = W0 := ⟨_, rfl⟩
  have hS : ∀ w', Below W0.heap.size W0 w' → (w'.cell? ⟨w.heap.size, 0, none⟩ = some (.string t.name) ∧ w'.cell? ⟨w.heap.size, 1, none⟩ = some (.int .i64 t.count) ∧ w'.cell? ⟨w.heap.size, 2, none⟩ = some (.int .i64 t.frm) ∧ w'.cell? ⟨w.heap.size, 3, none⟩ = some (.int .i64 t.to) ∧ w'.cell? ⟨w.heap.size, 4, none⟩ = some (.slice C t.cap.length c) ∧ w'.cell? ⟨w.heap.size, 5, none⟩ = some (.int .i64 t.skills) ∧ w'.cell? ⟨w.heap.size, 6, none⟩ = some (.int .i64 t.profile) ∧ w'.cell? ⟨w.heap.size, 7, none⟩ = some (.int .i64 t.opn) ∧ w'.cell? ⟨w.heap.size, 8, none⟩ = some (.int .i64 t.close) ∧ w'.cell? ⟨w.heap.size, 9, none⟩ = some (.int .i64 t.drive) ∧ w'.cell? ⟨w.heap.size, 10, none⟩ = some (.int .i64 t.rest) ∧ w'.cell? ⟨w.heap.size, 11, none⟩ = some (.int .i64 t.fixed) ∧ w'.cell? ⟨w.heap.size, 12, none⟩ = some (.int .i64 t.mile) ∧ w'.cell? ⟨w.heap.size, 13, none⟩ = some (.int .i64 t.tick)) := by
    intro w' h
    have hb0 : TyBlk w' w.heap.size t C c := (h.block _ (by rw [← hW0]; simp)).trans (by rw [← hW0]; exact World.alloc_heap_new w _)
    exact hb0.cells
  have hB0 : Below w.heap.size w W0 := by rw [← hW0]; exact (Below.refl _ _).alloc (Nat.le_refl _) _
  have z0 := hB0.size
  rw [hW0]
  clear hW0 t_f
  (refine wp_region_held_drew (S := (fun w' => w'.cell? ⟨w.heap.size, 0, none⟩ = some (.string t.name) ∧ w'.cell? ⟨w.heap.size, 1, none⟩ = some (.int .i64 t.count) ∧ w'.cell? ⟨w.heap.size, 2, none⟩ = some (.int .i64 t.frm) ∧ w'.cell? ⟨w.heap.size, 3, none⟩ = some (.int .i64 t.to) ∧ w'.cell? ⟨w.heap.size, 4, none⟩ = some (.slice C t.cap.length c) ∧ w'.cell? ⟨w.heap.size, 5, none⟩ = some (.int .i64 t.skills) ∧ w'.cell? ⟨w.heap.size, 6, none⟩ = some (.int .i64 t.profile) ∧ w'.cell? ⟨w.heap.size, 7, none⟩ = some (.int .i64 t.opn) ∧ w'.cell? ⟨w.heap.size, 8, none⟩ = some (.int .i64 t.close) ∧ w'.cell? ⟨w.heap.size, 9, none⟩ = some (.int .i64 t.drive) ∧ w'.cell? ⟨w.heap.size, 10, none⟩ = some (.int .i64 t.rest) ∧ w'.cell? ⟨w.heap.size, 11, none⟩ = some (.int .i64 t.fixed) ∧ w'.cell? ⟨w.heap.size, 12, none⟩ = some (.int .i64 t.mile) ∧ w'.cell? ⟨w.heap.size, 13, none⟩ = some (.int .i64 t.tick))) (by kernel_rfl) ?_ (fun hHeld => ?_))
  · exact hS _ ((Below.refl _ _).drew)
  (refine wpAnyH_take (i := 0) (v := ?_) rfl (by kernel_rfl) (by kernel_rfl) (by kernel_rfl) (fun _ _ _ h => h) (Or.inl ⟨by kernel_rfl, ?_⟩) (by assumption) ?_; rotate_left; (focus (intro w hSw; (try dsimp only at hSw); go_simp; all_goals with_reducible rfl)); (try simp only [Act.put, List.getElem_toArray, List.getElem_cons_succ, List.getElem_cons_zero, List.setIfInBounds_toArray, List.set_cons_zero, List.set_cons_succ]))
  (refine wpAnyH_take (i := 1) (v := ?_) rfl (by kernel_rfl) (by kernel_rfl) (by kernel_rfl) (fun _ _ _ h => h) (Or.inl ⟨by kernel_rfl, ?_⟩) (by assumption) ?_; rotate_left; (focus (intro w hSw; (try dsimp only at hSw); go_simp; all_goals with_reducible rfl)); (try simp only [Act.put, List.getElem_toArray, List.getElem_cons_succ, List.getElem_cons_zero, List.setIfInBounds_toArray, List.set_cons_zero, List.set_cons_succ]))
  (refine wpAnyH_take (i := 3) (v := ?_) rfl (by kernel_rfl) (by kernel_rfl) (by kernel_rfl) (fun _ _ _ h => h) (Or.inl ⟨by kernel_rfl, ?_⟩) (by assumption) ?_; rotate_left; (focus (intro w hSw; (try dsimp only at hSw); go_simp; all_goals with_reducible rfl)); (try simp only [Act.put, List.getElem_toArray, List.getElem_cons_succ, List.getElem_cons_zero, List.setIfInBounds_toArray, List.set_cons_zero, List.set_cons_succ]))
  (refine wpAnyH_take (i := 4) (v := ?_) rfl (by kernel_rfl) (by kernel_rfl) (by kernel_rfl) (fun _ _ _ h => h) (Or.inl ⟨by kernel_rfl, ?_⟩) (by assumption) ?_; rotate_left; (focus (intro w hSw; (try dsimp only at hSw); go_simp; all_goals with_reducible rfl)); (try simp only [Act.put, List.getElem_toArray, List.getElem_cons_succ, List.getElem_cons_zero, List.setIfInBounds_toArray, List.set_cons_zero, List.set_cons_succ]))
  (refine wpAnyH_ready (rs := [2]) (by kernel_rfl) (by simp) ?_; refine AllReadyH.cons rfl (fun K hK => ?_) AllReadyH.nil; go_simp)
  go_at_call 16; refine (able_any t C c a HF.out ha _).mono ?_
  rw [hqa]
  rintro e w1 ⟨rfl, bw1⟩
  have Bw1 : Below W0.heap.size W0 w1 := Below.trans ((Below.refl _ _).drew) (bw1.mono (by first | omega | (simp <;> omega)))
  have zw1 := Bw1.size
  (refine hK.out _ _ ?_ (fun hHeld => ?_))
  · exact hS _ Bw1
  clear hK K
  (try simp only [Act.put, List.getElem_toArray, List.getElem_cons_succ, List.getElem_cons_zero, List.setIfInBounds_toArray, List.set_cons_zero, List.set_cons_succ])
  (refine wpAnyH_ready (rs := [5]) (by kernel_rfl) (by simp) ?_; refine AllReadyH.cons rfl (fun K hK => ?_) AllReadyH.nil; go_simp)
  go_at_call 17; refine (rable_any t C c a HF.out ha _).mono ?_
  rw [hqa]
  rintro e w2 ⟨rfl, bw2⟩
  have Bw2 : Below W0.heap.size W0 w2 := Below.trans (Bw1) (bw2.mono (by first | omega | (simp <;> omega)))
  have zw2 := Bw2.size
  (refine hK.out _ _ ?_ (fun hHeld => ?_))
  · exact hS _ Bw2
  clear hK K
  (try simp only [Act.put, List.getElem_toArray, List.getElem_cons_succ, List.getElem_cons_zero, List.setIfInBounds_toArray, List.set_cons_zero, List.set_cons_succ])
  (refine wpAnyH_take (i := 6) (v := ?_) rfl (by kernel_rfl) (by kernel_rfl) (by kernel_rfl) (fun _ _ _ h => h) (Or.inl ⟨by kernel_rfl, ?_⟩) (by assumption) ?_; rotate_left; (focus (intro w hSw; (try dsimp only at hSw); go_simp; all_goals with_reducible rfl)); (try simp only [Act.put, List.getElem_toArray, List.getElem_cons_succ, List.getElem_cons_zero, List.setIfInBounds_toArray, List.set_cons_zero, List.set_cons_succ]))
  (refine wpAnyH_take (i := 7) (v := ?_) rfl (by kernel_rfl) (by kernel_rfl) (by kernel_rfl) (fun _ _ _ h => h) (Or.inl ⟨by kernel_rfl, ?_⟩) (by assumption) ?_; rotate_left; (focus (intro w hSw; (try dsimp only at hSw); go_simp; all_goals with_reducible rfl)); (try simp only [Act.put, List.getElem_toArray, List.getElem_cons_succ, List.getElem_cons_zero, List.setIfInBounds_toArray, List.set_cons_zero, List.set_cons_succ]))
  (refine wpAnyH_take (i := 8) (v := ?_) rfl (by kernel_rfl) (by kernel_rfl) (by kernel_rfl) (fun _ _ _ h => h) (Or.inl ⟨by kernel_rfl, ?_⟩) (by assumption) ?_; rotate_left; (focus (intro w hSw; (try dsimp only at hSw); go_simp; all_goals with_reducible rfl)); (try simp only [Act.put, List.getElem_toArray, List.getElem_cons_succ, List.getElem_cons_zero, List.setIfInBounds_toArray, List.set_cons_zero, List.set_cons_succ]))
  (refine wpAnyH_take (i := 9) (v := ?_) rfl (by kernel_rfl) (by kernel_rfl) (by kernel_rfl) (fun _ _ _ h => h) (Or.inl ⟨by kernel_rfl, ?_⟩) (by assumption) ?_; rotate_left; (focus (intro w hSw; (try dsimp only at hSw); go_simp; all_goals with_reducible rfl)); (try simp only [Act.put, List.getElem_toArray, List.getElem_cons_succ, List.getElem_cons_zero, List.setIfInBounds_toArray, List.set_cons_zero, List.set_cons_succ]))
  (refine wpAnyH_take (i := 11) (v := ?_) rfl (by kernel_rfl) (by kernel_rfl) (by kernel_rfl) (fun _ _ _ h => h) (Or.inl ⟨by kernel_rfl, ?_⟩) (by assumption) ?_; rotate_left; (focus (intro w hSw; (try dsimp only at hSw); go_simp; all_goals with_reducible rfl)); (try simp only [Act.put, List.getElem_toArray, List.getElem_cons_succ, List.getElem_cons_zero, List.setIfInBounds_toArray, List.set_cons_zero, List.set_cons_succ]))
  (refine wpAnyH_take (i := 12) (v := ?_) rfl (by kernel_rfl) (by kernel_rfl) (by kernel_rfl) (fun _ _ _ h => h) (Or.inl ⟨by kernel_rfl, ?_⟩) (by assumption) ?_; rotate_left; (focus (intro w hSw; (try dsimp only at hSw); go_simp; all_goals with_reducible rfl)); (try simp only [Act.put, List.getElem_toArray, List.getElem_cons_succ, List.getElem_cons_zero, List.setIfInBounds_toArray, List.set_cons_zero, List.set_cons_succ]))
  (refine wpAnyH_ready (rs := [10]) (by kernel_rfl) (by simp) ?_; refine AllReadyH.cons rfl (fun K hK => ?_) AllReadyH.nil; go_simp)
  go_at_call 16; refine (able_any t C c b HF.out hb _).mono ?_
  rw [hqb]
  rintro e w3 ⟨rfl, bw3⟩
  have Bw3 : Below W0.heap.size W0 w3 := Below.trans (Bw2) (bw3.mono (by first | omega | (simp <;> omega)))
  have zw3 := Bw3.size
  (refine hK.out _ _ ?_ (fun hHeld => ?_))
  · exact hS _ Bw3
  clear hK K
  (try simp only [Act.put, List.getElem_toArray, List.getElem_cons_succ, List.getElem_cons_zero, List.setIfInBounds_toArray, List.set_cons_zero, List.set_cons_succ])
  (refine wpAnyH_ready (rs := [13]) (by kernel_rfl) (by simp) ?_; refine AllReadyH.cons rfl (fun K hK => ?_) AllReadyH.nil; go_simp)
  go_at_call 17; refine (rable_any t C c b HF.out hb _).mono ?_
  rw [hqb]
  rintro e w4 ⟨rfl, bw4⟩
  have Bw4 : Below W0.heap.size W0 w4 := Below.trans (Bw3) (bw4.mono (by first | omega | (simp <;> omega)))
  have zw4 := Bw4.size
  (refine hK.out _ _ ?_ (fun hHeld => ?_))
  · exact hS _ Bw4
  clear hK K
  (try simp only [Act.put, List.getElem_toArray, List.getElem_cons_succ, List.getElem_cons_zero, List.setIfInBounds_toArray, List.set_cons_zero, List.set_cons_succ])
  (refine wpAnyH_take (i := 14) (v := ?_) rfl (by kernel_rfl) (by kernel_rfl) (by kernel_rfl) (fun _ _ _ h => h) (Or.inl ⟨by kernel_rfl, ?_⟩) (by assumption) ?_; rotate_left; (focus (intro w hSw; (try dsimp only at hSw); go_simp; all_goals with_reducible rfl)); (try simp only [Act.put, List.getElem_toArray, List.getElem_cons_succ, List.getElem_cons_zero, List.setIfInBounds_toArray, List.set_cons_zero, List.set_cons_succ]))
  (refine wpAnyH_take (i := 15) (v := ?_) rfl (by kernel_rfl) (by kernel_rfl) (by kernel_rfl) (fun _ _ _ h => h) (Or.inl ⟨by kernel_rfl, ?_⟩) (by assumption) ?_; rotate_left; (focus (intro w hSw; (try dsimp only at hSw); go_simp; all_goals with_reducible rfl)); (try simp only [Act.put, List.getElem_toArray, List.getElem_cons_succ, List.getElem_cons_zero, List.setIfInBounds_toArray, List.set_cons_zero, List.set_cons_succ]))
  (refine wpAnyH_done (by kernel_rfl) ?_ _)
  obtain ⟨m0, m1, m2, m3, m4, m5, m6, m7, m8, m9, m10, m11, m12, m13⟩ := hS _ Bw4
  go_wp2_with fail
  refine (able_any t C c a HF.out ha _).mono ?_
  rw [hqa]
  rintro e w5 ⟨rfl, bw5⟩
  have Bw5 : Below W0.heap.size W0 w5 := Below.trans (Bw4) (bw5.mono (by first | omega | (simp <;> omega)))
  have zw5 := Bw5.size
  obtain ⟨m0, m1, m2, m3, m4, m5, m6, m7, m8, m9, m10, m11, m12, m13⟩ := hS _ Bw5
  cases qa
  · cases qb
    · skip
      by_cases sa : a < 0
      · skip
        go_wp2_with fail
        refine (awake_any _).mono ?_
        rintro e wz ⟨rfl, bz⟩
        go_wp2_with fail
        go_ret
        exact ⟨rfl, hB0.trans (Below.trans (Below.mono (Bw5) (by omega)) (bz.mono (by omega)))⟩
      by_cases sb : b < 0
      · skip
        go_wp2_with fail
        refine (awake_any _).mono ?_
        rintro e wz ⟨rfl, bz⟩
        go_wp2_with fail
        go_ret
        exact ⟨rfl, hB0.trans (Below.trans (Below.mono (Bw5) (by omega)) (bz.mono (by omega)))⟩
      have sa' : 0 ≤ a := by omega
      have sb' : 0 ≤ b := by omega
      obtain ⟨o1, o2, o3⟩ := able_or (s := t.skills) sa' sb' ha.2 hb.2
      rw [hqa, hqb] at o3
      simp only [Bool.and_true, Bool.and_false, Bool.false_and, Bool.true_and] at o3
      have HO := Lib.hid (And.intro o1 o2)
      clear o1 o2 sa' sb'
      go_wp2_with fail
      refine (able_any t C c _ HF.out ⟨by have := HO.out; omega, HO.out.2⟩ _).mono ?_
      rw [o3]
      rintro e w8 ⟨rfl, bw8⟩
      have Bw8 : Below W0.heap.size W0 w8 := Below.trans (Bw5) (bw8.mono (by first | omega | (simp <;> omega)))
      have zw8 := Bw8.size
      obtain ⟨m0, m1, m2, m3, m4, m5, m6, m7, m8, m9, m10, m11, m12, m13⟩ := hS _ Bw8
      clear o3
      go_wp2_with fail
      refine (awake_any _).mono ?_
      rintro e wz ⟨rfl, bz⟩
      go_wp2_with fail
      go_ret
      exact ⟨rfl, hB0.trans (Below.trans (Below.mono (Bw8) (by omega)) (bz.mono (by omega)))⟩
    · skip
      by_cases sa : a < 0
      · skip
        go_wp2_with fail
        refine (awake_any _).mono ?_
        rintro e wz ⟨rfl, bz⟩
        go_wp2_with fail
        go_ret
        exact ⟨rfl, hB0.trans (Below.trans (Below.mono (Bw5) (by omega)) (bz.mono (by omega)))⟩
      by_cases sb : b < 0
      · skip
        go_wp2_with fail
        refine (awake_any _).mono ?_
        rintro e wz ⟨rfl, bz⟩
        go_wp2_with fail
        go_ret
        exact ⟨rfl, hB0.trans (Below.trans (Below.mono (Bw5) (by omega)) (bz.mono (by omega)))⟩
      have sa' : 0 ≤ a := by omega
      have sb' : 0 ≤ b := by omega
      obtain ⟨o1, o2, o3⟩ := able_or (s := t.skills) sa' sb' ha.2 hb.2
      rw [hqa, hqb] at o3
      simp only [Bool.and_true, Bool.and_false, Bool.false_and, Bool.true_and] at o3
      have HO := Lib.hid (And.intro o1 o2)
      clear o1 o2 sa' sb'
      go_wp2_with fail
      refine (able_any t C c _ HF.out ⟨by have := HO.out; omega, HO.out.2⟩ _).mono ?_
      rw [o3]
      rintro e w8 ⟨rfl, bw8⟩
      have Bw8 : Below W0.heap.size W0 w8 := Below.trans (Bw5) (bw8.mono (by first | omega | (simp <;> omega)))
      have zw8 := Bw8.size
      obtain ⟨m0, m1, m2, m3, m4, m5, m6, m7, m8, m9, m10, m11, m12, m13⟩ := hS _ Bw8
      clear o3
      go_wp2_with fail
      refine (awake_any _).mono ?_
      rintro e wz ⟨rfl, bz⟩
      go_wp2_with fail
      go_ret
      exact ⟨rfl, hB0.trans (Below.trans (Below.mono (Bw8) (by omega)) (bz.mono (by omega)))⟩
  · skip
    go_wp2_with fail
    refine (able_any t C c b HF.out hb _).mono ?_
    rw [hqb]
    rintro e w6 ⟨rfl, bw6⟩
    have Bw6 : Below W0.heap.size W0 w6 := Below.trans (Bw5) (bw6.mono (by first | omega | (simp <;> omega)))
    have zw6 := Bw6.size
    obtain ⟨m0, m1, m2, m3, m4, m5, m6, m7, m8, m9, m10, m11, m12, m13⟩ := hS _ Bw6
    cases qb
    · skip
      by_cases sa : a < 0
      · skip
        go_wp2_with fail
        refine (awake_any _).mono ?_
        rintro e wz ⟨rfl, bz⟩
        go_wp2_with fail
        go_ret
        exact ⟨rfl, hB0.trans (Below.trans (Below.mono (Bw6) (by omega)) (bz.mono (by omega)))⟩
      by_cases sb : b < 0
      · skip
        go_wp2_with fail
        refine (awake_any _).mono ?_
        rintro e wz ⟨rfl, bz⟩
        go_wp2_with fail
        go_ret
        exact ⟨rfl, hB0.trans (Below.trans (Below.mono (Bw6) (by omega)) (bz.mono (by omega)))⟩
      have sa' : 0 ≤ a := by omega
      have sb' : 0 ≤ b := by omega
      obtain ⟨o1, o2, o3⟩ := able_or (s := t.skills) sa' sb' ha.2 hb.2
      rw [hqa, hqb] at o3
      simp only [Bool.and_true, Bool.and_false, Bool.false_and, Bool.true_and] at o3
      have HO := Lib.hid (And.intro o1 o2)
      clear o1 o2 sa' sb'
      go_wp2_with fail
      refine (able_any t C c _ HF.out ⟨by have := HO.out; omega, HO.out.2⟩ _).mono ?_
      rw [o3]
      rintro e w8 ⟨rfl, bw8⟩
      have Bw8 : Below W0.heap.size W0 w8 := Below.trans (Bw6) (bw8.mono (by first | omega | (simp <;> omega)))
      have zw8 := Bw8.size
      obtain ⟨m0, m1, m2, m3, m4, m5, m6, m7, m8, m9, m10, m11, m12, m13⟩ := hS _ Bw8
      clear o3
      go_wp2_with fail
      refine (awake_any _).mono ?_
      rintro e wz ⟨rfl, bz⟩
      go_wp2_with fail
      go_ret
      exact ⟨rfl, hB0.trans (Below.trans (Below.mono (Bw8) (by omega)) (bz.mono (by omega)))⟩
    · skip
      by_cases sa : a < 0
      · skip
        go_wp2_with fail
        refine (awake_any _).mono ?_
        rintro e wz ⟨rfl, bz⟩
        go_wp2_with fail
        go_ret
        exact ⟨rfl, hB0.trans (Below.trans (Below.mono (Bw6) (by omega)) (bz.mono (by omega)))⟩
      by_cases sb : b < 0
      · skip
        go_wp2_with fail
        refine (awake_any _).mono ?_
        rintro e wz ⟨rfl, bz⟩
        go_wp2_with fail
        go_ret
        exact ⟨rfl, hB0.trans (Below.trans (Below.mono (Bw6) (by omega)) (bz.mono (by omega)))⟩
      have sa' : 0 ≤ a := by omega
      have sb' : 0 ≤ b := by omega
      obtain ⟨o1, o2, o3⟩ := able_or (s := t.skills) sa' sb' ha.2 hb.2
      rw [hqa, hqb] at o3
      simp only [Bool.and_true, Bool.and_false, Bool.false_and, Bool.true_and] at o3
      have HO := Lib.hid (And.intro o1 o2)
      clear o1 o2 sa' sb'
      go_wp2_with fail
      refine (able_any t C c _ HF.out ⟨by have := HO.out; omega, HO.out.2⟩ _).mono ?_
      rw [o3]
      rintro e w8 ⟨rfl, bw8⟩
      have Bw8 : Below W0.heap.size W0 w8 := Below.trans (Bw6) (bw8.mono (by first | omega | (simp <;> omega)))
      have zw8 := Bw8.size
      obtain ⟨m0, m1, m2, m3, m4, m5, m6, m7, m8, m9, m10, m11, m12, m13⟩ := hS _ Bw8
      clear o3
      go_wp2_with fail
      refine (awake_any _).mono ?_
      rintro e wz ⟨rfl, bz⟩
      go_wp2_with fail
      go_ret
      exact ⟨rfl, hB0.trans (Below.trans (Below.mono (Bw8) (by omega)) (bz.mono (by omega)))⟩
end Go.Proofs.YthkbfmbohoclaaaDoor.flt

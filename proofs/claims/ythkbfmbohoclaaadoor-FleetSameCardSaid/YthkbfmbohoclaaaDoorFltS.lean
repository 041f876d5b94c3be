/- The law FleetSame, walked. -/
import Derived.Test.YthkbfmbohoclaaaDoorFltM
import Derived.Test.YthkbfmbohoclaaaDoorFltO
namespace Go.Proofs.YthkbfmbohoclaaaDoor.flt
open Go.RowKit
open Go.Proofs.YthkbfmbohoclaaaDoor.lib Go.Proofs.YthkbfmbohoclaaaDoor.rd Go.Proofs.YthkbfmbohoclaaaDoor.typ Go.Proofs.YthkbfmbohoclaaaDoor.txt Go.Proofs.YthkbfmbohoclaaaDoor.app
set_option linter.unusedVariables false
set_option linter.unusedSimpArgs false

theorem sameS_comm (a b : ByteArray) : sameS a b = sameS b a := by unfold sameS; rw [Bool.eq_iff_iff, beq_iff_eq, beq_iff_eq]; exact eq_comm
theorem sameT_comm (a b : Ty) : sameT a b = sameT b a := by
  unfold sameT
  rw [sameS_comm a.name]
  have h1 : sameB a.cap b.cap = sameB b.cap a.cap := by unfold sameB; rw [Bool.eq_iff_iff, decide_eq_true_eq, decide_eq_true_eq]; exact eq_comm
  have h2 : numsB a b = numsB b a := by
    unfold numsB
    rw [Bool.eq_iff_iff, decide_eq_true_eq, decide_eq_true_eq]
    constructor <;> (rintro ⟨h1, h2, h3, h4, h5, h6, h7, h8, h9, h10, h11, h12⟩; exact ⟨h1.symm, h2.symm, h3.symm, h4.symm, h5.symm, h6.symm, h7.symm, h8.symm, h9.symm, h10.symm, h11.symm, h12.symm⟩)
  rw [h1, h2]
theorem sameT_self (a : Ty) : sameT a a = true := by simp [sameT, sameB, sameS, numsB]

/-- Two elements, written out in a block. -/
theorem row_two {X : Type} {r : Rd X} {w : World} {cs ds : List Value} {x y : X} {t : TypeId} (h : r.at_ (w.alloc (.cells (cs ++ ds).toArray t)) (w.heap.size + 1) cs x) (h' : r.at_ (w.alloc (.cells (cs ++ ds).toArray t)) (w.heap.size + 1) ds y) : RowAt r (w.alloc (.cells (cs ++ ds).toArray t)) (w.heap.size + 1) (some ⟨w.heap.size, 0, none⟩) [x, y] := by
  refine ⟨by simp, fun i z hi => ?_⟩
  have hl := r.len h
  rcases i with _ | _ | i
  · simp at hi
    subst hi
    refine ⟨_, cs, rfl, Nat.lt_succ_self _, h, fun j u hu => ?_⟩
    rw [Nat.zero_mul, Nat.zero_add]
    have hj := (List.getElem?_eq_some_iff.1 hu).1
    exact World.news_of_block (w := w.alloc (.cells (cs ++ ds).toArray t)) (B := w.heap.size) (heap_alloc_new w _) j u (by simp [List.getElem?_append_left hj, hu])
  · simp at hi
    subst hi
    refine ⟨_, ds, rfl, Nat.lt_succ_self _, h', fun j u hu => ?_⟩
    rw [Nat.zero_add, Nat.one_mul]
    exact World.news_of_block (w := w.alloc (.cells (cs ++ ds).toArray t)) (B := w.heap.size) (heap_alloc_new w _) (r.size + j) u (by
      have e : (cs ++ ds)[r.size + j]? = some u := by rw [← hl, List.getElem?_append_right (by omega), Nat.add_sub_cancel_left]; exact hu
      simpa using e)
  · simp at hi
theorem row_ty_two (w : World) (t t' : Ty) (C C' : Option Addr) (c c' : Nat) (hI : Ints w w.heap.size C t.cap) (hI' : Ints w w.heap.size C' t'.cap) (hf : TyFits t) (hf' : TyFits t') : RowAt rTy (w.alloc (.cells (TyCells t C c ++ TyCells t' C' c').toArray 35)) (w.heap.size + 1) (some ⟨w.heap.size, 0, none⟩) [t, t'] :=
  row_two (rTy_mk ((hI.alloc (Nat.le_refl _) _).more (by omega)) hf) (rTy_mk ((hI'.alloc (Nat.le_refl _) _).more (by omega)) hf')

set_option maxRecDepth 100000 in
set_option maxHeartbeats 16000000 in
theorem lawSame_any (a b : Ty) (C : Option Addr) (c : Nat) (C' : Option Addr) (c' : Nat) (w : World) (a_f : TyFits a) (b_f : TyFits b) (hC : Ints w w.heap.size C a.cap) (hC' : Ints w w.heap.size C' b.cap) :
    Calls Tryd.prog 5 #[.agg #[.string a.name, .int .i64 a.count, .int .i64 a.frm, .int .i64 a.to, .slice C a.cap.length c, .int .i64 a.skills, .int .i64 a.profile, .int .i64 a.opn, .int .i64 a.close, .int .i64 a.drive, .int .i64 a.rest, .int .i64 a.fixed, .int .i64 a.mile, .int .i64 a.tick], .agg #[.string b.name, .int .i64 b.count, .int .i64 b.frm, .int .i64 b.to, .slice C' b.cap.length c', .int .i64 b.skills, .int .i64 b.profile, .int .i64 b.opn, .int .i64 b.close, .int .i64 b.drive, .int .i64 b.rest, .int .i64 b.fixed, .int .i64 b.mile, .int .i64 b.tick]] w fun e w' => e = .returned (.bool true) ∧ Below w.heap.size w w' := by
  have HF := Lib.hid (And.intro a_f b_f)
  go_enter Tryd.func5, Tryd.ntmps5
  go_upto_region 1 with fail
  obtain ⟨W0, hW0⟩ : ∃ W0, (w.alloc (.cells (TyCells a C c).toArray 35)).alloc (.cells (TyCells b C' c').toArray 35) = W0 := ⟨_, rfl⟩
  have hb0 : TyBlk W0 w.heap.size a C c := by
    rw [← hW0]
    unfold TyBlk
    rw [Below.heap_alloc _ _ _ (by simp)]
    exact World.alloc_heap_new w _
  have hb1 : TyBlk W0 (w.heap.size + 1) b C' c' := by
    rw [← hW0]
    have h := World.alloc_heap_new (w.alloc (.cells (TyCells a C c).toArray 35)) (.cells (TyCells b C' c').toArray 35)
    simpa [TyBlk] using h
  have hB0 : Below w.heap.size w W0 := by rw [← hW0]; exact ((Below.refl _ _).alloc (Nat.le_refl _) _).alloc (by simp) _
  have hs0 : w.heap.size + 1 < W0.heap.size := by rw [← hW0]; simp
  have hW1 : (w.alloc (.cells #[.string a.name, .int .i64 a.count, .int .i64 a.frm, .int .i64 a.to, .slice C a.cap.length c, .int .i64 a.skills, .int .i64 a.profile, .int .i64 a.opn, .int .i64 a.close, .int .i64 a.drive, .int .i64 a.rest, .int .i64 a.fixed, .int .i64 a.mile, .int .i64 a.tick] 35)).alloc (.cells #[.string b.name, .int .i64 b.count, .int .i64 b.frm, .int .i64 b.to, .slice C' b.cap.length c', .int .i64 b.skills, .int .i64 b.profile, .int .i64 b.opn, .int .i64 b.close, .int .i64 b.drive, .int .i64 b.rest, .int .i64 b.fixed, .int .i64 b.mile, .int .i64 b.tick] 35) = W0 := hW0
  rw [hW1]
  have hS : ∀ w', Below W0.heap.size W0 w' → TyBlk w' w.heap.size a C c ∧ TyBlk w' (w.heap.size + 1) b C' c' := fun w' h => ⟨(h.block _ (by omega)).trans hb0, (h.block _ (by omega)).trans hb1⟩
  have z0 := hB0.size
  have HC := Lib.hid (And.intro ((hC.below hB0).more z0) ((hC'.below hB0).more z0))
  clear hW0 hW1 hC hC' a_f b_f
  obtain ⟨m0, m1, m2, m3, m4, m5, m6, m7, m8, m9, m10, m11, m12, m13⟩ := hb0.cells
  obtain ⟨n0, n1, n2, n3, n4, n5, n6, n7, n8, n9, n10, n11, n12, n13⟩ := hb1.cells
  go_wp2_with fail
  refine (few_any (some ⟨W0.heap.size, 0, none⟩) 2 [a, b] _ _ (by exact row_ty_two W0 a b C C' c c' HC.out.1 HC.out.2 HF.out.1 HF.out.2)).mono ?_
  rintro e w1 ⟨q, rfl, _, rfl⟩
  have hS2 : ∀ w', Below W0.heap.size W0 w' → ((w'.cell? ⟨w.heap.size, 0, none⟩ = some (.string a.name) ∧ w'.cell? ⟨w.heap.size, 1, none⟩ = some (.int .i64 a.count) ∧ w'.cell? ⟨w.heap.size, 2, none⟩ = some (.int .i64 a.frm) ∧ w'.cell? ⟨w.heap.size, 3, none⟩ = some (.int .i64 a.to) ∧ w'.cell? ⟨w.heap.size, 4, none⟩ = some (.slice C a.cap.length c) ∧ w'.cell? ⟨w.heap.size, 5, none⟩ = some (.int .i64 a.skills) ∧ w'.cell? ⟨w.heap.size, 6, none⟩ = some (.int .i64 a.profile) ∧ w'.cell? ⟨w.heap.size, 7, none⟩ = some (.int .i64 a.opn) ∧ w'.cell? ⟨w.heap.size, 8, none⟩ = some (.int .i64 a.close) ∧ w'.cell? ⟨w.heap.size, 9, none⟩ = some (.int .i64 a.drive) ∧ w'.cell? ⟨w.heap.size, 10, none⟩ = some (.int .i64 a.rest) ∧ w'.cell? ⟨w.heap.size, 11, none⟩ = some (.int .i64 a.fixed) ∧ w'.cell? ⟨w.heap.size, 12, none⟩ = some (.int .i64 a.mile) ∧ w'.cell? ⟨w.heap.size, 13, none⟩ = some (.int .i64 a.tick)) ∧ (w'.cell? ⟨w.heap.size + 1, 0, none⟩ = some (.string b.name) ∧ w'.cell? ⟨w.heap.size + 1, 1, none⟩ = some (.int .i64 b.count) ∧ w'.cell? ⟨w.heap.size + 1, 2, none⟩ = some (.int .i64 b.frm) ∧ w'.cell? ⟨w.heap.size + 1, 3, none⟩ = some (.int .i64 b.to) ∧ w'.cell? ⟨w.heap.size + 1, 4, none⟩ = some (.slice C' b.cap.length c') ∧ w'.cell? ⟨w.heap.size + 1, 5, none⟩ = some (.int .i64 b.skills) ∧ w'.cell? ⟨w.heap.size + 1, 6, none⟩ = some (.int .i64 b.profile) ∧ w'.cell? ⟨w.heap.size + 1, 7, none⟩ = some (.int .i64 b.opn) ∧ w'.cell? ⟨w.heap.size + 1, 8, none⟩ = some (.int .i64 b.close) ∧ w'.cell? ⟨w.heap.size + 1, 9, none⟩ = some (.int .i64 b.drive) ∧ w'.cell? ⟨w.heap.size + 1, 10, none⟩ = some (.int .i64 b.rest) ∧ w'.cell? ⟨w.heap.size + 1, 11, none⟩ = some (.int .i64 b.fixed) ∧ w'.cell? ⟨w.heap.size + 1, 12, none⟩ = some (.int .i64 b.mile) ∧ w'.cell? ⟨w.heap.size + 1, 13, none⟩ = some (.int .i64 b.tick))) := fun w' h => ⟨(hS w' h).1.cells, (hS w' h).2.cells⟩
  have HI : Hid (∀ w', Below W0.heap.size W0 w' → Ints w' w'.heap.size C a.cap ∧ Ints w' w'.heap.size C' b.cap) := Lib.hid fun w' h => ⟨(HC.out.1.below h).more h.size, (HC.out.2.below h).more h.size⟩
  obtain ⟨qs, hqs⟩ : ∃ q, sameT a b = q := ⟨_, rfl⟩
  have hqs2 : sameT b a = qs := by rw [sameT_comm, hqs]
  have B1 : ∀ o, Below W0.heap.size W0 (W0.alloc o) := fun o => (Below.refl _ _).alloc (Nat.le_refl _) o
  cases q
  · clear m0 m1 m2 m3 m4 m5 m6 m7 m8 m9 m10 m11 m12 m13 n0 n1 n2 n3 n4 n5 n6 n7 n8 n9 n10 n11 n12 n13
    go_wp2_with fail
    refine (awake_any _).mono ?_
    rintro e w2 ⟨rfl, hb2⟩
    go_wp2_with fail
    go_ret
    exact ⟨rfl, hB0.trans (((B1 _).mono z0).trans (hb2.mono (by simp; omega)))⟩
  · clear m0 m1 m2 m3 m4 m5 m6 m7 m8 m9 m10 m11 m12 m13 n0 n1 n2 n3 n4 n5 n6 n7 n8 n9 n10 n11 n12 n13
    go_wp2_with fail
    have B1d : Below W0.heap.size W0 _ := (B1 (.cells (TyCells a C c ++ TyCells b C' c').toArray 35)).drew
    (refine wp_region_held_drew (S := (fun w' => (w'.cell? ⟨w.heap.size, 0, none⟩ = some (.string a.name) ∧ w'.cell? ⟨w.heap.size, 1, none⟩ = some (.int .i64 a.count) ∧ w'.cell? ⟨w.heap.size, 2, none⟩ = some (.int .i64 a.frm) ∧ w'.cell? ⟨w.heap.size, 3, none⟩ = some (.int .i64 a.to) ∧ w'.cell? ⟨w.heap.size, 4, none⟩ = some (.slice C a.cap.length c) ∧ w'.cell? ⟨w.heap.size, 5, none⟩ = some (.int .i64 a.skills) ∧ w'.cell? ⟨w.heap.size, 6, none⟩ = some (.int .i64 a.profile) ∧ w'.cell? ⟨w.heap.size, 7, none⟩ = some (.int .i64 a.opn) ∧ w'.cell? ⟨w.heap.size, 8, none⟩ = some (.int .i64 a.close) ∧ w'.cell? ⟨w.heap.size, 9, none⟩ = some (.int .i64 a.drive) ∧ w'.cell? ⟨w.heap.size, 10, none⟩ = some (.int .i64 a.rest) ∧ w'.cell? ⟨w.heap.size, 11, none⟩ = some (.int .i64 a.fixed) ∧ w'.cell? ⟨w.heap.size, 12, none⟩ = some (.int .i64 a.mile) ∧ w'.cell? ⟨w.heap.size, 13, none⟩ = some (.int .i64 a.tick)) ∧ (w'.cell? ⟨w.heap.size + 1, 0, none⟩ = some (.string b.name) ∧ w'.cell? ⟨w.heap.size + 1, 1, none⟩ = some (.int .i64 b.count) ∧ w'.cell? ⟨w.heap.size + 1, 2, none⟩ = some (.int .i64 b.frm) ∧ w'.cell? ⟨w.heap.size + 1, 3, none⟩ = some (.int .i64 b.to) ∧ w'.cell? ⟨w.heap.size + 1, 4, none⟩ = some (.slice C' b.cap.length c') ∧ w'.cell? ⟨w.heap.size + 1, 5, none⟩ = some (.int .i64 b.skills) ∧ w'.cell? ⟨w.heap.size + 1, 6, none⟩ = some (.int .i64 b.profile) ∧ w'.cell? ⟨w.heap.size + 1, 7, none⟩ = some (.int .i64 b.opn) ∧ w'.cell? ⟨w.heap.size + 1, 8, none⟩ = some (.int .i64 b.close) ∧ w'.cell? ⟨w.heap.size + 1, 9, none⟩ = some (.int .i64 b.drive) ∧ w'.cell? ⟨w.heap.size + 1, 10, none⟩ = some (.int .i64 b.rest) ∧ w'.cell? ⟨w.heap.size + 1, 11, none⟩ = some (.int .i64 b.fixed) ∧ w'.cell? ⟨w.heap.size + 1, 12, none⟩ = some (.int .i64 b.mile) ∧ w'.cell? ⟨w.heap.size + 1, 13, none⟩ = some (.int .i64 b.tick)))) (by kernel_rfl) ?_ (fun hHeld => ?_))
    · exact hS2 _ B1d
    (refine wpAnyH_take (i := 0) (v := ?_) rfl (by kernel_rfl) (by kernel_rfl) (by kernel_rfl) (fun _ _ _ h => h) (Or.inl ⟨by kernel_rfl, ?_⟩) (by assumption) ?_; rotate_left; (focus (intro w hSw; (try dsimp only at hSw); go_simp; all_goals with_reducible rfl)); (try simp only [Act.put, List.getElem_toArray, List.getElem_cons_succ, List.getElem_cons_zero, List.setIfInBounds_toArray, List.set_cons_zero, List.set_cons_succ]))
    (refine wpAnyH_take (i := 1) (v := ?_) rfl (by kernel_rfl) (by kernel_rfl) (by kernel_rfl) (fun _ _ _ h => h) (Or.inl ⟨by kernel_rfl, ?_⟩) (by assumption) ?_; rotate_left; (focus (intro w hSw; (try dsimp only at hSw); go_simp; all_goals with_reducible rfl)); (try simp only [Act.put, List.getElem_toArray, List.getElem_cons_succ, List.getElem_cons_zero, List.setIfInBounds_toArray, List.set_cons_zero, List.set_cons_succ]))
    (refine wpAnyH_take (i := 3) (v := ?_) rfl (by kernel_rfl) (by kernel_rfl) (by kernel_rfl) (fun _ _ _ h => h) (Or.inl ⟨by kernel_rfl, ?_⟩) (by assumption) ?_; rotate_left; (focus (intro w hSw; (try dsimp only at hSw); go_simp; all_goals with_reducible rfl)); (try simp only [Act.put, List.getElem_toArray, List.getElem_cons_succ, List.getElem_cons_zero, List.setIfInBounds_toArray, List.set_cons_zero, List.set_cons_succ]))
    (refine wpAnyH_take (i := 4) (v := ?_) rfl (by kernel_rfl) (by kernel_rfl) (by kernel_rfl) (fun _ _ _ h => h) (Or.inl ⟨by kernel_rfl, ?_⟩) (by assumption) ?_; rotate_left; (focus (intro w hSw; (try dsimp only at hSw); go_simp; all_goals with_reducible rfl)); (try simp only [Act.put, List.getElem_toArray, List.getElem_cons_succ, List.getElem_cons_zero, List.setIfInBounds_toArray, List.set_cons_zero, List.set_cons_succ]))
    (refine wpAnyH_ready (rs := [2]) (by kernel_rfl) (by simp) ?_; refine AllReadyH.cons rfl (fun K hK => ?_) AllReadyH.nil; go_simp)
    go_at_call 18; refine (same_any a b C c C' c' _ (HI.out _ B1d).1 (HI.out _ B1d).2).mono ?_; rw [hqs]
    rintro e w2 ⟨rfl, bw2⟩
    have Bw2 : Below W0.heap.size W0 w2 := Below.trans (B1d) (bw2.mono (by first | omega | (simp <;> omega)))
    have zw2 := Bw2.size
    (refine hK.out _ _ ?_ (fun hHeld => ?_))
    · exact hS2 _ Bw2
    clear hK K
    (try simp only [Act.put, List.getElem_toArray, List.getElem_cons_succ, List.getElem_cons_zero, List.setIfInBounds_toArray, List.set_cons_zero, List.set_cons_succ])
    (refine wpAnyH_ready (rs := [5]) (by kernel_rfl) (by simp) ?_; refine AllReadyH.cons rfl (fun K hK => ?_) AllReadyH.nil; go_simp)
    go_at_call 19; refine (rsame_any a b C c C' c' _ (HI.out _ Bw2).1 (HI.out _ Bw2).2).mono ?_; rw [hqs]
    rintro e w3 ⟨rfl, bw3⟩
    have Bw3 : Below W0.heap.size W0 w3 := Below.trans (Bw2) (bw3.mono (by first | omega | (simp <;> omega)))
    have zw3 := Bw3.size
    (refine hK.out _ _ ?_ (fun hHeld => ?_))
    · exact hS2 _ Bw3
    clear hK K
    (try simp only [Act.put, List.getElem_toArray, List.getElem_cons_succ, List.getElem_cons_zero, List.setIfInBounds_toArray, List.set_cons_zero, List.set_cons_succ])
    (refine wpAnyH_take (i := 6) (v := ?_) rfl (by kernel_rfl) (by kernel_rfl) (by kernel_rfl) (fun _ _ _ h => h) (Or.inl ⟨by kernel_rfl, ?_⟩) (by assumption) ?_; rotate_left; (focus (intro w hSw; (try dsimp only at hSw); go_simp; all_goals with_reducible rfl)); (try simp only [Act.put, List.getElem_toArray, List.getElem_cons_succ, List.getElem_cons_zero, List.setIfInBounds_toArray, List.set_cons_zero, List.set_cons_succ]))
    (refine wpAnyH_take (i := 7) (v := ?_) rfl (by kernel_rfl) (by kernel_rfl) (by kernel_rfl) (fun _ _ _ h => h) (Or.inl ⟨by kernel_rfl, ?_⟩) (by assumption) ?_; rotate_left; (focus (intro w hSw; (try dsimp only at hSw); go_simp; all_goals with_reducible rfl)); (try simp only [Act.put, List.getElem_toArray, List.getElem_cons_succ, List.getElem_cons_zero, List.setIfInBounds_toArray, List.set_cons_zero, List.set_cons_succ]))
    (refine wpAnyH_take (i := 8) (v := ?_) rfl (by kernel_rfl) (by kernel_rfl) (by kernel_rfl) (fun _ _ _ h => h) (Or.inl ⟨by kernel_rfl, ?_⟩) (by assumption) ?_; rotate_left; (focus (intro w hSw; (try dsimp only at hSw); go_simp; all_goals with_reducible rfl)); (try simp only [Act.put, List.getElem_toArray, List.getElem_cons_succ, List.getElem_cons_zero, List.setIfInBounds_toArray, List.set_cons_zero, List.set_cons_succ]))
    (refine wpAnyH_take (i := 9) (v := ?_) rfl (by kernel_rfl) (by kernel_rfl) (by kernel_rfl) (fun _ _ _ h => h) (Or.inl ⟨by kernel_rfl, ?_⟩) (by assumption) ?_; rotate_left; (focus (intro w hSw; (try dsimp only at hSw); go_simp; all_goals with_reducible rfl)); (try simp only [Act.put, List.getElem_toArray, List.getElem_cons_succ, List.getElem_cons_zero, List.setIfInBounds_toArray, List.set_cons_zero, List.set_cons_succ]))
    (refine wpAnyH_take (i := 11) (v := ?_) rfl (by kernel_rfl) (by kernel_rfl) (by kernel_rfl) (fun _ _ _ h => h) (Or.inl ⟨by kernel_rfl, ?_⟩) (by assumption) ?_; rotate_left; (focus (intro w hSw; (try dsimp only at hSw); go_simp; all_goals with_reducible rfl)); (try simp only [Act.put, List.getElem_toArray, List.getElem_cons_succ, List.getElem_cons_zero, List.setIfInBounds_toArray, List.set_cons_zero, List.set_cons_succ]))
    (refine wpAnyH_take (i := 12) (v := ?_) rfl (by kernel_rfl) (by kernel_rfl) (by kernel_rfl) (fun _ _ _ h => h) (Or.inl ⟨by kernel_rfl, ?_⟩) (by assumption) ?_; rotate_left; (focus (intro w hSw; (try dsimp only at hSw); go_simp; all_goals with_reducible rfl)); (try simp only [Act.put, List.getElem_toArray, List.getElem_cons_succ, List.getElem_cons_zero, List.setIfInBounds_toArray, List.set_cons_zero, List.set_cons_succ]))
    (refine wpAnyH_ready (rs := [10]) (by kernel_rfl) (by simp) ?_; refine AllReadyH.cons rfl (fun K hK => ?_) AllReadyH.nil; go_simp)
    go_at_call 18; refine (same_any b a C' c' C c _ (HI.out _ Bw3).2 (HI.out _ Bw3).1).mono ?_; rw [hqs2]
    rintro e w4 ⟨rfl, bw4⟩
    have Bw4 : Below W0.heap.size W0 w4 := Below.trans (Bw3) (bw4.mono (by first | omega | (simp <;> omega)))
    have zw4 := Bw4.size
    (refine hK.out _ _ ?_ (fun hHeld => ?_))
    · exact hS2 _ Bw4
    clear hK K
    (try simp only [Act.put, List.getElem_toArray, List.getElem_cons_succ, List.getElem_cons_zero, List.setIfInBounds_toArray, List.set_cons_zero, List.set_cons_succ])
    (refine wpAnyH_ready (rs := [13]) (by kernel_rfl) (by simp) ?_; refine AllReadyH.cons rfl (fun K hK => ?_) AllReadyH.nil; go_simp)
    go_at_call 19; refine (rsame_any a b C c C' c' _ (HI.out _ Bw4).1 (HI.out _ Bw4).2).mono ?_; rw [hqs]
    rintro e w5 ⟨rfl, bw5⟩
    have Bw5 : Below W0.heap.size W0 w5 := Below.trans (Bw4) (bw5.mono (by first | omega | (simp <;> omega)))
    have zw5 := Bw5.size
    (refine hK.out _ _ ?_ (fun hHeld => ?_))
    · exact hS2 _ Bw5
    clear hK K
    (try simp only [Act.put, List.getElem_toArray, List.getElem_cons_succ, List.getElem_cons_zero, List.setIfInBounds_toArray, List.set_cons_zero, List.set_cons_succ])
    (refine wpAnyH_take (i := 14) (v := ?_) rfl (by kernel_rfl) (by kernel_rfl) (by kernel_rfl) (fun _ _ _ h => h) (Or.inl ⟨by kernel_rfl, ?_⟩) (by assumption) ?_; rotate_left; (focus (intro w hSw; (try dsimp only at hSw); go_simp; all_goals with_reducible rfl)); (try simp only [Act.put, List.getElem_toArray, List.getElem_cons_succ, List.getElem_cons_zero, List.setIfInBounds_toArray, List.set_cons_zero, List.set_cons_succ]))
    (refine wpAnyH_take (i := 15) (v := ?_) rfl (by kernel_rfl) (by kernel_rfl) (by kernel_rfl) (fun _ _ _ h => h) (Or.inl ⟨by kernel_rfl, ?_⟩) (by assumption) ?_; rotate_left; (focus (intro w hSw; (try dsimp only at hSw); go_simp; all_goals with_reducible rfl)); (try simp only [Act.put, List.getElem_toArray, List.getElem_cons_succ, List.getElem_cons_zero, List.setIfInBounds_toArray, List.set_cons_zero, List.set_cons_succ]))
    (refine wpAnyH_take (i := 16) (v := ?_) rfl (by kernel_rfl) (by kernel_rfl) (by kernel_rfl) (fun _ _ _ h => h) (Or.inl ⟨by kernel_rfl, ?_⟩) (by assumption) ?_; rotate_left; (focus (intro w hSw; (try dsimp only at hSw); go_simp; all_goals with_reducible rfl)); (try simp only [Act.put, List.getElem_toArray, List.getElem_cons_succ, List.getElem_cons_zero, List.setIfInBounds_toArray, List.set_cons_zero, List.set_cons_succ]))
    (refine wpAnyH_take (i := 17) (v := ?_) rfl (by kernel_rfl) (by kernel_rfl) (by kernel_rfl) (fun _ _ _ h => h) (Or.inl ⟨by kernel_rfl, ?_⟩) (by assumption) ?_; rotate_left; (focus (intro w hSw; (try dsimp only at hSw); go_simp; all_goals with_reducible rfl)); (try simp only [Act.put, List.getElem_toArray, List.getElem_cons_succ, List.getElem_cons_zero, List.setIfInBounds_toArray, List.set_cons_zero, List.set_cons_succ]))
    (refine wpAnyH_take (i := 18) (v := ?_) rfl (by kernel_rfl) (by kernel_rfl) (by kernel_rfl) (fun _ _ _ h => h) (Or.inl ⟨by kernel_rfl, ?_⟩) (by assumption) ?_; rotate_left; (focus (intro w hSw; (try dsimp only at hSw); go_simp; all_goals with_reducible rfl)); (try simp only [Act.put, List.getElem_toArray, List.getElem_cons_succ, List.getElem_cons_zero, List.setIfInBounds_toArray, List.set_cons_zero, List.set_cons_succ]))
    (refine wpAnyH_ready (rs := [19]) (by kernel_rfl) (by simp) ?_; refine AllReadyH.cons rfl (fun K hK => ?_) AllReadyH.nil; go_simp)
    go_at_call 18; refine (same_any a a C c C c _ (HI.out _ Bw5).1 (HI.out _ Bw5).1).mono ?_; rw [sameT_self]
    rintro e w6 ⟨rfl, bw6⟩
    have Bw6 : Below W0.heap.size W0 w6 := Below.trans (Bw5) (bw6.mono (by first | omega | (simp <;> omega)))
    have zw6 := Bw6.size
    (refine hK.out _ _ ?_ (fun hHeld => ?_))
    · exact hS2 _ Bw6
    clear hK K
    (try simp only [Act.put, List.getElem_toArray, List.getElem_cons_succ, List.getElem_cons_zero, List.setIfInBounds_toArray, List.set_cons_zero, List.set_cons_succ])
    (refine wpAnyH_take (i := 20) (v := ?_) rfl (by kernel_rfl) (by kernel_rfl) (by kernel_rfl) (fun _ _ _ h => h) (Or.inl ⟨by kernel_rfl, ?_⟩) (by assumption) ?_; rotate_left; (focus (intro w hSw; (try dsimp only at hSw); go_simp; all_goals with_reducible rfl)); (try simp only [Act.put, List.getElem_toArray, List.getElem_cons_succ, List.getElem_cons_zero, List.setIfInBounds_toArray, List.set_cons_zero, List.set_cons_succ]))
    (refine wpAnyH_take (i := 21) (v := ?_) rfl (by kernel_rfl) (by kernel_rfl) (by kernel_rfl) (fun _ _ _ h => h) (Or.inl ⟨by kernel_rfl, ?_⟩) (by assumption) ?_; rotate_left; (focus (intro w hSw; (try dsimp only at hSw); go_simp; all_goals with_reducible rfl)); (try simp only [Act.put, List.getElem_toArray, List.getElem_cons_succ, List.getElem_cons_zero, List.setIfInBounds_toArray, List.set_cons_zero, List.set_cons_succ]))
    (refine wpAnyH_ready (rs := [22]) (by kernel_rfl) (by simp) ?_; refine AllReadyH.cons rfl (fun K hK => ?_) AllReadyH.nil; go_simp)
    go_at_call 15; refine (awake_any _).mono ?_
    rintro e w7 ⟨rfl, bw7⟩
    have Bw7 : Below W0.heap.size W0 w7 := Below.trans (Bw6) (bw7.mono (by first | omega | (simp <;> omega)))
    have zw7 := Bw7.size
    (refine hK.out _ _ ?_ (fun hHeld => ?_))
    · exact hS2 _ Bw7
    clear hK K
    (try simp only [Act.put, List.getElem_toArray, List.getElem_cons_succ, List.getElem_cons_zero, List.setIfInBounds_toArray, List.set_cons_zero, List.set_cons_succ])
    (refine wpAnyH_take (i := 23) (v := ?_) rfl (by kernel_rfl) (by kernel_rfl) (by kernel_rfl) (fun _ _ _ h => h) (Or.inl ⟨by kernel_rfl, ?_⟩) (by assumption) ?_; rotate_left; (focus (intro w hSw; (try dsimp only at hSw); go_simp; all_goals with_reducible rfl)); (try simp only [Act.put, List.getElem_toArray, List.getElem_cons_succ, List.getElem_cons_zero, List.setIfInBounds_toArray, List.set_cons_zero, List.set_cons_succ]))
    (refine wpAnyH_take (i := 24) (v := ?_) rfl (by kernel_rfl) (by kernel_rfl) (by kernel_rfl) (fun _ _ _ h => h) (Or.inl ⟨by kernel_rfl, ?_⟩) (by assumption) ?_; rotate_left; (focus (intro w hSw; (try dsimp only at hSw); go_simp; all_goals with_reducible rfl)); (try simp only [Act.put, List.getElem_toArray, List.getElem_cons_succ, List.getElem_cons_zero, List.setIfInBounds_toArray, List.set_cons_zero, List.set_cons_succ]))
    (refine wpAnyH_done (by kernel_rfl) ?_ _)
    go_wp2_with fail
    go_ret
    exact ⟨rfl, hB0.trans (Bw7.mono z0)⟩
end Go.Proofs.YthkbfmbohoclaaaDoor.flt

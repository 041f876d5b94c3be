/- The law OrderSame, walked. -/
import Derived.Test.YthkbfmbohoclaaaDoorOrdI
import Derived.Test.YthkbfmbohoclaaaDoorOrdJ
namespace Go.Proofs.YthkbfmbohoclaaaDoor.ord
open Go.RowKit
open Go.Proofs.YthkbfmbohoclaaaDoor.lib Go.Proofs.YthkbfmbohoclaaaDoor.rd Go.Proofs.YthkbfmbohoclaaaDoor.typ Go.Proofs.YthkbfmbohoclaaaDoor.note Go.Proofs.YthkbfmbohoclaaaDoor.eqs
set_option linter.unusedVariables false
set_option linter.unusedSimpArgs false

theorem sameS_comm (a b : ByteArray) : sameS a b = sameS b a := by unfold sameS; rw [Bool.eq_iff_iff, beq_iff_eq, beq_iff_eq]; exact eq_comm
theorem int_comm (a b : Int) : (a == b) = (b == a) := by rw [Bool.eq_iff_iff, beq_iff_eq, beq_iff_eq]; exact eq_comm
theorem stpEq_comm (a b : Stp) : stpEq a b = stpEq b a := by unfold stpEq; rw [int_comm a.place, int_comm a.opn, int_comm a.close, int_comm a.service]
theorem sameO_comm (a b : Ord) : sameO a b = sameO b a := by
  unfold sameO
  have h1 : sameB a.load b.load = sameB b.load a.load := by unfold sameB; rw [Bool.eq_iff_iff, decide_eq_true_eq, decide_eq_true_eq]; exact eq_comm
  have h2 : numsO a b = numsO b a := by
    unfold numsO
    rw [Bool.eq_iff_iff, decide_eq_true_eq, decide_eq_true_eq]
    constructor <;> (rintro ⟨h1, h2, h3, h4, h5⟩; exact ⟨h1.symm, h2.symm, h3.symm, h4.symm, h5.symm⟩)
  have h3 : (a.off == b.off) = (b.off == a.off) := by cases a.off <;> cases b.off <;> rfl
  rw [sameS_comm a.name, h1, stpEq_comm a.pick, stpEq_comm a.drop, h2, h3]
theorem sameO_self (a : Ord) : sameO a a = true := by simp [sameO, sameB, sameS, numsO, stpEq]
theorem row_ord_two (w : World) (t t' : Ord) (C C' : Option Addr) (c c' : Nat) (hI : Ints w w.heap.size C t.load) (hI' : Ints w w.heap.size C' t'.load) (hf : OrdFits t) (hf' : OrdFits t') : RowAt rOrd (w.alloc (.cells (OrdCells t C c ++ OrdCells t' C' c').toArray 59)) (w.heap.size + 1) (some ⟨w.heap.size, 0, none⟩) [t, t'] :=
  row_two (rOrd_mk ((hI.alloc (Nat.le_refl _) _).more (by omega)) hf) (rOrd_mk ((hI'.alloc (Nat.le_refl _) _).more (by omega)) hf')

theorem run_load_ord {w : World} {k : Nat} {x : Ord} {C : Option Addr} {c : Nat} (h : OrBlk w k x C c) : (Instr.loadAt 59 (.pointer (some ⟨k, 0, none⟩))).run Tryd.prog w = .ok (.agg #[.string x.name, .slice C x.load.length c, .int .i64 x.pick.place, .int .i64 x.pick.opn, .int .i64 x.pick.close, .int .i64 x.pick.service, .int .i64 x.drop.place, .int .i64 x.drop.opn, .int .i64 x.drop.close, .int .i64 x.drop.service, .int .i64 x.skills, .int .i64 x.penalty, .int .i64 x.split, .int .i64 x.last, .int .i64 x.now, .bool x.off]) w := by
  obtain ⟨m0, m1, m2, m3, m4, m5, m6, m7, m8, m9, m10, m11, m12, m13, m14, m15⟩ := h.cells
  go_simp
theorem exec_ord {ρ : Operand → Value} {o : Oper} {n k : Nat} {w : World} {x : Ord} {C : Option Addr} {c : Nat} (ho : o.op = .load 59 (.tmp n)) (hρ : ρ (.tmp n) = .pointer (some ⟨k, 0, none⟩)) (h : OrBlk w k x C c) :
    Sem.run Tryd.prog (execOp ρ o) w = .ok (.value (.agg #[.string x.name, .slice C x.load.length c, .int .i64 x.pick.place, .int .i64 x.pick.opn, .int .i64 x.pick.close, .int .i64 x.pick.service, .int .i64 x.drop.place, .int .i64 x.drop.opn, .int .i64 x.drop.close, .int .i64 x.drop.service, .int .i64 x.skills, .int .i64 x.penalty, .int .i64 x.split, .int .i64 x.last, .int .i64 x.now, .bool x.off])) w := by
  unfold execOp
  simp only [ho, hρ, Sem.run_bind, run_load_ord h, Result.andThen_ok, Sem.run_pure]
set_option maxRecDepth 100000 in
set_option maxHeartbeats 16000000 in
theorem lawSame_any (a b : Ord) (C : Option Addr) (c : Nat) (C' : Option Addr) (c' : Nat) (w : World) (a_f : OrdFits a) (b_f : OrdFits b) (hC : Ints w w.heap.size C a.load) (hC' : Ints w w.heap.size C' b.load) :
    Calls Tryd.prog 10 #[.agg #[.string a.name, .slice C a.load.length c, .int .i64 a.pick.place, .int .i64 a.pick.opn, .int .i64 a.pick.close, .int .i64 a.pick.service, .int .i64 a.drop.place, .int .i64 a.drop.opn, .int .i64 a.drop.close, .int .i64 a.drop.service, .int .i64 a.skills, .int .i64 a.penalty, .int .i64 a.split, .int .i64 a.last, .int .i64 a.now, .bool a.off], .agg #[.string b.name, .slice C' b.load.length c', .int .i64 b.pick.place, .int .i64 b.pick.opn, .int .i64 b.pick.close, .int .i64 b.pick.service, .int .i64 b.drop.place, .int .i64 b.drop.opn, .int .i64 b.drop.close, .int .i64 b.drop.service, .int .i64 b.skills, .int .i64 b.penalty, .int .i64 b.split, .int .i64 b.last, .int .i64 b.now, .bool b.off]] w fun e w' => e = .returned (.bool true) ∧ Below w.heap.size w w' := by
  have HF := Lib.hid (And.intro a_f b_f)
  go_enter Tryd.func10, Tryd.ntmps10
  go_upto_region 1 with fail
  obtain ⟨W0, hW0⟩ : ∃ W0, (w.alloc (.cells (OrdCells a C c).toArray 59)).alloc (.cells (OrdCells b C' c').toArray 59) = W0 := ⟨_, rfl⟩
  have hb0 : OrBlk W0 w.heap.size a C c := by
    rw [← hW0]
    unfold OrBlk
    rw [Below.heap_alloc _ _ _ (by simp)]
    exact World.alloc_heap_new w _
  have hb1 : OrBlk W0 (w.heap.size + 1) b C' c' := by
    rw [← hW0]
    have h := World.alloc_heap_new (w.alloc (.cells (OrdCells a C c).toArray 59)) (.cells (OrdCells b C' c').toArray 59)
    simpa [OrBlk] using h
  have hB0 : Below w.heap.size w W0 := by rw [← hW0]; exact ((Below.refl _ _).alloc (Nat.le_refl _) _).alloc (by simp) _
  have hs0 : w.heap.size + 1 < W0.heap.size := by rw [← hW0]; simp
  have hW1 : (w.alloc (.cells #[.string a.name, .slice C a.load.length c, .int .i64 a.pick.place, .int .i64 a.pick.opn, .int .i64 a.pick.close, .int .i64 a.pick.service, .int .i64 a.drop.place, .int .i64 a.drop.opn, .int .i64 a.drop.close, .int .i64 a.drop.service, .int .i64 a.skills, .int .i64 a.penalty, .int .i64 a.split, .int .i64 a.last, .int .i64 a.now, .bool a.off] 59)).alloc (.cells #[.string b.name, .slice C' b.load.length c', .int .i64 b.pick.place, .int .i64 b.pick.opn, .int .i64 b.pick.close, .int .i64 b.pick.service, .int .i64 b.drop.place, .int .i64 b.drop.opn, .int .i64 b.drop.close, .int .i64 b.drop.service, .int .i64 b.skills, .int .i64 b.penalty, .int .i64 b.split, .int .i64 b.last, .int .i64 b.now, .bool b.off] 59) = W0 := hW0
  rw [hW1]
  have hS : ∀ w', Below W0.heap.size W0 w' → OrBlk w' w.heap.size a C c ∧ OrBlk w' (w.heap.size + 1) b C' c' := fun w' h => ⟨(h.block _ (by omega)).trans hb0, (h.block _ (by omega)).trans hb1⟩
  have z0 := hB0.size
  have HC := Lib.hid (And.intro ((hC.below hB0).more z0) ((hC'.below hB0).more z0))
  clear hW0 hW1 hC hC' a_f b_f
  obtain ⟨m0, m1, m2, m3, m4, m5, m6, m7, m8, m9, m10, m11, m12, m13, m14, m15⟩ := hb0.cells
  obtain ⟨n0, n1, n2, n3, n4, n5, n6, n7, n8, n9, n10, n11, n12, n13, n14, n15⟩ := hb1.cells
  go_wp2_with fail
  refine (few_any (some ⟨W0.heap.size, 0, none⟩) 2 [a, b] _ _ (by exact row_ord_two W0 a b C C' c c' HC.out.1 HC.out.2 HF.out.1 HF.out.2)).mono ?_
  rintro e w1 ⟨q, rfl, _, rfl⟩
  have hS2 : ∀ w', Below W0.heap.size W0 w' → (OrBlk w' w.heap.size a C c ∧ OrBlk w' (w.heap.size + 1) b C' c') := fun w' h => hS w' h
  have HI : Hid (∀ w', Below W0.heap.size W0 w' → Ints w' w'.heap.size C a.load ∧ Ints w' w'.heap.size C' b.load) := Lib.hid fun w' h => ⟨(HC.out.1.below h).more h.size, (HC.out.2.below h).more h.size⟩
  obtain ⟨qs, hqs⟩ : ∃ q, sameO a b = q := ⟨_, rfl⟩
  have hqs2 : sameO b a = qs := by rw [sameO_comm, hqs]
  have B1 : ∀ o, Below W0.heap.size W0 (W0.alloc o) := fun o => (Below.refl _ _).alloc (Nat.le_refl _) o
  cases q
  · clear m0 m1 m2 m3 m4 m5 m6 m7 m8 m9 m10 m11 m12 m13 m14 m15 n0 n1 n2 n3 n4 n5 n6 n7 n8 n9 n10 n11 n12 n13 n14 n15
    go_wp2_with fail
    refine (awake_any _).mono ?_
    rintro e w2 ⟨rfl, hb2⟩
    go_wp2_with fail
    go_ret
    exact ⟨rfl, hB0.trans (((B1 _).mono z0).trans (hb2.mono (by simp; omega)))⟩
  · clear m0 m1 m2 m3 m4 m5 m6 m7 m8 m9 m10 m11 m12 m13 m14 m15 n0 n1 n2 n3 n4 n5 n6 n7 n8 n9 n10 n11 n12 n13 n14 n15
    go_wp2_with fail
    have B1d : Below W0.heap.size W0 _ := (B1 (.cells (OrdCells a C c ++ OrdCells b C' c').toArray 59)).drew
    (refine wp_region_held_drew (S := (fun w' => OrBlk w' w.heap.size a C c ∧ OrBlk w' (w.heap.size + 1) b C' c')) (by kernel_rfl) ?_ (fun hHeld => ?_))
    · exact hS2 _ B1d
    (refine wpAnyH_take (i := 0) (v := _) rfl (by kernel_rfl) (by kernel_rfl) (by kernel_rfl) (fun _ _ _ h => h) (Or.inl ⟨by kernel_rfl, fun _ hSw => exec_ord rfl rfl hSw.1⟩) (by assumption) ?_; (try simp only [Act.put, List.getElem_toArray, List.getElem_cons_succ, List.getElem_cons_zero, List.setIfInBounds_toArray, List.set_cons_zero, List.set_cons_succ]))
    (refine wpAnyH_take (i := 1) (v := _) rfl (by kernel_rfl) (by kernel_rfl) (by kernel_rfl) (fun _ _ _ h => h) (Or.inl ⟨by kernel_rfl, fun _ hSw => exec_ord rfl rfl hSw.2⟩) (by assumption) ?_; (try simp only [Act.put, List.getElem_toArray, List.getElem_cons_succ, List.getElem_cons_zero, List.setIfInBounds_toArray, List.set_cons_zero, List.set_cons_succ]))
    (refine wpAnyH_take (i := 3) (v := _) rfl (by kernel_rfl) (by kernel_rfl) (by kernel_rfl) (fun _ _ _ h => h) (Or.inl ⟨by kernel_rfl, fun _ hSw => exec_ord rfl rfl hSw.1⟩) (by assumption) ?_; (try simp only [Act.put, List.getElem_toArray, List.getElem_cons_succ, List.getElem_cons_zero, List.setIfInBounds_toArray, List.set_cons_zero, List.set_cons_succ]))
    (refine wpAnyH_take (i := 4) (v := _) rfl (by kernel_rfl) (by kernel_rfl) (by kernel_rfl) (fun _ _ _ h => h) (Or.inl ⟨by kernel_rfl, fun _ hSw => exec_ord rfl rfl hSw.2⟩) (by assumption) ?_; (try simp only [Act.put, List.getElem_toArray, List.getElem_cons_succ, List.getElem_cons_zero, List.setIfInBounds_toArray, List.set_cons_zero, List.set_cons_succ]))
    (refine wpAnyH_ready (rs := [2]) (by kernel_rfl) (by simp) ?_; refine AllReadyH.cons rfl (fun K hK => ?_) AllReadyH.nil; go_simp)
    go_at_call 33; refine (osame_any a b C c C' c' _ (HI.out _ B1d).1 (HI.out _ B1d).2).mono ?_; rw [hqs]
    rintro e w2 ⟨rfl, bw2⟩
    have Bw2 : Below W0.heap.size W0 w2 := Below.trans (B1d) (bw2.mono (by first | omega | (simp <;> omega)))
    have zw2 := Bw2.size
    (refine hK.out _ _ ?_ (fun hHeld => ?_))
    · exact hS2 _ Bw2
    clear hK K
    (try simp only [Act.put, List.getElem_toArray, List.getElem_cons_succ, List.getElem_cons_zero, List.setIfInBounds_toArray, List.set_cons_zero, List.set_cons_succ])
    as_aux_lemma =>
      (refine wpAnyH_ready (rs := [5]) (by kernel_rfl) (by simp) ?_; refine AllReadyH.cons rfl (fun K hK => ?_) AllReadyH.nil; go_simp)
      go_at_call 34; refine (orsame_any a b C c C' c' _ (HI.out _ Bw2).1 (HI.out _ Bw2).2).mono ?_; rw [hqs]
      rintro e w3 ⟨rfl, bw3⟩
      have Bw3 : Below W0.heap.size W0 w3 := Below.trans (Bw2) (bw3.mono (by first | omega | (simp <;> omega)))
      have zw3 := Bw3.size
      (refine hK.out _ _ ?_ (fun hHeld => ?_))
      · exact hS2 _ Bw3
      clear hK K
      (try simp only [Act.put, List.getElem_toArray, List.getElem_cons_succ, List.getElem_cons_zero, List.setIfInBounds_toArray, List.set_cons_zero, List.set_cons_succ])
      (refine wpAnyH_take (i := 6) (v := ?_) rfl (by kernel_rfl) (by kernel_rfl) (by kernel_rfl) (fun _ _ _ h => h) (Or.inl ⟨by kernel_rfl, ?_⟩) (by assumption) ?_; rotate_left; (focus (intro w hSw; (try dsimp only at hSw); go_simp; all_goals with_reducible rfl)); (try simp only [Act.put, List.getElem_toArray, List.getElem_cons_succ, List.getElem_cons_zero, List.setIfInBounds_toArray, List.set_cons_zero, List.set_cons_succ]))
      (refine wpAnyH_take (i := 7) (v := ?_) rfl (by kernel_rfl) (by kernel_rfl) (by kernel_rfl) (fun _ _ _ h => h) (Or.inl ⟨by kernel_rfl, ?_⟩) (by assumption) ?_; rotate_left; (focus (intro w hSw; (try dsimp only at hSw); go_simp; all_goals with_reducible rfl)); (try simp only [Act.put, List.getElem_toArray, List.getElem_cons_succ, List.getElem_cons_zero, List.setIfInBounds_toArray, List.set_cons_zero, List.set_cons_succ]))
      (refine wpAnyH_take (i := 8) (v := _) rfl (by kernel_rfl) (by kernel_rfl) (by kernel_rfl) (fun _ _ _ h => h) (Or.inl ⟨by kernel_rfl, fun _ hSw => exec_ord rfl rfl hSw.1⟩) (by assumption) ?_; (try simp only [Act.put, List.getElem_toArray, List.getElem_cons_succ, List.getElem_cons_zero, List.setIfInBounds_toArray, List.set_cons_zero, List.set_cons_succ]))
      (refine wpAnyH_take (i := 9) (v := _) rfl (by kernel_rfl) (by kernel_rfl) (by kernel_rfl) (fun _ _ _ h => h) (Or.inl ⟨by kernel_rfl, fun _ hSw => exec_ord rfl rfl hSw.1⟩) (by assumption) ?_; (try simp only [Act.put, List.getElem_toArray, List.getElem_cons_succ, List.getElem_cons_zero, List.setIfInBounds_toArray, List.set_cons_zero, List.set_cons_succ]))
      as_aux_lemma =>
        (refine wpAnyH_ready (rs := [10]) (by kernel_rfl) (by simp) ?_; refine AllReadyH.cons rfl (fun K hK => ?_) AllReadyH.nil; go_simp)
        go_at_call 33; refine (osame_any a a C c C c _ (HI.out _ Bw3).1 (HI.out _ Bw3).1).mono ?_; rw [sameO_self]
        rintro e w4 ⟨rfl, bw4⟩
        have Bw4 : Below W0.heap.size W0 w4 := Below.trans (Bw3) (bw4.mono (by first | omega | (simp <;> omega)))
        have zw4 := Bw4.size
        (refine hK.out _ _ ?_ (fun hHeld => ?_))
        · exact hS2 _ Bw4
        clear hK K
        (try simp only [Act.put, List.getElem_toArray, List.getElem_cons_succ, List.getElem_cons_zero, List.setIfInBounds_toArray, List.set_cons_zero, List.set_cons_succ])
        (refine wpAnyH_take (i := 11) (v := ?_) rfl (by kernel_rfl) (by kernel_rfl) (by kernel_rfl) (fun _ _ _ h => h) (Or.inl ⟨by kernel_rfl, ?_⟩) (by assumption) ?_; rotate_left; (focus (intro w hSw; (try dsimp only at hSw); go_simp; all_goals with_reducible rfl)); (try simp only [Act.put, List.getElem_toArray, List.getElem_cons_succ, List.getElem_cons_zero, List.setIfInBounds_toArray, List.set_cons_zero, List.set_cons_succ]))
        (refine wpAnyH_take (i := 12) (v := ?_) rfl (by kernel_rfl) (by kernel_rfl) (by kernel_rfl) (fun _ _ _ h => h) (Or.inl ⟨by kernel_rfl, ?_⟩) (by assumption) ?_; rotate_left; (focus (intro w hSw; (try dsimp only at hSw); go_simp; all_goals with_reducible rfl)); (try simp only [Act.put, List.getElem_toArray, List.getElem_cons_succ, List.getElem_cons_zero, List.setIfInBounds_toArray, List.set_cons_zero, List.set_cons_succ]))
        (refine wpAnyH_take (i := 13) (v := _) rfl (by kernel_rfl) (by kernel_rfl) (by kernel_rfl) (fun _ _ _ h => h) (Or.inl ⟨by kernel_rfl, fun _ hSw => exec_ord rfl rfl hSw.2⟩) (by assumption) ?_; (try simp only [Act.put, List.getElem_toArray, List.getElem_cons_succ, List.getElem_cons_zero, List.setIfInBounds_toArray, List.set_cons_zero, List.set_cons_succ]))
        (refine wpAnyH_take (i := 14) (v := _) rfl (by kernel_rfl) (by kernel_rfl) (by kernel_rfl) (fun _ _ _ h => h) (Or.inl ⟨by kernel_rfl, fun _ hSw => exec_ord rfl rfl hSw.1⟩) (by assumption) ?_; (try simp only [Act.put, List.getElem_toArray, List.getElem_cons_succ, List.getElem_cons_zero, List.setIfInBounds_toArray, List.set_cons_zero, List.set_cons_succ]))
        (refine wpAnyH_take (i := 16) (v := _) rfl (by kernel_rfl) (by kernel_rfl) (by kernel_rfl) (fun _ _ _ h => h) (Or.inl ⟨by kernel_rfl, fun _ hSw => exec_ord rfl rfl hSw.1⟩) (by assumption) ?_; (try simp only [Act.put, List.getElem_toArray, List.getElem_cons_succ, List.getElem_cons_zero, List.setIfInBounds_toArray, List.set_cons_zero, List.set_cons_succ]))
        (refine wpAnyH_take (i := 17) (v := _) rfl (by kernel_rfl) (by kernel_rfl) (by kernel_rfl) (fun _ _ _ h => h) (Or.inl ⟨by kernel_rfl, fun _ hSw => exec_ord rfl rfl hSw.2⟩) (by assumption) ?_; (try simp only [Act.put, List.getElem_toArray, List.getElem_cons_succ, List.getElem_cons_zero, List.setIfInBounds_toArray, List.set_cons_zero, List.set_cons_succ]))
        as_aux_lemma =>
          (refine wpAnyH_ready (rs := [15]) (by kernel_rfl) (by simp) ?_; refine AllReadyH.cons rfl (fun K hK => ?_) AllReadyH.nil; go_simp)
          go_at_call 33; refine (osame_any b a C' c' C c _ (HI.out _ Bw4).2 (HI.out _ Bw4).1).mono ?_; rw [hqs2]
          rintro e w5 ⟨rfl, bw5⟩
          have Bw5 : Below W0.heap.size W0 w5 := Below.trans (Bw4) (bw5.mono (by first | omega | (simp <;> omega)))
          have zw5 := Bw5.size
          (refine hK.out _ _ ?_ (fun hHeld => ?_))
          · exact hS2 _ Bw5
          clear hK K
          (try simp only [Act.put, List.getElem_toArray, List.getElem_cons_succ, List.getElem_cons_zero, List.setIfInBounds_toArray, List.set_cons_zero, List.set_cons_succ])
          as_aux_lemma =>
            (refine wpAnyH_ready (rs := [18]) (by kernel_rfl) (by simp) ?_; refine AllReadyH.cons rfl (fun K hK => ?_) AllReadyH.nil; go_simp)
            go_at_call 33; refine (osame_any a b C c C' c' _ (HI.out _ Bw5).1 (HI.out _ Bw5).2).mono ?_; rw [hqs]
            rintro e w6 ⟨rfl, bw6⟩
            have Bw6 : Below W0.heap.size W0 w6 := Below.trans (Bw5) (bw6.mono (by first | omega | (simp <;> omega)))
            have zw6 := Bw6.size
            (refine hK.out _ _ ?_ (fun hHeld => ?_))
            · exact hS2 _ Bw6
            clear hK K
            (try simp only [Act.put, List.getElem_toArray, List.getElem_cons_succ, List.getElem_cons_zero, List.setIfInBounds_toArray, List.set_cons_zero, List.set_cons_succ])
            (refine wpAnyH_take (i := 19) (v := ?_) rfl (by kernel_rfl) (by kernel_rfl) (by kernel_rfl) (fun _ _ _ h => h) (Or.inl ⟨by kernel_rfl, ?_⟩) (by assumption) ?_; rotate_left; (focus (intro w hSw; (try dsimp only at hSw); go_simp; all_goals with_reducible rfl)); (try simp only [Act.put, List.getElem_toArray, List.getElem_cons_succ, List.getElem_cons_zero, List.setIfInBounds_toArray, List.set_cons_zero, List.set_cons_succ]))
            (refine wpAnyH_take (i := 20) (v := ?_) rfl (by kernel_rfl) (by kernel_rfl) (by kernel_rfl) (fun _ _ _ h => h) (Or.inl ⟨by kernel_rfl, ?_⟩) (by assumption) ?_; rotate_left; (focus (intro w hSw; (try dsimp only at hSw); go_simp; all_goals with_reducible rfl)); (try simp only [Act.put, List.getElem_toArray, List.getElem_cons_succ, List.getElem_cons_zero, List.setIfInBounds_toArray, List.set_cons_zero, List.set_cons_succ]))
            (refine wpAnyH_take (i := 21) (v := ?_) rfl (by kernel_rfl) (by kernel_rfl) (by kernel_rfl) (fun _ _ _ h => h) (Or.inl ⟨by kernel_rfl, ?_⟩) (by assumption) ?_; rotate_left; (focus (intro w hSw; (try dsimp only at hSw); go_simp; all_goals with_reducible rfl)); (try simp only [Act.put, List.getElem_toArray, List.getElem_cons_succ, List.getElem_cons_zero, List.setIfInBounds_toArray, List.set_cons_zero, List.set_cons_succ]))
            as_aux_lemma =>
              (refine wpAnyH_ready (rs := [22]) (by kernel_rfl) (by simp) ?_; refine AllReadyH.cons rfl (fun K hK => ?_) AllReadyH.nil; go_simp)
              go_at_call 25; refine (awake_any _).mono ?_
              rintro e w7 ⟨rfl, bw7⟩
              have Bw7 : Below W0.heap.size W0 w7 := Below.trans (Bw6) (bw7.mono (by first | omega | (simp <;> omega)))
              have zw7 := Bw7.size
              (refine hK.out _ _ ?_ (fun hHeld => ?_))
              · exact hS2 _ Bw7
              clear hK K
              (try simp only [Act.put, List.getElem_toArray, List.getElem_cons_succ, List.getElem_cons_zero, List.setIfInBounds_toArray, List.set_cons_zero, List.set_cons_succ])
              (refine wpAnyH_take (i := 23) (v := ?_) rfl (by kernel_rfl) (by kernel_rfl) (by kernel_rfl) (fun _ _ _ h => h) (Or.inl ⟨by kernel_rfl, ?_⟩) (by assumption) ?_; rotate_left; (focus (intro w hSw; (try dsimp only at hSw); go_simp; all_goals with_reducible rfl)); (try simp only [Act.put, List.getElem_toArray, List.getElem_cons_succ, List.getElem_cons_zero, List.setIfInBounds_toArray, List.set_cons_zero, List.set_cons_succ]))
              (refine wpAnyH_take (i := 24) (v := ?_) rfl (by kernel_rfl) (by kernel_rfl) (by kernel_rfl) (fun _ _ _ h => h) (Or.inl ⟨by kernel_rfl, ?_⟩) (by assumption) ?_; rotate_left; (focus (intro w hSw; (try dsimp only at hSw); go_simp; all_goals with_reducible rfl)); (try simp only [Act.put, List.getElem_toArray, List.getElem_cons_succ, List.getElem_cons_zero, List.setIfInBounds_toArray, List.set_cons_zero, List.set_cons_succ]))
              (refine wpAnyH_done (by kernel_rfl) ?_ _)
              go_wp2_with fail
              go_ret
              exact ⟨rfl, hB0.trans (Bw7.mono z0)⟩
end Go.Proofs.YthkbfmbohoclaaaDoor.ord

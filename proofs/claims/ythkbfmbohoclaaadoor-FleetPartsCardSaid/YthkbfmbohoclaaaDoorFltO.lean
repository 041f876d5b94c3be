/- The examples of layer 10: first what they ask of Check. -/
import Derived.Test.YthkbfmbohoclaaaDoorFltN
import Derived.Test.YthkbfmbohoclaaaDoorFltJ
import Derived.Test.YthkbfmbohoclaaaDoorFltL
import Derived.Deep.RegionHeld3
namespace Go.Proofs.YthkbfmbohoclaaaDoor.flt
open Go.RowKit
open Go.Proofs.YthkbfmbohoclaaaDoor.lib Go.Proofs.YthkbfmbohoclaaaDoor.rd Go.Proofs.YthkbfmbohoclaaaDoor.typ Go.Proofs.YthkbfmbohoclaaaDoor.txt Go.Proofs.YthkbfmbohoclaaaDoor.app
set_option linter.unusedVariables false
set_option linter.unusedSimpArgs false

def badT : Ty := { vanT with frm := 1 }
theorem bad_fits : TyFits badT := by unfold TyFits badT vanT; decide
theorem van_none : fltsTo 0 [vanT] 1 = [] := by rfl
theorem bad_one : fltsTo 0 [badT] 1 = [⟨11, ⟨#[48]⟩⟩] := by rfl
def hubN : Net := ⟨[⟨#[104, 117, 98]⟩], []⟩

theorem row_ty_one (w : World) (t : Ty) (C : Option Addr) (c : Nat) (hI : Ints w w.heap.size C t.cap) (hf : TyFits t) : RowAt rTy (w.alloc (.cells (TyCells t C c).toArray 35)) (w.heap.size + 1) (some ⟨w.heap.size, 0, none⟩) [t] :=
  row_one (rTy_mk ((hI.alloc (Nat.le_refl _) _).more (by omega)) hf)

theorem flt_one {w : World} {base c : Nat} {A : Option Addr} {f : Flt} (h : Fown w base A c [f]) : ∃ g, A = some ⟨g, 0, none⟩ ∧ g < w.heap.size ∧ w.cell? ⟨g, 0, none⟩ = some (.int .i64 f.err) ∧ w.cell? ⟨g, 1, none⟩ = some (.string f.at_) := by
  unfold Fown at h
  rcases h.2 with ⟨h1, h2⟩ | ⟨g, cap, cur, h1, h2, h3, h4⟩
  · simp at h2
  · simp only [Value.slice.injEq] at h1
    obtain ⟨rfl, _, _⟩ := h1
    have hc := h.cells (g := g) rfl
    exact ⟨g, rfl, (Array.getElem?_eq_some_iff.1 h3).1, hc 0 _ rfl, hc 1 _ rfl⟩
/-- Check of one type that lies in a block of its own. -/
theorem check_one (t : Ty) (g g0 : Nat) (fs : List Flt) (hfs : fltsTo 0 [t] 1 = fs) (w W : World) (k : Nat) (hk : w.heap.size = k) (hW : W = w.alloc (.cells (TyCells t (some ⟨g, 0, none⟩) 1).toArray 35)) (hI : Ints w w.heap.size (some ⟨g, 0, none⟩) t.cap) (hf : TyFits t) :
    Calls Tryd.prog 13 #[.agg #[.slice (some ⟨g0, 0, none⟩) 1 1, .slice none 0 0], .slice (some ⟨k, 0, none⟩) 1 1] W (FltsOut W fs) := by
  subst hk
  subst hW
  have h := row_ty_one w t (some ⟨g, 0, none⟩) 1 hI hf
  have hc := check_any hubN (some ⟨g0, 0, none⟩) 1 none 0 (some ⟨w.heap.size, 0, none⟩) 1 [t] _ (by rw [World.size_alloc]; exact h) (by simp) (by simp) (by decide)
  have e : fltsTo ((hubN.places.length : Int) - 1) [t] [t].length = fs := hfs
  rw [e] at hc
  exact hc

theorem van_same : sameT vanT vanT = true := by simp [sameT, sameB, sameS, numsB]
theorem van_able4 : ableB vanT.skills 4 = true := by decide
theorem van_able2 : ableB vanT.skills 2 = false := by decide
set_option maxRecDepth 100000 in
set_option maxHeartbeats 8000000 in
theorem awake_any (w : World) : Calls Tryd.prog 15 #[] w fun e w' => e = .returned (.bool true) ∧ Below w.heap.size w w' := by
  go_enter Tryd.func15, Tryd.ntmps15
  go_wp2_with fail
  refine (van_any _).mono ?_
  rintro e w1 ⟨g, rfl, hI, hb, hlt⟩
  have hz := hb.size
  have hc := fun b o h => hb.cell (p := ⟨b, o, none⟩) h
  have hf := fun b o h => hb.frozen (p := ⟨b, o, none⟩) h
  have hB1 : Below w.heap.size w w1 := (((Below.refl _ _).alloc (Nat.le_refl _) _).alloc (by simp) _).trans (hb.mono (by simp; omega))
  simp at hz
  have y0 : w.heap.size < w1.heap.size := by omega
  have y1 : w.heap.size + 1 < w1.heap.size := by omega
  have n0' : w1.cell? ⟨w.heap.size + 1, 0, none⟩ = some (.slice (some ⟨w.heap.size, 0, none⟩) 1 1) := by
    rw [hc _ _ (by simp)]
    simp
  have n1' : w1.cell? ⟨w.heap.size + 1, 1, none⟩ = some (.slice none 0 0) := by
    rw [hc _ _ (by simp)]
    simp
  go_wp2_with fail
  refine (check_one badT g w.heap.size _ bad_one (w1.alloc (.cells (TyCells badT (some ⟨g, 0, none⟩) 1).toArray 35)) _ (w1.heap.size + 1) (by simp) rfl ((hI.alloc (Nat.le_refl _) _).more (by simp)) bad_fits).mono ?_
  rintro e w2 ⟨A2, c2, rfl, hown, hb2⟩
  obtain ⟨gF, rfl, hgF, f0, f1⟩ := flt_one hown
  have hz2 := hb2.size
  simp at hz2
  have n0 : w2.cell? ⟨w.heap.size + 1, 0, none⟩ = some (.slice (some ⟨w.heap.size, 0, none⟩) 1 1) :=
    (hb2.cell (p := ⟨w.heap.size + 1, 0, none⟩) (by simp; omega)).trans ((World.cell?_alloc_lt _ _ _ (by simp; omega)).trans ((World.cell?_alloc_lt _ _ _ (by simp; omega)).trans n0'))
  have n1 : w2.cell? ⟨w.heap.size + 1, 1, none⟩ = some (.slice none 0 0) :=
    (hb2.cell (p := ⟨w.heap.size + 1, 1, none⟩) (by simp; omega)).trans ((World.cell?_alloc_lt _ _ _ (by simp; omega)).trans ((World.cell?_alloc_lt _ _ _ (by simp; omega)).trans n1'))
  have hB2 : Below w.heap.size w w2 := ((hB1.alloc (by omega) _).alloc (by simp; omega) _).trans (hb2.mono (by simp; omega))
  have hw2 : w.heap.size + 1 < w2.heap.size := by omega
  clear hc hf hb hb2 hown n0' n1'
  have hS : ∀ w', Below w2.heap.size w2 w' → (Below w2.heap.size w2 w' ∧ w'.cell? ⟨w.heap.size + 1, 0, none⟩ = some (.slice (some ⟨w.heap.size, 0, none⟩) 1 1) ∧ w'.cell? ⟨w.heap.size + 1, 1, none⟩ = some (.slice none 0 0) ∧ w'.cell? ⟨gF, 0, none⟩ = some (.int .i64 11) ∧ w'.cell? ⟨gF, 1, none⟩ = some (.string ⟨#[48]⟩)) := fun w' h =>
    ⟨h, (h.cell (p := ⟨w.heap.size + 1, 0, none⟩) hw2).trans n0, (h.cell (p := ⟨w.heap.size + 1, 1, none⟩) hw2).trans n1, (h.cell (p := ⟨gF, 0, none⟩) hgF).trans f0, (h.cell (p := ⟨gF, 1, none⟩) hgF).trans f1⟩
  go_wp2_with fail
  clear n0 n1 f0 f1
  (refine wp_region_held_drew (S := (fun w' => Below w2.heap.size w2 w' ∧ w'.cell? ⟨w.heap.size + 1, 0, none⟩ = some (.slice (some ⟨w.heap.size, 0, none⟩) 1 1) ∧ w'.cell? ⟨w.heap.size + 1, 1, none⟩ = some (.slice none 0 0) ∧ w'.cell? ⟨gF, 0, none⟩ = some (.int .i64 11) ∧ w'.cell? ⟨gF, 1, none⟩ = some (.string ⟨#[48]⟩))) (by kernel_rfl) ?_ (fun hHeld => ?_))
  · exact hS _ ((Below.refl _ _).drew)
  (refine wpAnyH_take (i := 0) (v := ?_) rfl (by kernel_rfl) (by kernel_rfl) (by kernel_rfl) (fun _ _ _ h => h) (Or.inl ⟨by kernel_rfl, ?_⟩) (by assumption) ?_; rotate_left; (focus (intro w hSw; (try dsimp only at hSw); go_simp; all_goals with_reducible rfl)); (try simp only [Act.put, List.getElem_toArray, List.getElem_cons_succ, List.getElem_cons_zero, List.setIfInBounds_toArray, List.set_cons_zero, List.set_cons_succ]))
  (refine wpAnyH_ready (rs := [1]) (by kernel_rfl) (by simp) ?_; refine AllReadyH.cons rfl (fun K hK => ?_) AllReadyH.nil; go_simp)
  go_at_call 41
  refine (van_any _).mono ?_
  rintro e w3 ⟨g3, rfl, Iw3, bw3, lw3⟩
  have Bw3 : Below w2.heap.size w2 w3 := Below.trans ((Below.refl _ _).drew) (bw3.mono (by first | omega | (simp <;> omega)))
  have zw3 := Bw3.size
  (refine hK.out _ _ ?_ (fun hHeld => ?_))
  · exact hS _ Bw3
  clear hK K
  (try simp only [Act.put, List.getElem_toArray, List.getElem_cons_succ, List.getElem_cons_zero, List.setIfInBounds_toArray, List.set_cons_zero, List.set_cons_succ])
  (refine wpAnyH_ready (rs := [2]) (by kernel_rfl) (by simp) ?_; refine AllReadyH.cons rfl (fun K hK => ?_) AllReadyH.nil; go_simp)
  have B4 : ∀ o, Below w2.heap.size w2 (w3.alloc o) := fun o => Bw3.alloc zw3 o
  (refine hK.out _ _ ?_ (fun hHeld => ?_))
  · exact hS _ (B4 _)
  clear hK K
  (try simp only [Act.put, List.getElem_toArray, List.getElem_cons_succ, List.getElem_cons_zero, List.setIfInBounds_toArray, List.set_cons_zero, List.set_cons_succ])
  (refine wpAnyH_ready (rs := [3]) (by kernel_rfl) (by simp) ?_; refine AllReadyH.cons rfl (fun K hK => ?_) AllReadyH.nil; go_simp)
  go_at_call 13
  refine (check_one vanT g3 w.heap.size _ van_none w3 _ w3.heap.size rfl rfl Iw3 van_fits).mono ?_
  rintro e w5 ⟨A5, c5, rfl, _, bw5⟩
  have Bw5 : Below w2.heap.size w2 w5 := (B4 _).trans (bw5.mono (by simp; omega))
  have zw5 := Bw5.size
  (refine hK.out _ _ ?_ (fun hHeld => ?_))
  · exact hS _ Bw5
  clear hK K
  (try simp only [Act.put, List.getElem_toArray, List.getElem_cons_succ, List.getElem_cons_zero, List.setIfInBounds_toArray, List.set_cons_zero, List.set_cons_succ])
  (refine wpAnyH_take (i := 4) (v := ?_) rfl (by kernel_rfl) (by kernel_rfl) (by kernel_rfl) (fun _ _ _ h => h) (Or.inl ⟨by kernel_rfl, ?_⟩) (by assumption) ?_; rotate_left; (focus (intro w hSw; (try dsimp only at hSw); go_simp; all_goals with_reducible rfl)); (try simp only [Act.put, List.getElem_toArray, List.getElem_cons_succ, List.getElem_cons_zero, List.setIfInBounds_toArray, List.set_cons_zero, List.set_cons_succ]))
  (refine wpAnyH_take (i := 5) (v := ?_) rfl (by kernel_rfl) (by kernel_rfl) (by kernel_rfl) (fun _ _ _ h => h) (Or.inl ⟨by kernel_rfl, ?_⟩) (by assumption) ?_; rotate_left; (focus (intro w hSw; (try dsimp only at hSw); go_simp; all_goals with_reducible rfl)); (try simp only [Act.put, List.getElem_toArray, List.getElem_cons_succ, List.getElem_cons_zero, List.setIfInBounds_toArray, List.set_cons_zero, List.set_cons_succ]))
  (refine wpAnyH_take (i := 6) (v := ?_) rfl (by kernel_rfl) (by kernel_rfl) (by kernel_rfl) (fun _ _ _ h => h) (Or.inl ⟨by kernel_rfl, ?_⟩) (by assumption) ?_; rotate_left; (focus (intro w hSw; (try dsimp only at hSw); go_simp; all_goals with_reducible rfl)); (try simp only [Act.put, List.getElem_toArray, List.getElem_cons_succ, List.getElem_cons_zero, List.setIfInBounds_toArray, List.set_cons_zero, List.set_cons_succ]))
  (refine wpAnyH_take (i := 7) (v := ?_) rfl (by kernel_rfl) (by kernel_rfl) (by kernel_rfl) (fun _ _ _ h => h) (Or.inl ⟨by kernel_rfl, ?_⟩) (by assumption) ?_; rotate_left; (focus (intro w hSw; (try dsimp only at hSw); go_simp; all_goals with_reducible rfl)); (try simp only [Act.put, List.getElem_toArray, List.getElem_cons_succ, List.getElem_cons_zero, List.setIfInBounds_toArray, List.set_cons_zero, List.set_cons_succ]))
  (refine wpAnyH_take (i := 8) (v := ?_) rfl (by kernel_rfl) (by kernel_rfl) (by kernel_rfl) (fun _ _ _ h => h) (Or.inl ⟨by kernel_rfl, ?_⟩) (by assumption) ?_; rotate_left; (focus (intro w hSw; (try dsimp only at hSw); go_simp; all_goals with_reducible rfl)); (try simp only [Act.put, List.getElem_toArray, List.getElem_cons_succ, List.getElem_cons_zero, List.setIfInBounds_toArray, List.set_cons_zero, List.set_cons_succ]))
  (refine wpAnyH_take (i := 9) (v := ?_) rfl (by kernel_rfl) (by kernel_rfl) (by kernel_rfl) (fun _ _ _ h => h) (Or.inl ⟨by kernel_rfl, ?_⟩) (by assumption) ?_; rotate_left; (focus (intro w hSw; (try dsimp only at hSw); go_simp; all_goals with_reducible rfl)); (try simp only [Act.put, List.getElem_toArray, List.getElem_cons_succ, List.getElem_cons_zero, List.setIfInBounds_toArray, List.set_cons_zero, List.set_cons_succ]))
  (refine wpAnyH_take (i := 10) (v := ?_) rfl (by kernel_rfl) (by kernel_rfl) (by kernel_rfl) (fun _ _ _ h => h) (Or.inl ⟨by kernel_rfl, ?_⟩) (by assumption) ?_; rotate_left; (focus (intro w hSw; (try dsimp only at hSw); go_simp; all_goals with_reducible rfl)); (try simp only [Act.put, List.getElem_toArray, List.getElem_cons_succ, List.getElem_cons_zero, List.setIfInBounds_toArray, List.set_cons_zero, List.set_cons_succ]))
  (refine wpAnyH_take (i := 11) (v := ?_) rfl (by kernel_rfl) (by kernel_rfl) (by kernel_rfl) (fun _ _ _ h => h) (Or.inl ⟨by kernel_rfl, ?_⟩) (by assumption) ?_; rotate_left; (focus (intro w hSw; (try dsimp only at hSw); go_simp; all_goals with_reducible rfl)); (try simp only [Act.put, List.getElem_toArray, List.getElem_cons_succ, List.getElem_cons_zero, List.setIfInBounds_toArray, List.set_cons_zero, List.set_cons_succ]))
  (refine wpAnyH_take (i := 12) (v := ?_) rfl (by kernel_rfl) (by kernel_rfl) (by kernel_rfl) (fun _ _ _ h => h) (Or.inl ⟨by kernel_rfl, ?_⟩) (by assumption) ?_; rotate_left; (focus (intro w hSw; (try dsimp only at hSw); go_simp; all_goals with_reducible rfl)); (try simp only [Act.put, List.getElem_toArray, List.getElem_cons_succ, List.getElem_cons_zero, List.setIfInBounds_toArray, List.set_cons_zero, List.set_cons_succ]))
  (refine wpAnyH_take (i := 13) (v := ?_) rfl (by kernel_rfl) (by kernel_rfl) (by kernel_rfl) (fun _ _ _ h => h) (Or.inl ⟨by kernel_rfl, ?_⟩) (by assumption) ?_; rotate_left; (focus (intro w hSw; (try dsimp only at hSw); go_simp; all_goals with_reducible rfl)); (try simp only [Act.put, List.getElem_toArray, List.getElem_cons_succ, List.getElem_cons_zero, List.setIfInBounds_toArray, List.set_cons_zero, List.set_cons_succ]))
  (refine wpAnyH_take (i := 14) (v := ?_) rfl (by kernel_rfl) (by kernel_rfl) (by kernel_rfl) (fun _ _ _ h => h) (Or.inl ⟨by kernel_rfl, ?_⟩) (by assumption) ?_; rotate_left; (focus (intro w hSw; (try dsimp only at hSw); go_simp; all_goals with_reducible rfl)); (try simp only [Act.put, List.getElem_toArray, List.getElem_cons_succ, List.getElem_cons_zero, List.setIfInBounds_toArray, List.set_cons_zero, List.set_cons_succ]))
  (refine wpAnyH_take (i := 15) (v := ?_) rfl (by kernel_rfl) (by kernel_rfl) (by kernel_rfl) (fun _ _ _ h => h) (Or.inl ⟨by kernel_rfl, ?_⟩) (by assumption) ?_; rotate_left; (focus (intro w hSw; (try dsimp only at hSw); go_simp; all_goals with_reducible rfl)); (try simp only [Act.put, List.getElem_toArray, List.getElem_cons_succ, List.getElem_cons_zero, List.setIfInBounds_toArray, List.set_cons_zero, List.set_cons_succ]))
  (refine wpAnyH_take (i := 16) (v := ?_) rfl (by kernel_rfl) (by kernel_rfl) (by kernel_rfl) (fun _ _ _ h => h) (Or.inl ⟨by kernel_rfl, ?_⟩) (by assumption) ?_; rotate_left; (focus (intro w hSw; (try dsimp only at hSw); go_simp; all_goals with_reducible rfl)); (try simp only [Act.put, List.getElem_toArray, List.getElem_cons_succ, List.getElem_cons_zero, List.setIfInBounds_toArray, List.set_cons_zero, List.set_cons_succ]))
  (refine wpAnyH_take (i := 17) (v := ?_) rfl (by kernel_rfl) (by kernel_rfl) (by kernel_rfl) (fun _ _ _ h => h) (Or.inl ⟨by kernel_rfl, ?_⟩) (by assumption) ?_; rotate_left; (focus (intro w hSw; (try dsimp only at hSw); go_simp; all_goals with_reducible rfl)); (try simp only [Act.put, List.getElem_toArray, List.getElem_cons_succ, List.getElem_cons_zero, List.setIfInBounds_toArray, List.set_cons_zero, List.set_cons_succ]))
  (refine wpAnyH_take (i := 18) (v := ?_) rfl (by kernel_rfl) (by kernel_rfl) (by kernel_rfl) (fun _ _ _ h => h) (Or.inl ⟨by kernel_rfl, ?_⟩) (by assumption) ?_; rotate_left; (focus (intro w hSw; (try dsimp only at hSw); go_simp; all_goals with_reducible rfl)); (try simp only [Act.put, List.getElem_toArray, List.getElem_cons_succ, List.getElem_cons_zero, List.setIfInBounds_toArray, List.set_cons_zero, List.set_cons_succ]))
  (refine wpAnyH_ready (rs := [19]) (by kernel_rfl) (by simp) ?_; refine AllReadyH.cons rfl (fun K hK => ?_) AllReadyH.nil; go_simp)
  go_at_call 41
  refine (van_any _).mono ?_
  rintro e w6 ⟨g6, rfl, Iw6, bw6, lw6⟩
  have Bw6 : Below w2.heap.size w2 w6 := Below.trans (Bw5) (bw6.mono (by first | omega | (simp <;> omega)))
  have zw6 := Bw6.size
  (refine hK.out _ _ ?_ (fun hHeld => ?_))
  · exact hS _ Bw6
  clear hK K
  (try simp only [Act.put, List.getElem_toArray, List.getElem_cons_succ, List.getElem_cons_zero, List.setIfInBounds_toArray, List.set_cons_zero, List.set_cons_succ])
  (refine wpAnyH_ready (rs := [20]) (by kernel_rfl) (by simp) ?_; refine AllReadyH.cons rfl (fun K hK => ?_) AllReadyH.nil; go_simp)
  go_at_call 16
  refine (able_any vanT (some ⟨g6, 0, none⟩) 1 4 van_fits (by omega) _).mono ?_
  rw [van_able4]
  rintro e w7 ⟨rfl, bw7⟩
  have Bw7 : Below w2.heap.size w2 w7 := Bw6.trans (bw7.mono (by omega))
  have zw7 := Bw7.size
  (refine hK.out _ _ ?_ (fun hHeld => ?_))
  · exact hS _ Bw7
  clear hK K
  (try simp only [Act.put, List.getElem_toArray, List.getElem_cons_succ, List.getElem_cons_zero, List.setIfInBounds_toArray, List.set_cons_zero, List.set_cons_succ])
  (refine wpAnyH_take (i := 21) (v := ?_) rfl (by kernel_rfl) (by kernel_rfl) (by kernel_rfl) (fun _ _ _ h => h) (Or.inl ⟨by kernel_rfl, ?_⟩) (by assumption) ?_; rotate_left; (focus (intro w hSw; (try dsimp only at hSw); go_simp; all_goals with_reducible rfl)); (try simp only [Act.put, List.getElem_toArray, List.getElem_cons_succ, List.getElem_cons_zero, List.setIfInBounds_toArray, List.set_cons_zero, List.set_cons_succ]))
  (refine wpAnyH_take (i := 22) (v := ?_) rfl (by kernel_rfl) (by kernel_rfl) (by kernel_rfl) (fun _ _ _ h => h) (Or.inl ⟨by kernel_rfl, ?_⟩) (by assumption) ?_; rotate_left; (focus (intro w hSw; (try dsimp only at hSw); go_simp; all_goals with_reducible rfl)); (try simp only [Act.put, List.getElem_toArray, List.getElem_cons_succ, List.getElem_cons_zero, List.setIfInBounds_toArray, List.set_cons_zero, List.set_cons_succ]))
  (refine wpAnyH_ready (rs := [23]) (by kernel_rfl) (by simp) ?_; refine AllReadyH.cons rfl (fun K hK => ?_) AllReadyH.nil; go_simp)
  go_at_call 41
  refine (van_any _).mono ?_
  rintro e w8 ⟨g8, rfl, Iw8, bw8, lw8⟩
  have Bw8 : Below w2.heap.size w2 w8 := Below.trans (Bw7) (bw8.mono (by first | omega | (simp <;> omega)))
  have zw8 := Bw8.size
  (refine hK.out _ _ ?_ (fun hHeld => ?_))
  · exact hS _ Bw8
  clear hK K
  (try simp only [Act.put, List.getElem_toArray, List.getElem_cons_succ, List.getElem_cons_zero, List.setIfInBounds_toArray, List.set_cons_zero, List.set_cons_succ])
  (refine wpAnyH_ready (rs := [24]) (by kernel_rfl) (by simp) ?_; refine AllReadyH.cons rfl (fun K hK => ?_) AllReadyH.nil; go_simp)
  go_at_call 16
  refine (able_any vanT (some ⟨g8, 0, none⟩) 1 2 van_fits (by omega) _).mono ?_
  rw [van_able2]
  rintro e w9 ⟨rfl, bw9⟩
  have Bw9 : Below w2.heap.size w2 w9 := Bw8.trans (bw9.mono (by omega))
  have zw9 := Bw9.size
  (refine hK.out _ _ ?_ (fun hHeld => ?_))
  · exact hS _ Bw9
  clear hK K
  (try simp only [Act.put, List.getElem_toArray, List.getElem_cons_succ, List.getElem_cons_zero, List.setIfInBounds_toArray, List.set_cons_zero, List.set_cons_succ])
  (refine wpAnyH_take (i := 25) (v := ?_) rfl (by kernel_rfl) (by kernel_rfl) (by kernel_rfl) (fun _ _ _ h => h) (Or.inl ⟨by kernel_rfl, ?_⟩) (by assumption) ?_; rotate_left; (focus (intro w hSw; (try dsimp only at hSw); go_simp; all_goals with_reducible rfl)); (try simp only [Act.put, List.getElem_toArray, List.getElem_cons_succ, List.getElem_cons_zero, List.setIfInBounds_toArray, List.set_cons_zero, List.set_cons_succ]))
  (refine wpAnyH_take (i := 26) (v := ?_) rfl (by kernel_rfl) (by kernel_rfl) (by kernel_rfl) (fun _ _ _ h => h) (Or.inl ⟨by kernel_rfl, ?_⟩) (by assumption) ?_; rotate_left; (focus (intro w hSw; (try dsimp only at hSw); go_simp; all_goals with_reducible rfl)); (try simp only [Act.put, List.getElem_toArray, List.getElem_cons_succ, List.getElem_cons_zero, List.setIfInBounds_toArray, List.set_cons_zero, List.set_cons_succ]))
  (refine wpAnyH_take (i := 27) (v := ?_) rfl (by kernel_rfl) (by kernel_rfl) (by kernel_rfl) (fun _ _ _ h => h) (Or.inl ⟨by kernel_rfl, ?_⟩) (by assumption) ?_; rotate_left; (focus (intro w hSw; (try dsimp only at hSw); go_simp; all_goals with_reducible rfl)); (try simp only [Act.put, List.getElem_toArray, List.getElem_cons_succ, List.getElem_cons_zero, List.setIfInBounds_toArray, List.set_cons_zero, List.set_cons_succ]))
  (refine wpAnyH_ready (rs := [28]) (by kernel_rfl) (by simp) ?_; refine AllReadyH.cons rfl (fun K hK => ?_) AllReadyH.nil; go_simp)
  go_at_call 41
  refine (van_any _).mono ?_
  rintro e wa ⟨ga, rfl, Iwa, bwa, lwa⟩
  have Bwa : Below w2.heap.size w2 wa := Below.trans (Bw9) (bwa.mono (by first | omega | (simp <;> omega)))
  have zwa := Bwa.size
  (refine hK.out _ _ ?_ (fun hHeld => ?_))
  · exact hS _ Bwa
  clear hK K
  (try simp only [Act.put, List.getElem_toArray, List.getElem_cons_succ, List.getElem_cons_zero, List.setIfInBounds_toArray, List.set_cons_zero, List.set_cons_succ])
  (refine wpAnyH_ready (rs := [29]) (by kernel_rfl) (by simp) ?_; refine AllReadyH.cons rfl (fun K hK => ?_) AllReadyH.nil; go_simp)
  have Bb : ∀ o, Below w2.heap.size w2 (wa.alloc o) := fun o => Bwa.alloc zwa o
  (refine hK.out _ _ ?_ (fun hHeld => ?_))
  · exact hS _ (Bb _)
  clear hK K
  (try simp only [Act.put, List.getElem_toArray, List.getElem_cons_succ, List.getElem_cons_zero, List.setIfInBounds_toArray, List.set_cons_zero, List.set_cons_succ])
  (refine wpAnyH_ready (rs := [30]) (by kernel_rfl) (by simp) ?_; refine AllReadyH.cons rfl (fun K hK => ?_) AllReadyH.nil; go_simp)
  go_at_call 20
  refine (dims_any (some ⟨wa.heap.size, 0, none⟩) 1 [vanT] _ _ (row_ty_one wa vanT (some ⟨ga, 0, none⟩) 1 Iwa van_fits)).mono ?_
  rw [show dimsN [vanT] = 1 from rfl]
  rintro e wc ⟨rfl, rfl⟩
  (refine hK.out _ _ ?_ (fun hHeld => ?_))
  · exact hS _ (Bb _)
  clear hK K
  (try simp only [Act.put, List.getElem_toArray, List.getElem_cons_succ, List.getElem_cons_zero, List.setIfInBounds_toArray, List.set_cons_zero, List.set_cons_succ])
  (refine wpAnyH_take (i := 31) (v := ?_) rfl (by kernel_rfl) (by kernel_rfl) (by kernel_rfl) (fun _ _ _ h => h) (Or.inl ⟨by kernel_rfl, ?_⟩) (by assumption) ?_; rotate_left; (focus (intro w hSw; (try dsimp only at hSw); go_simp; all_goals with_reducible rfl)); (try simp only [Act.put, List.getElem_toArray, List.getElem_cons_succ, List.getElem_cons_zero, List.setIfInBounds_toArray, List.set_cons_zero, List.set_cons_succ]))
  (refine wpAnyH_take (i := 32) (v := ?_) rfl (by kernel_rfl) (by kernel_rfl) (by kernel_rfl) (fun _ _ _ h => h) (Or.inl ⟨by kernel_rfl, ?_⟩) (by assumption) ?_; rotate_left; (focus (intro w hSw; (try dsimp only at hSw); go_simp; all_goals with_reducible rfl)); (try simp only [Act.put, List.getElem_toArray, List.getElem_cons_succ, List.getElem_cons_zero, List.setIfInBounds_toArray, List.set_cons_zero, List.set_cons_succ]))
  (refine wpAnyH_take (i := 33) (v := ?_) rfl (by kernel_rfl) (by kernel_rfl) (by kernel_rfl) (fun _ _ _ h => h) (Or.inl ⟨by kernel_rfl, ?_⟩) (by assumption) ?_; rotate_left; (focus (intro w hSw; (try dsimp only at hSw); go_simp; all_goals with_reducible rfl)); (try simp only [Act.put, List.getElem_toArray, List.getElem_cons_succ, List.getElem_cons_zero, List.setIfInBounds_toArray, List.set_cons_zero, List.set_cons_succ]))
  (refine wpAnyH_ready (rs := [34]) (by kernel_rfl) (by simp) ?_; refine AllReadyH.cons rfl (fun K hK => ?_) AllReadyH.nil; go_simp)
  go_at_call 41
  refine (van_any _).mono ?_
  rintro e wd ⟨gd, rfl, Iwd, bwd, lwd⟩
  have Bwd : Below w2.heap.size w2 wd := Below.trans (Bb _) (bwd.mono (by first | omega | (simp <;> omega)))
  have zwd := Bwd.size
  (refine hK.out _ _ ?_ (fun hHeld => ?_))
  · exact hS _ Bwd
  clear hK K
  (try simp only [Act.put, List.getElem_toArray, List.getElem_cons_succ, List.getElem_cons_zero, List.setIfInBounds_toArray, List.set_cons_zero, List.set_cons_succ])
  (refine wpAnyH_ready (rs := [35]) (by kernel_rfl) (by simp) ?_; refine AllReadyH.cons rfl (fun K hK => ?_) AllReadyH.nil; go_simp)
  go_at_call 41
  refine (van_any _).mono ?_
  rintro e wf ⟨ge, rfl, Iwf, bwf, lwf⟩
  have Bwf : Below w2.heap.size w2 wf := Below.trans (Bwd) (bwf.mono (by first | omega | (simp <;> omega)))
  have zwf := Bwf.size
  (refine hK.out _ _ ?_ (fun hHeld => ?_))
  · exact hS _ Bwf
  clear hK K
  (try simp only [Act.put, List.getElem_toArray, List.getElem_cons_succ, List.getElem_cons_zero, List.setIfInBounds_toArray, List.set_cons_zero, List.set_cons_succ])
  have Jwd := Ints.more (Ints.below Iwd bwf) bwf.size
  (refine wpAnyH_ready (rs := [36]) (by kernel_rfl) (by simp) ?_; refine AllReadyH.cons rfl (fun K hK => ?_) AllReadyH.nil; go_simp)
  go_at_call 18
  first
    | (refine (same_any vanT vanT (some ⟨gd, 0, none⟩) 1 (some ⟨ge, 0, none⟩) 1 _ Jwd Iwf).mono ?_; rw [van_same]; rintro e we ⟨rfl, bwe⟩; have Bwe : Below w2.heap.size w2 we := Bwf.trans (bwe.mono (by omega)))
    | (refine (same_any vanT vanT (some ⟨ge, 0, none⟩) 1 (some ⟨gd, 0, none⟩) 1 _ Iwf Jwd).mono ?_; rw [van_same]; rintro e we ⟨rfl, bwe⟩; have Bwe : Below w2.heap.size w2 we := Bwf.trans (bwe.mono (by omega)))
  (refine hK.out _ _ ?_ (fun hHeld => ?_))
  · exact hS _ Bwe
  clear hK K
  (try simp only [Act.put, List.getElem_toArray, List.getElem_cons_succ, List.getElem_cons_zero, List.setIfInBounds_toArray, List.set_cons_zero, List.set_cons_succ])
  (refine wpAnyH_take (i := 37) (v := ?_) rfl (by kernel_rfl) (by kernel_rfl) (by kernel_rfl) (fun _ _ _ h => h) (Or.inl ⟨by kernel_rfl, ?_⟩) (by assumption) ?_; rotate_left; (focus (intro w hSw; (try dsimp only at hSw); go_simp; all_goals with_reducible rfl)); (try simp only [Act.put, List.getElem_toArray, List.getElem_cons_succ, List.getElem_cons_zero, List.setIfInBounds_toArray, List.set_cons_zero, List.set_cons_succ]))
  (refine wpAnyH_take (i := 38) (v := ?_) rfl (by kernel_rfl) (by kernel_rfl) (by kernel_rfl) (fun _ _ _ h => h) (Or.inl ⟨by kernel_rfl, ?_⟩) (by assumption) ?_; rotate_left; (focus (intro w hSw; (try dsimp only at hSw); go_simp; all_goals with_reducible rfl)); (try simp only [Act.put, List.getElem_toArray, List.getElem_cons_succ, List.getElem_cons_zero, List.setIfInBounds_toArray, List.set_cons_zero, List.set_cons_succ]))
  (refine wpAnyH_done (by kernel_rfl) ?_ _)
  go_wp2_with fail
  go_ret
  exact ⟨rfl, hB2.trans (Bwe.mono (by omega))⟩
end Go.Proofs.YthkbfmbohoclaaaDoor.flt

/- Pairs renumbered: renumber. -/
import Derived.Test.YtceceomaheobhaaGreatDoorBase
import Derived.Deep.RegionHeld3
import Derived.Deep.RegionWith
import Derived.Deep.DeepCutAuto
import Derived.Outline
namespace Go.Proofs.YtceceomaheobhaaGreatDoor.ren
open Go.RowKit
open Go.Proofs.YtceceomaheobhaaGreatDoor.lib Go.Proofs.YtceceomaheobhaaGreatDoor.rd Go.Proofs.YtceceomaheobhaaGreatDoor.eqg Go.Proofs.YtceceomaheobhaaGreatDoor.idx Go.Proofs.YtceceomaheobhaaGreatDoor.app
set_option linter.unusedVariables false
set_option linter.unusedSimpArgs false

theorem two_elem : ElemOf 28 88 (.agg #[.int .i64 0, .int .i64 0]) 2 16 := ⟨Tryz.underlying28, by kernel_rfl, rfl, by decide, by decide⟩
def tcs (ps : List (Int × Int)) : List Value := ps.flatMap fun p => [.int .i64 p.1, .int .i64 p.2]
theorem tcs_snoc (ps : List (Int × Int)) (p : Int × Int) : tcs (ps ++ [p]) = tcs ps ++ [.int .i64 p.1, .int .i64 p.2] := by simp [tcs]
def TwosOut (w : World) (ps : List (Int × Int)) (e : Ending) (w' : World) : Prop := ∃ A c, e = .returned (.slice A ps.length c) ∧ w'.ownsRow w.heap.size 88 2 (.slice A ps.length c) ps.length (tcs ps) ∧ Below w.heap.size w w'
def renP (old : List Int) (p : Int × Int) : List (Int × Int) := if 0 ≤ idxI old p.1 ∧ 0 ≤ idxI old p.2 then [(idxI old p.1, idxI old p.2)] else []
def renL (old : List Int) (l : List (Int × Int)) : List (Int × Int) := l.flatMap (renP old)
theorem renL_take {old : List Int} {l : List (Int × Int)} {k : Nat} {x : Int × Int} (h : l[k]? = some x) : renL old (l.take (k + 1)) = renL old (l.take k) ++ renP old x := by
  obtain ⟨h1, h2⟩ := List.getElem?_eq_some_iff.1 h
  unfold renL
  rw [List.take_succ_eq_append_getElem h1, h2, List.flatMap_append]
  simp
theorem renL_len (old : List Int) : ∀ l : List (Int × Int), (renL old l).length ≤ l.length
  | [] => by simp [renL]
  | x :: l => by
    have ih := renL_len old l
    unfold renL at ih ⊢
    rw [List.flatMap_cons, List.length_append, List.length_cons]
    have : (renP old x).length ≤ 1 := by unfold renP; split <;> simp
    omega

set_option maxRecDepth 20000 in
set_option maxHeartbeats 4000000 in
theorem renumber_any (A : Option Addr) (c : Nat) (l : List (Int × Int)) (A' : Option Addr) (c' : Nat) (old : List Int) (w : World) (hL : RowAt (rPair rInt rInt) w w.heap.size A l) (hO : Ints w w.heap.size A' old) (hl : l.length ≤ 1000000) :
    Calls Tryz.prog 48 #[.slice A l.length c, .slice A' old.length c'] w (TwosOut w (renL old l)) := by
  obtain ⟨n, hn⟩ : ∃ n, l.length = n := ⟨_, rfl⟩
  have HN := Lib.hid hn
  have HLEN : Hid (∀ k, k ≤ n → (renL old (l.take k)).length ≤ k) := Lib.hid fun k hk => by have := renL_len old (l.take k); rw [List.length_take] at this; omega
  rw [hn] at hl ⊢
  clear hn
  go_enter Tryz.func48, Tryz.ntmps48
  go_wp2
  go_loopw [5, 7, 8, 9, 12] (fun v _ _ _ i wr => ∃ (k : Nat) (A2 : Option Addr) (c2 : Nat), k ≤ n ∧ i = .int .i64 k ∧ v = .slice A2 (renL old (l.take k)).length c2 ∧ wr.ownsRow w.heap.size 88 2 (.slice A2 (renL old (l.take k)).length c2) (renL old (l.take k)).length (tcs (renL old (l.take k))) ∧ Below w.heap.size w wr) (fun _ _ _ _ i _ => n - (intOf i).toNat)
  case atStart => exact ⟨0, none, 0, by omega, rfl, rfl, World.ownsRow_nil _ _ _ _, Below.refl _ _⟩
  case round =>
    obtain ⟨k, A2, c2, hk, rfl, rfl, hown, hb⟩ := hrel
    have hz := hb.size
    by_cases hlt : k < n
    · obtain ⟨x, hx⟩ : ∃ x, l[k]? = some x := ⟨_, List.getElem?_eq_getElem (by rw [HN.out]; exact hlt)⟩
      obtain ⟨ad, rfl, hadb, ⟨m0, m1⟩, _⟩ := row_Two (hL.below hb) hx
      have hk0 : (0 : Int) ≤ (k : Int) := by omega
      have hkn : (k : Int) < (n : Int) := by omega
      have HT := Lib.hid (renL_take (old := old) hx)
      have hlk := HLEN.out k hk
      have HO : Hid (∀ w', Below wr.heap.size wr w' → Ints w' w.heap.size A' old) := Lib.hid fun w' h => hO.below (hb.trans (h.mono hz))
      obtain ⟨ps, hps⟩ : ∃ ps, renL old (l.take k) = ps := ⟨_, rfl⟩
      rw [hps] at hown HT hlk
      simp only [hps]
      clear hx hps
      go_upto_region 5 with fail
      have k0 : (wr.alloc (.cells #[.int .i64 x.1, .int .i64 x.2] 88)).cell? ⟨wr.heap.size, 0, none⟩ = some (.int .i64 x.1) := two_new wr _ _ _ 0 _ rfl
      have k1 : (wr.alloc (.cells #[.int .i64 x.1, .int .i64 x.2] 88)).cell? ⟨wr.heap.size, 1, none⟩ = some (.int .i64 x.2) := two_new wr _ _ _ 1 _ rfl
      obtain ⟨W1, hW1⟩ : ∃ W1, wr.alloc (.cells #[.int .i64 x.1, .int .i64 x.2] 88) = W1 := ⟨_, rfl⟩
      have B1 : Below wr.heap.size wr W1 := by rw [← hW1]; exact (Below.refl _ _).alloc (Nat.le_refl _) _
      have hown1 : W1.ownsRow w.heap.size 88 2 (.slice A2 ps.length c2) ps.length (tcs ps) := by rw [← hW1]; exact hown.alloc _
      rw [hW1] at k0 k1 ⊢
      have hS : ∀ w', Below W1.heap.size W1 w' → (Below W1.heap.size W1 w' ∧ w'.cell? ⟨wr.heap.size, 0, none⟩ = some (.int .i64 x.1) ∧ w'.cell? ⟨wr.heap.size, 1, none⟩ = some (.int .i64 x.2)) := fun w' h => ⟨h, (h.cell (p := ⟨wr.heap.size, 0, none⟩) (block_lt_of_cell k0)).trans k0, (h.cell (p := ⟨wr.heap.size, 1, none⟩) (block_lt_of_cell k1)).trans k1⟩
      clear hW1 m0 m1
      (refine wp_region_held_drew (S := (fun w' => Below W1.heap.size W1 w' ∧ w'.cell? ⟨wr.heap.size, 0, none⟩ = some (.int .i64 x.1) ∧ w'.cell? ⟨wr.heap.size, 1, none⟩ = some (.int .i64 x.2))) (by kernel_rfl) ?_ (fun hHeld => ?_))
      · exact hS _ ((Below.refl _ _).drew)
      (refine wpAnyH_take (i := 0) (v := ?_) rfl (by kernel_rfl) (by kernel_rfl) (by kernel_rfl) (fun _ _ _ h => h) (Or.inl ⟨by kernel_rfl, ?_⟩) (by assumption) ?_; rotate_left; (focus (intro w hSw; (try dsimp only at hSw); go_simp; all_goals with_reducible rfl)); (try simp only [Act.put, List.getElem_toArray, List.getElem_cons_succ, List.getElem_cons_zero, List.setIfInBounds_toArray, List.set_cons_zero, List.set_cons_succ]))
      (refine wpAnyH_take (i := 1) (v := ?_) rfl (by kernel_rfl) (by kernel_rfl) (by kernel_rfl) (fun _ _ _ h => h) (Or.inl ⟨by kernel_rfl, ?_⟩) (by assumption) ?_; rotate_left; (focus (intro w hSw; (try dsimp only at hSw); go_simp; all_goals with_reducible rfl)); (try simp only [Act.put, List.getElem_toArray, List.getElem_cons_succ, List.getElem_cons_zero, List.setIfInBounds_toArray, List.set_cons_zero, List.set_cons_succ]))
      (refine wpAnyH_take (i := 2) (v := ?_) rfl (by kernel_rfl) (by kernel_rfl) (by kernel_rfl) (fun _ _ _ h => h) (Or.inl ⟨by kernel_rfl, ?_⟩) (by assumption) ?_; rotate_left; (focus (intro w hSw; (try dsimp only at hSw); go_simp; all_goals with_reducible rfl)); (try simp only [Act.put, List.getElem_toArray, List.getElem_cons_succ, List.getElem_cons_zero, List.setIfInBounds_toArray, List.set_cons_zero, List.set_cons_succ]))
      (refine wpAnyH_take (i := 4) (v := ?_) rfl (by kernel_rfl) (by kernel_rfl) (by kernel_rfl) (fun _ _ _ h => h) (Or.inl ⟨by kernel_rfl, ?_⟩) (by assumption) ?_; rotate_left; (focus (intro w hSw; (try dsimp only at hSw); go_simp; all_goals with_reducible rfl)); (try simp only [Act.put, List.getElem_toArray, List.getElem_cons_succ, List.getElem_cons_zero, List.setIfInBounds_toArray, List.set_cons_zero, List.set_cons_succ]))
      (refine wpAnyH_take (i := 5) (v := ?_) rfl (by kernel_rfl) (by kernel_rfl) (by kernel_rfl) (fun _ _ _ h => h) (Or.inl ⟨by kernel_rfl, ?_⟩) (by assumption) ?_; rotate_left; (focus (intro w hSw; (try dsimp only at hSw); go_simp; all_goals with_reducible rfl)); (try simp only [Act.put, List.getElem_toArray, List.getElem_cons_succ, List.getElem_cons_zero, List.setIfInBounds_toArray, List.set_cons_zero, List.set_cons_succ]))
      (refine wpAnyH_take (i := 6) (v := ?_) rfl (by kernel_rfl) (by kernel_rfl) (by kernel_rfl) (fun _ _ _ h => h) (Or.inl ⟨by kernel_rfl, ?_⟩) (by assumption) ?_; rotate_left; (focus (intro w hSw; (try dsimp only at hSw); go_simp; all_goals with_reducible rfl)); (try simp only [Act.put, List.getElem_toArray, List.getElem_cons_succ, List.getElem_cons_zero, List.setIfInBounds_toArray, List.set_cons_zero, List.set_cons_succ]))
      (refine wpAnyH_ready (rs := [3]) (by kernel_rfl) (by simp) ?_; refine AllReadyH.cons rfl (fun K hK => ?_) AllReadyH.nil; go_simp)
      go_at_call 89
      refine (index_any A' c' old x.1 _ _ (HO.out _ (B1.trans (((Below.refl _ _).drew).mono B1.size)))).mono ?_
      rintro e w2 ⟨rfl, rfl⟩
      (refine hK.out _ _ ?_ (fun hHeld => ?_))
      · exact hS _ ((Below.refl _ _).drew)
      clear hK K
      (try simp only [Act.put, List.getElem_toArray, List.getElem_cons_succ, List.getElem_cons_zero, List.setIfInBounds_toArray, List.set_cons_zero, List.set_cons_succ])
      (refine wpAnyH_ready (rs := [7]) (by kernel_rfl) (by simp) ?_; refine AllReadyH.cons rfl (fun K hK => ?_) AllReadyH.nil; go_simp)
      go_at_call 89
      refine (index_any A' c' old x.2 _ _ (HO.out _ (B1.trans (((Below.refl _ _).drew).mono B1.size)))).mono ?_
      rintro e w2 ⟨rfl, rfl⟩
      (refine hK.out _ _ ?_ (fun hHeld => ?_))
      · exact hS _ ((Below.refl _ _).drew)
      clear hK K
      (try simp only [Act.put, List.getElem_toArray, List.getElem_cons_succ, List.getElem_cons_zero, List.setIfInBounds_toArray, List.set_cons_zero, List.set_cons_succ])
      (refine wpAnyH_take (i := 8) (v := ?_) rfl (by kernel_rfl) (by kernel_rfl) (by kernel_rfl) (fun _ _ _ h => h) (Or.inl ⟨by kernel_rfl, ?_⟩) (by assumption) ?_; rotate_left; (focus (intro w hSw; (try dsimp only at hSw); go_simp; all_goals with_reducible rfl)); (try simp only [Act.put, List.getElem_toArray, List.getElem_cons_succ, List.getElem_cons_zero, List.setIfInBounds_toArray, List.set_cons_zero, List.set_cons_succ]))
      (refine wpAnyH_take (i := 9) (v := ?_) rfl (by kernel_rfl) (by kernel_rfl) (by kernel_rfl) (fun _ _ _ h => h) (Or.inl ⟨by kernel_rfl, ?_⟩) (by assumption) ?_; rotate_left; (focus (intro w hSw; (try dsimp only at hSw); go_simp; all_goals with_reducible rfl)); (try simp only [Act.put, List.getElem_toArray, List.getElem_cons_succ, List.getElem_cons_zero, List.setIfInBounds_toArray, List.set_cons_zero, List.set_cons_succ]))
      (refine wpAnyH_done (by kernel_rfl) ?_ _)
      have Bd : Below wr.heap.size wr (W1.drew) := B1.trans (((Below.refl W1.heap.size W1).drew).mono B1.size)
      have hown2 : (W1.drew).ownsRow w.heap.size 88 2 (.slice A2 ps.length c2) ps.length (tcs ps) := own_below hown1 ((Below.refl _ _).drew)
      obtain ⟨W2, hW2⟩ : ∃ W2, W1.drew = W2 := ⟨_, rfl⟩
      rw [hW2] at hown2 Bd ⊢
      clear hW2 hown1 hown k0 k1
      have HP : Hid (renP old x = if 0 ≤ idxI old x.1 ∧ 0 ≤ idxI old x.2 then [(idxI old x.1, idxI old x.2)] else []) := Lib.hid rfl
      obtain ⟨i1, hi1⟩ : ∃ i, idxI old x.1 = i := ⟨_, rfl⟩
      obtain ⟨i2, hi2⟩ : ∃ i, idxI old x.2 = i := ⟨_, rfl⟩
      rw [hi1, hi2] at HP
      simp only [hi1, hi2]
      clear hi1 hi2
      have z2 := Bd.size
      have BW2 : Below w.heap.size w W2 := hb.trans (Bd.mono hz)
      by_cases h1 : 0 ≤ i1
      · by_cases h2 : 0 ≤ i2
        · have HE : Hid (renL old (l.take (k + 1)) = ps ++ [(i1, i2)]) := Lib.hid (by rw [HT.out, HP.out, if_pos ⟨h1, h2⟩])
          go_wp2_with (at_builtin; refine wpList_app two_elem _ _ rfl w.heap.size A2 ps.length c2 (tcs ps) rfl (hown2.alloc _) ⟨W2.heap.size, 0, none⟩ 1 [.int .i64 i1, .int .i64 i2] rfl rfl (two_new _ _ _ _) (by simp [Value.oneCell']) (by omega) (by simp; omega) rfl ?_; intro g3 c3 w3 hown3 hg3 hd3)
          go_roundw
          case rel => exact ⟨k + 1, some ⟨g3, 0, none⟩, c3, by omega, by go_num, by rw [HE.out, List.length_append]; rfl, by rw [HE.out, List.length_append, tcs_snoc]; exact hown3, (BW2.alloc (by omega) _).grown hg3 (by simp; omega) (fun q e => (World.ownsRow.lt hown2 q e).1)⟩
          case measure => simp [intOf]; omega
        · have HE : Hid (renL old (l.take (k + 1)) = ps) := Lib.hid (by rw [HT.out, HP.out, if_neg (by omega), List.append_nil])
          go_wp2
          go_roundw
          case rel => exact ⟨k + 1, A2, c2, by omega, by go_num, by rw [HE.out], by rw [HE.out]; exact hown2, BW2⟩
          case measure => simp [intOf]; omega
      · have HE : Hid (renL old (l.take (k + 1)) = ps) := Lib.hid (by rw [HT.out, HP.out, if_neg (by omega), List.append_nil])
        go_wp2
        go_roundw
        case rel => exact ⟨k + 1, A2, c2, by omega, by go_num, by rw [HE.out], by rw [HE.out]; exact hown2, BW2⟩
        case measure => simp [intOf]; omega
    · have hkn : k = n := by omega
      subst hkn
      have HE : Hid (renL old (l.take k) = renL old l) := Lib.hid (by rw [List.take_of_length_le (by rw [HN.out]; exact Nat.le_refl _)])
      go_wp2
      go_ret
      rw [HE.out] at hown ⊢
      exact ⟨A2, c2, rfl, hown, hb⟩
end Go.Proofs.YtceceomaheobhaaGreatDoor.ren

/- Contracts of the random package and of its reference: the next state, a number below n, a shuffle. -/
import Derived.Test.YtpoejdejedbjdaaRndP
import Derived.Test.YtpoejdejedbjdaaLib
import Derived.RegionTactic
namespace Go.Proofs.Ytpoejdejedbjdaa.rnd
open Go.RowKit
open Go.Proofs.Ytpoejdejedbjdaa.lib
set_option linter.unusedVariables false

theorem good_any (a : Int) (w : World) : Calls Try.prog 37 #[.int .i64 a] w fun e w' => e = .returned (.int .i64 (good a)) ∧ w = w' := by
  have h := tmod_bd a
  go_enter Try.func37, Try.ntmps37
  go_wp2
  all_goals go_ret
  all_goals exact ⟨ret_int (by (try simp only [beq_iff_eq, beq_eq_false_iff_ne, ne_eq] at *); unfold good; split <;> first | rfl | omega | (split <;> first | rfl | omega)), rfl⟩
theorem rgood_any (a : Int) (w : World) : Calls Try.prog 29 #[.int .i64 a] w fun e w' => e = .returned (.int .i64 (good a)) ∧ w = w' := by
  have h := tmod_bd a
  go_enter Try.func29, Try.ntmps29
  go_wp2
  all_goals go_ret
  all_goals exact ⟨ret_int (by (try simp only [beq_iff_eq, beq_eq_false_iff_ne, ne_eq] at *); unfold good; split <;> first | rfl | omega | (split <;> first | rfl | omega)), rfl⟩

theorem next_any (a : Int) (w : World) : Calls Try.prog 25 #[.int .i64 a] w fun e w' => e = .returned (.int .i64 (nxt a)) ∧ w = w' := by
  have h := good_bd a
  go_enter Try.func25, Try.ntmps25
  go_wp2_with (go_at_call 37; refine (good_any _ _).mono ?_; rintro e w' ⟨rfl, rfl⟩)
  go_ret
  exact ⟨rfl, rfl⟩
theorem rnext_any (a : Int) (w : World) : Calls Try.prog 28 #[.int .i64 a] w fun e w' => e = .returned (.int .i64 (nxt a)) ∧ w = w' := by
  have h := good_bd a
  go_enter Try.func28, Try.ntmps28
  go_wp2_with (go_at_call 29; refine (rgood_any _ _).mono ?_; rintro e w' ⟨rfl, rfl⟩)
  go_ret
  exact ⟨rfl, rfl⟩

theorem below_any (a n : Int) (w : World) : Calls Try.prog 26 #[.int .i64 a, .int .i64 n] w fun e w' => e = .returned (.tuple #[.int .i64 (bel a n), .int .i64 (nxt a)]) ∧ w = w' := by
  have h := nxt_bd a
  by_cases hn : n < 1
  · go_enter Try.func26, Try.ntmps26
    go_wp2_with (go_at_call 25; refine (next_any _ _).mono ?_; rintro e w' ⟨rfl, rfl⟩)
    go_ret2
    exact ⟨ret_ii (by unfold bel; rw [if_pos hn]) rfl, rfl⟩
  · go_enter Try.func26, Try.ntmps26
    go_wp2_with (go_at_call 25; refine (next_any _ _).mono ?_; rintro e w' ⟨rfl, rfl⟩)
    go_ret2
    exact ⟨ret_ii (by unfold bel; rw [if_neg (by omega)]) rfl, rfl⟩
theorem rbelow_any (a n : Int) (w : World) : Calls Try.prog 27 #[.int .i64 a, .int .i64 n] w fun e w' => e = .returned (.tuple #[.int .i64 (bel a n), .int .i64 (nxt a)]) ∧ w = w' := by
  have h := nxt_bd a
  by_cases hn : n < 1
  · go_enter Try.func27, Try.ntmps27
    go_wp2_with (go_at_call 28; refine (rnext_any _ _).mono ?_; rintro e w' ⟨rfl, rfl⟩)
    go_ret2
    exact ⟨ret_ii (by unfold bel; rw [if_pos hn]) rfl, rfl⟩
  · go_enter Try.func27, Try.ntmps27
    go_wp2_with (go_at_call 28; refine (rnext_any _ _).mono ?_; rintro e w' ⟨rfl, rfl⟩)
    go_ret2
    exact ⟨ret_ii (by unfold bel; rw [if_neg (by omega)]) rfl, rfl⟩

theorem own_cells {w : World} {base g n cap : Nat} {l : List Int} (h : w.ownsRow base 3 1 (.slice (some ⟨g, 0, none⟩) n cap) n (l.map (.int .i64))) (j : Nat) (hj : j < n) : w.cell? ⟨g, j, none⟩ = some (.int .i64 (l[j]?.getD 0)) := by
  rw [h.cellAt j (by omega)]
  have hl : l.length = n := by simpa using h.1
  rw [List.getElem?_map, List.getElem?_eq_getElem (by omega)]
  rfl
/-- The two stores of an exchange. -/
theorem own_swap {w : World} {base g n cap : Nat} {l : List Int} (h : w.ownsRow base 3 1 (.slice (some ⟨g, 0, none⟩) n cap) n (l.map (.int .i64))) (i k : Nat) :
    ((w.setCell ⟨g, i, none⟩ (.int .i64 (l[k]?.getD 0))).setCell ⟨g, k, none⟩ (.int .i64 (l[i]?.getD 0))).ownsRow base 3 1 (.slice (some ⟨g, 0, none⟩) n cap) n ((swapL l i k).map (.int .i64)) := by
  have h1 := (h.stored i (.int .i64 (l[k]?.getD 0))).1
  have h2 := (h1.stored k (.int .i64 (l[i]?.getD 0))).1
  simpa [swapL, List.map_set] using h2

theorem own_there {w : World} {base g n cap : Nat} {xs : List Value} (h : w.ownsRow base 3 1 (.slice (some ⟨g, 0, none⟩) n cap) n xs) (i : Nat) (u : Value) (k : Nat) (hk : k < n) : ∃ v, (w.setCell ⟨g, i, none⟩ u).cell? ⟨g, k, none⟩ = some v := by
  have h1 := (h.stored i u).1
  have hl := h1.1
  rw [h1.cellAt k (by omega)]
  exact ⟨_, List.getElem?_eq_getElem (by omega)⟩

/-- What a shuffle hands back: a row of the call's own, and the state. -/
def Shuffled (w : World) (l : List Int) (n : Nat) (s : Int) (e : Ending) (w' : World) : Prop :=
  ∃ A c, e = .returned (.tuple #[.slice A n c, .int .i64 s]) ∧ w'.ownsRow w.heap.size 3 1 (.slice A n c) n (l.map (.int .i64)) ∧ Below w.heap.size w w'

set_option maxHeartbeats 1000000 in
theorem rshuffle_any (a : Int) (n : Nat) (hn : n ≤ 8192) (w : World) : Calls Try.prog 32 #[.int .i64 a, .int .i64 n] w (Shuffled w (shufL a n) n (shufS a n)) := by
  go_enter Try.func32, Try.ntmps32
  go_wp2_with (go_at_call 29; refine (rgood_any _ _).mono ?_; rintro e w' ⟨rfl, rfl⟩)
  go_loopw [7, 8] (fun v i wr => ∃ k : Nat, k ≤ n ∧ i = .int .i64 k ∧ (∃ A c, v = .slice A k c) ∧ wr.ownsRow w.heap.size 3 1 v k ((upto k).map (.int .i64)) ∧ Below w.heap.size w wr) (fun _ i _ => n - (intOf i).toNat)
  case atStart => exact ⟨0, by omega, rfl, ⟨none, 0, rfl⟩, World.ownsRow_nil _ _ _ _, Below.refl _ _⟩
  case round =>
    obtain ⟨k, hk, rfl, ⟨A, c, rfl⟩, hown, hb⟩ := hrel
    have hz := hb.size
    by_cases hlt : k < n
    · go_wp2_with (at_builtin; refine push_int rfl _ _ rfl w.heap.size _ k (upto k) rfl hown k rfl (by omega) hb.size ?_; intro A1 c1 w1 hown1 hb1 hz1)
      go_roundw
      case rel => exact ⟨k + 1, by omega, by go_num, ⟨_, _, rfl⟩, by rw [upto_succ]; exact hown1, hb.trans hb1⟩
      case measure => simp [intOf]; omega
    · have hkn : k = n := by omega
      subst hkn
      rcases Nat.eq_zero_or_pos k with h0 | hpos
      · subst h0
        go_wp2
        refine wp_loop_rounds 1 ?_
        rw [rounds_succ]
        go_wp2
        go_ret2
        exact ⟨A, c, rfl, hown, hb⟩
      · obtain ⟨g, cap, hv, hg1, hg2⟩ := hown.form hpos
        injection hv with hA _ hc
        subst hA hc
        clear hlt
        go_wp2
        obtain ⟨wo, rfl⟩ : ∃ wo : World, wo = wr := ⟨_, rfl⟩
        go_loopw [6, 9, 10, 11, 12] (fun st i _ _ _ wr => ∃ (j : Nat) (s : Int) (l : List Int), j < k ∧ i = .int .i64 j ∧ st = .int .i64 s ∧ wr.ownsRow w.heap.size 3 1 (.slice (some ⟨g, 0, none⟩) k c) k (l.map (.int .i64)) ∧ Hid (shufGo j s l = shufGo (k - 1) (good a) (upto k)) ∧ Below w.heap.size w wr) (fun _ i _ _ _ _ => (intOf i).toNat)
        case atStart => exact ⟨k - 1, good a, upto k, by omega, by congr 1; omega, rfl, hown, Lib.hid rfl, hb⟩
        case round =>
          obtain ⟨j, s, l, hj, rfl, rfl, hown2, hs, hb2⟩ := hrel
          rcases Nat.eq_zero_or_pos j with hj0 | hj0
          · subst hj0
            go_wp2
            go_ret2
            have e := hs.out
            rw [shufGo] at e
            exact ⟨_, _, ret_vi rfl (by unfold shufS; rw [← e]), by unfold shufL; rw [← e]; exact hown2, hb2⟩
          · have hbd := bel_bd s (j + 1) (by omega)
            have hcj := own_cells hown2 j (by omega)
            have hck := own_cells hown2 (bel s (j + 1)).toNat (by omega)
            have hfz := hown2.frozenAt
            obtain ⟨vk, hk2⟩ := own_there hown2 j (.int .i64 (l[(bel s (j + 1)).toNat]?.getD 0)) (bel s (j + 1)).toNat (by omega)
            go_wp2_with (go_at_call 27; refine (rbelow_any _ _ _).mono ?_; rintro e w' ⟨rfl, rfl⟩)
            go_roundw
            case rel =>
              refine ⟨j - 1, nxt s, swapL l j (bel s (j + 1)).toNat, by omega, by congr 1; omega, rfl, own_swap hown2 _ _, ?_, ?_⟩
              · refine Lib.hid (Eq.trans ?_ hs.out)
                obtain ⟨i, rfl⟩ : ∃ i, j = i + 1 := ⟨j - 1, by omega⟩
                rw [shufGo]
                simp only [Nat.add_sub_cancel]
                congr 3
              · exact (hb2.setCell (p := ⟨g, _, none⟩) hg1 _).setCell (p := ⟨g, _, none⟩) hg1 _
            case measure => simp [intOf]; omega
set_option maxHeartbeats 1000000 in
theorem shuffle_any (a : Int) (n : Nat) (hn : n ≤ 8192) (w : World) : Calls Try.prog 31 #[.int .i64 a, .int .i64 n] w (Shuffled w (shufL a n) n (shufS a n)) := by
  go_enter Try.func31, Try.ntmps31
  go_wp2_with (go_at_call 37; refine (good_any _ _).mono ?_; rintro e w' ⟨rfl, rfl⟩)
  go_loopw [6, 7, 20] (fun v _ i wr => ∃ k : Nat, k ≤ n ∧ i = .int .i64 k ∧ (∃ A c, v = .slice A k c) ∧ wr.ownsRow w.heap.size 3 1 v k ((upto k).map (.int .i64)) ∧ Below w.heap.size w wr) (fun _ _ i _ => n - (intOf i).toNat)
  case atStart => exact ⟨0, by omega, rfl, ⟨none, 0, rfl⟩, World.ownsRow_nil _ _ _ _, Below.refl _ _⟩
  case round =>
    obtain ⟨k, hk, rfl, ⟨A, c, rfl⟩, hown, hb⟩ := hrel
    have hz := hb.size
    by_cases hlt : k < n
    · go_wp2_with (at_builtin; refine push_int rfl _ _ rfl w.heap.size _ k (upto k) rfl hown k rfl (by omega) hb.size ?_; intro A1 c1 w1 hown1 hb1 hz1)
      go_roundw
      case rel => exact ⟨k + 1, by omega, by go_num, ⟨_, _, rfl⟩, by rw [upto_succ]; exact hown1, hb.trans hb1⟩
      case measure => simp [intOf]; omega
    · have hkn : k = n := by omega
      subst hkn
      rcases Nat.eq_zero_or_pos k with h0 | hpos
      · subst h0
        go_wp2
        refine wp_loop_rounds 1 ?_
        rw [rounds_succ]
        go_wp2
        go_ret2
        exact ⟨A, c, rfl, hown, hb⟩
      · obtain ⟨g, cap, hv, hg1, hg2⟩ := hown.form hpos
        injection hv with hA _ hc
        subst hA hc
        clear hlt
        go_wp2
        obtain ⟨wo, rfl⟩ : ∃ wo : World, wo = wr := ⟨_, rfl⟩
        go_loopw [0, 8, 9] (fun st i _ wr => ∃ (j : Nat) (s : Int) (l : List Int), j < k ∧ i = .int .i64 j ∧ st = .int .i64 s ∧ wr.ownsRow w.heap.size 3 1 (.slice (some ⟨g, 0, none⟩) k c) k (l.map (.int .i64)) ∧ Hid (shufGo j s l = shufGo (k - 1) (good a) (upto k)) ∧ Below w.heap.size w wr) (fun _ i _ _ => (intOf i).toNat)
        case atStart => exact ⟨k - 1, good a, upto k, by omega, by congr 1; omega, rfl, hown, Lib.hid rfl, hb⟩
        case round =>
          obtain ⟨j, s, l, hj, rfl, rfl, hown2, hs, hb2⟩ := hrel
          rcases Nat.eq_zero_or_pos j with hj0 | hj0
          · subst hj0
            go_wp2
            go_ret2
            have e := hs.out
            rw [shufGo] at e
            exact ⟨_, _, ret_vi rfl (by unfold shufS; rw [← e]), by unfold shufL; rw [← e]; exact hown2, hb2⟩
          · have hbd := bel_bd s (j + 1) (by omega)
            have hcj := own_cells hown2 j (by omega)
            have hck := own_cells hown2 (bel s (j + 1)).toNat (by omega)
            have hfz := hown2.frozenAt
            obtain ⟨vk, hk2⟩ := own_there hown2 j (.int .i64 (l[(bel s (j + 1)).toNat]?.getD 0)) (bel s (j + 1)).toNat (by omega)
            go_wp2_with (go_at_call 26; refine (below_any _ _ _).mono ?_; rintro e w' ⟨rfl, rfl⟩)
            go_region
            go_wp2
            go_roundw
            case rel =>
              refine ⟨j - 1, nxt s, swapL l j (bel s (j + 1)).toNat, by omega, by congr 1; omega, rfl, (own_swap hown2 _ _).drew, ?_, ?_⟩
              · refine Lib.hid (Eq.trans ?_ hs.out)
                obtain ⟨i, rfl⟩ : ∃ i, j = i + 1 := ⟨j - 1, by omega⟩
                rw [shufGo]
                simp only [Nat.add_sub_cancel]
                congr 3
              · exact ((hb2.setCell (p := ⟨g, _, none⟩) hg1 _).setCell (p := ⟨g, _, none⟩) hg1 _).drew
            case measure => simp [intOf]; omega

end Go.Proofs.Ytpoejdejedbjdaa.rnd

/- The law FleetParts, walked. -/
import Derived.Test.YthkbfmbohoclaaaDoorFltR
namespace Go.Proofs.YthkbfmbohoclaaaDoor.flt
open Go.RowKit
open Go.Proofs.YthkbfmbohoclaaaDoor.lib Go.Proofs.YthkbfmbohoclaaaDoor.rd Go.Proofs.YthkbfmbohoclaaaDoor.typ Go.Proofs.YthkbfmbohoclaaaDoor.txt Go.Proofs.YthkbfmbohoclaaaDoor.app
set_option linter.unusedVariables false
set_option linter.unusedSimpArgs false

theorem dims_take {l : List Ty} {k : Nat} (hk : 1 ≤ k) : dimsN (l.take k) = dimsN l := by
  obtain ⟨j, rfl⟩ : ∃ j, k = j + 1 := ⟨k - 1, by omega⟩
  cases l <;> rfl
theorem fltsAt_take (P : Int) {l : List Ty} {k i : Nat} (hk : 1 ≤ k) (hi : i < k) : fltsAt P (l.take k) i = fltsAt P l i := by
  unfold fltsAt
  rw [List.getElem?_take, if_pos hi, dims_take hk]
  rcases l[i]? with _ | t
  · rfl
  · show (errsL P (l.take k) i t (dimsN l)).map _ = (errsL P l i t (dimsN l)).map _
    unfold errsL
    rw [List.take_take, Nat.min_eq_left (by omega)]
theorem fltsTo_take (P : Int) {l : List Ty} {k : Nat} (hk : 1 ≤ k) (hk2 : k ≤ l.length) (h6 : l.length ≤ 6) : ∀ j, j ≤ k → fltsTo P (l.take k) j = fltsTo P l j
  | 0, _ => by
    unfold fltsTo
    have e : (l.take k).length = k := by rw [List.length_take]; omega
    rw [e]
    have h1 : inB (k : Int) 1 6 = true := by unfold inB; rw [decide_eq_true]; omega
    have h2 : inB (l.length : Int) 1 6 = true := by unfold inB; rw [decide_eq_true]; omega
    rw [h1, h2]
  | j + 1, hj => by rw [fltsTo, fltsTo, fltsTo_take P hk hk2 h6 j (by omega), fltsAt_take P hk (by omega)]
theorem fltsTo_prefix (P : Int) (l : List Ty) (k : Nat) : ∀ d, fltsTo P l k <+: fltsTo P l (k + d)
  | 0 => List.prefix_refl _
  | d + 1 => (fltsTo_prefix P l k d).trans (List.prefix_append _ _)
theorem own_cap {w : World} {base : Nat} {e : TypeId} {size n c : Nat} {A : Option Addr} {xs : List Value} (h : w.ownsRow base e size (.slice A n c) n xs) : n ≤ c := by
  rcases h.2 with ⟨h1, h2⟩ | ⟨g, cap, cur, h1, _, _, h4, _⟩
  · rw [h2]; exact Nat.zero_le _
  · simp only [Value.slice.injEq] at h1
    omega

set_option maxRecDepth 100000 in
set_option maxHeartbeats 8000000 in
theorem lawParts_any (n : Net) (A0 : Option Addr) (d0 : Nat) (A1 : Option Addr) (d1 : Nat) (A : Option Addr) (c : Nat) (l : List Ty) (k : Int) (w : World) (hL : RowAt rTy w w.heap.size A l) (hcap : l.length ≤ c) (hmax : c ≤ maxLen) (hn : n.places.length ≤ 17592186043904) :
    Calls Tryd.prog 6 #[.agg #[.slice A0 n.places.length d0, .slice A1 n.arcs.length d1], .slice A l.length c, .int .i64 k] w fun e w' => e = .returned (.bool true) ∧ Below w.heap.size w w' := by
  have hmax' : c ≤ 9223372036854775807 := hmax
  clear hmax
  go_enter Tryd.func6, Tryd.ntmps6
  go_upto_region 1 with fail
  obtain ⟨W0, hW0⟩ : ∃ W0, w.alloc (.cells #[.slice A0 n.places.length d0, .slice A1 n.arcs.length d1] 25) = W0 := ⟨_, rfl⟩
  have hs0 : W0.heap.size = w.heap.size + 1 := by rw [← hW0]; simp
  have hS : ∀ w', Below W0.heap.size W0 w' → (w'.cell? ⟨w.heap.size, 0, none⟩ = some (.slice A0 n.places.length d0) ∧ w'.cell? ⟨w.heap.size, 1, none⟩ = some (.slice A1 n.arcs.length d1)) := by
    intro w' h
    refine ⟨(h.cell (p := ⟨w.heap.size, 0, none⟩) (show w.heap.size < W0.heap.size by omega)).trans ?_, (h.cell (p := ⟨w.heap.size, 1, none⟩) (show w.heap.size < W0.heap.size by omega)).trans ?_⟩
    · rw [← hW0]; exact two_new w _ _ _ 0 _ rfl
    · rw [← hW0]; exact two_new w _ _ _ 1 _ rfl
  have hB0 : Below w.heap.size w W0 := by rw [← hW0]; exact (Below.refl _ _).alloc (Nat.le_refl _) _
  have z0 := hB0.size
  have HL := Lib.hid ((hL.below hB0).more z0)
  rw [hW0]
  clear hW0 hL hs0
  go_wp2_with fail
  refine (few_any A c l _ _ (by exact HL.out)).mono ?_
  rintro e w1 ⟨q, rfl, hq, rfl⟩
  obtain ⟨m, hm⟩ : ∃ m, l.length = m := ⟨_, rfl⟩
  have HM := Lib.hid hm
  rw [hm] at hq hcap ⊢
  clear hm
  by_cases hgo : q = true ∧ m ≤ 6 ∧ 1 ≤ k ∧ k ≤ m
  · obtain ⟨rfl, h6, hk1, hk2⟩ := hgo
    obtain ⟨kk, rfl⟩ := Int.eq_ofNat_of_zero_le (show 0 ≤ k by omega)
    clear hq
    have g1 : ¬ ((6 : Int) < (m : Int)) := by omega
    have g2 : ¬ ((kk : Int) < 1) := by omega
    have g3 : decide (m < kk) = false := by simp; omega
    have g4 : (kk : Int) ≤ (c : Int) := by omega
    obtain ⟨c0, c1⟩ := hS _ (Below.refl _ _)
    have hck := check_any n A0 d0 A1 d1 A c l W0 HL.out (by rw [HM.out]; omega) (by rw [HM.out]; exact hcap) hn
    rw [HM.out] at hck
    obtain ⟨Fa, hFa⟩ : ∃ Fa, fltsTo ((n.places.length : Int) - 1) l m = Fa := ⟨_, rfl⟩
    have hlenA := fltsTo_len ((n.places.length : Int) - 1) l m
    have hfitA := fltsTo_fits ((n.places.length : Int) - 1) l m
    have hpre : fltsTo ((n.places.length : Int) - 1) (l.take kk) kk <+: Fa := by
      rw [fltsTo_take _ (by omega) (by rw [HM.out]; omega) (by rw [HM.out]; exact h6) kk (Nat.le_refl _), ← hFa]
      have := fltsTo_prefix ((n.places.length : Int) - 1) l kk (m - kk)
      rwa [show kk + (m - kk) = m by omega] at this
    have hlenB := fltsTo_len ((n.places.length : Int) - 1) (l.take kk) kk
    have hfitB := fltsTo_fits ((n.places.length : Int) - 1) (l.take kk) kk
    obtain ⟨Fb, hFb⟩ : ∃ Fb, fltsTo ((n.places.length : Int) - 1) (l.take kk) kk = Fb := ⟨_, rfl⟩
    rw [hFa] at hck hlenA hfitA
    rw [hFb] at hpre hlenB hfitB
    have HFb := Lib.hid hFb
    have HK := Lib.hid hck
    have HFIT := Lib.hid (And.intro hfitA hfitB)
    clear hFa hFb hck hfitA hfitB
    go_wp2_with (go_at_call 13; refine HK.out.mono ?_; rintro e w2 ⟨A2, c2, rfl, hown2, hb2⟩)
    have z2 := hb2.size
    have hcapA := own_cap hown2
    have R2 := Lib.hid (flts_row hown2 HFIT.out.1 (by omega))
    obtain ⟨e0, e1⟩ := hS _ hb2
    clear hown2 c0 c1
    have hLk : RowAt rTy w2 w2.heap.size A (l.take kk) := ((HL.out.below hb2).more z2).take kk
    have hlk : (l.take kk).length = kk := by rw [List.length_take, HM.out]; omega
    have hck2 := fun W (h : RowAt rTy W W.heap.size A (l.take kk)) => check_any n A0 d0 A1 d1 A c (l.take kk) W h (by omega) (by omega) hn
    rw [hlk, HFb.out] at hck2
    have HK2 := Lib.hid (And.intro hLk hck2)
    clear hLk hlk hck2
    (refine wp_region_held_drew (S := (fun w' => w'.cell? ⟨w.heap.size, 0, none⟩ = some (.slice A0 n.places.length d0) ∧ w'.cell? ⟨w.heap.size, 1, none⟩ = some (.slice A1 n.arcs.length d1))) (by kernel_rfl) ?_ (fun hHeld => ?_))
    · exact ⟨e0, e1⟩
    (refine wpAnyH_take (i := 0) (v := ?_) rfl (by kernel_rfl) (by kernel_rfl) (by kernel_rfl) (fun _ _ _ h => h) (Or.inl ⟨by kernel_rfl, ?_⟩) (by assumption) ?_; rotate_left; (focus (intro w hSw; (try dsimp only at hSw); go_simp; all_goals with_reducible rfl)); (try simp only [Act.put, List.getElem_toArray, List.getElem_cons_succ, List.getElem_cons_zero, List.setIfInBounds_toArray, List.set_cons_zero, List.set_cons_succ]))
    (refine wpAnyH_take (i := 1) (v := ?_) rfl (by kernel_rfl) (by kernel_rfl) (by kernel_rfl) (fun _ _ _ h => h) (Or.inl ⟨by kernel_rfl, ?_⟩) (by assumption) ?_; rotate_left; (focus (intro w hSw; (try dsimp only at hSw); go_simp; all_goals with_reducible rfl)); (try simp only [Act.put, List.getElem_toArray, List.getElem_cons_succ, List.getElem_cons_zero, List.setIfInBounds_toArray, List.set_cons_zero, List.set_cons_succ]))
    (refine wpAnyH_take (i := 2) (v := ?_) rfl (by kernel_rfl) (by kernel_rfl) (by kernel_rfl) (fun _ _ _ h => h) (Or.inl ⟨by kernel_rfl, ?_⟩) (by assumption) ?_; rotate_left; (focus (intro w hSw; (try dsimp only at hSw); go_simp; all_goals with_reducible rfl)); (try simp only [Act.put, List.getElem_toArray, List.getElem_cons_succ, List.getElem_cons_zero, List.setIfInBounds_toArray, List.set_cons_zero, List.set_cons_succ]))
    (refine wpAnyH_take (i := 3) (v := ?_) rfl (by kernel_rfl) (by kernel_rfl) (by kernel_rfl) (fun _ _ _ h => h) (Or.inl ⟨by kernel_rfl, ?_⟩) (by assumption) ?_; rotate_left; (focus (intro w hSw; (try dsimp only at hSw); go_simp; all_goals with_reducible rfl)); (try simp only [Act.put, List.getElem_toArray, List.getElem_cons_succ, List.getElem_cons_zero, List.setIfInBounds_toArray, List.set_cons_zero, List.set_cons_succ]))
    (refine wpAnyH_ready (rs := [4]) (by kernel_rfl) (by simp) ?_; refine AllReadyH.cons rfl (fun K hK => ?_) AllReadyH.nil; go_simp)
    go_at_call 13
    refine (HK2.out.2 _ (by exact HK2.out.1)).mono ?_
    rintro e w3 ⟨A3, c3, rfl, hown3, hb3d⟩
    have hb3 : Below w2.heap.size w2 w3 := ((Below.refl _ _).drew).trans (hb3d.mono (by simp))
    have B3 : Below W0.heap.size W0 w3 := hb2.trans (hb3.mono z2)
    have z3 := hb3.size
    have R3 := Lib.hid (flts_row hown3 HFIT.out.2 (by omega))
    clear hown3
    (refine hK.out _ _ ?_ (fun hHeld => ?_))
    · exact hS _ B3
    clear hK K
    (try simp only [Act.put, List.getElem_toArray, List.getElem_cons_succ, List.getElem_cons_zero, List.setIfInBounds_toArray, List.set_cons_zero, List.set_cons_succ])
    (refine wpAnyH_take (i := 5) (v := ?_) rfl (by kernel_rfl) (by kernel_rfl) (by kernel_rfl) (fun _ _ _ h => h) (Or.inl ⟨by kernel_rfl, ?_⟩) (by assumption) ?_; rotate_left; (focus (intro w hSw; (try dsimp only at hSw); go_simp; all_goals with_reducible rfl)); (try simp only [Act.put, List.getElem_toArray, List.getElem_cons_succ, List.getElem_cons_zero, List.setIfInBounds_toArray, List.set_cons_zero, List.set_cons_succ]))
    (refine wpAnyH_done (by kernel_rfl) ?_ _)
    have hle := hpre.length_le
    have hle2 : (Fb.length : Int) ≤ (Fa.length : Int) := by omega
    have hle3 : (Fb.length : Int) ≤ (c2 : Int) := by omega
    have hR23 : RowAt rFlt w3 w2.heap.size A2 Fb := by
      have h := (R2.out.below hb3).take Fb.length
      rwa [← List.prefix_iff_eq_take.1 hpre] at h
    have HR23 := Lib.hid hR23
    clear hR23 e0 e1
    go_wp2_with fail
    refine (faults_any A2 c2 A3 c3 Fb _ rfl _ w2.heap.size w3.heap.size z3 (Nat.le_refl _) HR23.out R3.out).mono ?_
    rintro e w4 ⟨rfl, hb4⟩
    have B4 : Below W0.heap.size W0 w4 := B3.trans (hb4.mono (by omega))
    have z4 := B4.size
    go_wp2_with fail
    refine (awake_any _).mono ?_
    rintro e w5 ⟨rfl, hb5⟩
    go_wp2_with fail
    go_ret
    exact ⟨rfl, hB0.trans ((B4.trans (hb5.mono z4)).mono z0)⟩
  · have hcase : q = false ∨ (q = true ∧ 6 < m) ∨ (q = true ∧ m ≤ 6 ∧ k < 1) ∨ (q = true ∧ m ≤ 6 ∧ 1 ≤ k ∧ (m : Int) < k) := by
      cases q
      · exact .inl rfl
      · rcases Nat.lt_or_ge 6 m with h | h
        · exact .inr (.inl ⟨rfl, h⟩)
        · rcases Int.lt_or_le k 1 with h' | h'
          · exact .inr (.inr (.inl ⟨rfl, h, h'⟩))
          · rcases Int.lt_or_le m k with h'' | h''
            · exact .inr (.inr (.inr ⟨rfl, h, h', h''⟩))
            · exact absurd ⟨rfl, h, h', h''⟩ hgo
    clear hgo hq
    rcases hcase with rfl | ⟨rfl, h1⟩ | ⟨rfl, h1, h2⟩ | ⟨rfl, h1, h2, h3⟩
    · go_wp2_with fail
      refine (awake_any _).mono ?_
      rintro e w5 ⟨rfl, hb5⟩
      go_wp2_with fail
      go_ret
      exact ⟨rfl, hB0.trans (hb5.mono z0)⟩
    · have g1 : (6 : Int) < (m : Int) := by omega
      clear h1
      go_wp2_with fail
      refine (awake_any _).mono ?_
      rintro e w5 ⟨rfl, hb5⟩
      go_wp2_with fail
      go_ret
      exact ⟨rfl, hB0.trans (hb5.mono z0)⟩
    · have g1 : ¬ ((6 : Int) < (m : Int)) := by omega
      clear h1
      go_wp2_with fail
      refine (awake_any _).mono ?_
      rintro e w5 ⟨rfl, hb5⟩
      go_wp2_with fail
      go_ret
      exact ⟨rfl, hB0.trans (hb5.mono z0)⟩
    · have g1 : ¬ ((6 : Int) < (m : Int)) := by omega
      have g2 : ¬ (k < 1) := by omega
      clear h1 h2
      go_wp2_with fail
      refine (awake_any _).mono ?_
      rintro e w5 ⟨rfl, hb5⟩
      go_wp2_with fail
      go_ret
      exact ⟨rfl, hB0.trans (hb5.mono z0)⟩
end Go.Proofs.YthkbfmbohoclaaaDoor.flt

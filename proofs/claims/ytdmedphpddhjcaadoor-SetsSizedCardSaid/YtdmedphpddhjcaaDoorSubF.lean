/- Same; plain; awake. -/
import Derived.Test.YtdmedphpddhjcaaDoorSubC
import Derived.Test.YtdmedphpddhjcaaDoorSubE
import Derived.Deep.QuietTactic
import Derived.BigQuiet
namespace Go.Proofs.YtdmedphpddhjcaaDoor.sets
open Go.RowKit Go.Shelf
open Go.Proofs.YtdmedphpddhjcaaDoor.lib
set_option linter.unusedVariables false

def sameB (a b : List Int) : Bool := decide (a = b)
theorem same_step {a b : List Int} {k : Nat} {x y : Int} (hx : a[k]? = some x) (hy : b[k]? = some y) : decide (a.drop k = b.drop k) = (decide (x = y) && decide (a.drop (k + 1) = b.drop (k + 1))) := by
  rw [drop_at hx, drop_at hy, Bool.eq_iff_iff]
  simp
theorem same_any (A : Option Addr) (c : Nat) (a : List Int) (n : Nat) (hn : a.length = n) (A' : Option Addr) (c' : Nat) (b : List Int) (m : Nat) (hm : b.length = m) (w : World) (B B' : Nat) (hB : B ≤ w.heap.size) (hB' : B' ≤ w.heap.size) (ha : Ints w B A a) (hb : Ints w B' A' b) :
    Calls Tryd.prog 14 #[.slice A n c, .slice A' m c'] w fun e w' => e = .returned (.bool (sameB a b)) ∧ Below w.heap.size w w' := by
  have hlen := ha.len
  rw [hn] at hlen
  by_cases h : n = m
  · subst h
    have HN := Lib.hid hn
    have HM := Lib.hid hm
    clear hn hm
    go_enter Tryd.func14, Tryd.ntmps14
    go_wp2
    go_loopw [5] (fun i wr => ∃ k : Nat, k ≤ n ∧ i = .int .i64 k ∧ Hid (sameB a b = decide (a.drop k = b.drop k)) ∧ Below w.heap.size w wr) (fun i _ => n - (intOf i).toNat)
    case atStart => exact ⟨0, by omega, rfl, Lib.hid rfl, Below.refl _ _⟩
    case round =>
      obtain ⟨k, hk, rfl, hr, hbel⟩ := hrel
      by_cases hlt : k < n
      · obtain ⟨ad, x, rfl, hadb, hx, hcx⟩ := (ha.below (hbel.mono hB)).at_ (k := k) (by rw [HN.out]; exact hlt)
        obtain ⟨ad', y, rfl, hadb', hy, hcy⟩ := (hb.below (hbel.mono hB')).at_ (k := k) (by rw [HM.out]; exact hlt)
        have HX := Lib.hid (same_step hx hy)
        have hk0 : (0 : Int) ≤ (k : Int) := by omega
        have hkn : (k : Int) < (n : Int) := by omega
        clear hx hy
        by_cases hxy : x = y
        · subst hxy
          go_wp2
          go_quiet (fail)
          go_wp2
          go_roundw
          case rel => exact ⟨k + 1, by omega, by go_num, Lib.hid (by rw [hr.out, HX.out]; simp), bel_drewN hbel _⟩
          case measure => simp [intOf]; omega
        · have h1 : (x == y) = false := by simp [hxy]
          have h2 : (x != y) = true := by simp [hxy]
          have HF := Lib.hid (decide_eq_false hxy)
          clear hxy
          go_wp2
          go_quiet (fail)
          go_wp2
          go_ret
          exact ⟨ret_bool (by rw [hr.out, HX.out, HF.out]; rfl), bel_drewN hbel _⟩
      · have hkn : k = n := by omega
        subst hkn
        clear hlt
        go_wp2
        go_ret
        exact ⟨ret_bool (by rw [hr.out, List.drop_of_length_le (by rw [HN.out]; exact Nat.le_refl _), List.drop_of_length_le (by rw [HM.out]; exact Nat.le_refl _)]; simp), hbel⟩
  · have hd2 : ((n : Int) == (m : Int)) = false := by simp; omega
    have hd3 : ((n : Int) != (m : Int)) = true := by simp; omega
    have HD : Hid (sameB a b = false) := Lib.hid (by unfold sameB; rw [decide_eq_false]; intro e; rw [e] at hn; omega)
    clear h hn hm
    go_enter Tryd.func14, Tryd.ntmps14
    go_wp2
    go_ret
    exact ⟨ret_bool (by rw [HD.out]), Below.refl _ _⟩

theorem tab_below {t : List Nat} {B : Nat} {w w' : World} (h : TabAt 1 t w) (hb : Below B w w') (h1 : 1 < B) : TabAt 1 t w' := fun j hj => (hb.cell (p := ⟨1, j, none⟩) h1).trans (h j hj)

theorem subL5 : subL 5 = [0, 1, 4, 5] := by rfl
theorem ofR20 : ofR 0 [2, 0] = (5, 0) := by decide
theorem cnt5 : cntN 5 = 2 := by rw [cntN_step, cntN_step, cntN_step, cntN_step]; simp [cntN_zero]
theorem ctz4 : Lib.ctz 64 4 = 2 := by rfl

theorem lit_at (w : World) (l : List Int) (H : Nat) (hH : w.heap.size = H) (hl : l.length ≤ 17592186043904) : Ints (w.alloc (.cells (l.map (.int .i64)).toArray 3)) (H + 1) (some ⟨H, 0, none⟩) l := by
  subst hH
  exact Ints.lit w l hl

set_option maxHeartbeats 2000000 in
theorem awake_any (w : World) (hT : TabAt 1 Lib.deBruijn64tab w) (h1 : 1 < w.heap.size) : Calls Tryd.prog 7 #[] w fun e w' => e = .returned (.bool true) ∧ Below w.heap.size w w' := by
  go_enter Tryd.func7, Tryd.ntmps7
  go_wp2_with fail
  refine (of_any _ _ [2, 0] _ (by have := lit_at w [2, 0] _ rfl (by decide); simpa using this)).mono ?_
  rintro e w1 ⟨rfl, rfl⟩
  rw [ofR20]
  go_wp2_with fail
  refine (subsets_calls 5 (by decide) _).mono ?_
  rintro e w2 ⟨hb2, ⟨v, rfl, _, hown2⟩ | ⟨_, hl⟩⟩
  · rw [subL5] at hown2
    obtain ⟨A2, c2, rfl⟩ := own_form hown2
    have B2 : Below w.heap.size w w2 := ((Below.refl w.heap.size w).alloc (Nat.le_refl _) _).trans (hb2.mono (by simp))
    have s2 := hb2.size
    simp at s2
    have I2 : Ints w2 w2.heap.size A2 [0, 1, 4, 5] := Ints.of_own (c := c2) hown2 (by decide)
    clear hown2 hb2
    go_wp2_with fail
    refine (same_any A2 c2 [0, 1, 4, 5] 4 rfl _ _ [0, 1, 4, 5] 4 rfl _ w2.heap.size (w2.heap.size + 1) (by simp) (by simp) (by exact I2.alloc (Nat.le_refl _) _) (by exact lit_at _ [0, 1, 4, 5] _ rfl (by decide))).mono ?_
    rintro e w3 ⟨rfl, hb3⟩
    rw [show sameB [0, 1, 4, 5] [0, 1, 4, 5] = true by decide]
    have B3 : Below w.heap.size w w3 := (B2.alloc (by omega) _).trans (hb3.mono (by simp; omega))
    have s3 := hb3.size
    simp at s3
    clear hb3
    go_wp2_with fail
    refine (size_any 5 (by decide) _).mono ?_
    rintro e w4 ⟨rfl, hb4⟩
    rw [cnt5]
    have B4 : Below w.heap.size w w4 := B3.trans (hb4.mono (by omega))
    go_wp2_with fail
    refine (least_calls 4 (by decide) _ (tab_below hT B4 h1)).mono ?_
    rintro e w5 ⟨rfl, rfl⟩
    rw [ctz4]
    go_wp2
    go_ret
    exact ⟨rfl, B4⟩
  · rw [subL5] at hl
    exact absurd hl (by decide)
end Go.Proofs.YtdmedphpddhjcaaDoor.sets

/- The law SetsSized, walked. -/
import Derived.Test.YtdmedphpddhjcaaDoorSizE
namespace Go.Proofs.YtdmedphpddhjcaaDoor.sets
open Go.RowKit Go.Shelf
open Go.Proofs.YtdmedphpddhjcaaDoor.lib
set_option linter.unusedVariables false

/-- How many there are of the sizes from -1 on. -/
def tot (s : Nat) : Nat → Nat
  | 0 => 0
  | m + 1 => tot s m + (szF s ((m : Int) - 1)).length
theorem szF_len (s k : Nat) : (szF s (k : Int)).length = chN (cntN s) k := by
  unfold szF
  split
  · rename_i h
    rw [chN_big _ _ (by omega)]
    rfl
  · rw [szL_len]; rfl
theorem szF_small (s : Nat) (h : cntN s ≤ 10) (k : Int) : (szF s k).length ≤ 1024 := by
  rcases Int.lt_or_le k 0 with hk | hk
  · unfold szF
    rw [if_pos (.inl hk)]
    exact Nat.zero_le _
  · obtain ⟨k, rfl⟩ := Int.eq_ofNat_of_zero_le hk
    have h1 : 2 ^ cntN s ≤ 2 ^ 10 := Nat.pow_le_pow_right (by omega) h
    rw [szF_len]
    exact Nat.le_trans (chN_small _ _ h) h1
theorem tot_all (s : Nat) (h : cntN s ≤ 10) : tot s 13 = 2 ^ cntN s := by
  rw [← chN_sum _ h]
  have e : ∀ m : Nat, (szF s ((m + 1 : Nat) - 1 : Int)).length = chN (cntN s) m := by
    intro m
    rw [show ((m + 1 : Nat) : Int) - 1 = (m : Int) by omega, szF_len]
  have e0 : (szF s (((0 : Nat) : Int) - 1)).length = 0 := by
    unfold szF
    rw [if_pos (.inl (by omega))]
    rfl
  simp only [tot, e, e0]
  simp [List.range_succ]


set_option maxHeartbeats 4000000 in
theorem lawSized_any (a size : Int) (w : World) (hT : TabAt 1 Lib.deBruijn64tab w) (h1 : 1 < w.heap.size) :
    Calls Tryd.prog 6 #[.int .i64 a, .int .i64 size] w fun e w' => e = .returned (.bool true) ∧ Below w.heap.size w w' := by
  obtain ⟨x, hx⟩ : ∃ x, plainN a = x := ⟨_, rfl⟩
  have hxl : x < 9223372036854775808 := by rw [← hx]; exact plainN_lt a
  go_enter Tryd.func6, Tryd.ntmps6
  go_wp2_with fail
  refine (plain_any a _).mono ?_
  rintro e w0 ⟨rfl, rfl⟩
  rw [hx]
  clear hx
  go_wp2_with fail
  refine (sized_any x hxl size _).mono ?_
  rintro e w1 ⟨hb1, ⟨hl, A1, c1, rfl, hown1⟩ | ⟨hl, rfl⟩⟩
  · have I1 : Ints w1 w1.heap.size A1 (szF x size) := Ints.of_own (c := c1) hown1 (by omega)
    have s1 := hb1.size
    clear hown1
    go_wp2_with fail
    refine (rSized_any x hxl size _).mono ?_
    rintro e w2 ⟨hb2, ⟨_, A2, c2, rfl, hown2⟩ | ⟨hl', _⟩⟩
    case inr => exact absurd hl' (by omega)
    have I2 : Ints w2 w2.heap.size A2 (szF x size) := Ints.of_own (c := c2) hown2 (by omega)
    have s2 := hb2.size
    clear hown2
    go_wp2_with fail
    refine (same_any A1 c1 (szF x size) _ rfl A2 c2 (szF x size) _ rfl _ w1.heap.size w2.heap.size s2 (Nat.le_refl _) (I1.below hb2) I2).mono ?_
    rintro e w3 ⟨rfl, hb3⟩
    rw [show sameB (szF x size) (szF x size) = true by simp [sameB]]
    have s3 := hb3.size
    have B3 : Below w.heap.size w w3 := (hb1.trans (hb2.mono s1)).trans (hb3.mono (by omega))
    clear I1 I2 hb1 hb2 hb3
    by_cases hten : 10 < cntN x
    · have hc10 : (10 : Int) < (cntN x : Int) := by omega
      clear hten
      go_wp2_with fail
      refine (rsize_any x hxl _).mono ?_
      rintro e w0 ⟨rfl, rfl⟩
      go_wp2_with fail
      refine (awake_any _ (tab_below hT B3 h1) (by omega)).mono ?_
      rintro e w5 ⟨rfl, hb5⟩
      go_wp2
      go_ret
      exact ⟨rfl, Below.trans B3 (hb5.mono (by omega))⟩
    have hc10 : ¬ ((10 : Int) < (cntN x : Int)) := by omega
    go_wp2_with fail
    refine (rsize_any x hxl _).mono ?_
    rintro e w0 ⟨rfl, rfl⟩
    go_wp2_with fail
    go_loopw [9, 10] (fun n k wr => ∃ (kk : Int) (t : Nat), -1 ≤ kk ∧ kk ≤ 12 ∧ k = .int .i64 kk ∧ n = .int .i64 t ∧ Hid (t = tot x (kk + 1).toNat) ∧ (t : Int) ≤ 1024 * (kk + 1) ∧ Below w3.heap.size w3 wr) (fun _ k _ => (12 - intOf k).toNat)
    case atStart => exact ⟨-1, 0, by omega, by omega, rfl, rfl, Lib.hid rfl, by omega, Below.refl _ _⟩
    case round =>
      obtain ⟨kk, t, hk1, hk2, rfl, rfl, ht, htl, hbw⟩ := hrel
      have sw := hbw.size
      by_cases hlt : kk ≤ 11
      · have hsm := szF_small x (by omega) kk
        go_wp2_with fail
        refine (sized_any x hxl kk _).mono ?_
        rintro e w6 ⟨hb6, ⟨_, A6, c6, rfl, _⟩ | ⟨hbig, _⟩⟩
        case inr => exact absurd hbig (by omega)
        obtain ⟨l, hl⟩ : ∃ l, (szF x kk).length = l := ⟨_, rfl⟩
        have HT2 : Hid (t + l = tot x (kk + 1 + 1).toNat) := Lib.hid (by
          rw [show (kk + 1 + 1).toNat = (kk + 1).toNat + 1 by omega, tot, ← ht.out, show ((kk + 1).toNat : Int) - 1 = kk by omega, hl])
        rw [hl] at hsm ⊢
        clear hl
        go_wp2
        go_roundw
        case rel => exact ⟨kk + 1, t + l, by omega, by omega, rfl, by go_num, HT2, by omega, hbw.trans (hb6.mono sw)⟩
        case measure => simp [intOf]; omega
      · obtain rfl : kk = 12 := by omega
        have hall := tot_all x (by omega)
        have hfin : wrap64 ((2 : Int) ^ cntN x) = (t : Int) := by
          have e : t = 2 ^ cntN x := by rw [ht.out, ← hall]; rfl
          rcases pow_wrap (cntN x) (by omega) with ⟨h, _⟩ | ⟨_, h⟩
          · omega
          · rw [h, e]
        have B6 := Below.trans B3 (hbw.mono (by omega))
        clear hall
        go_wp2_with fail
        refine (rsize_any x hxl _).mono ?_
        rintro e w0 ⟨rfl, rfl⟩
        go_wp2_with fail
        refine (awake_any _ (tab_below hT B6 h1) (by omega)).mono ?_
        rintro e w5 ⟨rfl, hb5⟩
        go_wp2
        go_ret
        exact ⟨rfl, Below.trans B6 (hb5.mono (by omega))⟩
  · have s1 := hb1.size
    go_wp2_with fail
    refine (rSized_any x hxl size _).mono ?_
    rintro e w2 ⟨hb2, ⟨hl', _⟩ | ⟨_, rfl⟩⟩
    case inl => exact absurd hl' (by omega)
    have s2 := hb2.size
    go_wp2_with fail
    refine (same_any none 0 [] 0 rfl none 0 [] 0 rfl _ _ _ (Nat.le_refl _) (Nat.le_refl _) Ints.nil Ints.nil).mono ?_
    rintro e w3 ⟨rfl, hb3⟩
    rw [show sameB [] [] = true by decide]
    have s3 := hb3.size
    have B3 : Below w.heap.size w w3 := (hb1.trans (hb2.mono s1)).trans (hb3.mono (by omega))
    clear hb1 hb2 hb3
    by_cases hten : 10 < cntN x
    · have hc10 : (10 : Int) < (cntN x : Int) := by omega
      clear hten
      go_wp2_with fail
      refine (rsize_any x hxl _).mono ?_
      rintro e w0 ⟨rfl, rfl⟩
      go_wp2_with fail
      refine (awake_any _ (tab_below hT B3 h1) (by omega)).mono ?_
      rintro e w5 ⟨rfl, hb5⟩
      go_wp2
      go_ret
      exact ⟨rfl, Below.trans B3 (hb5.mono (by omega))⟩
    have hc10 : ¬ ((10 : Int) < (cntN x : Int)) := by omega
    go_wp2_with fail
    refine (rsize_any x hxl _).mono ?_
    rintro e w0 ⟨rfl, rfl⟩
    go_wp2_with fail
    go_loopw [9, 10] (fun n k wr => ∃ (kk : Int) (t : Nat), -1 ≤ kk ∧ kk ≤ 12 ∧ k = .int .i64 kk ∧ n = .int .i64 t ∧ Hid (t = tot x (kk + 1).toNat) ∧ (t : Int) ≤ 1024 * (kk + 1) ∧ Below w3.heap.size w3 wr) (fun _ k _ => (12 - intOf k).toNat)
    case atStart => exact ⟨-1, 0, by omega, by omega, rfl, rfl, Lib.hid rfl, by omega, Below.refl _ _⟩
    case round =>
      obtain ⟨kk, t, hk1, hk2, rfl, rfl, ht, htl, hbw⟩ := hrel
      have sw := hbw.size
      by_cases hlt : kk ≤ 11
      · have hsm := szF_small x (by omega) kk
        go_wp2_with fail
        refine (sized_any x hxl kk _).mono ?_
        rintro e w6 ⟨hb6, ⟨_, A6, c6, rfl, _⟩ | ⟨hbig, _⟩⟩
        case inr => exact absurd hbig (by omega)
        obtain ⟨l, hl⟩ : ∃ l, (szF x kk).length = l := ⟨_, rfl⟩
        have HT2 : Hid (t + l = tot x (kk + 1 + 1).toNat) := Lib.hid (by
          rw [show (kk + 1 + 1).toNat = (kk + 1).toNat + 1 by omega, tot, ← ht.out, show ((kk + 1).toNat : Int) - 1 = kk by omega, hl])
        rw [hl] at hsm ⊢
        clear hl
        go_wp2
        go_roundw
        case rel => exact ⟨kk + 1, t + l, by omega, by omega, rfl, by go_num, HT2, by omega, hbw.trans (hb6.mono sw)⟩
        case measure => simp [intOf]; omega
      · obtain rfl : kk = 12 := by omega
        have hall := tot_all x (by omega)
        have hfin : wrap64 ((2 : Int) ^ cntN x) = (t : Int) := by
          have e : t = 2 ^ cntN x := by rw [ht.out, ← hall]; rfl
          rcases pow_wrap (cntN x) (by omega) with ⟨h, _⟩ | ⟨_, h⟩
          · omega
          · rw [h, e]
        have B6 := Below.trans B3 (hbw.mono (by omega))
        clear hall
        go_wp2_with fail
        refine (rsize_any x hxl _).mono ?_
        rintro e w0 ⟨rfl, rfl⟩
        go_wp2_with fail
        refine (awake_any _ (tab_below hT B6 h1) (by omega)).mono ?_
        rintro e w5 ⟨rfl, hb5⟩
        go_wp2
        go_ret
        exact ⟨rfl, Below.trans B6 (hb5.mono (by omega))⟩
end Go.Proofs.YtdmedphpddhjcaaDoor.sets

/- Sized, of the program and of the reference. -/
import Derived.Test.YtdmedphpddhjcaaDoorSizC
namespace Go.Proofs.YtdmedphpddhjcaaDoor.sets
open Go.RowKit Go.Shelf
open Go.Proofs.YtdmedphpddhjcaaDoor.lib
set_option linter.unusedVariables false

theorem own_less {w : World} {base base' : Nat} {e : TypeId} {size n : Nat} {v : Value} {xs : List Value} (h : w.ownsRow base e size v n xs) (hb : base' ≤ base) : w.ownsRow base' e size v n xs := by
  rcases h.2 with ⟨h1, h2⟩ | ⟨g, cap, cur, h1, h2, h3⟩
  · exact ⟨h.1, .inl ⟨h1, h2⟩⟩
  · exact ⟨h.1, .inr ⟨g, cap, cur, h1, Nat.le_trans hb h2, h3⟩⟩

/-- The subsets of a size. -/
def szF (s : Nat) (size : Int) : List Int := if size < 0 ∨ (cntN s : Int) < size then [] else szL (memL (s : Int)) (cntN s) size.toNat
def SizedOut (w : World) (l : List Int) (e : Ending) (w' : World) : Prop :=
  Below w.heap.size w w' ∧ (l.length ≤ 8192 ∧ (∃ A c, e = .returned (.tuple #[.slice A l.length c, .int .i64 0]) ∧ w'.ownsRow w.heap.size 3 1 (.slice A l.length c) l.length (l.map (.int .i64))) ∨ 8192 < l.length ∧ e = .returned (.tuple #[.slice none 0 0, .int .i64 4]))

theorem pow_wrap (n : Nat) (hn : n ≤ 63) : (n = 63 ∧ wrap64 ((2 : Int) ^ n) = -9223372036854775808) ∨ (n ≤ 62 ∧ wrap64 ((2 : Int) ^ n) = ((2 ^ n : Nat) : Int)) := by
  rcases Nat.lt_or_ge n 63 with h | h
  · right
    refine ⟨by omega, ?_⟩
    have h1 := pow2_le (j := n) (by omega)
    have h2 := pow2_pos n
    have e : ((2 : Int) ^ n) = pow2 n := by unfold pow2; simp
    rw [e]
    show _ = pow2 n
    unfold wrap64
    generalize pow2 n = P at h1 h2
    omega
  · left
    obtain rfl : n = 63 := by omega
    exact ⟨rfl, by rw [show (2 : Int) ^ 63 = 9223372036854775808 from rfl]; unfold wrap64; omega⟩
theorem pow_less (k : Nat) (hk : k ≤ 63) : wrap64 (wrap64 ((2 : Int) ^ k) - 1) = ((2 ^ k - 1 : Nat) : Int) := by
  rcases pow_wrap k hk with ⟨rfl, h⟩ | ⟨h1, h⟩
  · rw [h]; unfold wrap64; omega
  · rw [h]
    have h2 := Nat.two_pow_pos k
    have h3 : 2 ^ k ≤ 2 ^ 62 := Nat.pow_le_pow_right (by omega) h1
    unfold wrap64
    generalize 2 ^ k = P at h2 h3
    omega
theorem pow_end (n low x : Nat) (hn : n ≤ 63) (h1 : 1 ≤ low) (h2 : low ≤ 2 ^ n) (hx : x < 2 ^ n) : (((x : Int) == wrap64 (wrap64 ((2 : Int) ^ n) - (low : Int))) = decide (x + low = 2 ^ n)) := by
  have h63 : 2 ^ n ≤ 2 ^ 63 := Nat.pow_le_pow_right (by omega) hn
  rw [Bool.eq_iff_iff, beq_iff_eq, decide_eq_true_eq]
  rcases pow_wrap n hn with ⟨rfl, h⟩ | ⟨h3, h⟩
  · rw [h]
    unfold wrap64
    omega
  · rw [h]
    unfold wrap64
    generalize 2 ^ n = P at *
    omega

def lenOf : Value → Nat
  | .slice _ j _ => j
  | _ => 0
theorem lenOf_slice (A : Option Addr) (j c : Nat) : lenOf (.slice A j c) = j := rfl
theorem szL_at {L : List Int} {n k j x : Nat} (h : (sizW n k)[j]? = some x) : (szL L n k).take (j + 1) = (szL L n k).take j ++ [sprN L x n] := by
  obtain ⟨h1, h2⟩ := List.getElem?_eq_some_iff.1 h
  have hl : j < (szL L n k).length := by rw [szL_len, ← sizW_len]; exact h1
  rw [List.take_succ_eq_append_getElem hl]
  congr 2
  have e : (szL L n k)[j]? = some (sprN L x n) := by rw [← spr_sizW, List.getElem?_map, h]; rfl
  exact (List.getElem?_eq_some_iff.1 e).2

theorem szd_last {w w4 : World} {b : Nat} {s : Nat} {k : Int} {S : List Int} {j c4 : Nat} {u : Int} {A4 : Option Addr} (HE : szF s k = S) (hl : S.length = j + 1) (hat : S.take (j + 1) = S.take j ++ [u]) (hj : j < 8192)
    (hown : w4.ownsRow b 3 1 (.slice A4 (j + 1) c4) (j + 1) ((S.take j ++ [u]).map (.int .i64))) (hb : w.heap.size ≤ b) (hB : Below w.heap.size w w4) : SizedOut w (szF s k) (.returned (.tuple #[.slice A4 (j + 1) c4, .int .i64 0])) w4 := by
  rw [HE]
  refine ⟨hB, .inl ⟨by omega, A4, c4, by rw [hl], ?_⟩⟩
  rw [← hat, List.take_of_length_le (by omega)] at hown
  rw [hl]
  exact own_less hown hb
set_option maxHeartbeats 4000000 in
theorem sized_any (s : Nat) (hs : s < 9223372036854775808) (size : Int) (w : World) : Calls Tryd.prog 24 #[.int .i64 s, .int .i64 size] w (SizedOut w (szF s size)) := by
  obtain ⟨L, hL⟩ : ∃ L, memL (s : Int) = L := ⟨_, rfl⟩
  obtain ⟨n, hn⟩ : ∃ n, cntN s = n := ⟨_, rfl⟩
  have hLn : L.length = n := by rw [← hL, ← hn]; exact memL_len s hs
  have hup : L.Pairwise (· < ·) := by rw [← hL]; exact memL_up _
  have hin : ∀ x ∈ L, 0 ≤ x ∧ x ≤ 62 := by intro x hx; rw [← hL] at hx; exact memL_in hx
  have hn63 : n ≤ 63 := by rw [← hLn, ← hL]; exact memTo_len (s : Int) 63
  have HF : Hid (szF s size = if size < 0 ∨ (n : Int) < size then [] else szL L n size.toNat) := Lib.hid (by unfold szF; rw [hn, hL])
  have hm := members_any (s : Int) w
  rw [hL] at hm
  clear hL hn
  by_cases h1 : size < 0
  · have HE : Hid (szF s size = []) := Lib.hid (by rw [HF.out, if_pos (.inl h1)])
    go_enter Tryd.func24, Tryd.ntmps24
    go_wp2_with fail
    refine hm.mono ?_
    rintro e w1 ⟨A, c, rfl, hown, hb⟩
    go_wp2
    refine bodyPost_ret (v := .tuple #[.slice none 0 0, .int .i64 0]) (by simp [results, Tryd.results24, go_sem]) rfl ⟨hb, .inl ?_⟩
    rw [HE.out]
    exact ⟨by decide, none, 0, rfl, World.ownsRow_nil _ _ _ _⟩
  by_cases h2 : (n : Int) < size
  · have HE : Hid (szF s size = []) := Lib.hid (by rw [HF.out, if_pos (.inr h2)])
    have h2' : (L.length : Int) < size := by omega
    go_enter Tryd.func24, Tryd.ntmps24
    go_wp2_with fail
    refine hm.mono ?_
    rintro e w1 ⟨A, c, rfl, hown, hb⟩
    clear h1 h2 hLn
    go_wp2
    refine bodyPost_ret (v := .tuple #[.slice none 0 0, .int .i64 0]) (by simp [results, Tryd.results24, go_sem]) rfl ⟨hb, .inl ?_⟩
    rw [HE.out]
    exact ⟨by decide, none, 0, rfl, World.ownsRow_nil _ _ _ _⟩
  obtain ⟨k, rfl⟩ := Int.eq_ofNat_of_zero_le (show 0 ≤ size by omega)
  have hkn : k ≤ n := by omega
  have HE : Hid (szF s (k : Int) = szL L n k) := Lib.hid (by rw [HF.out, if_neg (by omega)]; rfl)
  clear HF h1 h2
  have hf1 : decide (n < k) = false := by simp; omega
  obtain ⟨x0, hx0⟩ : ∃ x0, x0 = 2 ^ k - 1 := ⟨_, rfl⟩
  have HQ : Hid (wrap64 (wrap64 ((2 : Int) ^ k) - 1) = (x0 : Int)) := Lib.hid (by rw [hx0]; exact pow_less k (by omega))
  have hfirst := Lib.hid (show (sizW n k)[0]? = some x0 by rw [hx0]; exact sizW_first n k hkn)
  have HLn := Lib.hid hLn
  go_enter Tryd.func24, Tryd.ntmps24
  go_wp2_with fail
  refine hm.mono ?_
  rintro e w1 ⟨A, c, rfl, hown, hb⟩
  have IL : Ints w1 w1.heap.size A L := Ints.of_own (c := c) hown (by omega)
  have s1 := hb.size
  rw [hLn]
  clear hown hm hx0 hLn
  have hk0 : (0 : Int) ≤ (k : Int) := by omega
  have hn0 : (0 : Int) ≤ (n : Int) := by omega
  go_wp2_with fail
  have hpl : ∀ x, x ∈ sizW n k → x < 2 ^ n := fun x hx => sizW_lt n k x hx
  have h63 : 2 ^ n ≤ 9223372036854775808 := Nat.pow_le_pow_right (n := 2) (by omega) hn63
  have hslen := Lib.hid (sizW_len n k)
  have hzlen := Lib.hid (szL_len L n k)
  go_loopw [7, 9] (fun v p wr => ∃ (j x : Nat) (A3 : Option Addr) (c3 : Nat), Hid ((sizW n k)[j]? = some x) ∧ j ≤ 8192 ∧ p = .int .i64 x ∧ v = .slice A3 j c3 ∧ wr.ownsRow w1.heap.size 3 1 (.slice A3 j c3) j (((szL L n k).take j).map (.int .i64)) ∧ Below w1.heap.size w1 wr) (fun v _ _ => 8192 - lenOf v)
  case atStart => exact ⟨0, x0, none, 0, hfirst, by omega, by rw [HQ.out], rfl, World.ownsRow_nil _ _ _ _, Below.refl _ _⟩
  case round =>
    obtain ⟨j, x, A3, c3, hj, hj8, rfl, rfl, hown, hbw⟩ := hrel
    have hxn : x < 2 ^ n := hpl x (List.mem_of_getElem? hj.out)
    have hjl : j < chN n k := by rw [← hslen.out]; exact (List.getElem?_eq_some_iff.1 hj.out).1
    have hz := hbw.size
    have hcond : (62 < n ∧ decide ((62 : Int) < (n : Int)) = true) ∨ (decide ((62 : Int) < (n : Int)) = false ∧ decide ((x : Int) < wrap64 ((2 : Int) ^ n)) = true) := by
      rcases pow_wrap n hn63 with ⟨rfl, h⟩ | ⟨h3, h⟩
      · exact .inl ⟨by omega, by decide⟩
      · exact .inr ⟨by simp; omega, by rw [h]; simp; exact_mod_cast hxn⟩
    by_cases hfull : j = 8192
    · have hbeq : ((j : Int) == 8192) = true := by simp; omega
      have HBIG : Hid (8192 < (szF s (k : Int)).length) := Lib.hid (by rw [HE.out, hzlen.out]; omega)
      clear hfull hpl h63 hxn
      rcases hcond with ⟨_, hc1⟩ | ⟨hc1, hc2⟩
      all_goals go_wp2
      all_goals refine bodyPost_ret (v := .tuple #[.slice none 0 0, .int .i64 4]) (by simp [results, Tryd.results24, go_sem]) rfl ⟨hb.trans (hbw.mono s1), .inr ⟨HBIG.out, rfl⟩⟩
    · have hbeq : ((j : Int) == 8192) = false := by simp; omega
      have hj9 : j < 8192 := by omega
      have hx63 : x < 9223372036854775808 := by omega
      have HU := Lib.hid (And.intro hup hin)
      have HAT := Lib.hid (szL_at (L := L) hj.out)
      by_cases hk1 : k = 0
      · have hx0 : x = 0 ∧ j = 0 := by
          have h := hj.out
          rw [hk1, sizW_zero] at h
          rcases j with _ | j
          · simp at h; exact ⟨h.symm, rfl⟩
          · simp at h
        have HJ : Hid (chN n k = j + 1) := Lib.hid (by rw [hk1, hx0.2]; exact chN_zero n)
        have hand : bits .and .i64 (x : Int) (-(x : Int)) = 0 := by rw [hx0.1]; decide
        clear hk1 hx0
        clear hfull hpl h63 hxn hup hin hjl hf1
        rcases hcond with ⟨_, hc1⟩ | ⟨hc1, hc2⟩
        all_goals go_wp2_with (first | (go_at_call 30; refine (spread_any A c L n HLn.out x _ w1.heap.size hz (IL.below hbw) HU.out.1 HU.out.2 hn63 hx63).mono ?_; rintro e w9 ⟨rfl, rfl⟩) | (at_builtin; refine push_int rfl _ _ rfl w1.heap.size _ j ((szL L n k).take j) rfl hown (sprN L x n) rfl (by omega) hz ?_; intro A4 c4 w4 hown4 hb4 hz4))
        all_goals refine bodyPost_ret (v := .tuple #[.slice A4 (j + 1) c4, .int .i64 0]) (by simp [results, Tryd.results24, go_sem]) rfl (szd_last HE.out (hzlen.out.trans HJ.out) HAT.out hj9 hown4 s1 (hb.trans ((hbw.trans hb4).mono s1)))
      have hk2 : 1 ≤ k := by omega
      by_cases hlast : j + 1 = chN n k
      · have hxl : x = 2 ^ n - 2 ^ (n - k) := by
          have h := sizW_last n k hkn
          rw [← hlast] at h
          have h2 := hj.out
          rw [show j + 1 - 1 = j by omega, h2] at h
          injection h
        have hlow := gos_last hk2 hkn hn63
        rw [← hxl] at hlow
        have hle : 2 ^ (n - k) ≤ 2 ^ n := Nat.pow_le_pow_right (by omega) (by omega)
        have hpos := Nat.two_pow_pos (n - k)
        have hend := pow_end n (2 ^ (n - k)) x hn63 hpos hle hxn
        rw [decide_eq_true (by omega)] at hend
        obtain ⟨low, hlw⟩ : ∃ low, 2 ^ (n - k) = low := ⟨_, rfl⟩
        rw [hlw] at hlow hend hpos hle
        have hl0 : ((low : Int) == 0) = false := by simp; omega
        have HJ : Hid (chN n k = j + 1) := Lib.hid hlast.symm
        have hlow2 : low < 9223372036854775809 := by omega
        clear hfull hpl h63 hxn hup hin hjl hf1 hxl hlast hlw hle hk1
        rcases hcond with ⟨_, hc1⟩ | ⟨hc1, hc2⟩
        all_goals go_wp2_with (first | (go_at_call 30; refine (spread_any A c L n HLn.out x _ w1.heap.size hz (IL.below hbw) HU.out.1 HU.out.2 hn63 hx63).mono ?_; rintro e w9 ⟨rfl, rfl⟩) | (at_builtin; refine push_int rfl _ _ rfl w1.heap.size _ j ((szL L n k).take j) rfl hown (sprN L x n) rfl (by omega) hz ?_; intro A4 c4 w4 hown4 hb4 hz4))
        all_goals refine bodyPost_ret (v := .tuple #[.slice A4 (j + 1) c4, .int .i64 0]) (by simp [results, Tryd.results24, go_sem]) rfl (szd_last HE.out (hzlen.out.trans HJ.out) HAT.out hj9 hown4 s1 (hb.trans ((hbw.trans hb4).mono s1)))
      · obtain ⟨y, hy⟩ : ∃ y, (sizW n k)[j + 1]? = some y := ⟨_, List.getElem?_eq_getElem (by rw [hslen.out]; omega)⟩
        have hyn := hpl y (List.mem_of_getElem? hy)
        obtain ⟨low, q, d, e', g1, g2, g3, g4, g5, g6, g7, g8⟩ := gos_step (sizW_next n k j x y hj.out hy) hn63 hyn
        have hend := pow_end n low x hn63 g1 (by omega) hxn
        rw [decide_eq_false (by omega)] at hend
        have hl0 : ((low : Int) == 0) = false := by simp; omega
        obtain ⟨u, hu⟩ : ∃ u, x + low = u := ⟨_, rfl⟩
        rw [hu] at g3 g4 g7
        have hu1 : (x : Int) + (low : Int) = (u : Int) := by omega
        have hu2 : u < 9223372036854775808 := by omega
        have g5' : (q : Int) / (low : Int) = (d : Int) := by rw [← g5]; simp
        have g6' : (d : Int) / 4 = (e' : Int) := by omega
        have g1' : (1 : Int) ≤ (low : Int) := by omega
        have hqb : q < 9223372036854775808 := by
          have hh := xor_nat x u hx63 hu2
          rw [g4] at hh
          have hh2 : x ^^^ u < 2 ^ 63 := Nat.xor_lt_two_pow hx63 hu2
          omega
        have hdb : d < 9223372036854775808 := by
          have := Nat.div_le_self q low
          omega
        have HY := Lib.hid hy
        have hlow2 : low < 9223372036854775809 := by omega
        clear hfull hpl h63 hxn hup hin hjl hf1 hlast hk1 hyn g5 g6 g3 hu g8 hy
        rcases hcond with ⟨_, hc1⟩ | ⟨hc1, hc2⟩
        all_goals go_wp2_with (first | (go_at_call 30; refine (spread_any A c L n HLn.out x _ w1.heap.size hz (IL.below hbw) HU.out.1 HU.out.2 hn63 hx63).mono ?_; rintro e w9 ⟨rfl, rfl⟩) | (at_builtin; refine push_int rfl _ _ rfl w1.heap.size _ j ((szL L n k).take j) rfl hown (sprN L x n) rfl (by omega) hz ?_; intro A4 c4 w4 hown4 hb4 hz4))
        all_goals go_roundw
        case rel => exact ⟨j + 1, y, A4, c4, HY, by omega, rfl, rfl, by rw [HAT.out]; exact hown4, hbw.trans hb4⟩
        case measure => simp only [lenOf_slice]; omega
        case rel => exact ⟨j + 1, y, A4, c4, HY, by omega, rfl, rfl, by rw [HAT.out]; exact hown4, hbw.trans hb4⟩
        case measure => simp only [lenOf_slice]; omega
end Go.Proofs.YtdmedphpddhjcaaDoor.sets

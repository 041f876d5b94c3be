/- The reference's Sized; the law SetsSized, walked. -/
import Derived.Test.YtdmedphpddhjcaaDoorSizD
import Derived.Test.YtdmedphpddhjcaaDoorSubM
namespace Go.Proofs.YtdmedphpddhjcaaDoor.sets
open Go.RowKit Go.Shelf
open Go.Proofs.YtdmedphpddhjcaaDoor.lib
set_option linter.unusedVariables false

set_option maxHeartbeats 2000000 in
theorem rSized_any (s : Nat) (hs : s < 9223372036854775808) (size : Int) (w : World) : Calls Tryd.prog 25 #[.int .i64 s, .int .i64 size] w (SizedOut w (szF s size)) := by
  obtain ⟨n, hn⟩ : ∃ n, cntN s = n := ⟨_, rfl⟩
  obtain ⟨L, hL⟩ : ∃ L, memL (s : Int) = L := ⟨_, rfl⟩
  have hLn : L.length = n := by rw [← hL, ← hn]; exact memL_len s hs
  have hn63 : n ≤ 63 := by rw [← hLn, ← hL]; exact memTo_len (s : Int) 63
  have hup : L.Pairwise (· < ·) := by rw [← hL]; exact memL_up _
  have hin : ∀ x ∈ L, 0 ≤ x ∧ x ≤ 62 := by intro x hx; rw [← hL] at hx; exact memL_in hx
  have HF : Hid (szF s size = if size < 0 ∨ (n : Int) < size then [] else szL L n size.toNat) := Lib.hid (by unfold szF; rw [hn, hL])
  have hsz := rsize_any s hs
  have hm := rmembers_any (s : Int) (by omega) (by omega)
  have hch := choose_any n size hn63
  rw [hn] at hsz
  rw [hL] at hm
  clear hn hL
  obtain ⟨C, hC⟩ : ∃ C, choR n size = C := ⟨_, rfl⟩
  rw [hC] at hch
  have hlen : Hid (C = cap5 (szF s size).length) := Lib.hid (by
    rw [← hC, HF.out]
    unfold choR
    split
    · rfl
    · rw [szL_len])
  by_cases hbig : 8192 < C
  · have HB : Hid (8192 < (szF s size).length) := Lib.hid (by have := hlen.out; unfold cap5 at this; split at this <;> omega)
    have hb1 : (8192 : Int) < (C : Int) := by omega
    clear hbig hC
    go_enter Tryd.func25, Tryd.ntmps25
    go_wp2_with fail
    refine (hsz _).mono ?_
    rintro e w0 ⟨rfl, rfl⟩
    go_wp2_with fail
    refine (hch _).mono ?_
    rintro e w0 ⟨rfl, rfl⟩
    go_wp2
    refine bodyPost_ret (v := .tuple #[.slice none 0 0, .int .i64 4]) (by simp [results, Tryd.results25, go_sem]) rfl ⟨Below.refl _ _, .inr ⟨HB.out, rfl⟩⟩
  have hb1 : ¬ ((8192 : Int) < (C : Int)) := by omega
  have hlen2 : Hid ((szF s size).length = C) := Lib.hid (by have := hlen.out; unfold cap5 at this; split at this <;> omega)
  by_cases hz : C = 0
  · have HB : Hid (szF s size = []) := Lib.hid (List.eq_nil_of_length_eq_zero (by rw [hlen2.out, hz]))
    have hb2 : ((C : Int) == 0) = true := by simp; omega
    clear hbig hC hz
    go_enter Tryd.func25, Tryd.ntmps25
    go_wp2_with fail
    refine (hsz _).mono ?_
    rintro e w0 ⟨rfl, rfl⟩
    go_wp2_with fail
    refine (hch _).mono ?_
    rintro e w0 ⟨rfl, rfl⟩
    go_wp2
    refine bodyPost_ret (v := .tuple #[.slice none 0 0, .int .i64 0]) (by simp [results, Tryd.results25, go_sem]) rfl ⟨Below.refl _ _, .inl ?_⟩
    rw [HB.out]
    exact ⟨by decide, none, 0, rfl, World.ownsRow_nil _ _ _ _⟩
  · have hr : 0 ≤ size ∧ size ≤ n := by
      rcases Int.lt_or_le size 0 with h | h
      · exfalso; apply hz; rw [← hC]; unfold choR; rw [if_pos (.inl h)]
      · rcases Int.lt_or_le n size with h' | h'
        · exfalso; apply hz; rw [← hC]; unfold choR; rw [if_pos (.inr h')]
        · exact ⟨h, h'⟩
    obtain ⟨k, rfl⟩ := Int.eq_ofNat_of_zero_le hr.1
    have HE : Hid (szF s (k : Int) = szL L n k) := Lib.hid (by rw [HF.out, if_neg (by omega)]; rfl)
    have hb2 : ((C : Int) == 0) = false := by simp; omega
    have hchn : chN n k ≤ 8192 := by rw [← szL_len L, ← HE.out, hlen2.out]; omega
    have hk63 : k ≤ 63 := by omega
    have HLn := Lib.hid hLn
    clear hbig hC hz hr HF
    go_enter Tryd.func25, Tryd.ntmps25
    go_wp2_with fail
    refine (hsz _).mono ?_
    rintro e w0 ⟨rfl, rfl⟩
    go_wp2_with fail
    refine (hch _).mono ?_
    rintro e w0 ⟨rfl, rfl⟩
    go_wp2_with fail
    refine (hm _).mono ?_
    rintro e w1 ⟨A, c, rfl, hown, hb⟩
    have IL : Ints w1 w1.heap.size A L := Ints.of_own (c := c) hown (by omega)
    have s1 := hb.size
    clear hown hLn
    go_wp2_with fail
    refine (hsz _).mono ?_
    rintro e w0 ⟨rfl, rfl⟩
    go_wp2_with fail
    refine (rsized_any L A c hup hin n k (by rw [HLn.out]; exact Nat.le_refl _) hk63 hchn _ _ (Nat.le_refl _) IL).mono ?_
    rintro e w2 ⟨A2, c2, rfl, hown2, hb2'⟩
    have HR : SizedOut w (szF s (k : Int)) (.returned (.tuple #[.slice A2 (szL L n k).length c2, .int .i64 0])) w2 := by
      rw [HE.out]
      exact ⟨hb.trans (hb2'.mono s1), .inl ⟨by rw [szL_len]; exact hchn, A2, c2, rfl, own_less hown2 s1⟩⟩
    clear hown2
    go_wp2
    exact bodyPost_ret (v := .tuple #[.slice A2 (szL L n k).length c2, .int .i64 0]) (by simp [results, Tryd.results25, go_sem]) rfl HR
end Go.Proofs.YtdmedphpddhjcaaDoor.sets

/- The spread of a set's members. -/
import Derived.Test.YtdmedphpddhjcaaDoorSizQ
namespace Go.Proofs.YtdmedphpddhjcaaDoor.sets
open Go.RowKit Go.Shelf
open Go.Proofs.YtdmedphpddhjcaaDoor.lib
set_option linter.unusedVariables false

theorem shr_bit (p j : Nat) : (bits .and .i64 ((p : Int) / 2 ^ j) 1 == 1) = p.testBit j := by
  rw [i64_and1, ← hasN_nat]
  unfold hasN pow2
  rw [Bool.eq_iff_iff]
  simp

set_option maxHeartbeats 1000000 in
theorem spread_any (A : Option Addr) (c : Nat) (l : List Int) (n : Nat) (hn : l.length = n) (p : Nat) (w : World) (B : Nat) (hB : B ≤ w.heap.size) (hL : Ints w B A l) (hl : l.Pairwise (· < ·)) (h0 : ∀ x ∈ l, 0 ≤ x ∧ x ≤ 62) (hlen : n ≤ 63) (hp : p < 9223372036854775808) :
    Calls Tryd.prog 30 #[.slice A n c, .int .i64 p] w fun e w' => e = .returned (.int .i64 (sprN l p n)) ∧ w = w' := by
  have HN := Lib.hid hn
  clear hn
  go_enter Tryd.func30, Tryd.ntmps30
  go_wp2
  go_loop [5, 6, 7, 10] (fun s _ _ i => ∃ j t : Nat, j ≤ n ∧ i = .int .i64 j ∧ s = .int .i64 t ∧ Hid (sprN l p j = (t : Int)) ∧ t < 9223372036854775808) (fun _ _ _ i => n - (intOf i).toNat)
  case atStart => exact ⟨0, 0, by omega, rfl, rfl, Lib.hid rfl, by omega⟩
  case round =>
    obtain ⟨j, t, hj, rfl, rfl, ht, htl⟩ := hrel
    by_cases hlt : j < n
    · obtain ⟨ad, x, rfl, hadb, hx, hcell⟩ := hL.at_ (k := j) (by rw [HN.out]; exact hlt)
      obtain ⟨m, hm, rfl⟩ : ∃ m : Nat, m ≤ 62 ∧ x = m := by
        obtain ⟨hx0, hx1⟩ := h0 x (List.mem_of_getElem? hx)
        exact ⟨x.toNat, by omega, by omega⟩
      obtain ⟨P, hP, hP1, hP2, hor, hlt', hpw⟩ : ∃ P : Int, Hid (sprN l p (j + 1) = (t : Int) + if p.testBit j then P else 0) ∧ 1 ≤ P ∧ P ≤ 4611686018427387904 ∧ Hid (bits .or .i64 (t : Int) P = (t : Int) + P) ∧ Hid (sprN l p (j + 1) < 9223372036854775808) ∧ Hid (wrap64 (2 ^ m) = P) := by
        refine ⟨pow2 m, Lib.hid ?_, pow2_pos m, pow2_le hm, Lib.hid ?_, Lib.hid (spr_lt hl h0 p (j + 1) (by rw [HN.out]; omega)).2, Lib.hid ?_⟩
        · rw [spr_step hx, ht.out, Int.toNat_natCast]
        · apply or_pow t m htl hm
          apply Nat.testBit_lt_two_pow
          have h1 := (spr_bound hl (fun x hx => (h0 x hx).1) p j _ hx).2
          rw [ht.out, Int.toNat_natCast] at h1
          unfold pow2 at h1
          exact Int.ofNat_lt.1 h1
        · have hp0 := pow2_pos m
          have hp1 := pow2_le hm
          have e : ((2 : Int) ^ m) = pow2 m := by unfold pow2; simp
          rw [e]
          unfold wrap64
          generalize pow2 m = P at hp0 hp1
          omega
      have hmi : (m : Int) ≤ 62 := by omega
      clear hx hm
      have hsb := shr_bit p j
      cases hb : p.testBit j
      · rw [hb] at hsb hP
        have HX : Hid (sprN l p (j + 1) = (t : Int)) := Lib.hid (by rw [hP.out]; simp)
        clear hb hP hor hlt' hpw hP1 hP2
        go_wp2
        go_round
        case rel => exact ⟨j + 1, t, by omega, by go_num, rfl, HX, htl⟩
        case measure => simp [intOf]; omega
      · rw [hb] at hsb hP
        obtain ⟨t', ht'⟩ : ∃ t' : Nat, (t : Int) + P = t' := ⟨((t : Int) + P).toNat, by omega⟩
        have HX : Hid (sprN l p (j + 1) = (t' : Int)) := Lib.hid (by rw [hP.out, if_pos rfl, ht'])
        have HB : Hid (t' < 9223372036854775808) := Lib.hid (by have := hlt'.out; rw [HX.out] at this; omega)
        have HO := Lib.hid (And.intro (hor.out.trans ht') hpw.out)
        clear hb hP hor hlt' hpw hP1 hP2 ht'
        go_wp2
        go_round
        case rel => exact ⟨j + 1, t', by omega, by go_num, by simp only [HO.out.2, HO.out.1], HX, HB.out⟩
        case measure => simp [intOf]; omega
    · have hjn : j = n := by omega
      subst hjn
      go_wp2
      go_ret
      exact ⟨ret_int ht.out.symm, rfl⟩

end Go.Proofs.YtdmedphpddhjcaaDoor.sets

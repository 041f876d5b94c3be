/- The same types: the reference's word. -/
import Derived.Test.YthefooacfcagbaaGreatDoorFltX
import Derived.Test.YthefooacfcagbaaGreatDoorC2
namespace Go.Proofs.YthefooacfcagbaaGreatDoor.flt
open Go.RowKit
open lib rd typ
set_option linter.unusedVariables false
set_option linter.unusedSimpArgs false
set_option maxRecDepth 100000 in
set_option maxHeartbeats 8000000 in
theorem rsame_any (a b : Ty) (C : Option Addr) (c : Nat) (C' : Option Addr) (c' : Nat) (w : World) (hC : Ints w w.heap.size C a.cap) (hC' : Ints w w.heap.size C' b.cap) :
  Calls Tryz.prog 32 #[.agg #[.string a.name, .int .i64 a.count, .int .i64 a.frm, .int .i64 a.to, .slice C a.cap.length c, .int .i64 a.skills, .int .i64 a.profile, .int .i64 a.opn, .int .i64 a.close, .int .i64 a.drive, .int .i64 a.rest, .int .i64 a.fixed, .int .i64 a.mile, .int .i64 a.tick], .agg #[.string b.name, .int .i64 b.count, .int .i64 b.frm, .int .i64 b.to, .slice C' b.cap.length c', .int .i64 b.skills, .int .i64 b.profile, .int .i64 b.opn, .int .i64 b.close, .int .i64 b.drive, .int .i64 b.rest, .int .i64 b.fixed, .int .i64 b.mile, .int .i64 b.tick]] w fun e w' => e = .returned (.bool (sameT a b)) ∧ Below w.heap.size w w' := by
 obtain ⟨R, hR⟩ : ∃ R, sameT a b = R := ⟨_, rfl⟩
 have HR : Hid (R = (sameB a.cap b.cap && ((a.name.toList == b.name.toList) && numsB a b))) := Lib.hid (by rw [← hR]; rfl)
 rw [hR]
 clear hR
 obtain ⟨n, hn⟩ : ∃ n, a.cap.length = n := ⟨_, rfl⟩
 obtain ⟨m, hm⟩ : ∃ m, b.cap.length = m := ⟨_, rfl⟩
 have hlen := hC.len
 rw [hn] at hlen ⊢
 rw [hm]
 by_cases hnm : n = m
 ·subst hnm
  have HN := Lib.hid (And.intro hn hm)
  clear hn hm
  go_enter Tryz.func32, Tryz.ntmps32
  go_upto_region 3 with fail
  obtain ⟨W0, hW0⟩ : ∃ W0, (w.alloc (.cells #[.string a.name, .int .i64 a.count, .int .i64 a.frm, .int .i64 a.to, .slice C n c, .int .i64 a.skills, .int .i64 a.profile, .int .i64 a.opn, .int .i64 a.close, .int .i64 a.drive, .int .i64 a.rest, .int .i64 a.fixed, .int .i64 a.mile, .int .i64 a.tick] 63)).alloc (.cells #[.string b.name, .int .i64 b.count, .int .i64 b.frm, .int .i64 b.to, .slice C' n c', .int .i64 b.skills, .int .i64 b.profile, .int .i64 b.opn, .int .i64 b.close, .int .i64 b.drive, .int .i64 b.rest, .int .i64 b.fixed, .int .i64 b.mile, .int .i64 b.tick] 63) = W0 := ⟨_, rfl⟩
  have hb0 : TyBlk W0 w.heap.size a C c := by
   rw [← hW0]
   unfold TyBlk TyCells
   rw [HN.out.1]
   rw [Below.heap_alloc _ _ _ (by simp)]
   exact World.alloc_heap_new w _
  have hb1 : TyBlk W0 (w.heap.size + 1) b C' c' := by
   rw [← hW0]
   unfold TyBlk TyCells
   rw [HN.out.2]
   have h := World.alloc_heap_new (w.alloc (.cells #[.string a.name, .int .i64 a.count, .int .i64 a.frm, .int .i64 a.to, .slice C n c, .int .i64 a.skills, .int .i64 a.profile, .int .i64 a.opn, .int .i64 a.close, .int .i64 a.drive, .int .i64 a.rest, .int .i64 a.fixed, .int .i64 a.mile, .int .i64 a.tick] 63)) (.cells #[.string b.name, .int .i64 b.count, .int .i64 b.frm, .int .i64 b.to, .slice C' n c', .int .i64 b.skills, .int .i64 b.profile, .int .i64 b.opn, .int .i64 b.close, .int .i64 b.drive, .int .i64 b.rest, .int .i64 b.fixed, .int .i64 b.mile, .int .i64 b.tick] 63)
   simpa using h
  have hB0 : Below w.heap.size w W0 := by rw [← hW0]; exact ((Below.refl _ _).alloc (Nat.le_refl _) _).alloc (by simp) _
  have hs0 : w.heap.size + 1 < W0.heap.size := by rw [← hW0]; simp
  rw [hW0]
  clear hW0
  go_wp2_with fail
  go_loopw [5] (fun i wr => ∃ k : Nat, k ≤ n ∧ i = .int .i64 k ∧ Hid (sameB a.cap b.cap = decide (a.cap.drop k = b.cap.drop k)) ∧ TyBlk wr w.heap.size a C c ∧ TyBlk wr (w.heap.size + 1) b C' c' ∧ Below w.heap.size w wr) (fun i _ => n - (intOf i).toNat)
  case atStart => exact ⟨0, by omega, rfl, Lib.hid rfl, hb0, hb1, hB0⟩
  case round =>
   clear hb0 hb1 hB0
   obtain ⟨k, hk, rfl, hr, hb0, hb1, hB⟩ := hrel
   obtain ⟨m0, m1, m2, m3, m4, m5, m6, m7, m8, m9, m10, m11, m12, m13⟩ := hb0.cells
   obtain ⟨n0, n1, n2, n3, n4, n5, n6, n7, n8, n9, n10, n11, n12, n13⟩ := hb1.cells
   rw [HN.out.1] at m4
   rw [HN.out.2] at n4
   by_cases hlt : k < n
   ·obtain ⟨ad, x, rfl, hadb, hx, hcx⟩ := (hC.below hB).at_ (k := k) (by rw [HN.out.1]; exact hlt)
    obtain ⟨ad', y, rfl, hadb', hy, hcy⟩ := (hC'.below hB).at_ (k := k) (by rw [HN.out.2]; exact hlt)
    have HX := Lib.hid (same_step hx hy)
    have hk0 : (0 : Int) ≤ (k : Int) := by omega
    have hkn : (k : Int) < (n : Int) := by omega
    clear hx hy m0 m1 m2 m3 m5 m6 m7 m8 m9 m10 m11 m12 m13 n0 n1 n2 n3 n5 n6 n7 n8 n9 n10 n11 n12 n13
    by_cases hxy : x = y
    ·subst hxy
     go_wp2
     go_quiet (fail)
     go_wp2
     go_roundw
     case rel => exact ⟨k + 1, by omega, by go_num, Lib.hid (by rw [hr.out, HX.out]; simp), hb0, hb1, bel_drewN hB _⟩
     case measure => simp [intOf]; omega
    ·have h1 : (x == y) = false := by simp [hxy]
     have h2 : (x != y) = true := by simp [hxy]
     have HF : Hid (R = false) := Lib.hid (by rw [HR.out, hr.out, HX.out, decide_eq_false hxy]; rfl)
     clear hxy
     go_wp2
     go_quiet (fail)
     go_wp2
     go_ret
     exact ⟨ret_bool HF.out.symm, bel_drewN hB _⟩
   ·have hkn : k = n := by omega
    subst hkn
    have HT : Hid (R = ((a.name.toList == b.name.toList) && numsB a b)) := Lib.hid (by
     rw [HR.out, hr.out, List.drop_of_length_le (by rw [HN.out.1]; exact Nat.le_refl _), List.drop_of_length_le (by rw [HN.out.2]; exact Nat.le_refl _)]
     simp)
    clear hlt hC hC'
    go_wp2
    all_goals go_ret
    all_goals refine ⟨ret_bool ?_, hB⟩
    all_goals rw [HT.out]
    all_goals unfold numsB
    all_goals first | (simp [*]; done) | (simp [*]; rw [Bool.eq_iff_iff]; simp)
 ·have hne : ((n : Int) != (m : Int)) = true := by simp; omega
  have hne2 : ((n : Int) == (m : Int)) = false := by simp; omega
  have HF : Hid (R = false) := Lib.hid (by
   rw [HR.out]
   unfold sameB
   rw [decide_eq_false (by intro e; rw [e] at hn; omega)]
   rfl)
  clear hnm hn hm
  go_enter Tryz.func32, Tryz.ntmps32
  go_wp2
  go_ret
  exact ⟨ret_bool HF.out.symm, ((Below.refl _ _).alloc (Nat.le_refl _) _).alloc (by simp) _⟩
end Go.Proofs.YthefooacfcagbaaGreatDoor.flt

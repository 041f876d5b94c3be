import Derived.Test.YthefooacfcagbaaGreatDoorFltX
import Derived.Test.YthefooacfcagbaaGreatDoorC2
import Derived.Test.YthefooacfcagbaaGreatDoorInsX
import Derived.Deep.DeepCutAuto
import Derived.Test.YthefooacfcagbaaGreatDoorBase
import Derived.Deep.RegionHeld3
/- The same types: the reference's word. -/
namespace Go.Proofs.YthefooacfcagbaaGreatDoor.flt
open Go.RowKit
open lib rd typ
set_option linter.unusedVariables false
set_option linter.unusedSimpArgs false
set_option maxRecDepth 100000 in
set_option maxHeartbeats 8000000 in
theorem rsame_any (a b : Ty) (C : Option Addr) (c : Nat) (C' : Option Addr) (c' : Nat) (w : World) (hC : Ints w w.heap.size C a.cap) (hC' : Ints w w.heap.size C' b.cap) :
  Calls Tryz.prog 32 #[.agg #[.string a.name, .int .i64 a.count, .int .i64 a.frm, .int .i64 a.to, .slice C a.cap.length c, .int .i64 a.skills, .int .i64 a.profile, .int .i64 a.opn, .int .i64 a.close, .int .i64 a.drive, .int .i64 a.rest, .int .i64 a.fixed, .int .i64 a.mile, .int .i64 a.tick], .agg #[.string b.name, .int .i64 b.count, .int .i64 b.frm, .int .i64 b.to, .slice C' b.cap.length c', .int .i64 b.skills, .int .i64 b.profile, .int .i64 b.opn, .int .i64 b.close, .int .i64 b.drive, .int .i64 b.rest, .int .i64 b.fixed, .int .i64 b.mile, .int .i64 b.tick]] w fun e w' => e = .returned (.bool (sameT a b)) ∧ Below w.heap.size w w' := by
 obtain ⟨R, hR⟩ : ∃ R, sameT a b = R := ⟨_, rfl⟩
 have HR : Hid (R = (sameB a.cap b.cap && ((a.name.toList == b.name.toList) && numsB a b))) := Lib.hid (by rw [← hR]; rfl)
 rw [hR]
 clear hR
 obtain ⟨n, hn⟩ : ∃ n, a.cap.length = n := ⟨_, rfl⟩
 obtain ⟨m, hm⟩ : ∃ m, b.cap.length = m := ⟨_, rfl⟩
 have hlen := hC.len
 rw [hn] at hlen ⊢
 rw [hm]
 by_cases hnm : n = m
 ·subst hnm
  have HN := Lib.hid (And.intro hn hm)
  clear hn hm
  go_enter Tryz.func32, Tryz.ntmps32
  go_upto_region 3 with fail
  obtain ⟨W0, hW0⟩ : ∃ W0, (w.alloc (.cells #[.string a.name, .int .i64 a.count, .int .i64 a.frm, .int .i64 a.to, .slice C n c, .int .i64 a.skills, .int .i64 a.profile, .int .i64 a.opn, .int .i64 a.close, .int .i64 a.drive, .int .i64 a.rest, .int .i64 a.fixed, .int .i64 a.mile, .int .i64 a.tick] 63)).alloc (.cells #[.string b.name, .int .i64 b.count, .int .i64 b.frm, .int .i64 b.to, .slice C' n c', .int .i64 b.skills, .int .i64 b.profile, .int .i64 b.opn, .int .i64 b.close, .int .i64 b.drive, .int .i64 b.rest, .int .i64 b.fixed, .int .i64 b.mile, .int .i64 b.tick] 63) = W0 := ⟨_, rfl⟩
  have hb0 : TyBlk W0 w.heap.size a C c := by
   rw [← hW0]
   unfold TyBlk TyCells
   rw [HN.out.1]
   rw [Below.heap_alloc _ _ _ (by simp)]
   exact World.alloc_heap_new w _
  have hb1 : TyBlk W0 (w.heap.size + 1) b C' c' := by
   rw [← hW0]
   unfold TyBlk TyCells
   rw [HN.out.2]
   have h := World.alloc_heap_new (w.alloc (.cells #[.string a.name, .int .i64 a.count, .int .i64 a.frm, .int .i64 a.to, .slice C n c, .int .i64 a.skills, .int .i64 a.profile, .int .i64 a.opn, .int .i64 a.close, .int .i64 a.drive, .int .i64 a.rest, .int .i64 a.fixed, .int .i64 a.mile, .int .i64 a.tick] 63)) (.cells #[.string b.name, .int .i64 b.count, .int .i64 b.frm, .int .i64 b.to, .slice C' n c', .int .i64 b.skills, .int .i64 b.profile, .int .i64 b.opn, .int .i64 b.close, .int .i64 b.drive, .int .i64 b.rest, .int .i64 b.fixed, .int .i64 b.mile, .int .i64 b.tick] 63)
   simpa using h
  have hB0 : Below w.heap.size w W0 := by rw [← hW0]; exact ((Below.refl _ _).alloc (Nat.le_refl _) _).alloc (by simp) _
  have hs0 : w.heap.size + 1 < W0.heap.size := by rw [← hW0]; simp
  rw [hW0]
  clear hW0
  go_wp2_with fail
  go_loopw [5] (fun i wr => ∃ k : Nat, k ≤ n ∧ i = .int .i64 k ∧ Hid (sameB a.cap b.cap = decide (a.cap.drop k = b.cap.drop k)) ∧ TyBlk wr w.heap.size a C c ∧ TyBlk wr (w.heap.size + 1) b C' c' ∧ Below w.heap.size w wr) (fun i _ => n - (intOf i).toNat)
  case atStart => exact ⟨0, by omega, rfl, Lib.hid rfl, hb0, hb1, hB0⟩
  case round =>
   clear hb0 hb1 hB0
   obtain ⟨k, hk, rfl, hr, hb0, hb1, hB⟩ := hrel
   obtain ⟨m0, m1, m2, m3, m4, m5, m6, m7, m8, m9, m10, m11, m12, m13⟩ := hb0.cells
   obtain ⟨n0, n1, n2, n3, n4, n5, n6, n7, n8, n9, n10, n11, n12, n13⟩ := hb1.cells
   rw [HN.out.1] at m4
   rw [HN.out.2] at n4
   by_cases hlt : k < n
   ·obtain ⟨ad, x, rfl, hadb, hx, hcx⟩ := (hC.below hB).at_ (k := k) (by rw [HN.out.1]; exact hlt)
    obtain ⟨ad', y, rfl, hadb', hy, hcy⟩ := (hC'.below hB).at_ (k := k) (by rw [HN.out.2]; exact hlt)
    have HX := Lib.hid (same_step hx hy)
    have hk0 : (0 : Int) ≤ (k : Int) := by omega
    have hkn : (k : Int) < (n : Int) := by omega
    clear hx hy m0 m1 m2 m3 m5 m6 m7 m8 m9 m10 m11 m12 m13 n0 n1 n2 n3 n5 n6 n7 n8 n9 n10 n11 n12 n13
    by_cases hxy : x = y
    ·subst hxy
     go_wp2
     go_quiet (fail)
     go_wp2
     go_roundw
     case rel => exact ⟨k + 1, by omega, by go_num, Lib.hid (by rw [hr.out, HX.out]; simp), hb0, hb1, bel_drewN hB _⟩
     case measure => simp [intOf]; omega
    ·have h1 : (x == y) = false := by simp [hxy]
     have h2 : (x != y) = true := by simp [hxy]
     have HF : Hid (R = false) := Lib.hid (by rw [HR.out, hr.out, HX.out, decide_eq_false hxy]; rfl)
     clear hxy
     go_wp2
     go_quiet (fail)
     go_wp2
     go_ret
     exact ⟨ret_bool HF.out.symm, bel_drewN hB _⟩
   ·have hkn : k = n := by omega
    subst hkn
    have HT : Hid (R = ((a.name.toList == b.name.toList) && numsB a b)) := Lib.hid (by
     rw [HR.out, hr.out, List.drop_of_length_le (by rw [HN.out.1]; exact Nat.le_refl _), List.drop_of_length_le (by rw [HN.out.2]; exact Nat.le_refl _)]
     simp)
    clear hlt hC hC'
    go_wp2
    all_goals go_ret
    all_goals refine ⟨ret_bool ?_, hB⟩
    all_goals rw [HT.out]
    all_goals unfold numsB
    all_goals first | (simp [*]; done) | (simp [*]; rw [Bool.eq_iff_iff]; simp)
 ·have hne : ((n : Int) != (m : Int)) = true := by simp; omega
  have hne2 : ((n : Int) == (m : Int)) = false := by simp; omega
  have HF : Hid (R = false) := Lib.hid (by
   rw [HR.out]
   unfold sameB
   rw [decide_eq_false (by intro e; rw [e] at hn; omega)]
   rfl)
  clear hnm hn hm
  go_enter Tryz.func32, Tryz.ntmps32
  go_wp2
  go_ret
  exact ⟨ret_bool HF.out.symm, ((Below.refl _ _).alloc (Nat.le_refl _) _).alloc (by simp) _⟩
end Go.Proofs.YthefooacfcagbaaGreatDoor.flt

/- The same networks: the reference's word. -/
namespace Go.Proofs.YthefooacfcagbaaGreatDoor.ins
open Go.RowKit
open lib rd typ eqg note
set_option linter.unusedVariables false
set_option linter.unusedSimpArgs false
def netB (a b : Net) : Bool := eqL sameS a.places b.places && eqL sameA a.arcs b.arcs
theorem arc_cases (x y : Arc) : (sameA x y = false ∧ (x.frm == y.frm) = false ∧ (x.frm != y.frm) = true) ∨ (sameA x y = false ∧ x.frm = y.frm ∧ (x.to == y.to) = false ∧ (x.to != y.to) = true) ∨ (sameA x y = false ∧ x.frm = y.frm ∧ x.to = y.to ∧ (x.profile == y.profile) = false ∧ (x.profile != y.profile) = true) ∨ (sameA x y = false ∧ x.frm = y.frm ∧ x.to = y.to ∧ x.profile = y.profile ∧ (x.miles == y.miles) = false ∧ (x.miles != y.miles) = true) ∨ (sameA x y = (eqL ptEq x.travel y.travel && eqL ptEq x.slow y.slow) ∧ x.frm = y.frm ∧ x.to = y.to ∧ x.profile = y.profile ∧ x.miles = y.miles) := by
 by_cases h1 : x.frm = y.frm
 ·by_cases h2 : x.to = y.to
  ·by_cases h3 : x.profile = y.profile
   ·by_cases h4 : x.miles = y.miles
    ·exact .inr (.inr (.inr (.inr ⟨by unfold sameA; simp [h1, h2, h3, h4], h1, h2, h3, h4⟩)))
    ·exact .inr (.inr (.inr (.inl ⟨by unfold sameA; simp [h4], h1, h2, h3, by simp [h4], by simp [h4]⟩)))
   ·exact .inr (.inr (.inl ⟨by unfold sameA; simp [h3], h1, h2, by simp [h3], by simp [h3]⟩))
  ·exact .inr (.inl ⟨by unfold sameA; simp [h2], h1, by simp [h2], by simp [h2]⟩)
 ·exact .inl ⟨by unfold sameA; simp [h1], by simp [h1], by simp [h1]⟩
set_option maxRecDepth 20000 in
set_option maxHeartbeats 4000000 in
theorem rnets_any (a b : Net) (A0 : Option Addr) (c0 : Nat) (A1 : Option Addr) (c1 : Nat) (D0 : Option Addr) (d0 : Nat) (D1 : Option Addr) (d1 : Nat) (w : World) (h1 : RowAt rStr w w.heap.size A0 a.places) (h2 : RowAt rArc w w.heap.size A1 a.arcs) (h3 : RowAt rStr w w.heap.size D0 b.places) (h4 : RowAt rArc w w.heap.size D1 b.arcs) :
  Calls Tryz.prog 31 #[.agg #[.slice A0 a.places.length c0, .slice A1 a.arcs.length c1], .agg #[.slice D0 b.places.length d0, .slice D1 b.arcs.length d1]] w fun e w' => e = .returned (.bool (netB a b)) ∧ Below w.heap.size w w' := by
 obtain ⟨R, hR⟩ : ∃ R, netB a b = R := ⟨_, rfl⟩
 have HR : Hid (R = (eqL sameS a.places b.places && eqL sameA a.arcs b.arcs)) := Lib.hid (by rw [← hR]; rfl)
 rw [hR]
 clear hR
 have l1 := h1.len
 have l2 := h2.len
 obtain ⟨n, hn⟩ : ∃ n, a.places.length = n := ⟨_, rfl⟩
 obtain ⟨m, hm⟩ : ∃ m, a.arcs.length = m := ⟨_, rfl⟩
 obtain ⟨n', hn'⟩ : ∃ n, b.places.length = n := ⟨_, rfl⟩
 obtain ⟨m', hm'⟩ : ∃ m, b.arcs.length = m := ⟨_, rfl⟩
 rw [hn] at l1
 rw [hm] at l2
 rw [hn, hm, hn', hm']
 have b2 : ∀ o o', Below w.heap.size w ((w.alloc o).alloc o') := fun o o' => ((Below.refl _ _).alloc (Nat.le_refl _) _).alloc (by simp) _
 by_cases hnn : n = n'
 case neg =>
  have e1 : ((n : Int) == (n' : Int)) = false := by simp; omega
  have e2 : ((n : Int) != (n' : Int)) = true := by simp; omega
  have HT : Hid (R = false) := Lib.hid (by rw [HR.out, eqL_no (by omega)]; rfl)
  clear hnn hn hm hn' hm' h1 h2 h3 h4
  go_enter Tryz.func31, Tryz.ntmps31
  go_wp2
  go_ret
  exact ⟨ret_bool HT.out.symm, b2 _ _⟩
 subst hnn
 by_cases hmm : m = m'
 case neg =>
  have e1 : ((m : Int) == (m' : Int)) = false := by simp; omega
  have e2 : ((m : Int) != (m' : Int)) = true := by simp; omega
  have HT : Hid (R = false) := Lib.hid (by rw [HR.out, eqL_no (p := sameA) (by omega), Bool.and_false])
  clear hmm hn hm hn' hm' h1 h2 h3 h4
  go_enter Tryz.func31, Tryz.ntmps31
  go_wp2
  go_ret
  exact ⟨ret_bool HT.out.symm, b2 _ _⟩
 subst hmm
 have HN := Lib.hid (And.intro (And.intro hn hn') (And.intro hm hm'))
 have HG1 := Lib.hid (eqL_go (p := sameS) (hn.trans hn'.symm))
 have HG2 := Lib.hid (eqL_go (p := sameA) (hm.trans hm'.symm))
 clear hn hm hn' hm'
 obtain ⟨W0, hW0⟩ : ∃ W0, (w.alloc (.cells #[.slice A0 n c0, .slice A1 m c1] 25)).alloc (.cells #[.slice D0 n d0, .slice D1 m d1] 25) = W0 := ⟨_, rfl⟩
 have hB0 : Below w.heap.size w W0 := by rw [← hW0]; exact b2 _ _
 have z0 := hB0.size
 have hs0 : w.heap.size + 1 < W0.heap.size := by rw [← hW0]; simp
 have HS : Hid (∀ w', Below W0.heap.size W0 w' → w'.cell? ⟨w.heap.size, 0, none⟩ = some (.slice A0 n c0) ∧ w'.cell? ⟨w.heap.size, 1, none⟩ = some (.slice A1 m c1) ∧ w'.cell? ⟨w.heap.size + 1, 0, none⟩ = some (.slice D0 n d0) ∧ w'.cell? ⟨w.heap.size + 1, 1, none⟩ = some (.slice D1 m d1)) := Lib.hid fun w' h => by
  have hk := fun (o : Nat) => h.cell (p := ⟨w.heap.size, o, none⟩) (show w.heap.size < W0.heap.size by omega)
  have hk1 := fun (o : Nat) => h.cell (p := ⟨w.heap.size + 1, o, none⟩) hs0
  refine ⟨(hk _).trans ?_, (hk _).trans ?_, (hk1 _).trans ?_, (hk1 _).trans ?_⟩
  all_goals (rw [← hW0]; simp)
 have H1 : Hid (∀ w', Below W0.heap.size W0 w' → RowAt rStr w' W0.heap.size A0 a.places ∧ RowAt rArc w' W0.heap.size A1 a.arcs ∧ RowAt rStr w' W0.heap.size D0 b.places ∧ RowAt rArc w' W0.heap.size D1 b.arcs) := Lib.hid fun w' h => ⟨((h1.below hB0).more z0).below h, ((h2.below hB0).more z0).below h, ((h3.below hB0).more z0).below h, ((h4.below hB0).more z0).below h⟩
 have B0 : Below W0.heap.size W0 W0 := Below.refl _ _
 have HW0 := Lib.hid hW0
 clear hW0 h1 h2 h3 h4 b2
 go_enter Tryz.func31, Tryz.ntmps31
 go_upto_region 1 with fail
 rw [HW0.out]
 obtain ⟨x0, x1, y0, y1⟩ := HS.out _ B0
 go_wp2_with fail
 clear x0 x1 y0 y1
 go_loopw [5] (fun i wr => ∃ k : Nat, k ≤ n ∧ i = .int .i64 k ∧ Hid (eqL sameS a.places b.places = eqGo sameS (a.places.drop k) (b.places.drop k)) ∧ Below W0.heap.size W0 wr) (fun i _ => n - (intOf i).toNat)
 case atStart => exact ⟨0, by omega, rfl, HG1, B0⟩
 case round =>
  obtain ⟨k, hk, rfl, hr, hbel⟩ := hrel
  obtain ⟨x0, x1, y0, y1⟩ := HS.out _ hbel
  by_cases hlt : k < n
  ·obtain ⟨x, hx⟩ : ∃ x, a.places[k]? = some x := ⟨_, List.getElem?_eq_getElem (by rw [HN.out.1.1]; exact hlt)⟩
   obtain ⟨y, hy⟩ : ∃ y, b.places[k]? = some y := ⟨_, List.getElem?_eq_getElem (by rw [HN.out.1.2]; exact hlt)⟩
   obtain ⟨ad, rfl, hadb, hc1, _⟩ := row_Str (H1.out _ hbel).1 hx
   obtain ⟨ad', rfl, hadb', hc2, _⟩ := row_Str (H1.out _ hbel).2.2.1 hy
   have HX := Lib.hid (eqGo_step (p := sameS) hx hy)
   have hk0 : (0 : Int) ≤ (k : Int) := by omega
   have hkn : (k : Int) < (n : Int) := by omega
   clear hx hy
   obtain ⟨q, hq⟩ : ∃ q, (x.toList == y.toList) = q := ⟨_, rfl⟩
   have h2 : (x.toList != y.toList) = !q := by simp [bne, hq]
   have HP : Hid (sameS x y = q) := Lib.hid hq
   cases q
   all_goals simp only [Bool.not_true, Bool.not_false] at h2
   all_goals go_wp2
   all_goals go_quiet (fail)
   all_goals go_wp2
   ·go_ret
    exact ⟨ret_bool (by rw [HR.out, hr.out, HX.out, HP.out]; rfl), hB0.trans ((bel_drewN hbel _).mono z0)⟩
   ·go_roundw
    case rel => exact ⟨k + 1, by omega, by go_num, Lib.hid (by rw [hr.out, HX.out, HP.out, Bool.true_and]), bel_drewN hbel _⟩
    case measure => simp [intOf]; omega
  ·have hkn : k = n := by omega
   subst hkn
   have HR1 : Hid (R = eqL sameA a.arcs b.arcs) := Lib.hid (by rw [HR.out, hr.out, eqGo_end (by rw [HN.out.1.1]; exact Nat.le_refl _), Bool.true_and])
   clear hlt
   go_wp2_with fail
   clear x0 x1 y0 y1
   go_loopw [6, 7, 8] (fun i _ _ wr => ∃ k : Nat, k ≤ m ∧ i = .int .i64 k ∧ Hid (eqL sameA a.arcs b.arcs = eqGo sameA (a.arcs.drop k) (b.arcs.drop k)) ∧ Below W0.heap.size W0 wr) (fun i _ _ _ => m - (intOf i).toNat)
   case atStart => exact ⟨0, by omega, rfl, HG2, hbel⟩
   case round =>
    clear hbel
    obtain ⟨k, hk, rfl, hr, hbel⟩ := hrel
    obtain ⟨x0, x1, y0, y1⟩ := HS.out _ hbel
    have hz := hbel.size
    by_cases hlt : k < m
    ·obtain ⟨x, hx⟩ : ∃ x, a.arcs[k]? = some x := ⟨_, List.getElem?_eq_getElem (by rw [HN.out.2.1]; exact hlt)⟩
     obtain ⟨y, hy⟩ : ∃ y, b.arcs[k]? = some y := ⟨_, List.getElem?_eq_getElem (by rw [HN.out.2.2]; exact hlt)⟩
     obtain ⟨ad, C0, e0, C1, e1, rfl, hadb, ⟨m0, m1, m2, m3, m4, m5⟩, hp1, hp2, _⟩ := row_Arc (H1.out _ hbel).2.1 hx
     obtain ⟨ad', E0, f0, E1, f1, rfl, hadb', ⟨k0, k1, k2, k3, k4, k5⟩, hp3, hp4, _⟩ := row_Arc (H1.out _ hbel).2.2.2 hy
     have hbb : (ad'.add (k * 6)).block < wr.heap.size := by rw [block_of_add]; omega
     have hq0 : w.heap.size < wr.heap.size := by omega
     have hq1 : w.heap.size + 1 < wr.heap.size := by omega
     have HX := Lib.hid (eqGo_step (p := sameA) hx hy)
     have hk0 : (0 : Int) ≤ (k : Int) := by omega
     have hkn : (k : Int) < (m : Int) := by omega
     have b2 : ∀ o o', Below W0.heap.size W0 ((wr.alloc o).alloc o') := fun o o' => (hbel.alloc hz _).alloc (by simp; omega) _
     have b3 : ∀ o o', Below wr.heap.size wr ((wr.alloc o).alloc o') := fun o o' => ((Below.refl _ _).alloc (Nat.le_refl _) _).alloc (by simp) _
     have HPT : Hid (∀ w', Below wr.heap.size wr w' → RowAt rPt w' w'.heap.size C0 x.travel ∧ RowAt rPt w' w'.heap.size C1 x.slow ∧ RowAt rPt w' w'.heap.size E0 y.travel ∧ RowAt rPt w' w'.heap.size E1 y.slow) := Lib.hid fun w' h => by
      have h9 := h.mono hz
      have h8 := h.size
      exact ⟨(hp1.below h9).more (by omega), (hp2.below h9).more (by omega), (hp3.below h9).more (by omega), (hp4.below h9).more (by omega)⟩
     clear hx hy hp1 hp2 hp3 hp4
     go_upto_region 13 with fail
     go_cut [101] (fun v wx => v = .bool (!sameA x y) ∧ Below W0.heap.size W0 wx)
     case first => as_aux_lemma =>
      clear m0 m1 m2 m3 m4 m5 k0 k1 k2 k3 k4 k5 x0 x1 y0 y1
      rcases arc_cases x y with ⟨e, f⟩ | ⟨e, g1, f⟩ | ⟨e, g1, g2, f⟩ | ⟨e, g1, g2, g3, f⟩ | ⟨e, g1, g2, g3, g4⟩
      ·have HE := Lib.hid e
       obtain ⟨f, f'⟩ := f
       clear e
       go_wp2
       go_meet
       exact ⟨by rw [HE.out]; rfl, b2 _ _⟩
      ·have HE := Lib.hid e
       obtain ⟨f, f'⟩ := f
       clear e
       go_wp2
       go_meet
       exact ⟨by rw [HE.out]; rfl, b2 _ _⟩
      ·have HE := Lib.hid e
       obtain ⟨f, f'⟩ := f
       clear e
       go_wp2
       go_meet
       exact ⟨by rw [HE.out]; rfl, b2 _ _⟩
      ·have HE := Lib.hid e
       obtain ⟨f, f'⟩ := f
       clear e
       go_wp2
       go_meet
       exact ⟨by rw [HE.out]; rfl, b2 _ _⟩
      ·have HE := Lib.hid e
       clear e
       go_wp2_with fail
       refine (rpoints_any C0 e0 x.travel _ rfl E0 f0 y.travel _ rfl _ _ _ (Nat.le_refl _) (Nat.le_refl _) (HPT.out _ (b3 _ _)).1 (HPT.out _ (b3 _ _)).2.2.1).mono ?_
       rintro e w1 ⟨rfl, hb1⟩
       have hz1 := hb1.size
       simp at hz1
       have hc := fun b o h => hb1.cell (p := ⟨b, o, none⟩) h
       have l3 : wr.heap.size < w1.heap.size := by omega
       have l4 : wr.heap.size + 1 < w1.heap.size := by omega
       have hB : Below wr.heap.size wr w1 := (b3 _ _).trans (hb1.mono (by simp; omega))
       clear hb1
       cases hq1 : eqL ptEq x.travel y.travel
       ·have HT : Hid (sameA x y = false) := Lib.hid (by rw [HE.out, hq1]; rfl)
        go_wp2
        go_meet
        exact ⟨by rw [HT.out]; rfl, hbel.trans (hB.mono hz)⟩
       ·have HT : Hid (sameA x y = eqL ptEq x.slow y.slow) := Lib.hid (by rw [HE.out, hq1]; rfl)
        go_wp2_with (go_at_call 68; refine (rpoints_any C1 e1 x.slow _ rfl E1 f1 y.slow _ rfl _ _ _ (Nat.le_refl _) (Nat.le_refl _) (HPT.out _ hB).2.1 (HPT.out _ hB).2.2.2).mono ?_; rintro e w2 ⟨rfl, hb2⟩)
        go_meet
        exact ⟨by rw [HT.out], hbel.trans ((hB.trans (hb2.mono hB.size)).mono hz)⟩
     obtain ⟨h101, hbc⟩ := hcut
     subst h101
     clear m0 m1 m2 m3 m4 m5 k0 k1 k2 k3 k4 k5 x0 x1 y0 y1
     cases hq : sameA x y
     ·have HP := Lib.hid hq
      go_wp2
      go_ret
      exact ⟨ret_bool (by rw [HR1.out, hr.out, HX.out, HP.out]; rfl), hB0.trans (hbc.mono z0)⟩
     ·have HP := Lib.hid hq
      go_wp2
      go_roundw
      case rel => exact ⟨k + 1, by omega, by go_num, Lib.hid (by rw [hr.out, HX.out, HP.out, Bool.true_and]), hbc⟩
      case measure => simp [intOf]; omega
    ·have hkn : k = m := by omega
     subst hkn
     have HR2 : Hid (R = true) := Lib.hid (by rw [HR1.out, hr.out, eqGo_end (by rw [HN.out.2.1]; exact Nat.le_refl _)])
     clear hlt
     go_wp2
     go_ret
     exact ⟨ret_bool HR2.out.symm, hB0.trans (hbel.mono z0)⟩
end Go.Proofs.YthefooacfcagbaaGreatDoor.ins

/- The same instances: the reference's word. -/
namespace Go.Proofs.YthefooacfcagbaaGreatDoor.ins
open Go.RowKit
open lib rd typ eqg note big
set_option linter.unusedVariables false
set_option linter.unusedSimpArgs false
theorem stOrd : StructOf 66 16 := ⟨⟨_, Tryz.underlying66⟩, by kernel_rfl⟩
theorem stTy : StructOf 63 14 := ⟨⟨_, Tryz.underlying63⟩, by kernel_rfl⟩
set_option maxRecDepth 100000 in
set_option maxHeartbeats 8000000 in
theorem rsame_any (a b : Ins) (P Q : InP) (w : World) (hP : InAt w w.heap.size a P) (hQ : InAt w w.heap.size b Q) :
  Calls Tryz.prog 12 #[InV a P, InV b Q] w fun e w' => e = .returned (.bool (sameI a b)) ∧ Below w.heap.size w w' := by
 obtain ⟨A0, c0, A1, c1, A2, c2, A3, c3, A4, c4, A5, c5⟩ := P
 obtain ⟨D0, d0, D1, d1, D2, d2, D3, d3, D4, d4, D5, d5⟩ := Q
 obtain ⟨R, hR⟩ : ∃ R, sameI a b = R := ⟨_, rfl⟩
 have HR0 : Hid (R = (netB a.net b.net && (eqL flt.sameT a.types b.types && (eqL ord.sameO a.orders b.orders && (eqL twoEq a.apart b.apart && (eqL twoEq a.before b.before)))))) := Lib.hid (by rw [← hR]; unfold sameI netB; rw [Bool.and_assoc])
 rw [hR]
 simp only [InV]
 obtain ⟨nt, hnt⟩ : ∃ n, a.types.length = n := ⟨_, rfl⟩
 obtain ⟨nt', hnt'⟩ : ∃ n, b.types.length = n := ⟨_, rfl⟩
 obtain ⟨no, hno⟩ : ∃ n, a.orders.length = n := ⟨_, rfl⟩
 obtain ⟨no', hno'⟩ : ∃ n, b.orders.length = n := ⟨_, rfl⟩
 have l2 := hP.types.len
 have l3 := hP.orders.len
 have l4 := hQ.types.len
 have l5 := hQ.orders.len
 rw [hnt] at l2
 rw [hno] at l3
 rw [hnt'] at l4
 rw [hno'] at l5
 rw [hnt, hnt', hno, hno']
 have HN := Lib.hid (And.intro (And.intro hnt hnt') (And.intro hno hno'))
 obtain ⟨W0, hW0⟩ : ∃ W0, (w.alloc (.cells #[.slice A0 a.net.places.length c0, .slice A1 a.net.arcs.length c1, .slice A2 nt c2, .slice A3 no c3, .slice A4 a.apart.length c4, .slice A5 a.before.length c5] 30)).alloc (.cells #[.slice D0 b.net.places.length d0, .slice D1 b.net.arcs.length d1, .slice D2 nt' d2, .slice D3 no' d3, .slice D4 b.apart.length d4, .slice D5 b.before.length d5] 30) = W0 := ⟨_, rfl⟩
 have hB0 : Below w.heap.size w W0 := by rw [← hW0]; exact ((Below.refl _ _).alloc (Nat.le_refl _) _).alloc (by simp) _
 have z0 := hB0.size
 have hs0 : w.heap.size + 1 < W0.heap.size := by rw [← hW0]; simp
 have HS : Hid (∀ w', Below W0.heap.size W0 w' → w'.cell? ⟨w.heap.size, 0, none⟩ = some (.slice A0 a.net.places.length c0) ∧ w'.cell? ⟨w.heap.size, 1, none⟩ = some (.slice A1 a.net.arcs.length c1) ∧ w'.cell? ⟨w.heap.size, 2, none⟩ = some (.slice A2 nt c2) ∧ w'.cell? ⟨w.heap.size, 3, none⟩ = some (.slice A3 no c3) ∧ w'.cell? ⟨w.heap.size, 4, none⟩ = some (.slice A4 a.apart.length c4) ∧ w'.cell? ⟨w.heap.size, 5, none⟩ = some (.slice A5 a.before.length c5) ∧ w'.cell? ⟨w.heap.size + 1, 0, none⟩ = some (.slice D0 b.net.places.length d0) ∧ w'.cell? ⟨w.heap.size + 1, 1, none⟩ = some (.slice D1 b.net.arcs.length d1) ∧ w'.cell? ⟨w.heap.size + 1, 2, none⟩ = some (.slice D2 nt' d2) ∧ w'.cell? ⟨w.heap.size + 1, 3, none⟩ = some (.slice D3 no' d3) ∧ w'.cell? ⟨w.heap.size + 1, 4, none⟩ = some (.slice D4 b.apart.length d4) ∧ w'.cell? ⟨w.heap.size + 1, 5, none⟩ = some (.slice D5 b.before.length d5)) := Lib.hid fun w' h => by
  have hk := fun (o : Nat) => h.cell (p := ⟨w.heap.size, o, none⟩) (show w.heap.size < W0.heap.size by omega)
  have hk1 := fun (o : Nat) => h.cell (p := ⟨w.heap.size + 1, o, none⟩) hs0
  refine ⟨(hk _).trans ?_, (hk _).trans ?_, (hk _).trans ?_, (hk _).trans ?_, (hk _).trans ?_, (hk _).trans ?_, (hk1 _).trans ?_, (hk1 _).trans ?_, (hk1 _).trans ?_, (hk1 _).trans ?_, (hk1 _).trans ?_, (hk1 _).trans ?_⟩
  all_goals (rw [← hW0]; simp)
 have HP : Hid (∀ w', Below W0.heap.size W0 w' → InAt w' w'.heap.size a ⟨A0, c0, A1, c1, A2, c2, A3, c3, A4, c4, A5, c5⟩ ∧ InAt w' w'.heap.size b ⟨D0, d0, D1, d1, D2, d2, D3, d3, D4, d4, D5, d5⟩) := Lib.hid fun w' h => ⟨(hP.go hB0).go h, (hQ.go hB0).go h⟩
 have HROW : Hid (∀ w', Below W0.heap.size W0 w' → InAt w' W0.heap.size a ⟨A0, c0, A1, c1, A2, c2, A3, c3, A4, c4, A5, c5⟩ ∧ InAt w' W0.heap.size b ⟨D0, d0, D1, d1, D2, d2, D3, d3, D4, d4, D5, d5⟩) := Lib.hid fun w' h => ⟨(hP.go hB0).below h, (hQ.go hB0).below h⟩
 have B0 : Below W0.heap.size W0 W0 := Below.refl _ _
 have HW0 := Lib.hid hW0
 clear hR hW0 hP hQ hnt hnt' hno hno'
 go_enter Tryz.func12, Tryz.ntmps12
 go_upto_region 1 with fail
 rw [HW0.out]
 go_cut [30] (fun v wx => v = .bool (!netB a.net b.net || (!decide (nt = nt') || !decide (no = no'))) ∧ Below W0.heap.size W0 wx)
 case first => as_aux_lemma =>
  obtain ⟨m0, m1, m2, m3, m4, m5, n0, n1, n2, n3, n4, n5⟩ := HS.out _ B0
  go_wp2_with fail
  refine (rnets_any a.net b.net A0 c0 A1 c1 D0 d0 D1 d1 _ (HP.out _ B0).1.places (HP.out _ B0).1.arcs (HP.out _ B0).2.places (HP.out _ B0).2.arcs).mono ?_
  rintro e w1 ⟨rfl, hb1⟩
  have B1 : Below W0.heap.size W0 w1 := hb1
  clear hb1 m0 m1 m2 m3 m4 m5 n0 n1 n2 n3 n4 n5
  obtain ⟨m0, m1, m2, m3, m4, m5, n0, n1, n2, n3, n4, n5⟩ := HS.out _ B1
  cases hq : netB a.net b.net
  ·have HQ := Lib.hid hq
   clear hq
   go_wp2
   go_meet
   exact ⟨by rw [HQ.out]; rfl, B1⟩
  ·have HQ := Lib.hid hq
   clear hq
   by_cases h1 : nt = nt'
   ·subst h1
    by_cases h2 : no = no'
    ·subst h2
     go_wp2
     go_meet
     exact ⟨by simp [HQ.out], B1⟩
    ·have e1 : ((no : Int) == (no' : Int)) = false := by simp; omega
     have e2 : ((no : Int) != (no' : Int)) = true := by simp; omega
     have HE := Lib.hid h2
     clear h2
     go_wp2
     go_meet
     exact ⟨by simp [HQ.out, HE.out], B1⟩
   ·have e1 : ((nt : Int) == (nt' : Int)) = false := by simp; omega
    have e2 : ((nt : Int) != (nt' : Int)) = true := by simp; omega
    have HE := Lib.hid h1
    clear h1
    go_wp2
    go_meet
    exact ⟨by simp [HQ.out, HE.out], B1⟩
 obtain ⟨h30, B1⟩ := hcut
 subst h30
 cases hq0 : (!netB a.net b.net || (!decide (nt = nt') || !decide (no = no')))
 case true =>
  have HT : Hid (R = false) := Lib.hid (by
   rw [HR0.out]
   simp only [Bool.or_eq_true, Bool.not_eq_true', decide_eq_false_iff_not] at hq0
   rcases hq0 with h | h | h
   ·rw [h]; rfl
   ·rw [eqL_no (p := flt.sameT) (by rw [HN.out.1.1, HN.out.1.2]; exact h)]; simp
   ·rw [eqL_no (p := ord.sameO) (by rw [HN.out.2.1, HN.out.2.2]; exact h)]; simp)
  go_wp2
  go_ret
  exact ⟨ret_bool HT.out.symm, hB0.trans (B1.mono z0)⟩
 have hq1 := hq0
 simp only [Bool.or_eq_false_iff, Bool.not_eq_false', decide_eq_true_eq] at hq1
 obtain ⟨hqn, hqt, hqo⟩ := hq1
 subst hqt
 subst hqo
 have HR1 : Hid (R = (eqL flt.sameT a.types b.types && (eqL ord.sameO a.orders b.orders && (eqL twoEq a.apart b.apart && (eqL twoEq a.before b.before))))) := Lib.hid (by rw [HR0.out, hqn, Bool.true_and])
 have HG1 := Lib.hid (eqL_go (p := flt.sameT) (HN.out.1.1.trans HN.out.1.2.symm))
 have HG2 := Lib.hid (eqL_go (p := ord.sameO) (HN.out.2.1.trans HN.out.2.2.symm))
 go_upto_region 4 with fail
 clear hq0 hqn l4 l5
 go_loopw [5] (fun i wr => ∃ k : Nat, k ≤ nt ∧ i = .int .i64 k ∧ Hid (eqL flt.sameT a.types b.types = eqGo flt.sameT (a.types.drop k) (b.types.drop k)) ∧ Below W0.heap.size W0 wr) (fun i _ => nt - (intOf i).toNat)
 case atStart => exact ⟨0, by omega, rfl, HG1, B1⟩
 case round =>
  clear B1
  obtain ⟨k, hk, rfl, hr, hbel⟩ := hrel
  by_cases hlt : k < nt
  ·obtain ⟨x, hx⟩ : ∃ x, a.types[k]? = some x := ⟨_, List.getElem?_eq_getElem (by rw [HN.out.1.1]; exact hlt)⟩
   obtain ⟨y, hy⟩ : ∃ y, b.types[k]? = some y := ⟨_, List.getElem?_eq_getElem (by rw [HN.out.1.2]; exact hlt)⟩
   obtain ⟨ad, cs, hA, hadb, hat, hcx⟩ := (HROW.out _ B0).1.types.elem hx
   obtain ⟨C0, e0, rfl, hp1, _⟩ := rTy_at hat
   obtain ⟨ad', cs', hA', hadb', hat', hcy⟩ := (HROW.out _ B0).2.types.elem hy
   obtain ⟨E0, f0, rfl, hp2, _⟩ := rTy_at hat'
   simp only at hA hA'
   subst hA
   subst hA'
   have hcx' : CellsAt W0 (ad.add (k * 14)) (TyCells x C0 e0) := hcx
   have hcy' : CellsAt W0 (ad'.add (k * 14)) (TyCells y E0 f0) := hcy
   clear hcx hcy hat hat'
   have HX := Lib.hid (eqGo_step (p := flt.sameT) hx hy)
   have hk0 : (0 : Int) ≤ (k : Int) := by omega
   have hkn : (k : Int) < (nt : Int) := by omega
   clear hx hy
   obtain ⟨q, hq⟩ : ∃ q, flt.sameT x y = q := ⟨_, rfl⟩
   have HP1 := Lib.hid hq
   have HC : Hid (∀ w', Below W0.heap.size W0 w' → Calls Tryz.prog 32 #[.agg #[.string x.name, .int .i64 x.count, .int .i64 x.frm, .int .i64 x.to, .slice C0 x.cap.length e0, .int .i64 x.skills, .int .i64 x.profile, .int .i64 x.opn, .int .i64 x.close, .int .i64 x.drive, .int .i64 x.rest, .int .i64 x.fixed, .int .i64 x.mile, .int .i64 x.tick], .agg #[.string y.name, .int .i64 y.count, .int .i64 y.frm, .int .i64 y.to, .slice E0 y.cap.length f0, .int .i64 y.skills, .int .i64 y.profile, .int .i64 y.opn, .int .i64 y.close, .int .i64 y.drive, .int .i64 y.rest, .int .i64 y.fixed, .int .i64 y.mile, .int .i64 y.tick]] w' fun e w'' => e = .returned (.bool q) ∧ Below w'.heap.size w' w'') := Lib.hid fun w' hw => by rw [← hq]; exact flt.rsame_any x y C0 e0 E0 f0 w' ((hp1.below hw).more hw.size) ((hp2.below hw).more hw.size)
   have hS : ∀ w', Below W0.heap.size W0 w' → (w'.cell? ⟨w.heap.size, 2, none⟩ = some (.slice (some ad) nt c2) ∧ w'.cell? ⟨w.heap.size + 1, 2, none⟩ = some (.slice (some ad') nt d2) ∧ CellsAt w' (ad.add (k * 14)) (TyCells x C0 e0) ∧ CellsAt w' (ad'.add (k * 14)) (TyCells y E0 f0)) := fun w' h => by
    obtain ⟨m0, m1, m2, m3, m4, m5, n0, n1, n2, n3, n4, n5⟩ := HS.out _ h
    exact ⟨m2, n2, hcx'.below h (by rw [block_of_add]; exact hadb), hcy'.below h (by rw [block_of_add]; exact hadb')⟩
   clear hq hp1 hp2 hcx' hcy'
   obtain ⟨m0, m1, m2, m3, m4, m5, n0, n1, n2, n3, n4, n5⟩ := HS.out _ hbel
   go_upto_region 6 with fail
   clear m0 m1 m2 m3 m4 m5 n0 n1 n2 n3 n4 n5
   (refine wp_region_held_drew (S := (fun w' => (w'.cell? ⟨w.heap.size, 2, none⟩ = some (.slice (some ad) nt c2) ∧ w'.cell? ⟨w.heap.size + 1, 2, none⟩ = some (.slice (some ad') nt d2) ∧ CellsAt w' (ad.add (k * 14)) (TyCells x C0 e0) ∧ CellsAt w' (ad'.add (k * 14)) (TyCells y E0 f0)))) (by kernel_rfl) ?_ (fun hHeld => ?_))
   ·exact hS _ hbel.drew
   (refine lib.tk 0 rfl ?_; (try simp only [lib.hly]))
   (refine lib.tk 1 rfl ?_; (try simp only [lib.hly]))
   (refine lib.tk 2 rfl ?_; (try simp only [lib.hly]))
   (refine lib.tk 3 rfl ?_; (try simp only [lib.hly]))
   (refine lib.tk 4 rfl ?_ (fun _ hSw => exec_loadS stTy rfl rfl hSw.2.2.1 rfl); (try simp only [lib.hly]))
   (refine lib.tk 5 rfl ?_; (try simp only [lib.hly]))
   (refine lib.tk 6 rfl ?_; (try simp only [lib.hly]))
   (refine lib.tk 7 rfl ?_; (try simp only [lib.hly]))
   (refine lib.tk 8 rfl ?_; (try simp only [lib.hly]))
   (refine lib.tk 9 rfl ?_ (fun _ hSw => exec_loadS stTy rfl rfl hSw.2.2.2 rfl); (try simp only [lib.hly]))
   (refine lib.rk 10 rfl fun K hK => ?_; go_simp)
   go_at_call 32
   refine (HC.out _ hbel.drew).mono ?_
   rintro e w1 ⟨rfl, b1⟩
   have B1 : Below W0.heap.size W0 w1 := hbel.drew.trans (b1.mono hbel.drew.size)
   (refine hK.out _ _ ?_ (fun hHeld => ?_))
   ·exact hS _ B1
   clear hK K
   (try simp only [lib.hly])
   (refine lib.tk 11 rfl ?_; (try simp only [lib.hly]))
   (refine wpAnyH_done (by kernel_rfl) ?_ _)
   cases q
   ·go_wp2
    go_ret
    exact ⟨ret_bool (by rw [HR1.out, hr.out, HX.out, HP1.out]; rfl), hB0.trans (B1.mono z0)⟩
   ·go_wp2
    go_roundw
    case rel => exact ⟨k + 1, by omega, by go_num, Lib.hid (by rw [hr.out, HX.out, HP1.out, Bool.true_and]), B1⟩
    case measure => simp [intOf]; omega
  ·have hkn : k = nt := by omega
   subst hkn
   have HR2 : Hid (R = (eqL ord.sameO a.orders b.orders && (eqL twoEq a.apart b.apart && (eqL twoEq a.before b.before)))) := Lib.hid (by rw [HR1.out, hr.out, eqGo_end (by rw [HN.out.1.1]; exact Nat.le_refl _), Bool.true_and])
   clear hlt
   obtain ⟨m0, m1, m2, m3, m4, m5, n0, n1, n2, n3, n4, n5⟩ := HS.out _ hbel
   go_upto_region 9 with fail
   clear m0 m1 m2 m3 m4 m5 n0 n1 n2 n3 n4 n5
   as_aux_lemma =>
    go_loopw [6] (fun i wr => ∃ k : Nat, k ≤ no ∧ i = .int .i64 k ∧ Hid (eqL ord.sameO a.orders b.orders = eqGo ord.sameO (a.orders.drop k) (b.orders.drop k)) ∧ Below W0.heap.size W0 wr) (fun i _ => no - (intOf i).toNat)
    case atStart => exact ⟨0, by omega, rfl, HG2, hbel⟩
    case round =>
     clear hbel
     obtain ⟨k, hk, rfl, hr, hbel⟩ := hrel
     by_cases hlt : k < no
     ·obtain ⟨x, hx⟩ : ∃ x, a.orders[k]? = some x := ⟨_, List.getElem?_eq_getElem (by rw [HN.out.2.1]; exact hlt)⟩
      obtain ⟨y, hy⟩ : ∃ y, b.orders[k]? = some y := ⟨_, List.getElem?_eq_getElem (by rw [HN.out.2.2]; exact hlt)⟩
      obtain ⟨ad, cs, hA, hadb, hat, hcx⟩ := (HROW.out _ B0).1.orders.elem hx
      obtain ⟨C0, e0, rfl, hp1, _⟩ := rOrd_at hat
      obtain ⟨ad', cs', hA', hadb', hat', hcy⟩ := (HROW.out _ B0).2.orders.elem hy
      obtain ⟨E0, f0, rfl, hp2, _⟩ := rOrd_at hat'
      simp only at hA hA'
      subst hA
      subst hA'
      have hcx' : CellsAt W0 (ad.add (k * 16)) (OrdCells x C0 e0) := hcx
      have hcy' : CellsAt W0 (ad'.add (k * 16)) (OrdCells y E0 f0) := hcy
      clear hcx hcy hat hat'
      have HX := Lib.hid (eqGo_step (p := ord.sameO) hx hy)
      have hk0 : (0 : Int) ≤ (k : Int) := by omega
      have hkn : (k : Int) < (no : Int) := by omega
      clear hx hy
      obtain ⟨q, hq⟩ : ∃ q, ord.sameO x y = q := ⟨_, rfl⟩
      have HP1 := Lib.hid hq
      have HC : Hid (∀ w', Below W0.heap.size W0 w' → Calls Tryz.prog 33 #[.agg #[.string x.name, .slice C0 x.load.length e0, .int .i64 x.pick.place, .int .i64 x.pick.opn, .int .i64 x.pick.close, .int .i64 x.pick.service, .int .i64 x.drop.place, .int .i64 x.drop.opn, .int .i64 x.drop.close, .int .i64 x.drop.service, .int .i64 x.skills, .int .i64 x.penalty, .int .i64 x.split, .int .i64 x.last, .int .i64 x.now, .bool x.off], .agg #[.string y.name, .slice E0 y.load.length f0, .int .i64 y.pick.place, .int .i64 y.pick.opn, .int .i64 y.pick.close, .int .i64 y.pick.service, .int .i64 y.drop.place, .int .i64 y.drop.opn, .int .i64 y.drop.close, .int .i64 y.drop.service, .int .i64 y.skills, .int .i64 y.penalty, .int .i64 y.split, .int .i64 y.last, .int .i64 y.now, .bool y.off]] w' fun e w'' => e = .returned (.bool q) ∧ Below w'.heap.size w' w'') := Lib.hid fun w' hw => by rw [← hq]; exact ord.orsame_any x y C0 e0 E0 f0 w' ((hp1.below hw).more hw.size) ((hp2.below hw).more hw.size)
      have hS : ∀ w', Below W0.heap.size W0 w' → (w'.cell? ⟨w.heap.size, 3, none⟩ = some (.slice (some ad) no c3) ∧ w'.cell? ⟨w.heap.size + 1, 3, none⟩ = some (.slice (some ad') no d3) ∧ CellsAt w' (ad.add (k * 16)) (OrdCells x C0 e0) ∧ CellsAt w' (ad'.add (k * 16)) (OrdCells y E0 f0)) := fun w' h => by
       obtain ⟨m0, m1, m2, m3, m4, m5, n0, n1, n2, n3, n4, n5⟩ := HS.out _ h
       exact ⟨m3, n3, hcx'.below h (by rw [block_of_add]; exact hadb), hcy'.below h (by rw [block_of_add]; exact hadb')⟩
      clear hq hp1 hp2 hcx' hcy'
      obtain ⟨m0, m1, m2, m3, m4, m5, n0, n1, n2, n3, n4, n5⟩ := HS.out _ hbel
      go_upto_region 11 with fail
      clear m0 m1 m2 m3 m4 m5 n0 n1 n2 n3 n4 n5
      (refine wp_region_held_drew (S := (fun w' => (w'.cell? ⟨w.heap.size, 3, none⟩ = some (.slice (some ad) no c3) ∧ w'.cell? ⟨w.heap.size + 1, 3, none⟩ = some (.slice (some ad') no d3) ∧ CellsAt w' (ad.add (k * 16)) (OrdCells x C0 e0) ∧ CellsAt w' (ad'.add (k * 16)) (OrdCells y E0 f0)))) (by kernel_rfl) ?_ (fun hHeld => ?_))
      ·exact hS _ hbel.drew
      (refine lib.tk 0 rfl ?_; (try simp only [lib.hly]))
      (refine lib.tk 1 rfl ?_; (try simp only [lib.hly]))
      (refine lib.tk 2 rfl ?_; (try simp only [lib.hly]))
      (refine lib.tk 3 rfl ?_; (try simp only [lib.hly]))
      (refine lib.tk 4 rfl ?_ (fun _ hSw => exec_loadS stOrd rfl rfl hSw.2.2.1 rfl); (try simp only [lib.hly]))
      (refine lib.tk 5 rfl ?_; (try simp only [lib.hly]))
      (refine lib.tk 6 rfl ?_; (try simp only [lib.hly]))
      (refine lib.tk 7 rfl ?_; (try simp only [lib.hly]))
      (refine lib.tk 8 rfl ?_; (try simp only [lib.hly]))
      (refine lib.tk 9 rfl ?_ (fun _ hSw => exec_loadS stOrd rfl rfl hSw.2.2.2 rfl); (try simp only [lib.hly]))
      (refine lib.rk 10 rfl fun K hK => ?_; go_simp)
      go_at_call 33
      refine (HC.out _ hbel.drew).mono ?_
      rintro e w1 ⟨rfl, b1⟩
      have B1 : Below W0.heap.size W0 w1 := hbel.drew.trans (b1.mono hbel.drew.size)
      (refine hK.out _ _ ?_ (fun hHeld => ?_))
      ·exact hS _ B1
      clear hK K
      (try simp only [lib.hly])
      (refine lib.tk 11 rfl ?_; (try simp only [lib.hly]))
      (refine wpAnyH_done (by kernel_rfl) ?_ _)
      cases q
      ·go_wp2
       go_ret
       exact ⟨ret_bool (by rw [HR2.out, hr.out, HX.out, HP1.out]; rfl), hB0.trans (B1.mono z0)⟩
      ·go_wp2
       go_roundw
       case rel => exact ⟨k + 1, by omega, by go_num, Lib.hid (by rw [hr.out, HX.out, HP1.out, Bool.true_and]), B1⟩
       case measure => simp [intOf]; omega
     ·have hkn : k = no := by omega
      subst hkn
      have HR3 : Hid (R = (eqL twoEq a.apart b.apart && (eqL twoEq a.before b.before))) := Lib.hid (by rw [HR2.out, hr.out, eqGo_end (by rw [HN.out.2.1]; exact Nat.le_refl _), Bool.true_and])
      clear hlt
      obtain ⟨m0, m1, m2, m3, m4, m5, n0, n1, n2, n3, n4, n5⟩ := HS.out _ hbel
      go_wp2_with fail
      refine (rpairs_any A4 c4 a.apart _ rfl D4 d4 b.apart _ rfl _ _ _ (Nat.le_refl _) (Nat.le_refl _) (HP.out _ hbel).1.apart (HP.out _ hbel).2.apart).mono ?_
      rintro e w5 ⟨rfl, hb5⟩
      have B5 : Below W0.heap.size W0 w5 := hbel.trans (hb5.mono hbel.size)
      clear m0 m1 m2 m3 m4 m5 n0 n1 n2 n3 n4 n5
      obtain ⟨m0, m1, m2, m3, m4, m5, n0, n1, n2, n3, n4, n5⟩ := HS.out _ B5
      cases hq4 : eqL twoEq a.apart b.apart
      ·have HT : Hid (R = false) := Lib.hid (by rw [HR3.out, hq4]; rfl)
       go_wp2
       go_ret
       exact ⟨ret_bool HT.out.symm, hB0.trans (B5.mono z0)⟩
      have HR5 : Hid (R = (eqL twoEq a.before b.before)) := Lib.hid (by rw [HR3.out, hq4]; rfl)
      clear hq4 hb5
      go_wp2_with fail
      refine (rpairs_any A5 c5 a.before _ rfl D5 d5 b.before _ rfl _ _ _ (Nat.le_refl _) (Nat.le_refl _) (HP.out _ B5).1.before (HP.out _ B5).2.before).mono ?_
      rintro e w6 ⟨rfl, hb6⟩
      have B6 : Below W0.heap.size W0 w6 := B5.trans (hb6.mono B5.size)
      go_wp2
      go_ret
      exact ⟨ret_bool HR5.out.symm, hB0.trans (B6.mono z0)⟩
end Go.Proofs.YthefooacfcagbaaGreatDoor.ins

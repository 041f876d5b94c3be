/- The same networks: the reference's word. -/
import Derived.Test.YthefooacfcagbaaGreatDoorInsE
import Derived.Deep.DeepCutAuto
namespace Go.Proofs.YthefooacfcagbaaGreatDoor.ins
open Go.RowKit
open lib rd typ eqg note
set_option linter.unusedVariables false
set_option linter.unusedSimpArgs false
def netB (a b : Net) : Bool := eqL sameS a.places b.places && eqL sameA a.arcs b.arcs
theorem arc_cases (x y : Arc) : (sameA x y = false ∧ (x.frm == y.frm) = false ∧ (x.frm != y.frm) = true) ∨ (sameA x y = false ∧ x.frm = y.frm ∧ (x.to == y.to) = false ∧ (x.to != y.to) = true) ∨ (sameA x y = false ∧ x.frm = y.frm ∧ x.to = y.to ∧ (x.profile == y.profile) = false ∧ (x.profile != y.profile) = true) ∨ (sameA x y = false ∧ x.frm = y.frm ∧ x.to = y.to ∧ x.profile = y.profile ∧ (x.miles == y.miles) = false ∧ (x.miles != y.miles) = true) ∨ (sameA x y = (eqL ptEq x.travel y.travel && eqL ptEq x.slow y.slow) ∧ x.frm = y.frm ∧ x.to = y.to ∧ x.profile = y.profile ∧ x.miles = y.miles) := by
 by_cases h1 : x.frm = y.frm
 ·by_cases h2 : x.to = y.to
  ·by_cases h3 : x.profile = y.profile
   ·by_cases h4 : x.miles = y.miles
    ·exact .inr (.inr (.inr (.inr ⟨by unfold sameA; simp [h1, h2, h3, h4], h1, h2, h3, h4⟩)))
    ·exact .inr (.inr (.inr (.inl ⟨by unfold sameA; simp [h4], h1, h2, h3, by simp [h4], by simp [h4]⟩)))
   ·exact .inr (.inr (.inl ⟨by unfold sameA; simp [h3], h1, h2, by simp [h3], by simp [h3]⟩))
  ·exact .inr (.inl ⟨by unfold sameA; simp [h2], h1, by simp [h2], by simp [h2]⟩)
 ·exact .inl ⟨by unfold sameA; simp [h1], by simp [h1], by simp [h1]⟩
set_option maxRecDepth 20000 in
set_option maxHeartbeats 4000000 in
theorem rnets_any (a b : Net) (A0 : Option Addr) (c0 : Nat) (A1 : Option Addr) (c1 : Nat) (D0 : Option Addr) (d0 : Nat) (D1 : Option Addr) (d1 : Nat) (w : World) (h1 : RowAt rStr w w.heap.size A0 a.places) (h2 : RowAt rArc w w.heap.size A1 a.arcs) (h3 : RowAt rStr w w.heap.size D0 b.places) (h4 : RowAt rArc w w.heap.size D1 b.arcs) :
  Calls Tryz.prog 31 #[.agg #[.slice A0 a.places.length c0, .slice A1 a.arcs.length c1], .agg #[.slice D0 b.places.length d0, .slice D1 b.arcs.length d1]] w fun e w' => e = .returned (.bool (netB a b)) ∧ Below w.heap.size w w' := by
 obtain ⟨R, hR⟩ : ∃ R, netB a b = R := ⟨_, rfl⟩
 have HR : Hid (R = (eqL sameS a.places b.places && eqL sameA a.arcs b.arcs)) := Lib.hid (by rw [← hR]; rfl)
 rw [hR]
 clear hR
 have l1 := h1.len
 have l2 := h2.len
 obtain ⟨n, hn⟩ : ∃ n, a.places.length = n := ⟨_, rfl⟩
 obtain ⟨m, hm⟩ : ∃ m, a.arcs.length = m := ⟨_, rfl⟩
 obtain ⟨n', hn'⟩ : ∃ n, b.places.length = n := ⟨_, rfl⟩
 obtain ⟨m', hm'⟩ : ∃ m, b.arcs.length = m := ⟨_, rfl⟩
 rw [hn] at l1
 rw [hm] at l2
 rw [hn, hm, hn', hm']
 have b2 : ∀ o o', Below w.heap.size w ((w.alloc o).alloc o') := fun o o' => ((Below.refl _ _).alloc (Nat.le_refl _) _).alloc (by simp) _
 by_cases hnn : n = n'
 case neg =>
  have e1 : ((n : Int) == (n' : Int)) = false := by simp; omega
  have e2 : ((n : Int) != (n' : Int)) = true := by simp; omega
  have HT : Hid (R = false) := Lib.hid (by rw [HR.out, eqL_no (by omega)]; rfl)
  clear hnn hn hm hn' hm' h1 h2 h3 h4
  go_enter Tryz.func31, Tryz.ntmps31
  go_wp2
  go_ret
  exact ⟨ret_bool HT.out.symm, b2 _ _⟩
 subst hnn
 by_cases hmm : m = m'
 case neg =>
  have e1 : ((m : Int) == (m' : Int)) = false := by simp; omega
  have e2 : ((m : Int) != (m' : Int)) = true := by simp; omega
  have HT : Hid (R = false) := Lib.hid (by rw [HR.out, eqL_no (p := sameA) (by omega), Bool.and_false])
  clear hmm hn hm hn' hm' h1 h2 h3 h4
  go_enter Tryz.func31, Tryz.ntmps31
  go_wp2
  go_ret
  exact ⟨ret_bool HT.out.symm, b2 _ _⟩
 subst hmm
 have HN := Lib.hid (And.intro (And.intro hn hn') (And.intro hm hm'))
 have HG1 := Lib.hid (eqL_go (p := sameS) (hn.trans hn'.symm))
 have HG2 := Lib.hid (eqL_go (p := sameA) (hm.trans hm'.symm))
 clear hn hm hn' hm'
 obtain ⟨W0, hW0⟩ : ∃ W0, (w.alloc (.cells #[.slice A0 n c0, .slice A1 m c1] 25)).alloc (.cells #[.slice D0 n d0, .slice D1 m d1] 25) = W0 := ⟨_, rfl⟩
 have hB0 : Below w.heap.size w W0 := by rw [← hW0]; exact b2 _ _
 have z0 := hB0.size
 have hs0 : w.heap.size + 1 < W0.heap.size := by rw [← hW0]; simp
 have HS : Hid (∀ w', Below W0.heap.size W0 w' → w'.cell? ⟨w.heap.size, 0, none⟩ = some (.slice A0 n c0) ∧ w'.cell? ⟨w.heap.size, 1, none⟩ = some (.slice A1 m c1) ∧ w'.cell? ⟨w.heap.size + 1, 0, none⟩ = some (.slice D0 n d0) ∧ w'.cell? ⟨w.heap.size + 1, 1, none⟩ = some (.slice D1 m d1)) := Lib.hid fun w' h => by
  have hk := fun (o : Nat) => h.cell (p := ⟨w.heap.size, o, none⟩) (show w.heap.size < W0.heap.size by omega)
  have hk1 := fun (o : Nat) => h.cell (p := ⟨w.heap.size + 1, o, none⟩) hs0
  refine ⟨(hk _).trans ?_, (hk _).trans ?_, (hk1 _).trans ?_, (hk1 _).trans ?_⟩
  all_goals (rw [← hW0]; simp)
 have H1 : Hid (∀ w', Below W0.heap.size W0 w' → RowAt rStr w' W0.heap.size A0 a.places ∧ RowAt rArc w' W0.heap.size A1 a.arcs ∧ RowAt rStr w' W0.heap.size D0 b.places ∧ RowAt rArc w' W0.heap.size D1 b.arcs) := Lib.hid fun w' h => ⟨((h1.below hB0).more z0).below h, ((h2.below hB0).more z0).below h, ((h3.below hB0).more z0).below h, ((h4.below hB0).more z0).below h⟩
 have B0 : Below W0.heap.size W0 W0 := Below.refl _ _
 have HW0 := Lib.hid hW0
 clear hW0 h1 h2 h3 h4 b2
 go_enter Tryz.func31, Tryz.ntmps31
 go_upto_region 1 with fail
 rw [HW0.out]
 obtain ⟨x0, x1, y0, y1⟩ := HS.out _ B0
 go_wp2_with fail
 clear x0 x1 y0 y1
 go_loopw [5] (fun i wr => ∃ k : Nat, k ≤ n ∧ i = .int .i64 k ∧ Hid (eqL sameS a.places b.places = eqGo sameS (a.places.drop k) (b.places.drop k)) ∧ Below W0.heap.size W0 wr) (fun i _ => n - (intOf i).toNat)
 case atStart => exact ⟨0, by omega, rfl, HG1, B0⟩
 case round =>
  obtain ⟨k, hk, rfl, hr, hbel⟩ := hrel
  obtain ⟨x0, x1, y0, y1⟩ := HS.out _ hbel
  by_cases hlt : k < n
  ·obtain ⟨x, hx⟩ : ∃ x, a.places[k]? = some x := ⟨_, List.getElem?_eq_getElem (by rw [HN.out.1.1]; exact hlt)⟩
   obtain ⟨y, hy⟩ : ∃ y, b.places[k]? = some y := ⟨_, List.getElem?_eq_getElem (by rw [HN.out.1.2]; exact hlt)⟩
   obtain ⟨ad, rfl, hadb, hc1, _⟩ := row_Str (H1.out _ hbel).1 hx
   obtain ⟨ad', rfl, hadb', hc2, _⟩ := row_Str (H1.out _ hbel).2.2.1 hy
   have HX := Lib.hid (eqGo_step (p := sameS) hx hy)
   have hk0 : (0 : Int) ≤ (k : Int) := by omega
   have hkn : (k : Int) < (n : Int) := by omega
   clear hx hy
   obtain ⟨q, hq⟩ : ∃ q, (x.toList == y.toList) = q := ⟨_, rfl⟩
   have h2 : (x.toList != y.toList) = !q := by simp [bne, hq]
   have HP : Hid (sameS x y = q) := Lib.hid hq
   cases q
   all_goals simp only [Bool.not_true, Bool.not_false] at h2
   all_goals go_wp2
   all_goals go_quiet (fail)
   all_goals go_wp2
   ·go_ret
    exact ⟨ret_bool (by rw [HR.out, hr.out, HX.out, HP.out]; rfl), hB0.trans ((bel_drewN hbel _).mono z0)⟩
   ·go_roundw
    case rel => exact ⟨k + 1, by omega, by go_num, Lib.hid (by rw [hr.out, HX.out, HP.out, Bool.true_and]), bel_drewN hbel _⟩
    case measure => simp [intOf]; omega
  ·have hkn : k = n := by omega
   subst hkn
   have HR1 : Hid (R = eqL sameA a.arcs b.arcs) := Lib.hid (by rw [HR.out, hr.out, eqGo_end (by rw [HN.out.1.1]; exact Nat.le_refl _), Bool.true_and])
   clear hlt
   go_wp2_with fail
   clear x0 x1 y0 y1
   go_loopw [6, 7, 8] (fun i _ _ wr => ∃ k : Nat, k ≤ m ∧ i = .int .i64 k ∧ Hid (eqL sameA a.arcs b.arcs = eqGo sameA (a.arcs.drop k) (b.arcs.drop k)) ∧ Below W0.heap.size W0 wr) (fun i _ _ _ => m - (intOf i).toNat)
   case atStart => exact ⟨0, by omega, rfl, HG2, hbel⟩
   case round =>
    clear hbel
    obtain ⟨k, hk, rfl, hr, hbel⟩ := hrel
    obtain ⟨x0, x1, y0, y1⟩ := HS.out _ hbel
    have hz := hbel.size
    by_cases hlt : k < m
    ·obtain ⟨x, hx⟩ : ∃ x, a.arcs[k]? = some x := ⟨_, List.getElem?_eq_getElem (by rw [HN.out.2.1]; exact hlt)⟩
     obtain ⟨y, hy⟩ : ∃ y, b.arcs[k]? = some y := ⟨_, List.getElem?_eq_getElem (by rw [HN.out.2.2]; exact hlt)⟩
     obtain ⟨ad, C0, e0, C1, e1, rfl, hadb, ⟨m0, m1, m2, m3, m4, m5⟩, hp1, hp2, _⟩ := row_Arc (H1.out _ hbel).2.1 hx
     obtain ⟨ad', E0, f0, E1, f1, rfl, hadb', ⟨k0, k1, k2, k3, k4, k5⟩, hp3, hp4, _⟩ := row_Arc (H1.out _ hbel).2.2.2 hy
     have hbb : (ad'.add (k * 6)).block < wr.heap.size := by rw [block_of_add]; omega
     have hq0 : w.heap.size < wr.heap.size := by omega
     have hq1 : w.heap.size + 1 < wr.heap.size := by omega
     have HX := Lib.hid (eqGo_step (p := sameA) hx hy)
     have hk0 : (0 : Int) ≤ (k : Int) := by omega
     have hkn : (k : Int) < (m : Int) := by omega
     have b2 : ∀ o o', Below W0.heap.size W0 ((wr.alloc o).alloc o') := fun o o' => (hbel.alloc hz _).alloc (by simp; omega) _
     have b3 : ∀ o o', Below wr.heap.size wr ((wr.alloc o).alloc o') := fun o o' => ((Below.refl _ _).alloc (Nat.le_refl _) _).alloc (by simp) _
     have HPT : Hid (∀ w', Below wr.heap.size wr w' → RowAt rPt w' w'.heap.size C0 x.travel ∧ RowAt rPt w' w'.heap.size C1 x.slow ∧ RowAt rPt w' w'.heap.size E0 y.travel ∧ RowAt rPt w' w'.heap.size E1 y.slow) := Lib.hid fun w' h => by
      have h9 := h.mono hz
      have h8 := h.size
      exact ⟨(hp1.below h9).more (by omega), (hp2.below h9).more (by omega), (hp3.below h9).more (by omega), (hp4.below h9).more (by omega)⟩
     clear hx hy hp1 hp2 hp3 hp4
     go_upto_region 13 with fail
     go_cut [101] (fun v wx => v = .bool (!sameA x y) ∧ Below W0.heap.size W0 wx)
     case first => as_aux_lemma =>
      clear m0 m1 m2 m3 m4 m5 k0 k1 k2 k3 k4 k5 x0 x1 y0 y1
      rcases arc_cases x y with ⟨e, f⟩ | ⟨e, g1, f⟩ | ⟨e, g1, g2, f⟩ | ⟨e, g1, g2, g3, f⟩ | ⟨e, g1, g2, g3, g4⟩
      ·have HE := Lib.hid e
       obtain ⟨f, f'⟩ := f
       clear e
       go_wp2
       go_meet
       exact ⟨by rw [HE.out]; rfl, b2 _ _⟩
      ·have HE := Lib.hid e
       obtain ⟨f, f'⟩ := f
       clear e
       go_wp2
       go_meet
       exact ⟨by rw [HE.out]; rfl, b2 _ _⟩
      ·have HE := Lib.hid e
       obtain ⟨f, f'⟩ := f
       clear e
       go_wp2
       go_meet
       exact ⟨by rw [HE.out]; rfl, b2 _ _⟩
      ·have HE := Lib.hid e
       obtain ⟨f, f'⟩ := f
       clear e
       go_wp2
       go_meet
       exact ⟨by rw [HE.out]; rfl, b2 _ _⟩
      ·have HE := Lib.hid e
       clear e
       go_wp2_with fail
       refine (rpoints_any C0 e0 x.travel _ rfl E0 f0 y.travel _ rfl _ _ _ (Nat.le_refl _) (Nat.le_refl _) (HPT.out _ (b3 _ _)).1 (HPT.out _ (b3 _ _)).2.2.1).mono ?_
       rintro e w1 ⟨rfl, hb1⟩
       have hz1 := hb1.size
       simp at hz1
       have hc := fun b o h => hb1.cell (p := ⟨b, o, none⟩) h
       have l3 : wr.heap.size < w1.heap.size := by omega
       have l4 : wr.heap.size + 1 < w1.heap.size := by omega
       have hB : Below wr.heap.size wr w1 := (b3 _ _).trans (hb1.mono (by simp; omega))
       clear hb1
       cases hq1 : eqL ptEq x.travel y.travel
       ·have HT : Hid (sameA x y = false) := Lib.hid (by rw [HE.out, hq1]; rfl)
        go_wp2
        go_meet
        exact ⟨by rw [HT.out]; rfl, hbel.trans (hB.mono hz)⟩
       ·have HT : Hid (sameA x y = eqL ptEq x.slow y.slow) := Lib.hid (by rw [HE.out, hq1]; rfl)
        go_wp2_with (go_at_call 68; refine (rpoints_any C1 e1 x.slow _ rfl E1 f1 y.slow _ rfl _ _ _ (Nat.le_refl _) (Nat.le_refl _) (HPT.out _ hB).2.1 (HPT.out _ hB).2.2.2).mono ?_; rintro e w2 ⟨rfl, hb2⟩)
        go_meet
        exact ⟨by rw [HT.out], hbel.trans ((hB.trans (hb2.mono hB.size)).mono hz)⟩
     obtain ⟨h101, hbc⟩ := hcut
     subst h101
     clear m0 m1 m2 m3 m4 m5 k0 k1 k2 k3 k4 k5 x0 x1 y0 y1
     cases hq : sameA x y
     ·have HP := Lib.hid hq
      go_wp2
      go_ret
      exact ⟨ret_bool (by rw [HR1.out, hr.out, HX.out, HP.out]; rfl), hB0.trans (hbc.mono z0)⟩
     ·have HP := Lib.hid hq
      go_wp2
      go_roundw
      case rel => exact ⟨k + 1, by omega, by go_num, Lib.hid (by rw [hr.out, HX.out, HP.out, Bool.true_and]), hbc⟩
      case measure => simp [intOf]; omega
    ·have hkn : k = m := by omega
     subst hkn
     have HR2 : Hid (R = true) := Lib.hid (by rw [HR1.out, hr.out, eqGo_end (by rw [HN.out.2.1]; exact Nat.le_refl _)])
     clear hlt
     go_wp2
     go_ret
     exact ⟨ret_bool HR2.out.symm, hB0.trans (hbel.mono z0)⟩
end Go.Proofs.YthefooacfcagbaaGreatDoor.ins

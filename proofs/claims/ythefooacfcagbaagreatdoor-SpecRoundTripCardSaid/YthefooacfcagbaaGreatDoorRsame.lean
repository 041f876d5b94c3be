/- The same instances: the reference's word. -/
import Derived.Test.YthefooacfcagbaaGreatDoorRnet
import Derived.Test.YthefooacfcagbaaGreatDoorInsH
import Derived.Test.YthefooacfcagbaaGreatDoorFltM
import Derived.Test.YthefooacfcagbaaGreatDoorBase
import Derived.Deep.RegionHeld3
namespace Go.Proofs.YthefooacfcagbaaGreatDoor.ins
open Go.RowKit
open lib rd typ eqg note big
set_option linter.unusedVariables false
set_option linter.unusedSimpArgs false
theorem stOrd : StructOf 66 16 := ⟨⟨_, Tryz.underlying66⟩, by kernel_rfl⟩
theorem stTy : StructOf 63 14 := ⟨⟨_, Tryz.underlying63⟩, by kernel_rfl⟩
set_option maxRecDepth 100000 in
set_option maxHeartbeats 8000000 in
theorem rsame_any (a b : Ins) (P Q : InP) (w : World) (hP : InAt w w.heap.size a P) (hQ : InAt w w.heap.size b Q) :
  Calls Tryz.prog 12 #[InV a P, InV b Q] w fun e w' => e = .returned (.bool (sameI a b)) ∧ Below w.heap.size w w' := by
 obtain ⟨A0, c0, A1, c1, A2, c2, A3, c3, A4, c4, A5, c5⟩ := P
 obtain ⟨D0, d0, D1, d1, D2, d2, D3, d3, D4, d4, D5, d5⟩ := Q
 obtain ⟨R, hR⟩ : ∃ R, sameI a b = R := ⟨_, rfl⟩
 have HR0 : Hid (R = (netB a.net b.net && (eqL flt.sameT a.types b.types && (eqL ord.sameO a.orders b.orders && (eqL twoEq a.apart b.apart && (eqL twoEq a.before b.before)))))) := Lib.hid (by rw [← hR]; unfold sameI netB; rw [Bool.and_assoc])
 rw [hR]
 simp only [InV]
 obtain ⟨nt, hnt⟩ : ∃ n, a.types.length = n := ⟨_, rfl⟩
 obtain ⟨nt', hnt'⟩ : ∃ n, b.types.length = n := ⟨_, rfl⟩
 obtain ⟨no, hno⟩ : ∃ n, a.orders.length = n := ⟨_, rfl⟩
 obtain ⟨no', hno'⟩ : ∃ n, b.orders.length = n := ⟨_, rfl⟩
 have l2 := hP.types.len
 have l3 := hP.orders.len
 have l4 := hQ.types.len
 have l5 := hQ.orders.len
 rw [hnt] at l2
 rw [hno] at l3
 rw [hnt'] at l4
 rw [hno'] at l5
 rw [hnt, hnt', hno, hno']
 have HN := Lib.hid (And.intro (And.intro hnt hnt') (And.intro hno hno'))
 obtain ⟨W0, hW0⟩ : ∃ W0, (w.alloc (.cells #[.slice A0 a.net.places.length c0, .slice A1 a.net.arcs.length c1, .slice A2 nt c2, .slice A3 no c3, .slice A4 a.apart.length c4, .slice A5 a.before.length c5] 30)).alloc (.cells #[.slice D0 b.net.places.length d0, .slice D1 b.net.arcs.length d1, .slice D2 nt' d2, .slice D3 no' d3, .slice D4 b.apart.length d4, .slice D5 b.before.length d5] 30) = W0 := ⟨_, rfl⟩
 have hB0 : Below w.heap.size w W0 := by rw [← hW0]; exact ((Below.refl _ _).alloc (Nat.le_refl _) _).alloc (by simp) _
 have z0 := hB0.size
 have hs0 : w.heap.size + 1 < W0.heap.size := by rw [← hW0]; simp
 have HS : Hid (∀ w', Below W0.heap.size W0 w' → w'.cell? ⟨w.heap.size, 0, none⟩ = some (.slice A0 a.net.places.length c0) ∧ w'.cell? ⟨w.heap.size, 1, none⟩ = some (.slice A1 a.net.arcs.length c1) ∧ w'.cell? ⟨w.heap.size, 2, none⟩ = some (.slice A2 nt c2) ∧ w'.cell? ⟨w.heap.size, 3, none⟩ = some (.slice A3 no c3) ∧ w'.cell? ⟨w.heap.size, 4, none⟩ = some (.slice A4 a.apart.length c4) ∧ w'.cell? ⟨w.heap.size, 5, none⟩ = some (.slice A5 a.before.length c5) ∧ w'.cell? ⟨w.heap.size + 1, 0, none⟩ = some (.slice D0 b.net.places.length d0) ∧ w'.cell? ⟨w.heap.size + 1, 1, none⟩ = some (.slice D1 b.net.arcs.length d1) ∧ w'.cell? ⟨w.heap.size + 1, 2, none⟩ = some (.slice D2 nt' d2) ∧ w'.cell? ⟨w.heap.size + 1, 3, none⟩ = some (.slice D3 no' d3) ∧ w'.cell? ⟨w.heap.size + 1, 4, none⟩ = some (.slice D4 b.apart.length d4) ∧ w'.cell? ⟨w.heap.size + 1, 5, none⟩ = some (.slice D5 b.before.length d5)) := Lib.hid fun w' h => by
  have hk := fun (o : Nat) => h.cell (p := ⟨w.heap.size, o, none⟩) (show w.heap.size < W0.heap.size by omega)
  have hk1 := fun (o : Nat) => h.cell (p := ⟨w.heap.size + 1, o, none⟩) hs0
  refine ⟨(hk _).trans ?_, (hk _).trans ?_, (hk _).trans ?_, (hk _).trans ?_, (hk _).trans ?_, (hk _).trans ?_, (hk1 _).trans ?_, (hk1 _).trans ?_, (hk1 _).trans ?_, (hk1 _).trans ?_, (hk1 _).trans ?_, (hk1 _).trans ?_⟩
  all_goals (rw [← hW0]; simp)
 have HP : Hid (∀ w', Below W0.heap.size W0 w' → InAt w' w'.heap.size a ⟨A0, c0, A1, c1, A2, c2, A3, c3, A4, c4, A5, c5⟩ ∧ InAt w' w'.heap.size b ⟨D0, d0, D1, d1, D2, d2, D3, d3, D4, d4, D5, d5⟩) := Lib.hid fun w' h => ⟨(hP.go hB0).go h, (hQ.go hB0).go h⟩
 have HROW : Hid (∀ w', Below W0.heap.size W0 w' → InAt w' W0.heap.size a ⟨A0, c0, A1, c1, A2, c2, A3, c3, A4, c4, A5, c5⟩ ∧ InAt w' W0.heap.size b ⟨D0, d0, D1, d1, D2, d2, D3, d3, D4, d4, D5, d5⟩) := Lib.hid fun w' h => ⟨(hP.go hB0).below h, (hQ.go hB0).below h⟩
 have B0 : Below W0.heap.size W0 W0 := Below.refl _ _
 have HW0 := Lib.hid hW0
 clear hR hW0 hP hQ hnt hnt' hno hno'
 go_enter Tryz.func12, Tryz.ntmps12
 go_upto_region 1 with fail
 rw [HW0.out]
 go_cut [30] (fun v wx => v = .bool (!netB a.net b.net || (!decide (nt = nt') || !decide (no = no'))) ∧ Below W0.heap.size W0 wx)
 case first => as_aux_lemma =>
  obtain ⟨m0, m1, m2, m3, m4, m5, n0, n1, n2, n3, n4, n5⟩ := HS.out _ B0
  go_wp2_with fail
  refine (rnets_any a.net b.net A0 c0 A1 c1 D0 d0 D1 d1 _ (HP.out _ B0).1.places (HP.out _ B0).1.arcs (HP.out _ B0).2.places (HP.out _ B0).2.arcs).mono ?_
  rintro e w1 ⟨rfl, hb1⟩
  have B1 : Below W0.heap.size W0 w1 := hb1
  clear hb1 m0 m1 m2 m3 m4 m5 n0 n1 n2 n3 n4 n5
  obtain ⟨m0, m1, m2, m3, m4, m5, n0, n1, n2, n3, n4, n5⟩ := HS.out _ B1
  cases hq : netB a.net b.net
  ·have HQ := Lib.hid hq
   clear hq
   go_wp2
   go_meet
   exact ⟨by rw [HQ.out]; rfl, B1⟩
  ·have HQ := Lib.hid hq
   clear hq
   by_cases h1 : nt = nt'
   ·subst h1
    by_cases h2 : no = no'
    ·subst h2
     go_wp2
     go_meet
     exact ⟨by simp [HQ.out], B1⟩
    ·have e1 : ((no : Int) == (no' : Int)) = false := by simp; omega
     have e2 : ((no : Int) != (no' : Int)) = true := by simp; omega
     have HE := Lib.hid h2
     clear h2
     go_wp2
     go_meet
     exact ⟨by simp [HQ.out, HE.out], B1⟩
   ·have e1 : ((nt : Int) == (nt' : Int)) = false := by simp; omega
    have e2 : ((nt : Int) != (nt' : Int)) = true := by simp; omega
    have HE := Lib.hid h1
    clear h1
    go_wp2
    go_meet
    exact ⟨by simp [HQ.out, HE.out], B1⟩
 obtain ⟨h30, B1⟩ := hcut
 subst h30
 cases hq0 : (!netB a.net b.net || (!decide (nt = nt') || !decide (no = no')))
 case true =>
  have HT : Hid (R = false) := Lib.hid (by
   rw [HR0.out]
   simp only [Bool.or_eq_true, Bool.not_eq_true', decide_eq_false_iff_not] at hq0
   rcases hq0 with h | h | h
   ·rw [h]; rfl
   ·rw [eqL_no (p := flt.sameT) (by rw [HN.out.1.1, HN.out.1.2]; exact h)]; simp
   ·rw [eqL_no (p := ord.sameO) (by rw [HN.out.2.1, HN.out.2.2]; exact h)]; simp)
  go_wp2
  go_ret
  exact ⟨ret_bool HT.out.symm, hB0.trans (B1.mono z0)⟩
 have hq1 := hq0
 simp only [Bool.or_eq_false_iff, Bool.not_eq_false', decide_eq_true_eq] at hq1
 obtain ⟨hqn, hqt, hqo⟩ := hq1
 subst hqt
 subst hqo
 have HR1 : Hid (R = (eqL flt.sameT a.types b.types && (eqL ord.sameO a.orders b.orders && (eqL twoEq a.apart b.apart && (eqL twoEq a.before b.before))))) := Lib.hid (by rw [HR0.out, hqn, Bool.true_and])
 have HG1 := Lib.hid (eqL_go (p := flt.sameT) (HN.out.1.1.trans HN.out.1.2.symm))
 have HG2 := Lib.hid (eqL_go (p := ord.sameO) (HN.out.2.1.trans HN.out.2.2.symm))
 go_upto_region 4 with fail
 clear hq0 hqn l4 l5
 go_loopw [5] (fun i wr => ∃ k : Nat, k ≤ nt ∧ i = .int .i64 k ∧ Hid (eqL flt.sameT a.types b.types = eqGo flt.sameT (a.types.drop k) (b.types.drop k)) ∧ Below W0.heap.size W0 wr) (fun i _ => nt - (intOf i).toNat)
 case atStart => exact ⟨0, by omega, rfl, HG1, B1⟩
 case round =>
  clear B1
  obtain ⟨k, hk, rfl, hr, hbel⟩ := hrel
  by_cases hlt : k < nt
  ·obtain ⟨x, hx⟩ : ∃ x, a.types[k]? = some x := ⟨_, List.getElem?_eq_getElem (by rw [HN.out.1.1]; exact hlt)⟩
   obtain ⟨y, hy⟩ : ∃ y, b.types[k]? = some y := ⟨_, List.getElem?_eq_getElem (by rw [HN.out.1.2]; exact hlt)⟩
   obtain ⟨ad, cs, hA, hadb, hat, hcx⟩ := (HROW.out _ B0).1.types.elem hx
   obtain ⟨C0, e0, rfl, hp1, _⟩ := rTy_at hat
   obtain ⟨ad', cs', hA', hadb', hat', hcy⟩ := (HROW.out _ B0).2.types.elem hy
   obtain ⟨E0, f0, rfl, hp2, _⟩ := rTy_at hat'
   simp only at hA hA'
   subst hA
   subst hA'
   have hcx' : CellsAt W0 (ad.add (k * 14)) (TyCells x C0 e0) := hcx
   have hcy' : CellsAt W0 (ad'.add (k * 14)) (TyCells y E0 f0) := hcy
   clear hcx hcy hat hat'
   have HX := Lib.hid (eqGo_step (p := flt.sameT) hx hy)
   have hk0 : (0 : Int) ≤ (k : Int) := by omega
   have hkn : (k : Int) < (nt : Int) := by omega
   clear hx hy
   obtain ⟨q, hq⟩ : ∃ q, flt.sameT x y = q := ⟨_, rfl⟩
   have HP1 := Lib.hid hq
   have HC : Hid (∀ w', Below W0.heap.size W0 w' → Calls Tryz.prog 32 #[.agg #[.string x.name, .int .i64 x.count, .int .i64 x.frm, .int .i64 x.to, .slice C0 x.cap.length e0, .int .i64 x.skills, .int .i64 x.profile, .int .i64 x.opn, .int .i64 x.close, .int .i64 x.drive, .int .i64 x.rest, .int .i64 x.fixed, .int .i64 x.mile, .int .i64 x.tick], .agg #[.string y.name, .int .i64 y.count, .int .i64 y.frm, .int .i64 y.to, .slice E0 y.cap.length f0, .int .i64 y.skills, .int .i64 y.profile, .int .i64 y.opn, .int .i64 y.close, .int .i64 y.drive, .int .i64 y.rest, .int .i64 y.fixed, .int .i64 y.mile, .int .i64 y.tick]] w' fun e w'' => e = .returned (.bool q) ∧ Below w'.heap.size w' w'') := Lib.hid fun w' hw => by rw [← hq]; exact flt.rsame_any x y C0 e0 E0 f0 w' ((hp1.below hw).more hw.size) ((hp2.below hw).more hw.size)
   have hS : ∀ w', Below W0.heap.size W0 w' → (w'.cell? ⟨w.heap.size, 2, none⟩ = some (.slice (some ad) nt c2) ∧ w'.cell? ⟨w.heap.size + 1, 2, none⟩ = some (.slice (some ad') nt d2) ∧ CellsAt w' (ad.add (k * 14)) (TyCells x C0 e0) ∧ CellsAt w' (ad'.add (k * 14)) (TyCells y E0 f0)) := fun w' h => by
    obtain ⟨m0, m1, m2, m3, m4, m5, n0, n1, n2, n3, n4, n5⟩ := HS.out _ h
    exact ⟨m2, n2, hcx'.below h (by rw [block_of_add]; exact hadb), hcy'.below h (by rw [block_of_add]; exact hadb')⟩
   clear hq hp1 hp2 hcx' hcy'
   obtain ⟨m0, m1, m2, m3, m4, m5, n0, n1, n2, n3, n4, n5⟩ := HS.out _ hbel
   go_upto_region 6 with fail
   clear m0 m1 m2 m3 m4 m5 n0 n1 n2 n3 n4 n5
   (refine wp_region_held_drew (S := (fun w' => (w'.cell? ⟨w.heap.size, 2, none⟩ = some (.slice (some ad) nt c2) ∧ w'.cell? ⟨w.heap.size + 1, 2, none⟩ = some (.slice (some ad') nt d2) ∧ CellsAt w' (ad.add (k * 14)) (TyCells x C0 e0) ∧ CellsAt w' (ad'.add (k * 14)) (TyCells y E0 f0)))) (by kernel_rfl) ?_ (fun hHeld => ?_))
   ·exact hS _ hbel.drew
   (refine lib.tk 0 ?_ rfl (by kernel_rfl) (fun _ _ _ h => h) ?_ (by assumption) ?_; rotate_left; (focus (intro w hSw; (try dsimp only at hSw); go_simp; all_goals with_reducible rfl)); (try simp only [lib.hly]))
   (refine lib.tk 1 ?_ rfl (by kernel_rfl) (fun _ _ _ h => h) ?_ (by assumption) ?_; rotate_left; (focus (intro w hSw; (try dsimp only at hSw); go_simp; all_goals with_reducible rfl)); (try simp only [lib.hly]))
   (refine lib.tk 2 ?_ rfl (by kernel_rfl) (fun _ _ _ h => h) ?_ (by assumption) ?_; rotate_left; (focus (intro w hSw; (try dsimp only at hSw); go_simp; all_goals with_reducible rfl)); (try simp only [lib.hly]))
   (refine lib.tk 3 ?_ rfl (by kernel_rfl) (fun _ _ _ h => h) ?_ (by assumption) ?_; rotate_left; (focus (intro w hSw; (try dsimp only at hSw); go_simp; all_goals with_reducible rfl)); (try simp only [lib.hly]))
   (refine lib.tk 4 _ rfl (by kernel_rfl) (fun _ _ _ h => h) (fun _ hSw => exec_loadS stTy rfl rfl hSw.2.2.1 rfl) (by assumption) ?_; (try simp only [lib.hly]))
   (refine lib.tk 5 ?_ rfl (by kernel_rfl) (fun _ _ _ h => h) ?_ (by assumption) ?_; rotate_left; (focus (intro w hSw; (try dsimp only at hSw); go_simp; all_goals with_reducible rfl)); (try simp only [lib.hly]))
   (refine lib.tk 6 ?_ rfl (by kernel_rfl) (fun _ _ _ h => h) ?_ (by assumption) ?_; rotate_left; (focus (intro w hSw; (try dsimp only at hSw); go_simp; all_goals with_reducible rfl)); (try simp only [lib.hly]))
   (refine lib.tk 7 ?_ rfl (by kernel_rfl) (fun _ _ _ h => h) ?_ (by assumption) ?_; rotate_left; (focus (intro w hSw; (try dsimp only at hSw); go_simp; all_goals with_reducible rfl)); (try simp only [lib.hly]))
   (refine lib.tk 8 ?_ rfl (by kernel_rfl) (fun _ _ _ h => h) ?_ (by assumption) ?_; rotate_left; (focus (intro w hSw; (try dsimp only at hSw); go_simp; all_goals with_reducible rfl)); (try simp only [lib.hly]))
   (refine lib.tk 9 _ rfl (by kernel_rfl) (fun _ _ _ h => h) (fun _ hSw => exec_loadS stTy rfl rfl hSw.2.2.2 rfl) (by assumption) ?_; (try simp only [lib.hly]))
   (refine wpAnyH_ready (rs := [10]) (by kernel_rfl) (by simp) ?_; refine AllReadyH.cons rfl (fun K hK => ?_) AllReadyH.nil; go_simp)
   go_at_call 32
   refine (HC.out _ hbel.drew).mono ?_
   rintro e w1 ⟨rfl, b1⟩
   have B1 : Below W0.heap.size W0 w1 := hbel.drew.trans (b1.mono hbel.drew.size)
   (refine hK.out _ _ ?_ (fun hHeld => ?_))
   ·exact hS _ B1
   clear hK K
   (try simp only [lib.hly])
   (refine lib.tk 11 ?_ rfl (by kernel_rfl) (fun _ _ _ h => h) ?_ (by assumption) ?_; rotate_left; (focus (intro w hSw; (try dsimp only at hSw); go_simp; all_goals with_reducible rfl)); (try simp only [lib.hly]))
   (refine wpAnyH_done (by kernel_rfl) ?_ _)
   cases q
   ·go_wp2
    go_ret
    exact ⟨ret_bool (by rw [HR1.out, hr.out, HX.out, HP1.out]; rfl), hB0.trans (B1.mono z0)⟩
   ·go_wp2
    go_roundw
    case rel => exact ⟨k + 1, by omega, by go_num, Lib.hid (by rw [hr.out, HX.out, HP1.out, Bool.true_and]), B1⟩
    case measure => simp [intOf]; omega
  ·have hkn : k = nt := by omega
   subst hkn
   have HR2 : Hid (R = (eqL ord.sameO a.orders b.orders && (eqL twoEq a.apart b.apart && (eqL twoEq a.before b.before)))) := Lib.hid (by rw [HR1.out, hr.out, eqGo_end (by rw [HN.out.1.1]; exact Nat.le_refl _), Bool.true_and])
   clear hlt
   obtain ⟨m0, m1, m2, m3, m4, m5, n0, n1, n2, n3, n4, n5⟩ := HS.out _ hbel
   go_upto_region 9 with fail
   clear m0 m1 m2 m3 m4 m5 n0 n1 n2 n3 n4 n5
   as_aux_lemma =>
    go_loopw [6] (fun i wr => ∃ k : Nat, k ≤ no ∧ i = .int .i64 k ∧ Hid (eqL ord.sameO a.orders b.orders = eqGo ord.sameO (a.orders.drop k) (b.orders.drop k)) ∧ Below W0.heap.size W0 wr) (fun i _ => no - (intOf i).toNat)
    case atStart => exact ⟨0, by omega, rfl, HG2, hbel⟩
    case round =>
     clear hbel
     obtain ⟨k, hk, rfl, hr, hbel⟩ := hrel
     by_cases hlt : k < no
     ·obtain ⟨x, hx⟩ : ∃ x, a.orders[k]? = some x := ⟨_, List.getElem?_eq_getElem (by rw [HN.out.2.1]; exact hlt)⟩
      obtain ⟨y, hy⟩ : ∃ y, b.orders[k]? = some y := ⟨_, List.getElem?_eq_getElem (by rw [HN.out.2.2]; exact hlt)⟩
      obtain ⟨ad, cs, hA, hadb, hat, hcx⟩ := (HROW.out _ B0).1.orders.elem hx
      obtain ⟨C0, e0, rfl, hp1, _⟩ := rOrd_at hat
      obtain ⟨ad', cs', hA', hadb', hat', hcy⟩ := (HROW.out _ B0).2.orders.elem hy
      obtain ⟨E0, f0, rfl, hp2, _⟩ := rOrd_at hat'
      simp only at hA hA'
      subst hA
      subst hA'
      have hcx' : CellsAt W0 (ad.add (k * 16)) (OrdCells x C0 e0) := hcx
      have hcy' : CellsAt W0 (ad'.add (k * 16)) (OrdCells y E0 f0) := hcy
      clear hcx hcy hat hat'
      have HX := Lib.hid (eqGo_step (p := ord.sameO) hx hy)
      have hk0 : (0 : Int) ≤ (k : Int) := by omega
      have hkn : (k : Int) < (no : Int) := by omega
      clear hx hy
      obtain ⟨q, hq⟩ : ∃ q, ord.sameO x y = q := ⟨_, rfl⟩
      have HP1 := Lib.hid hq
      have HC : Hid (∀ w', Below W0.heap.size W0 w' → Calls Tryz.prog 33 #[.agg #[.string x.name, .slice C0 x.load.length e0, .int .i64 x.pick.place, .int .i64 x.pick.opn, .int .i64 x.pick.close, .int .i64 x.pick.service, .int .i64 x.drop.place, .int .i64 x.drop.opn, .int .i64 x.drop.close, .int .i64 x.drop.service, .int .i64 x.skills, .int .i64 x.penalty, .int .i64 x.split, .int .i64 x.last, .int .i64 x.now, .bool x.off], .agg #[.string y.name, .slice E0 y.load.length f0, .int .i64 y.pick.place, .int .i64 y.pick.opn, .int .i64 y.pick.close, .int .i64 y.pick.service, .int .i64 y.drop.place, .int .i64 y.drop.opn, .int .i64 y.drop.close, .int .i64 y.drop.service, .int .i64 y.skills, .int .i64 y.penalty, .int .i64 y.split, .int .i64 y.last, .int .i64 y.now, .bool y.off]] w' fun e w'' => e = .returned (.bool q) ∧ Below w'.heap.size w' w'') := Lib.hid fun w' hw => by rw [← hq]; exact ord.orsame_any x y C0 e0 E0 f0 w' ((hp1.below hw).more hw.size) ((hp2.below hw).more hw.size)
      have hS : ∀ w', Below W0.heap.size W0 w' → (w'.cell? ⟨w.heap.size, 3, none⟩ = some (.slice (some ad) no c3) ∧ w'.cell? ⟨w.heap.size + 1, 3, none⟩ = some (.slice (some ad') no d3) ∧ CellsAt w' (ad.add (k * 16)) (OrdCells x C0 e0) ∧ CellsAt w' (ad'.add (k * 16)) (OrdCells y E0 f0)) := fun w' h => by
       obtain ⟨m0, m1, m2, m3, m4, m5, n0, n1, n2, n3, n4, n5⟩ := HS.out _ h
       exact ⟨m3, n3, hcx'.below h (by rw [block_of_add]; exact hadb), hcy'.below h (by rw [block_of_add]; exact hadb')⟩
      clear hq hp1 hp2 hcx' hcy'
      obtain ⟨m0, m1, m2, m3, m4, m5, n0, n1, n2, n3, n4, n5⟩ := HS.out _ hbel
      go_upto_region 11 with fail
      clear m0 m1 m2 m3 m4 m5 n0 n1 n2 n3 n4 n5
      (refine wp_region_held_drew (S := (fun w' => (w'.cell? ⟨w.heap.size, 3, none⟩ = some (.slice (some ad) no c3) ∧ w'.cell? ⟨w.heap.size + 1, 3, none⟩ = some (.slice (some ad') no d3) ∧ CellsAt w' (ad.add (k * 16)) (OrdCells x C0 e0) ∧ CellsAt w' (ad'.add (k * 16)) (OrdCells y E0 f0)))) (by kernel_rfl) ?_ (fun hHeld => ?_))
      ·exact hS _ hbel.drew
      (refine lib.tk 0 ?_ rfl (by kernel_rfl) (fun _ _ _ h => h) ?_ (by assumption) ?_; rotate_left; (focus (intro w hSw; (try dsimp only at hSw); go_simp; all_goals with_reducible rfl)); (try simp only [lib.hly]))
      (refine lib.tk 1 ?_ rfl (by kernel_rfl) (fun _ _ _ h => h) ?_ (by assumption) ?_; rotate_left; (focus (intro w hSw; (try dsimp only at hSw); go_simp; all_goals with_reducible rfl)); (try simp only [lib.hly]))
      (refine lib.tk 2 ?_ rfl (by kernel_rfl) (fun _ _ _ h => h) ?_ (by assumption) ?_; rotate_left; (focus (intro w hSw; (try dsimp only at hSw); go_simp; all_goals with_reducible rfl)); (try simp only [lib.hly]))
      (refine lib.tk 3 ?_ rfl (by kernel_rfl) (fun _ _ _ h => h) ?_ (by assumption) ?_; rotate_left; (focus (intro w hSw; (try dsimp only at hSw); go_simp; all_goals with_reducible rfl)); (try simp only [lib.hly]))
      (refine lib.tk 4 _ rfl (by kernel_rfl) (fun _ _ _ h => h) (fun _ hSw => exec_loadS stOrd rfl rfl hSw.2.2.1 rfl) (by assumption) ?_; (try simp only [lib.hly]))
      (refine lib.tk 5 ?_ rfl (by kernel_rfl) (fun _ _ _ h => h) ?_ (by assumption) ?_; rotate_left; (focus (intro w hSw; (try dsimp only at hSw); go_simp; all_goals with_reducible rfl)); (try simp only [lib.hly]))
      (refine lib.tk 6 ?_ rfl (by kernel_rfl) (fun _ _ _ h => h) ?_ (by assumption) ?_; rotate_left; (focus (intro w hSw; (try dsimp only at hSw); go_simp; all_goals with_reducible rfl)); (try simp only [lib.hly]))
      (refine lib.tk 7 ?_ rfl (by kernel_rfl) (fun _ _ _ h => h) ?_ (by assumption) ?_; rotate_left; (focus (intro w hSw; (try dsimp only at hSw); go_simp; all_goals with_reducible rfl)); (try simp only [lib.hly]))
      (refine lib.tk 8 ?_ rfl (by kernel_rfl) (fun _ _ _ h => h) ?_ (by assumption) ?_; rotate_left; (focus (intro w hSw; (try dsimp only at hSw); go_simp; all_goals with_reducible rfl)); (try simp only [lib.hly]))
      (refine lib.tk 9 _ rfl (by kernel_rfl) (fun _ _ _ h => h) (fun _ hSw => exec_loadS stOrd rfl rfl hSw.2.2.2 rfl) (by assumption) ?_; (try simp only [lib.hly]))
      (refine wpAnyH_ready (rs := [10]) (by kernel_rfl) (by simp) ?_; refine AllReadyH.cons rfl (fun K hK => ?_) AllReadyH.nil; go_simp)
      go_at_call 33
      refine (HC.out _ hbel.drew).mono ?_
      rintro e w1 ⟨rfl, b1⟩
      have B1 : Below W0.heap.size W0 w1 := hbel.drew.trans (b1.mono hbel.drew.size)
      (refine hK.out _ _ ?_ (fun hHeld => ?_))
      ·exact hS _ B1
      clear hK K
      (try simp only [lib.hly])
      (refine lib.tk 11 ?_ rfl (by kernel_rfl) (fun _ _ _ h => h) ?_ (by assumption) ?_; rotate_left; (focus (intro w hSw; (try dsimp only at hSw); go_simp; all_goals with_reducible rfl)); (try simp only [lib.hly]))
      (refine wpAnyH_done (by kernel_rfl) ?_ _)
      cases q
      ·go_wp2
       go_ret
       exact ⟨ret_bool (by rw [HR2.out, hr.out, HX.out, HP1.out]; rfl), hB0.trans (B1.mono z0)⟩
      ·go_wp2
       go_roundw
       case rel => exact ⟨k + 1, by omega, by go_num, Lib.hid (by rw [hr.out, HX.out, HP1.out, Bool.true_and]), B1⟩
       case measure => simp [intOf]; omega
     ·have hkn : k = no := by omega
      subst hkn
      have HR3 : Hid (R = (eqL twoEq a.apart b.apart && (eqL twoEq a.before b.before))) := Lib.hid (by rw [HR2.out, hr.out, eqGo_end (by rw [HN.out.2.1]; exact Nat.le_refl _), Bool.true_and])
      clear hlt
      obtain ⟨m0, m1, m2, m3, m4, m5, n0, n1, n2, n3, n4, n5⟩ := HS.out _ hbel
      go_wp2_with fail
      refine (rpairs_any A4 c4 a.apart _ rfl D4 d4 b.apart _ rfl _ _ _ (Nat.le_refl _) (Nat.le_refl _) (HP.out _ hbel).1.apart (HP.out _ hbel).2.apart).mono ?_
      rintro e w5 ⟨rfl, hb5⟩
      have B5 : Below W0.heap.size W0 w5 := hbel.trans (hb5.mono hbel.size)
      clear m0 m1 m2 m3 m4 m5 n0 n1 n2 n3 n4 n5
      obtain ⟨m0, m1, m2, m3, m4, m5, n0, n1, n2, n3, n4, n5⟩ := HS.out _ B5
      cases hq4 : eqL twoEq a.apart b.apart
      ·have HT : Hid (R = false) := Lib.hid (by rw [HR3.out, hq4]; rfl)
       go_wp2
       go_ret
       exact ⟨ret_bool HT.out.symm, hB0.trans (B5.mono z0)⟩
      have HR5 : Hid (R = (eqL twoEq a.before b.before)) := Lib.hid (by rw [HR3.out, hq4]; rfl)
      clear hq4 hb5
      go_wp2_with fail
      refine (rpairs_any A5 c5 a.before _ rfl D5 d5 b.before _ rfl _ _ _ (Nat.le_refl _) (Nat.le_refl _) (HP.out _ B5).1.before (HP.out _ B5).2.before).mono ?_
      rintro e w6 ⟨rfl, hb6⟩
      have B6 : Below W0.heap.size W0 w6 := B5.trans (hb6.mono B5.size)
      go_wp2
      go_ret
      exact ⟨ret_bool HR5.out.symm, hB0.trans (B6.mono z0)⟩
end Go.Proofs.YthefooacfcagbaaGreatDoor.ins

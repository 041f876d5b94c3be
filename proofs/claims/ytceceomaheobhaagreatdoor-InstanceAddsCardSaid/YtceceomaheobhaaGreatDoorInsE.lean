/- The same arcs; lists of arcs, types, orders that are the same. -/
import Derived.Test.YtceceomaheobhaaGreatDoorInsD
import Derived.Test.YtceceomaheobhaaGreatDoorOrdI
import Derived.Test.YtceceomaheobhaaGreatDoorFltX
namespace Go.Proofs.YtceceomaheobhaaGreatDoor.ins
open Go.RowKit
open Go.Proofs.YtceceomaheobhaaGreatDoor.lib Go.Proofs.YtceceomaheobhaaGreatDoor.rd Go.Proofs.YtceceomaheobhaaGreatDoor.typ Go.Proofs.YtceceomaheobhaaGreatDoor.eqg
set_option linter.unusedVariables false
set_option linter.unusedSimpArgs false

def sameA (a b : Arc) : Bool := (a.frm == b.frm) && ((a.to == b.to) && ((a.profile == b.profile) && ((a.miles == b.miles) && (eqL ptEq a.travel b.travel && eqL ptEq a.slow b.slow))))
theorem sameA_comm (a b : Arc) : sameA a b = sameA b a := by unfold sameA; rw [int_comm a.frm, int_comm a.to, int_comm a.profile, int_comm a.miles, eqL_comm ptEq_comm a.travel, eqL_comm ptEq_comm a.slow]
theorem sameA_self (a : Arc) : sameA a a = true := by unfold sameA; rw [eqL_self ptEq_self, eqL_self ptEq_self]; simp
set_option maxRecDepth 20000 in
set_option maxHeartbeats 4000000 in
theorem sameArc_any (a b : Arc) (C0 : Option Addr) (c0 : Nat) (C1 : Option Addr) (c1 : Nat) (D0 : Option Addr) (d0 : Nat) (D1 : Option Addr) (d1 : Nat) (w : World) (h1 : RowAt rPt w w.heap.size C0 a.travel) (h2 : RowAt rPt w w.heap.size C1 a.slow) (h3 : RowAt rPt w w.heap.size D0 b.travel) (h4 : RowAt rPt w w.heap.size D1 b.slow) :
    Calls Tryz.prog 54 #[.agg #[.int .i64 a.frm, .int .i64 a.to, .int .i64 a.profile, .int .i64 a.miles, .slice C0 a.travel.length c0, .slice C1 a.slow.length c1], .agg #[.int .i64 b.frm, .int .i64 b.to, .int .i64 b.profile, .int .i64 b.miles, .slice D0 b.travel.length d0, .slice D1 b.slow.length d1]] w fun e w' => e = .returned (.bool (sameA a b)) ∧ Below w.heap.size w w' := by
  obtain ⟨R, hR⟩ : ∃ R, sameA a b = R := ⟨_, rfl⟩
  have HR : Hid (R = ((a.frm == b.frm) && ((a.to == b.to) && ((a.profile == b.profile) && ((a.miles == b.miles) && (eqL ptEq a.travel b.travel && eqL ptEq a.slow b.slow)))))) := Lib.hid (by rw [← hR]; rfl)
  rw [hR]
  clear hR
  have H1 : Hid (∀ w', Below w.heap.size w w' → RowAt rPt w' w'.heap.size C0 a.travel ∧ RowAt rPt w' w'.heap.size C1 a.slow ∧ RowAt rPt w' w'.heap.size D0 b.travel ∧ RowAt rPt w' w'.heap.size D1 b.slow) := Lib.hid fun w' hb => ⟨(h1.below hb).more hb.size, (h2.below hb).more hb.size, (h3.below hb).more hb.size, (h4.below hb).more hb.size⟩
  clear h1 h2 h3 h4
  by_cases e0 : a.frm = b.frm
  case neg =>
    have f0 : (a.frm == b.frm) = false := by simp [e0]
    have HT : Hid (R = false) := Lib.hid (by rw [HR.out, f0]; rfl)
    clear e0
    go_enter Tryz.func54, Tryz.ntmps54
    go_wp2
    go_ret
    exact ⟨ret_bool HT.out.symm, by repeat (first | assumption | exact Below.refl _ _ | refine Below.drew ?_ | refine Below.alloc ?_ (by first | omega | (simp <;> omega)) _ | refine Below.setCell ?_ (by first | omega | (simp <;> omega)) _)⟩
  have g0 : (a.frm == b.frm) = true := by simp [e0]
  by_cases e1 : a.to = b.to
  case neg =>
    have f1 : (a.to == b.to) = false := by simp [e1]
    have HT : Hid (R = false) := Lib.hid (by rw [HR.out, g0, f1]; rfl)
    clear e1
    go_enter Tryz.func54, Tryz.ntmps54
    go_wp2
    go_ret
    exact ⟨ret_bool HT.out.symm, by repeat (first | assumption | exact Below.refl _ _ | refine Below.drew ?_ | refine Below.alloc ?_ (by first | omega | (simp <;> omega)) _ | refine Below.setCell ?_ (by first | omega | (simp <;> omega)) _)⟩
  have g1 : (a.to == b.to) = true := by simp [e1]
  by_cases e2 : a.profile = b.profile
  case neg =>
    have f2 : (a.profile == b.profile) = false := by simp [e2]
    have HT : Hid (R = false) := Lib.hid (by rw [HR.out, g0, g1, f2]; rfl)
    clear e2
    go_enter Tryz.func54, Tryz.ntmps54
    go_wp2
    go_ret
    exact ⟨ret_bool HT.out.symm, by repeat (first | assumption | exact Below.refl _ _ | refine Below.drew ?_ | refine Below.alloc ?_ (by first | omega | (simp <;> omega)) _ | refine Below.setCell ?_ (by first | omega | (simp <;> omega)) _)⟩
  have g2 : (a.profile == b.profile) = true := by simp [e2]
  by_cases e3 : a.miles = b.miles
  case neg =>
    have f3 : (a.miles == b.miles) = false := by simp [e3]
    have HT : Hid (R = false) := Lib.hid (by rw [HR.out, g0, g1, g2, f3]; rfl)
    clear e3
    go_enter Tryz.func54, Tryz.ntmps54
    go_wp2
    go_ret
    exact ⟨ret_bool HT.out.symm, by repeat (first | assumption | exact Below.refl _ _ | refine Below.drew ?_ | refine Below.alloc ?_ (by first | omega | (simp <;> omega)) _ | refine Below.setCell ?_ (by first | omega | (simp <;> omega)) _)⟩
  have g3 : (a.miles == b.miles) = true := by simp [e3]
  have HR2 : Hid (R = (eqL ptEq a.travel b.travel && eqL ptEq a.slow b.slow)) := Lib.hid (by rw [HR.out, g0, g1, g2, g3]; rfl)
  clear g0 g1 g2 g3
  have b2 : ∀ o o', Below w.heap.size w ((w.alloc o).alloc o') := fun o o' => ((Below.refl _ _).alloc (Nat.le_refl _) _).alloc (by simp) _
  go_enter Tryz.func54, Tryz.ntmps54
  go_wp2_with fail
  refine (eqPt_any C0 c0 a.travel _ rfl D0 d0 b.travel _ rfl _ _ _ (Nat.le_refl _) (Nat.le_refl _) (H1.out _ (b2 _ _)).1 (H1.out _ (b2 _ _)).2.2.1).mono ?_
  rintro e w1 ⟨rfl, hb1⟩
  have hz := hb1.size
  simp at hz
  have hc := fun b o h => hb1.cell (p := ⟨b, o, none⟩) h
  have hf := fun b o h => hb1.frozen (p := ⟨b, o, none⟩) h
  have l1 : w.heap.size < w1.heap.size := by omega
  have l2 : w.heap.size + 1 < w1.heap.size := by omega
  have hB : Below w.heap.size w w1 := (b2 _ _).trans (hb1.mono (by simp; omega))
  clear hb1
  cases hq1 : eqL ptEq a.travel b.travel
  · have HT : Hid (R = false) := Lib.hid (by rw [HR2.out, hq1]; rfl)
    go_wp2
    go_ret
    exact ⟨ret_bool HT.out.symm, hB⟩
  · have HT : Hid (R = eqL ptEq a.slow b.slow) := Lib.hid (by rw [HR2.out, hq1]; rfl)
    go_wp2_with (go_at_call 90; refine (eqPt_any C1 c1 a.slow _ rfl D1 d1 b.slow _ rfl _ _ _ (Nat.le_refl _) (Nat.le_refl _) (H1.out _ hB).2.1 (H1.out _ hB).2.2.2).mono ?_; rintro e w2 ⟨rfl, hb2⟩)
    go_ret
    exact ⟨ret_bool HT.out.symm, hB.trans (hb2.mono hB.size)⟩

theorem Ints.go {w w' : World} {B : Nat} {A : Option Addr} {l : List Int} (h : Ints w B A l) (hB : B ≤ w.heap.size) (hb : Below w.heap.size w w') : Ints w' w'.heap.size A l := ((h.more hB).below hb).more hb.size
theorem rows_go {X : Type} {r : Rd X} {w w' : World} {B : Nat} {A : Option Addr} {l : List X} (h : RowAt r w B A l) (hB : B ≤ w.heap.size) (hb : Below w.heap.size w w') : RowAt r w' w'.heap.size A l := ((h.more hB).below hb).more hb.size
set_option maxRecDepth 20000 in
set_option maxHeartbeats 4000000 in
theorem eqArc_any (A : Option Addr) (c : Nat) (a : List Arc) (n : Nat) (hn : a.length = n) (A' : Option Addr) (c' : Nat) (b : List Arc) (m : Nat) (hm : b.length = m) (w : World) (B B' : Nat) (hB : B ≤ w.heap.size) (hB' : B' ≤ w.heap.size) (ha : RowAt rArc w B A a) (hb : RowAt rArc w B' A' b) :
    Calls Tryz.prog 53 #[.slice A n c, .slice A' m c', .func (.func 54) #[] #[]] w fun e w' => e = .returned (.bool (eqL sameA a b)) ∧ Below w.heap.size w w' := by
  have hlen := ha.len
  rw [hn] at hlen
  by_cases h : n = m
  · subst h
    have HN := Lib.hid hn
    have HM := Lib.hid hm
    have HG := Lib.hid (eqL_go (p := sameA) (hn.trans hm.symm))
    clear hn hm
    go_enter Tryz.func53, Tryz.ntmps53
    go_wp2
    go_loopw [7, 8, 9, 17] (fun _ _ _ i wr => ∃ k : Nat, k ≤ n ∧ i = .int .i64 k ∧ Hid (eqL sameA a b = eqGo sameA (a.drop k) (b.drop k)) ∧ Below w.heap.size w wr) (fun _ _ _ i _ => n - (intOf i).toNat)
    case atStart => exact ⟨0, by omega, rfl, HG, Below.refl _ _⟩
    case round =>
      obtain ⟨k, hk, rfl, hr, hbel⟩ := hrel
      have hz := hbel.size
      by_cases hlt : k < n
      · obtain ⟨x, hx⟩ : ∃ x, a[k]? = some x := ⟨_, List.getElem?_eq_getElem (by rw [HN.out]; exact hlt)⟩
        obtain ⟨y, hy⟩ : ∃ y, b[k]? = some y := ⟨_, List.getElem?_eq_getElem (by rw [HM.out]; exact hlt)⟩
        obtain ⟨ad, C0, c0, C1, c1, rfl, hadb, ⟨m0, m1, m2, m3, m4, m5⟩, hp1, hp2, _⟩ := row_Arc (ha.below (hbel.mono hB)) hx
        obtain ⟨ad', D0, d0, D1, d1, rfl, hadb', ⟨k0, k1, k2, k3, k4, k5⟩, hp3, hp4, _⟩ := row_Arc (hb.below (hbel.mono hB')) hy; have hbb : (ad'.add (k * 6)).block < wr.heap.size := (by rw [block_of_add]; omega)
        have HX := Lib.hid (eqGo_step (p := sameA) hx hy)
        have hk0 : (0 : Int) ≤ (k : Int) := by omega
        have hkn : (k : Int) < (n : Int) := by omega
        have b2 : ∀ o o', Below wr.heap.size wr ((wr.alloc o).alloc o') := fun o o' => ((Below.refl _ _).alloc (Nat.le_refl _) _).alloc (by simp) _
        clear hx hy
        obtain ⟨q, hq⟩ : ∃ q, sameA x y = q := ⟨_, rfl⟩
        have HP := Lib.hid hq
        have HC : Hid (∀ w', Below wr.heap.size wr w' → Calls Tryz.prog 54 #[.agg #[.int .i64 x.frm, .int .i64 x.to, .int .i64 x.profile, .int .i64 x.miles, .slice C0 x.travel.length c0, .slice C1 x.slow.length c1], .agg #[.int .i64 y.frm, .int .i64 y.to, .int .i64 y.profile, .int .i64 y.miles, .slice D0 y.travel.length d0, .slice D1 y.slow.length d1]] w' fun e w'' => e = .returned (.bool q) ∧ Below w'.heap.size w' w'') := Lib.hid fun w' hw => by rw [← hq]; exact sameArc_any x y C0 c0 C1 c1 D0 d0 D1 d1 w' (rows_go hp1 (by omega) hw) (rows_go hp2 (by omega) hw) (rows_go hp3 (by omega) hw) (rows_go hp4 (by omega) hw)
        clear hq
        cases q
        · skip
          go_wp2_with (go_at_call 54; refine (HC.out _ (b2 _ _)).mono ?_; rintro e w1 ⟨rfl, hb1⟩)
          go_ret
          exact ⟨ret_bool (by rw [hr.out, HX.out, HP.out]; rfl), hbel.trans (((b2 _ _).mono hz).trans (hb1.mono (by simp; omega)))⟩
        · skip
          go_wp2_with (go_at_call 54; refine (HC.out _ (b2 _ _)).mono ?_; rintro e w1 ⟨rfl, hb1⟩)
          go_roundw
          case rel => exact ⟨k + 1, by omega, by go_num, Lib.hid (by rw [hr.out, HX.out, HP.out, Bool.true_and]), hbel.trans (((b2 _ _).mono hz).trans (hb1.mono (by simp; omega)))⟩
          case measure => simp [intOf]; omega
      · have hkn : k = n := by omega
        subst hkn
        clear hlt
        go_wp2
        go_ret
        exact ⟨ret_bool (by rw [hr.out, eqGo_end (by rw [HN.out]; exact Nat.le_refl _)]), hbel⟩
  · have hd2 : ((n : Int) == (m : Int)) = false := by simp; omega
    have hd3 : ((n : Int) != (m : Int)) = true := by simp; omega
    have HD : Hid (eqL sameA a b = false) := Lib.hid (eqL_no (by omega))
    clear h hn hm
    go_enter Tryz.func53, Tryz.ntmps53
    go_wp2
    go_ret
    exact ⟨ret_bool (by rw [HD.out]), Below.refl _ _⟩
set_option maxRecDepth 20000 in
set_option maxHeartbeats 4000000 in
theorem eqTy_any (A : Option Addr) (c : Nat) (a : List Ty) (n : Nat) (hn : a.length = n) (A' : Option Addr) (c' : Nat) (b : List Ty) (m : Nat) (hm : b.length = m) (w : World) (B B' : Nat) (hB : B ≤ w.heap.size) (hB' : B' ≤ w.heap.size) (ha : RowAt rTy w B A a) (hb : RowAt rTy w B' A' b) :
    Calls Tryz.prog 55 #[.slice A n c, .slice A' m c', .func (.func 56) #[] #[]] w fun e w' => e = .returned (.bool (eqL flt.sameT a b)) ∧ Below w.heap.size w w' := by
  have hlen := ha.len
  rw [hn] at hlen
  by_cases h : n = m
  · subst h
    have HN := Lib.hid hn
    have HM := Lib.hid hm
    have HG := Lib.hid (eqL_go (p := flt.sameT) (hn.trans hm.symm))
    clear hn hm
    go_enter Tryz.func55, Tryz.ntmps55
    go_wp2
    go_loopw [7, 8, 9, 17] (fun _ _ _ i wr => ∃ k : Nat, k ≤ n ∧ i = .int .i64 k ∧ Hid (eqL flt.sameT a b = eqGo flt.sameT (a.drop k) (b.drop k)) ∧ Below w.heap.size w wr) (fun _ _ _ i _ => n - (intOf i).toNat)
    case atStart => exact ⟨0, by omega, rfl, HG, Below.refl _ _⟩
    case round =>
      obtain ⟨k, hk, rfl, hr, hbel⟩ := hrel
      have hz := hbel.size
      by_cases hlt : k < n
      · obtain ⟨x, hx⟩ : ∃ x, a[k]? = some x := ⟨_, List.getElem?_eq_getElem (by rw [HN.out]; exact hlt)⟩
        obtain ⟨y, hy⟩ : ∃ y, b[k]? = some y := ⟨_, List.getElem?_eq_getElem (by rw [HM.out]; exact hlt)⟩
        obtain ⟨ad, C0, c0, rfl, hadb, ⟨m0, m1, m2, m3, m4, m5, m6, m7, m8, m9, m10, m11, m12, m13⟩, hp1, _⟩ := row_Ty (ha.below (hbel.mono hB)) hx
        obtain ⟨ad', D0, d0, rfl, hadb', ⟨k0, k1, k2, k3, k4, k5, k6, k7, k8, k9, k10, k11, k12, k13⟩, hp3, _⟩ := row_Ty (hb.below (hbel.mono hB')) hy; have hbb : (ad'.add (k * 14)).block < wr.heap.size := (by rw [block_of_add]; omega)
        have HX := Lib.hid (eqGo_step (p := flt.sameT) hx hy)
        have hk0 : (0 : Int) ≤ (k : Int) := by omega
        have hkn : (k : Int) < (n : Int) := by omega
        have b2 : ∀ o o', Below wr.heap.size wr ((wr.alloc o).alloc o') := fun o o' => ((Below.refl _ _).alloc (Nat.le_refl _) _).alloc (by simp) _
        clear hx hy
        obtain ⟨q, hq⟩ : ∃ q, flt.sameT x y = q := ⟨_, rfl⟩
        have HP := Lib.hid hq
        have HC : Hid (∀ w', Below wr.heap.size wr w' → Calls Tryz.prog 56 #[.agg #[.string x.name, .int .i64 x.count, .int .i64 x.frm, .int .i64 x.to, .slice C0 x.cap.length c0, .int .i64 x.skills, .int .i64 x.profile, .int .i64 x.opn, .int .i64 x.close, .int .i64 x.drive, .int .i64 x.rest, .int .i64 x.fixed, .int .i64 x.mile, .int .i64 x.tick], .agg #[.string y.name, .int .i64 y.count, .int .i64 y.frm, .int .i64 y.to, .slice D0 y.cap.length d0, .int .i64 y.skills, .int .i64 y.profile, .int .i64 y.opn, .int .i64 y.close, .int .i64 y.drive, .int .i64 y.rest, .int .i64 y.fixed, .int .i64 y.mile, .int .i64 y.tick]] w' fun e w'' => e = .returned (.bool q) ∧ Below w'.heap.size w' w'') := Lib.hid fun w' hw => by rw [← hq]; exact flt.same_any x y C0 c0 D0 d0 w' (Ints.go hp1 (by omega) hw) (Ints.go hp3 (by omega) hw)
        clear hq
        cases q
        · skip
          go_wp2_with (go_at_call 56; refine (HC.out _ (b2 _ _)).mono ?_; rintro e w1 ⟨rfl, hb1⟩)
          go_ret
          exact ⟨ret_bool (by rw [hr.out, HX.out, HP.out]; rfl), hbel.trans (((b2 _ _).mono hz).trans (hb1.mono (by simp; omega)))⟩
        · skip
          go_wp2_with (go_at_call 56; refine (HC.out _ (b2 _ _)).mono ?_; rintro e w1 ⟨rfl, hb1⟩)
          go_roundw
          case rel => exact ⟨k + 1, by omega, by go_num, Lib.hid (by rw [hr.out, HX.out, HP.out, Bool.true_and]), hbel.trans (((b2 _ _).mono hz).trans (hb1.mono (by simp; omega)))⟩
          case measure => simp [intOf]; omega
      · have hkn : k = n := by omega
        subst hkn
        clear hlt
        go_wp2
        go_ret
        exact ⟨ret_bool (by rw [hr.out, eqGo_end (by rw [HN.out]; exact Nat.le_refl _)]), hbel⟩
  · have hd2 : ((n : Int) == (m : Int)) = false := by simp; omega
    have hd3 : ((n : Int) != (m : Int)) = true := by simp; omega
    have HD : Hid (eqL flt.sameT a b = false) := Lib.hid (eqL_no (by omega))
    clear h hn hm
    go_enter Tryz.func55, Tryz.ntmps55
    go_wp2
    go_ret
    exact ⟨ret_bool (by rw [HD.out]), Below.refl _ _⟩
end Go.Proofs.YtceceomaheobhaaGreatDoor.ins

import Derived.Test.YthefooacfcagbaaGreatDoorBase
import Derived.Deep.QuietTactic
import Derived.BigQuiet
import Derived.Test.YthefooacfcagbaaGreatDoorC2
import Derived.Test.YthefooacfcagbaaGreatDoorFltX
import Derived.Test.YthefooacfcagbaaGreatDoorC1
import Derived.Deep.DeepCutAuto
import Derived.Outline
/- The same orders. -/
namespace Go.Proofs.YthefooacfcagbaaGreatDoor.ord
open Go.RowKit
open lib rd typ eqs note
set_option linter.unusedVariables false
set_option linter.unusedSimpArgs false
set_option maxHeartbeats 1000000 in
theorem rsame_any (A : Option Addr) (c : Nat) (a : List Int) (n : Nat) (hn : a.length = n) (A' : Option Addr) (c' : Nat) (b : List Int) (m : Nat) (hm : b.length = m) (w : World) (B B' : Nat) (hB : B ≤ w.heap.size) (hB' : B' ≤ w.heap.size) (ha : Ints w B A a) (hb : Ints w B' A' b) :
  Calls Tryz.prog 69 #[.slice A n c, .slice A' m c'] w fun e w' => e = .returned (.bool (sameB a b)) ∧ Below w.heap.size w w' := by
 have hlen := ha.len
 rw [hn] at hlen
 by_cases h : n = m
 ·subst h
  have HN := Lib.hid hn
  have HM := Lib.hid hm
  clear hn hm
  go_enter Tryz.func69, Tryz.ntmps69
  go_wp2
  go_loopw [5] (fun i wr => ∃ k : Nat, k ≤ n ∧ i = .int .i64 k ∧ Hid (sameB a b = decide (a.drop k = b.drop k)) ∧ Below w.heap.size w wr) (fun i _ => n - (intOf i).toNat)
  case atStart => exact ⟨0, by omega, rfl, Lib.hid rfl, Below.refl _ _⟩
  case round =>
   obtain ⟨k, hk, rfl, hr, hbel⟩ := hrel
   by_cases hlt : k < n
   ·obtain ⟨ad, x, rfl, hadb, hx, hcx⟩ := (ha.below (hbel.mono hB)).at_ (k := k) (by rw [HN.out]; exact hlt)
    obtain ⟨ad', y, rfl, hadb', hy, hcy⟩ := (hb.below (hbel.mono hB')).at_ (k := k) (by rw [HM.out]; exact hlt)
    have HX := Lib.hid (same_step hx hy)
    have hk0 : (0 : Int) ≤ (k : Int) := by omega
    have hkn : (k : Int) < (n : Int) := by omega
    clear hx hy
    by_cases hxy : x = y
    ·subst hxy
     go_wp2
     go_quiet (fail)
     go_wp2
     go_roundw
     case rel => exact ⟨k + 1, by omega, by go_num, Lib.hid (by rw [hr.out, HX.out]; simp), bel_drewN hbel _⟩
     case measure => simp [intOf]; omega
    ·have h1 : (x == y) = false := by simp [hxy]
     have h2 : (x != y) = true := by simp [hxy]
     have HF := Lib.hid (decide_eq_false hxy)
     clear hxy
     go_wp2
     go_quiet (fail)
     go_wp2
     go_ret
     exact ⟨ret_bool (by rw [hr.out, HX.out, HF.out]; rfl), bel_drewN hbel _⟩
   ·have hkn : k = n := by omega
    subst hkn
    clear hlt
    go_wp2
    go_ret
    exact ⟨ret_bool (by rw [hr.out, List.drop_of_length_le (by rw [HN.out]; exact Nat.le_refl _), List.drop_of_length_le (by rw [HM.out]; exact Nat.le_refl _)]; simp), hbel⟩
 ·have hd2 : ((n : Int) == (m : Int)) = false := by simp; omega
  have hd3 : ((n : Int) != (m : Int)) = true := by simp; omega
  have HD : Hid (sameB a b = false) := Lib.hid (by unfold sameB; rw [decide_eq_false]; intro e; rw [e] at hn; omega)
  clear h hn hm
  go_enter Tryz.func69, Tryz.ntmps69
  go_wp2
  go_ret
  exact ⟨ret_bool (by rw [HD.out]), Below.refl _ _⟩
def numsO (a b : Ord) : Bool := decide (a.skills = b.skills ∧ a.penalty = b.penalty ∧ a.split = b.split ∧ a.last = b.last ∧ a.now = b.now)
def stpEq (a b : Stp) : Bool := a.place == b.place && (a.opn == b.opn && (a.close == b.close && a.service == b.service))
def sameO (a b : Ord) : Bool := sameS a.name b.name && sameB a.load b.load && stpEq a.pick b.pick && stpEq a.drop b.drop && numsO a b && (a.off == b.off)
set_option maxRecDepth 100000 in
set_option maxHeartbeats 4000000 in
theorem orsame_any (a b : Ord) (C : Option Addr) (c : Nat) (C' : Option Addr) (c' : Nat) (w : World) (hC : Ints w w.heap.size C a.load) (hC' : Ints w w.heap.size C' b.load) :
  Calls Tryz.prog 33 #[.agg #[.string a.name, .slice C a.load.length c, .int .i64 a.pick.place, .int .i64 a.pick.opn, .int .i64 a.pick.close, .int .i64 a.pick.service, .int .i64 a.drop.place, .int .i64 a.drop.opn, .int .i64 a.drop.close, .int .i64 a.drop.service, .int .i64 a.skills, .int .i64 a.penalty, .int .i64 a.split, .int .i64 a.last, .int .i64 a.now, .bool a.off], .agg #[.string b.name, .slice C' b.load.length c', .int .i64 b.pick.place, .int .i64 b.pick.opn, .int .i64 b.pick.close, .int .i64 b.pick.service, .int .i64 b.drop.place, .int .i64 b.drop.opn, .int .i64 b.drop.close, .int .i64 b.drop.service, .int .i64 b.skills, .int .i64 b.penalty, .int .i64 b.split, .int .i64 b.last, .int .i64 b.now, .bool b.off]] w fun e w' => e = .returned (.bool (sameO a b)) ∧ Below w.heap.size w w' := by
 obtain ⟨q, hq⟩ : ∃ q, numsO a b = q := ⟨_, rfl⟩
 have heq := True.intro
 have HR : Hid (sameO a b = ((a.name.toList == b.name.toList) && sameB a.load b.load && (a.pick.place == b.pick.place && (a.pick.opn == b.pick.opn && (a.pick.close == b.pick.close && a.pick.service == b.pick.service))) && (a.drop.place == b.drop.place && (a.drop.opn == b.drop.opn && (a.drop.close == b.drop.close && a.drop.service == b.drop.service))) && q && (a.off == b.off))) := Lib.hid (by rw [← hq]; rfl)
 obtain ⟨R, hR⟩ : ∃ R, sameO a b = R := ⟨_, rfl⟩
 rw [hR] at HR ⊢
 have HQ := Lib.hid hq
 clear hR hq
 cases hs : a.name.toList == b.name.toList
 ·have HT : Hid (R = false) := Lib.hid (by rw [HR.out, hs]; rfl)
  go_enter Tryz.func33, Tryz.ntmps33
  go_wp2
  go_ret
  exact ⟨ret_bool HT.out.symm, by repeat (first | assumption | exact Below.refl _ _ | refine Below.drew ?_ | refine Below.alloc ?_ (by first | omega | (simp <;> omega)) _ | refine Below.setCell ?_ (by first | omega | (simp <;> omega)) _)⟩
 ·go_enter Tryz.func33, Tryz.ntmps33
  go_wp2_with fail
  refine (rsame_any C c a.load _ rfl C' c' b.load _ rfl _ w.heap.size w.heap.size (by simp; omega) (by simp; omega) ((hC.alloc (Nat.le_refl _) _).alloc (by simp) _) ((hC'.alloc (Nat.le_refl _) _).alloc (by simp) _)).mono ?_
  rintro e w1 ⟨rfl, hb1⟩
  have hz := hb1.size
  simp at hz
  have hc := fun b o h => hb1.cell (p := ⟨b, o, none⟩) h
  have hf := fun b o h => hb1.frozen (p := ⟨b, o, none⟩) h
  have l1 : w.heap.size < w1.heap.size := by omega
  have l2 : w.heap.size + 1 < w1.heap.size := by omega
  have l3 : w.heap.size + 1 + 1 < w1.heap.size ∨ True := .inr trivial
  have hB : Below w.heap.size w w1 := Below.trans (by repeat (first | assumption | exact Below.refl _ _ | refine Below.drew ?_ | refine Below.alloc ?_ (by first | omega | (simp <;> omega)) _ | refine Below.setCell ?_ (by first | omega | (simp <;> omega)) _)) (hb1.mono (by simp <;> omega))
  clear hb1 l3
  cases hq1 : sameB a.load b.load
  ·have HT : Hid (R = false) := Lib.hid (by rw [HR.out, hs, hq1]; rfl)
   go_wp2
   go_ret
   exact ⟨ret_bool HT.out.symm, hB⟩
  ·go_wp2
   all_goals go_ret
   all_goals refine ⟨ret_bool ?_, hB⟩
   all_goals rw [HR.out, hs, hq1]
   all_goals (clear hc hf hB hC hC' heq; rw [← HQ.out]; simp [numsO, *])
end Go.Proofs.YthefooacfcagbaaGreatDoor.ord

/- Equal lists of texts, pairs, points; the same arcs. -/
namespace Go.Proofs.YthefooacfcagbaaGreatDoor.ins
open Go.RowKit
open lib rd typ eqg note
set_option linter.unusedVariables false
set_option linter.unusedSimpArgs false
def ptEq (x y : Pt) : Bool := x.t == y.t && x.a == y.a
theorem ptEq_self (x : Pt) : ptEq x x = true := by unfold ptEq; simp
theorem ptcase (x y : Pt) : (Hid (ptEq x y = false) ∧ (x.t == y.t) = false ∧ (x.t != y.t) = true) ∨ (Hid (ptEq x y = false) ∧ x.t = y.t ∧ (x.a == y.a) = false) ∨ (Hid (ptEq x y = true) ∧ x.t = y.t ∧ x.a = y.a) := by
 by_cases h1 : x.t = y.t
 ·by_cases h2 : x.a = y.a
  ·exact .inr (.inr ⟨Lib.hid (by simp [ptEq, h1, h2]), h1, h2⟩)
  ·exact .inr (.inl ⟨Lib.hid (by simp [ptEq, h2]), h1, by simp [h2]⟩)
 ·exact .inl ⟨Lib.hid (by simp [ptEq, h1]), by simp [h1], by simp [h1]⟩
theorem two_run (x y : Int × Int) (w : World) : (Op.equalIn 10000 67 (.agg #[.int .i64 x.1, .int .i64 x.2]) (.agg #[.int .i64 y.1, .int .i64 y.2])).run Tryz.prog w = .ok (twoEq x y) w := by
 obtain ⟨i0, hi, _⟩ := info_parts int_info
 have h := arr.run_eq_ints (t := 67) w 9998 Tryz.underlying67 hi [x.1, x.2] [y.1, y.2] rfl rfl
 have e : decide ([x.1, x.2] = [y.1, y.2]) = twoEq x y := by
  unfold twoEq
  rw [Bool.eq_iff_iff]
  simp
 rw [e] at h
 exact h
set_option maxHeartbeats 1000000 in
theorem rpairs_any (A : Option Addr) (c : Nat) (a : List _) (n : Nat) (hn : a.length = n) (A' : Option Addr) (c' : Nat) (b : List _) (m : Nat) (hm : b.length = m) (w : World) (B B' : Nat) (hB : B ≤ w.heap.size) (hB' : B' ≤ w.heap.size) (ha : RowAt (rPair rInt rInt) w B A a) (hb : RowAt (rPair rInt rInt) w B' A' b) :
  Calls Tryz.prog 34 #[.slice A n c, .slice A' m c'] w fun e w' => e = .returned (.bool (eqL twoEq a b)) ∧ Below w.heap.size w w' := by
 have hlen := ha.len
 rw [hn] at hlen
 by_cases h : n = m
 ·subst h
  have HN := Lib.hid hn
  have HM := Lib.hid hm
  have HG := Lib.hid (eqL_go (p := twoEq) (hn.trans hm.symm))
  clear hn hm
  go_enter Tryz.func34, Tryz.ntmps34
  go_wp2
  go_loopw [5] (fun i wr => ∃ k : Nat, k ≤ n ∧ i = .int .i64 k ∧ Hid (eqL twoEq a b = eqGo twoEq (a.drop k) (b.drop k)) ∧ Below w.heap.size w wr) (fun i _ => n - (intOf i).toNat)
  case atStart => exact ⟨0, by omega, rfl, HG, Below.refl _ _⟩
  case round =>
   obtain ⟨k, hk, rfl, hr, hbel⟩ := hrel
   by_cases hlt : k < n
   ·obtain ⟨x, hx⟩ : ∃ x, a[k]? = some x := ⟨_, List.getElem?_eq_getElem (by rw [HN.out]; exact hlt)⟩
    obtain ⟨y, hy⟩ : ∃ y, b[k]? = some y := ⟨_, List.getElem?_eq_getElem (by rw [HM.out]; exact hlt)⟩
    obtain ⟨ad, rfl, hadb, ⟨m0, m1⟩, _⟩ := row_Two (ha.below (hbel.mono hB)) hx
    obtain ⟨ad', rfl, hadb', ⟨k0, k1⟩, _⟩ := row_Two (hb.below (hbel.mono hB')) hy
    have HX := Lib.hid (eqGo_step (p := twoEq) hx hy)
    have hk0 : (0 : Int) ≤ (k : Int) := by omega
    have hkn : (k : Int) < (n : Int) := by omega
    clear hx hy
    have heq := two_run x y
    obtain ⟨q, hq⟩ : ∃ q, twoEq x y = q := ⟨_, rfl⟩
    have HP := Lib.hid hq
    rw [hq] at heq
    clear hq
    cases q
    all_goals go_wp2
    all_goals go_quiet (fail)
    all_goals go_wp2
    all_goals first
     | (go_ret; exact ⟨ret_bool (by rw [hr.out, HX.out, HP.out]; rfl), bel_drewN hbel _⟩)
     | skip
    go_roundw
    case rel => exact ⟨k + 1, by omega, by go_num, Lib.hid (by rw [hr.out, HX.out, HP.out, Bool.true_and]), bel_drewN hbel _⟩
    case measure => simp [intOf]; omega
   ·have hkn : k = n := by omega
    subst hkn
    clear hlt
    go_wp2
    go_ret
    exact ⟨ret_bool (by rw [hr.out, eqGo_end (by rw [HN.out]; exact Nat.le_refl _)]), hbel⟩
 ·have hd2 : ((n : Int) == (m : Int)) = false := by simp; omega
  have hd3 : ((n : Int) != (m : Int)) = true := by simp; omega
  have HD : Hid (eqL twoEq a b = false) := Lib.hid (eqL_no (by omega))
  clear h hn hm
  go_enter Tryz.func34, Tryz.ntmps34
  go_wp2
  go_ret
  exact ⟨ret_bool (by rw [HD.out]), Below.refl _ _⟩
set_option maxHeartbeats 1000000 in
theorem rpoints_any (A : Option Addr) (c : Nat) (a : List _) (n : Nat) (hn : a.length = n) (A' : Option Addr) (c' : Nat) (b : List _) (m : Nat) (hm : b.length = m) (w : World) (B B' : Nat) (hB : B ≤ w.heap.size) (hB' : B' ≤ w.heap.size) (ha : RowAt rPt w B A a) (hb : RowAt rPt w B' A' b) :
  Calls Tryz.prog 68 #[.slice A n c, .slice A' m c'] w fun e w' => e = .returned (.bool (eqL ptEq a b)) ∧ Below w.heap.size w w' := by
 have hlen := ha.len
 rw [hn] at hlen
 by_cases h : n = m
 ·subst h
  have HN := Lib.hid hn
  have HM := Lib.hid hm
  have HG := Lib.hid (eqL_go (p := ptEq) (hn.trans hm.symm))
  clear hn hm
  go_enter Tryz.func68, Tryz.ntmps68
  go_wp2
  go_loopw [5] (fun i wr => ∃ k : Nat, k ≤ n ∧ i = .int .i64 k ∧ Hid (eqL ptEq a b = eqGo ptEq (a.drop k) (b.drop k)) ∧ Below w.heap.size w wr) (fun i _ => n - (intOf i).toNat)
  case atStart => exact ⟨0, by omega, rfl, HG, Below.refl _ _⟩
  case round =>
   obtain ⟨k, hk, rfl, hr, hbel⟩ := hrel
   by_cases hlt : k < n
   ·obtain ⟨x, hx⟩ : ∃ x, a[k]? = some x := ⟨_, List.getElem?_eq_getElem (by rw [HN.out]; exact hlt)⟩
    obtain ⟨y, hy⟩ : ∃ y, b[k]? = some y := ⟨_, List.getElem?_eq_getElem (by rw [HM.out]; exact hlt)⟩
    obtain ⟨ad, rfl, hadb, ⟨m0, m1⟩, _⟩ := row_Pt (ha.below (hbel.mono hB)) hx
    obtain ⟨ad', rfl, hadb', ⟨k0, k1⟩, _⟩ := row_Pt (hb.below (hbel.mono hB')) hy
    have HX := Lib.hid (eqGo_step (p := ptEq) hx hy)
    have hk0 : (0 : Int) ≤ (k : Int) := by omega
    have hkn : (k : Int) < (n : Int) := by omega
    clear hx hy
    rcases ptcase x y with ⟨HP, e1, e2⟩ | ⟨HP, e1, e2⟩ | ⟨HP, e1, e2⟩
    all_goals go_wp2
    all_goals go_quiet (fail)
    all_goals go_wp2
    all_goals first
     | (go_ret; exact ⟨ret_bool (by rw [hr.out, HX.out, HP.out]; rfl), bel_drewN hbel _⟩)
     | skip
    go_roundw
    case rel => exact ⟨k + 1, by omega, by go_num, Lib.hid (by rw [hr.out, HX.out, HP.out, Bool.true_and]), bel_drewN hbel _⟩
    case measure => simp [intOf]; omega
   ·have hkn : k = n := by omega
    subst hkn
    clear hlt
    go_wp2
    go_ret
    exact ⟨ret_bool (by rw [hr.out, eqGo_end (by rw [HN.out]; exact Nat.le_refl _)]), hbel⟩
 ·have hd2 : ((n : Int) == (m : Int)) = false := by simp; omega
  have hd3 : ((n : Int) != (m : Int)) = true := by simp; omega
  have HD : Hid (eqL ptEq a b = false) := Lib.hid (eqL_no (by omega))
  clear h hn hm
  go_enter Tryz.func68, Tryz.ntmps68
  go_wp2
  go_ret
  exact ⟨ret_bool (by rw [HD.out]), Below.refl _ _⟩
end Go.Proofs.YthefooacfcagbaaGreatDoor.ins

/- The same arcs; lists of arcs, types, orders that are the same. -/
namespace Go.Proofs.YthefooacfcagbaaGreatDoor.ins
open Go.RowKit
open lib rd typ eqg
set_option linter.unusedVariables false
set_option linter.unusedSimpArgs false
def sameA (a b : Arc) : Bool := (a.frm == b.frm) && ((a.to == b.to) && ((a.profile == b.profile) && ((a.miles == b.miles) && (eqL ptEq a.travel b.travel && eqL ptEq a.slow b.slow))))
theorem sameA_self (a : Arc) : sameA a a = true := by unfold sameA; rw [eqL_self ptEq_self, eqL_self ptEq_self]; simp
theorem Ints.go {w w' : World} {B : Nat} {A : Option Addr} {l : List Int} (h : Ints w B A l) (hB : B ≤ w.heap.size) (hb : Below w.heap.size w w') : Ints w' w'.heap.size A l := ((h.more hB).below hb).more hb.size
end Go.Proofs.YthefooacfcagbaaGreatDoor.ins

/- Lists of orders that are the same. -/
namespace Go.Proofs.YthefooacfcagbaaGreatDoor.ins
open Go.RowKit
open lib rd typ eqg ord
set_option linter.unusedVariables false
set_option linter.unusedSimpArgs false
end Go.Proofs.YthefooacfcagbaaGreatDoor.ins

/- The same instances: the program. -/
namespace Go.Proofs.YthefooacfcagbaaGreatDoor.ins
open Go.RowKit
open lib rd typ eqg note
set_option linter.unusedVariables false
set_option linter.unusedSimpArgs false
def sameI (a b : Ins) : Bool := eqL sameS a.net.places b.net.places && (eqL sameA a.net.arcs b.net.arcs && (eqL flt.sameT a.types b.types && (eqL ord.sameO a.orders b.orders && (eqL twoEq a.apart b.apart && (eqL twoEq a.before b.before)))))
end Go.Proofs.YthefooacfcagbaaGreatDoor.ins

/- Equal lists of texts, pairs, points; the same arcs. -/
import Derived.Test.YthefooacfcagbaaGreatDoorC2
import Derived.Test.YthefooacfcagbaaGreatDoorBase
import Derived.Deep.QuietTactic
import Derived.BigQuiet
namespace Go.Proofs.YthefooacfcagbaaGreatDoor.ins
open Go.RowKit
open lib rd typ eqg note
set_option linter.unusedVariables false
set_option linter.unusedSimpArgs false
def ptEq (x y : Pt) : Bool := x.t == y.t && x.a == y.a
theorem ptEq_self (x : Pt) : ptEq x x = true := by unfold ptEq; simp
theorem ptcase (x y : Pt) : (Hid (ptEq x y = false) ∧ (x.t == y.t) = false ∧ (x.t != y.t) = true) ∨ (Hid (ptEq x y = false) ∧ x.t = y.t ∧ (x.a == y.a) = false) ∨ (Hid (ptEq x y = true) ∧ x.t = y.t ∧ x.a = y.a) := by
 by_cases h1 : x.t = y.t
 ·by_cases h2 : x.a = y.a
  ·exact .inr (.inr ⟨Lib.hid (by simp [ptEq, h1, h2]), h1, h2⟩)
  ·exact .inr (.inl ⟨Lib.hid (by simp [ptEq, h2]), h1, by simp [h2]⟩)
 ·exact .inl ⟨Lib.hid (by simp [ptEq, h1]), by simp [h1], by simp [h1]⟩
theorem two_run (x y : Int × Int) (w : World) : (Op.equalIn 10000 67 (.agg #[.int .i64 x.1, .int .i64 x.2]) (.agg #[.int .i64 y.1, .int .i64 y.2])).run Tryz.prog w = .ok (twoEq x y) w := by
 obtain ⟨i0, hi, _⟩ := info_parts int_info
 have h := arr.run_eq_ints (t := 67) w 9998 Tryz.underlying67 hi [x.1, x.2] [y.1, y.2] rfl rfl
 have e : decide ([x.1, x.2] = [y.1, y.2]) = twoEq x y := by
  unfold twoEq
  rw [Bool.eq_iff_iff]
  simp
 rw [e] at h
 exact h
set_option maxHeartbeats 1000000 in
theorem rpairs_any (A : Option Addr) (c : Nat) (a : List _) (n : Nat) (hn : a.length = n) (A' : Option Addr) (c' : Nat) (b : List _) (m : Nat) (hm : b.length = m) (w : World) (B B' : Nat) (hB : B ≤ w.heap.size) (hB' : B' ≤ w.heap.size) (ha : RowAt (rPair rInt rInt) w B A a) (hb : RowAt (rPair rInt rInt) w B' A' b) :
  Calls Tryz.prog 34 #[.slice A n c, .slice A' m c'] w fun e w' => e = .returned (.bool (eqL twoEq a b)) ∧ Below w.heap.size w w' := by
 have hlen := ha.len
 rw [hn] at hlen
 by_cases h : n = m
 ·subst h
  have HN := Lib.hid hn
  have HM := Lib.hid hm
  have HG := Lib.hid (eqL_go (p := twoEq) (hn.trans hm.symm))
  clear hn hm
  go_enter Tryz.func34, Tryz.ntmps34
  go_wp2
  go_loopw [5] (fun i wr => ∃ k : Nat, k ≤ n ∧ i = .int .i64 k ∧ Hid (eqL twoEq a b = eqGo twoEq (a.drop k) (b.drop k)) ∧ Below w.heap.size w wr) (fun i _ => n - (intOf i).toNat)
  case atStart => exact ⟨0, by omega, rfl, HG, Below.refl _ _⟩
  case round =>
   obtain ⟨k, hk, rfl, hr, hbel⟩ := hrel
   by_cases hlt : k < n
   ·obtain ⟨x, hx⟩ : ∃ x, a[k]? = some x := ⟨_, List.getElem?_eq_getElem (by rw [HN.out]; exact hlt)⟩
    obtain ⟨y, hy⟩ : ∃ y, b[k]? = some y := ⟨_, List.getElem?_eq_getElem (by rw [HM.out]; exact hlt)⟩
    obtain ⟨ad, rfl, hadb, ⟨m0, m1⟩, _⟩ := row_Two (ha.below (hbel.mono hB)) hx
    obtain ⟨ad', rfl, hadb', ⟨k0, k1⟩, _⟩ := row_Two (hb.below (hbel.mono hB')) hy
    have HX := Lib.hid (eqGo_step (p := twoEq) hx hy)
    have hk0 : (0 : Int) ≤ (k : Int) := by omega
    have hkn : (k : Int) < (n : Int) := by omega
    clear hx hy
    have heq := two_run x y
    obtain ⟨q, hq⟩ : ∃ q, twoEq x y = q := ⟨_, rfl⟩
    have HP := Lib.hid hq
    rw [hq] at heq
    clear hq
    cases q
    all_goals go_wp2
    all_goals go_quiet (fail)
    all_goals go_wp2
    all_goals first
     | (go_ret; exact ⟨ret_bool (by rw [hr.out, HX.out, HP.out]; rfl), bel_drewN hbel _⟩)
     | skip
    go_roundw
    case rel => exact ⟨k + 1, by omega, by go_num, Lib.hid (by rw [hr.out, HX.out, HP.out, Bool.true_and]), bel_drewN hbel _⟩
    case measure => simp [intOf]; omega
   ·have hkn : k = n := by omega
    subst hkn
    clear hlt
    go_wp2
    go_ret
    exact ⟨ret_bool (by rw [hr.out, eqGo_end (by rw [HN.out]; exact Nat.le_refl _)]), hbel⟩
 ·have hd2 : ((n : Int) == (m : Int)) = false := by simp; omega
  have hd3 : ((n : Int) != (m : Int)) = true := by simp; omega
  have HD : Hid (eqL twoEq a b = false) := Lib.hid (eqL_no (by omega))
  clear h hn hm
  go_enter Tryz.func34, Tryz.ntmps34
  go_wp2
  go_ret
  exact ⟨ret_bool (by rw [HD.out]), Below.refl _ _⟩
set_option maxHeartbeats 1000000 in
theorem rpoints_any (A : Option Addr) (c : Nat) (a : List _) (n : Nat) (hn : a.length = n) (A' : Option Addr) (c' : Nat) (b : List _) (m : Nat) (hm : b.length = m) (w : World) (B B' : Nat) (hB : B ≤ w.heap.size) (hB' : B' ≤ w.heap.size) (ha : RowAt rPt w B A a) (hb : RowAt rPt w B' A' b) :
  Calls Tryz.prog 68 #[.slice A n c, .slice A' m c'] w fun e w' => e = .returned (.bool (eqL ptEq a b)) ∧ Below w.heap.size w w' := by
 have hlen := ha.len
 rw [hn] at hlen
 by_cases h : n = m
 ·subst h
  have HN := Lib.hid hn
  have HM := Lib.hid hm
  have HG := Lib.hid (eqL_go (p := ptEq) (hn.trans hm.symm))
  clear hn hm
  go_enter Tryz.func68, Tryz.ntmps68
  go_wp2
  go_loopw [5] (fun i wr => ∃ k : Nat, k ≤ n ∧ i = .int .i64 k ∧ Hid (eqL ptEq a b = eqGo ptEq (a.drop k) (b.drop k)) ∧ Below w.heap.size w wr) (fun i _ => n - (intOf i).toNat)
  case atStart => exact ⟨0, by omega, rfl, HG, Below.refl _ _⟩
  case round =>
   obtain ⟨k, hk, rfl, hr, hbel⟩ := hrel
   by_cases hlt : k < n
   ·obtain ⟨x, hx⟩ : ∃ x, a[k]? = some x := ⟨_, List.getElem?_eq_getElem (by rw [HN.out]; exact hlt)⟩
    obtain ⟨y, hy⟩ : ∃ y, b[k]? = some y := ⟨_, List.getElem?_eq_getElem (by rw [HM.out]; exact hlt)⟩
    obtain ⟨ad, rfl, hadb, ⟨m0, m1⟩, _⟩ := row_Pt (ha.below (hbel.mono hB)) hx
    obtain ⟨ad', rfl, hadb', ⟨k0, k1⟩, _⟩ := row_Pt (hb.below (hbel.mono hB')) hy
    have HX := Lib.hid (eqGo_step (p := ptEq) hx hy)
    have hk0 : (0 : Int) ≤ (k : Int) := by omega
    have hkn : (k : Int) < (n : Int) := by omega
    clear hx hy
    rcases ptcase x y with ⟨HP, e1, e2⟩ | ⟨HP, e1, e2⟩ | ⟨HP, e1, e2⟩
    all_goals go_wp2
    all_goals go_quiet (fail)
    all_goals go_wp2
    all_goals first
     | (go_ret; exact ⟨ret_bool (by rw [hr.out, HX.out, HP.out]; rfl), bel_drewN hbel _⟩)
     | skip
    go_roundw
    case rel => exact ⟨k + 1, by omega, by go_num, Lib.hid (by rw [hr.out, HX.out, HP.out, Bool.true_and]), bel_drewN hbel _⟩
    case measure => simp [intOf]; omega
   ·have hkn : k = n := by omega
    subst hkn
    clear hlt
    go_wp2
    go_ret
    exact ⟨ret_bool (by rw [hr.out, eqGo_end (by rw [HN.out]; exact Nat.le_refl _)]), hbel⟩
 ·have hd2 : ((n : Int) == (m : Int)) = false := by simp; omega
  have hd3 : ((n : Int) != (m : Int)) = true := by simp; omega
  have HD : Hid (eqL ptEq a b = false) := Lib.hid (eqL_no (by omega))
  clear h hn hm
  go_enter Tryz.func68, Tryz.ntmps68
  go_wp2
  go_ret
  exact ⟨ret_bool (by rw [HD.out]), Below.refl _ _⟩
end Go.Proofs.YthefooacfcagbaaGreatDoor.ins

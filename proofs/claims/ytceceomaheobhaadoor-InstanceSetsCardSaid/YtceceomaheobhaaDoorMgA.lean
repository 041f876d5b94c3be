import Derived.Test.YtceceomaheobhaaDoorFltB
import Derived.Deep.QuietTactic
import Derived.BigQuiet
import Derived.Test.YtceceomaheobhaaDoorArr
import Derived.Test.YtceceomaheobhaaDoorInsA
import Derived.Test.YtceceomaheobhaaDoorEqG
import Derived.Test.YtceceomaheobhaaDoorNote
import Derived.Test.YtceceomaheobhaaDoorOrdI
import Derived.Test.YtceceomaheobhaaDoorOrdG
import Derived.Deep.DeepCutAuto
import Derived.Outline
/- Totals; equal lists of numbers; the same types. -/
namespace Go.Proofs.YtceceomaheobhaaDoor.flt
open Go.RowKit
open Go.Proofs.YtceceomaheobhaaDoor.lib Go.Proofs.YtceceomaheobhaaDoor.rd Go.Proofs.YtceceomaheobhaaDoor.typ
set_option linter.unusedVariables false

/-- The number of vehicles of the first k types. -/
def totTo (l : List Ty) (k : Nat) : Int := ((l.take k).map fun t => if inB t.count 0 10 then t.count else 0).sum
theorem totTo_succ {l : List Ty} {k : Nat} {t : Ty} (h : l[k]? = some t) : totTo l (k + 1) = totTo l k + (if inB t.count 0 10 then t.count else 0) := by
  obtain ⟨h1, h2⟩ := List.getElem?_eq_some_iff.1 h
  unfold totTo
  rw [List.take_succ_eq_append_getElem h1, h2, List.map_append, List.sum_append]
  simp
theorem inB_bd {n a b : Int} (h : inB n a b = true) : a ≤ n ∧ n ≤ b := by unfold inB at h; simpa using h

def sameB (a b : List Int) : Bool := decide (a = b)
theorem same_step {a b : List Int} {k : Nat} {x y : Int} (hx : a[k]? = some x) (hy : b[k]? = some y) : decide (a.drop k = b.drop k) = (decide (x = y) && decide (a.drop (k + 1) = b.drop (k + 1))) := by
  rw [drop_at hx, drop_at hy, Bool.eq_iff_iff]
  simp
set_option maxHeartbeats 1000000 in
theorem equal_any (A : Option Addr) (c : Nat) (a : List Int) (n : Nat) (hn : a.length = n) (A' : Option Addr) (c' : Nat) (b : List Int) (m : Nat) (hm : b.length = m) (w : World) (B B' : Nat) (hB : B ≤ w.heap.size) (hB' : B' ≤ w.heap.size) (ha : Ints w B A a) (hb : Ints w B' A' b) :
    Calls Tryd.prog 41 #[.slice A n c, .slice A' m c'] w fun e w' => e = .returned (.bool (sameB a b)) ∧ Below w.heap.size w w' := by
  have hlen := ha.len
  rw [hn] at hlen
  by_cases h : n = m
  · subst h
    have HN := Lib.hid hn
    have HM := Lib.hid hm
    clear hn hm
    go_enter Tryd.func41, Tryd.ntmps41
    go_wp2
    go_loopw [5, 13] (fun _ i wr => ∃ k : Nat, k ≤ n ∧ i = .int .i64 k ∧ Hid (sameB a b = decide (a.drop k = b.drop k)) ∧ Below w.heap.size w wr) (fun _ i _ => n - (intOf i).toNat)
    case atStart => exact ⟨0, by omega, rfl, Lib.hid rfl, Below.refl _ _⟩
    case round =>
      obtain ⟨k, hk, rfl, hr, hbel⟩ := hrel
      by_cases hlt : k < n
      · obtain ⟨ad, x, rfl, hadb, hx, hcx⟩ := (ha.below (hbel.mono hB)).at_ (k := k) (by rw [HN.out]; exact hlt)
        obtain ⟨ad', y, rfl, hadb', hy, hcy⟩ := (hb.below (hbel.mono hB')).at_ (k := k) (by rw [HM.out]; exact hlt)
        have HX := Lib.hid (same_step hx hy)
        have hk0 : (0 : Int) ≤ (k : Int) := by omega
        have hkn : (k : Int) < (n : Int) := by omega
        clear hx hy
        by_cases hxy : x = y
        · subst hxy
          go_wp2
          go_quiet (fail)
          go_wp2
          go_roundw
          case rel => exact ⟨k + 1, by omega, by go_num, Lib.hid (by rw [hr.out, HX.out]; simp), bel_drewN hbel _⟩
          case measure => simp [intOf]; omega
        · have h1 : (x == y) = false := by simp [hxy]
          have h2 : (x != y) = true := by simp [hxy]
          have HF := Lib.hid (decide_eq_false hxy)
          clear hxy
          go_wp2
          go_quiet (fail)
          go_wp2
          go_ret
          exact ⟨ret_bool (by rw [hr.out, HX.out, HF.out]; rfl), bel_drewN hbel _⟩
      · have hkn : k = n := by omega
        subst hkn
        clear hlt
        go_wp2
        go_ret
        exact ⟨ret_bool (by rw [hr.out, List.drop_of_length_le (by rw [HN.out]; exact Nat.le_refl _), List.drop_of_length_le (by rw [HM.out]; exact Nat.le_refl _)]; simp), hbel⟩
  · have hd2 : ((n : Int) == (m : Int)) = false := by simp; omega
    have hd3 : ((n : Int) != (m : Int)) = true := by simp; omega
    have HD : Hid (sameB a b = false) := Lib.hid (by unfold sameB; rw [decide_eq_false]; intro e; rw [e] at hn; omega)
    clear h hn hm
    go_enter Tryd.func41, Tryd.ntmps41
    go_wp2
    go_ret
    exact ⟨ret_bool (by rw [HD.out]), Below.refl _ _⟩
end Go.Proofs.YtceceomaheobhaaDoor.flt

/- The same types. -/
namespace Go.Proofs.YtceceomaheobhaaDoor.flt
open Go.RowKit
open Go.Proofs.YtceceomaheobhaaDoor.lib Go.Proofs.YtceceomaheobhaaDoor.rd Go.Proofs.YtceceomaheobhaaDoor.typ
set_option linter.unusedVariables false

/-- The numbers of two types are the same. -/
def numsB (a b : Ty) : Bool := decide (a.count = b.count ∧ a.frm = b.frm ∧ a.to = b.to ∧ a.skills = b.skills ∧ a.profile = b.profile ∧ a.opn = b.opn ∧ a.close = b.close ∧ a.drive = b.drive ∧ a.rest = b.rest ∧ a.fixed = b.fixed ∧ a.mile = b.mile ∧ a.tick = b.tick)
def sameT (a b : Ty) : Bool := sameB a.cap b.cap && (sameS a.name b.name && numsB a b)

theorem nums_eq (a b : Ty) (w : World) : (Op.equalIn 10000 79 (.agg #[.int .i64 a.count, .int .i64 a.frm, .int .i64 a.to, .int .i64 a.skills, .int .i64 a.profile, .int .i64 a.opn, .int .i64 a.close, .int .i64 a.drive, .int .i64 a.rest, .int .i64 a.fixed, .int .i64 a.mile, .int .i64 a.tick, .int .i64 0]) (.agg #[.int .i64 b.count, .int .i64 b.frm, .int .i64 b.to, .int .i64 b.skills, .int .i64 b.profile, .int .i64 b.opn, .int .i64 b.close, .int .i64 b.drive, .int .i64 b.rest, .int .i64 b.fixed, .int .i64 b.mile, .int .i64 b.tick, .int .i64 0])).run Tryd.prog w = .ok (numsB a b) w := by
  obtain ⟨i0, hi, _⟩ := info_parts int_info
  have h := arr.run_eq_ints (t := 79) w 9998 Tryd.underlying79 hi [a.count, a.frm, a.to, a.skills, a.profile, a.opn, a.close, a.drive, a.rest, a.fixed, a.mile, a.tick, 0] [b.count, b.frm, b.to, b.skills, b.profile, b.opn, b.close, b.drive, b.rest, b.fixed, b.mile, b.tick, 0] rfl rfl
  have e : decide ([a.count, a.frm, a.to, a.skills, a.profile, a.opn, a.close, a.drive, a.rest, a.fixed, a.mile, a.tick, 0] = [b.count, b.frm, b.to, b.skills, b.profile, b.opn, b.close, b.drive, b.rest, b.fixed, b.mile, b.tick, 0]) = numsB a b := by
    unfold numsB
    rw [Bool.eq_iff_iff]
    simp
  rw [e] at h
  exact h
set_option maxRecDepth 100000 in
set_option maxHeartbeats 4000000 in
theorem same_any (a b : Ty) (C : Option Addr) (c : Nat) (C' : Option Addr) (c' : Nat) (w : World) (hC : Ints w w.heap.size C a.cap) (hC' : Ints w w.heap.size C' b.cap) :
    Calls Tryd.prog 24 #[.agg #[.string a.name, .int .i64 a.count, .int .i64 a.frm, .int .i64 a.to, .slice C a.cap.length c, .int .i64 a.skills, .int .i64 a.profile, .int .i64 a.opn, .int .i64 a.close, .int .i64 a.drive, .int .i64 a.rest, .int .i64 a.fixed, .int .i64 a.mile, .int .i64 a.tick], .agg #[.string b.name, .int .i64 b.count, .int .i64 b.frm, .int .i64 b.to, .slice C' b.cap.length c', .int .i64 b.skills, .int .i64 b.profile, .int .i64 b.opn, .int .i64 b.close, .int .i64 b.drive, .int .i64 b.rest, .int .i64 b.fixed, .int .i64 b.mile, .int .i64 b.tick]] w fun e w' => e = .returned (.bool (sameT a b)) ∧ Below w.heap.size w w' := by
  obtain ⟨q, hq⟩ : ∃ q, numsB a b = q := ⟨_, rfl⟩
  have heq := nums_eq a b
  rw [hq] at heq
  obtain ⟨R, hR⟩ : ∃ R, sameT a b = R := ⟨_, rfl⟩
  have HR : Hid (R = (sameB a.cap b.cap && ((a.name.toList == b.name.toList) && q))) := Lib.hid (by rw [← hR, ← hq]; rfl)
  rw [hR]
  clear hR hq
  go_enter Tryd.func24, Tryd.ntmps24
  go_wp2_with fail
  refine (equal_any C c a.cap _ rfl C' c' b.cap _ rfl _ w.heap.size w.heap.size (by simp; omega) (by simp; omega) ((hC.alloc (Nat.le_refl _) _).alloc (by simp) _) ((hC'.alloc (Nat.le_refl _) _).alloc (by simp) _)).mono ?_
  rintro e w1 ⟨rfl, hb1⟩
  have hz := hb1.size
  simp at hz
  have hc := fun b o h => hb1.cell (p := ⟨b, o, none⟩) h
  have hf := fun b o h => hb1.frozen (p := ⟨b, o, none⟩) h
  have l1 : w.heap.size < w1.heap.size := by omega
  have l2 : w.heap.size + 1 < w1.heap.size := by omega
  have hB : Below w.heap.size w w1 := (((Below.refl _ _).alloc (Nat.le_refl _) _).alloc (by simp) _).trans (hb1.mono (by simp; omega))
  have hB2 : ∀ o o', Below w.heap.size w ((w1.alloc o).alloc o') := fun o o' => (hB.alloc (by omega) _).alloc (by simp; omega) _
  cases hq : sameB a.cap b.cap
  · have HT : Hid (R = false) := Lib.hid (by rw [HR.out, hq]; rfl)
    clear hb1
    go_wp2
    go_ret
    exact ⟨ret_bool HT.out.symm, hB2 _ _⟩
  · cases hs : a.name.toList == b.name.toList
    · have HT : Hid (R = false) := Lib.hid (by rw [HR.out, hq, hs]; rfl)
      clear hb1
      go_wp2
      go_ret
      exact ⟨ret_bool HT.out.symm, hB2 _ _⟩
    · have HT : Hid (R = q) := Lib.hid (by rw [HR.out, hq, hs]; rfl)
      clear hb1
      go_wp2
      go_ret
      exact ⟨ret_bool HT.out.symm, hB2 _ _⟩
end Go.Proofs.YtceceomaheobhaaDoor.flt

/- Equal lists of texts, pairs, points; the same arcs. -/
namespace Go.Proofs.YtceceomaheobhaaDoor.ins
open Go.RowKit
open Go.Proofs.YtceceomaheobhaaDoor.lib Go.Proofs.YtceceomaheobhaaDoor.rd Go.Proofs.YtceceomaheobhaaDoor.typ Go.Proofs.YtceceomaheobhaaDoor.eqg Go.Proofs.YtceceomaheobhaaDoor.note
set_option linter.unusedVariables false
set_option linter.unusedSimpArgs false

def ptEq (x y : Pt) : Bool := x.t == y.t && x.a == y.a
theorem ptEq_comm (x y : Pt) : ptEq x y = ptEq y x := by unfold ptEq; rw [int_comm x.t, int_comm x.a]
theorem ptEq_self (x : Pt) : ptEq x x = true := by unfold ptEq; simp
theorem ptcase (x y : Pt) : (Hid (ptEq x y = false) ∧ (x.t == y.t) = false ∧ (x.t != y.t) = true) ∨ (Hid (ptEq x y = false) ∧ x.t = y.t ∧ (x.a == y.a) = false) ∨ (Hid (ptEq x y = true) ∧ x.t = y.t ∧ x.a = y.a) := by
  by_cases h1 : x.t = y.t
  · by_cases h2 : x.a = y.a
    · exact .inr (.inr ⟨Lib.hid (by simp [ptEq, h1, h2]), h1, h2⟩)
    · exact .inr (.inl ⟨Lib.hid (by simp [ptEq, h2]), h1, by simp [h2]⟩)
  · exact .inl ⟨Lib.hid (by simp [ptEq, h1]), by simp [h1], by simp [h1]⟩
theorem two_run (x y : Int × Int) (w : World) : (Op.equalIn 10000 65 (.agg #[.int .i64 x.1, .int .i64 x.2]) (.agg #[.int .i64 y.1, .int .i64 y.2])).run Tryd.prog w = .ok (twoEq x y) w := by
  obtain ⟨i0, hi, _⟩ := info_parts int_info
  have h := arr.run_eq_ints (t := 65) w 9998 Tryd.underlying65 hi [x.1, x.2] [y.1, y.2] rfl rfl
  have e : decide ([x.1, x.2] = [y.1, y.2]) = twoEq x y := by
    unfold twoEq
    rw [Bool.eq_iff_iff]
    simp
  rw [e] at h
  exact h

set_option maxHeartbeats 1000000 in
theorem eqStr_any (A : Option Addr) (c : Nat) (a : List _) (n : Nat) (hn : a.length = n) (A' : Option Addr) (c' : Nat) (b : List _) (m : Nat) (hm : b.length = m) (w : World) (B B' : Nat) (hB : B ≤ w.heap.size) (hB' : B' ≤ w.heap.size) (ha : RowAt rStr w B A a) (hb : RowAt rStr w B' A' b) :
    Calls Tryd.prog 20 #[.slice A n c, .slice A' m c'] w fun e w' => e = .returned (.bool (eqL sameS a b)) ∧ Below w.heap.size w w' := by
  have hlen := ha.len
  rw [hn] at hlen
  by_cases h : n = m
  · subst h
    have HN := Lib.hid hn
    have HM := Lib.hid hm
    have HG := Lib.hid (eqL_go (p := sameS) (hn.trans hm.symm))
    clear hn hm
    go_enter Tryd.func20, Tryd.ntmps20
    go_wp2
    go_loopw [5, 13] (fun _ i wr => ∃ k : Nat, k ≤ n ∧ i = .int .i64 k ∧ Hid (eqL sameS a b = eqGo sameS (a.drop k) (b.drop k)) ∧ Below w.heap.size w wr) (fun _ i _ => n - (intOf i).toNat)
    case atStart => exact ⟨0, by omega, rfl, HG, Below.refl _ _⟩
    case round =>
      obtain ⟨k, hk, rfl, hr, hbel⟩ := hrel
      by_cases hlt : k < n
      · obtain ⟨x, hx⟩ : ∃ x, a[k]? = some x := ⟨_, List.getElem?_eq_getElem (by rw [HN.out]; exact hlt)⟩
        obtain ⟨y, hy⟩ : ∃ y, b[k]? = some y := ⟨_, List.getElem?_eq_getElem (by rw [HM.out]; exact hlt)⟩
        obtain ⟨ad, rfl, hadb, hc1, _⟩ := row_Str (ha.below (hbel.mono hB)) hx
        obtain ⟨ad', rfl, hadb', hc2, _⟩ := row_Str (hb.below (hbel.mono hB')) hy
        have HX := Lib.hid (eqGo_step (p := sameS) hx hy)
        have hk0 : (0 : Int) ≤ (k : Int) := by omega
        have hkn : (k : Int) < (n : Int) := by omega
        clear hx hy
        obtain ⟨q, hq⟩ : ∃ q, (x.toList == y.toList) = q := ⟨_, rfl⟩
        have h2 : (x.toList != y.toList) = !q := by simp [bne, hq]
        have HP : Hid (sameS x y = q) := Lib.hid hq
        cases q
        all_goals simp only [Bool.not_true, Bool.not_false] at h2
        all_goals go_wp2
        all_goals go_quiet (fail)
        all_goals go_wp2
        all_goals first
          | (go_ret; exact ⟨ret_bool (by rw [hr.out, HX.out, HP.out]; rfl), bel_drewN hbel _⟩)
          | skip
        go_roundw
        case rel => exact ⟨k + 1, by omega, by go_num, Lib.hid (by rw [hr.out, HX.out, HP.out, Bool.true_and]), bel_drewN hbel _⟩
        case measure => simp [intOf]; omega
      · have hkn : k = n := by omega
        subst hkn
        clear hlt
        go_wp2
        go_ret
        exact ⟨ret_bool (by rw [hr.out, eqGo_end (by rw [HN.out]; exact Nat.le_refl _)]), hbel⟩
  · have hd2 : ((n : Int) == (m : Int)) = false := by simp; omega
    have hd3 : ((n : Int) != (m : Int)) = true := by simp; omega
    have HD : Hid (eqL sameS a b = false) := Lib.hid (eqL_no (by omega))
    clear h hn hm
    go_enter Tryd.func20, Tryd.ntmps20
    go_wp2
    go_ret
    exact ⟨ret_bool (by rw [HD.out]), Below.refl _ _⟩
set_option maxHeartbeats 1000000 in
theorem eqTwo_any (A : Option Addr) (c : Nat) (a : List _) (n : Nat) (hn : a.length = n) (A' : Option Addr) (c' : Nat) (b : List _) (m : Nat) (hm : b.length = m) (w : World) (B B' : Nat) (hB : B ≤ w.heap.size) (hB' : B' ≤ w.heap.size) (ha : RowAt (rPair rInt rInt) w B A a) (hb : RowAt (rPair rInt rInt) w B' A' b) :
    Calls Tryd.prog 27 #[.slice A n c, .slice A' m c'] w fun e w' => e = .returned (.bool (eqL twoEq a b)) ∧ Below w.heap.size w w' := by
  have hlen := ha.len
  rw [hn] at hlen
  by_cases h : n = m
  · subst h
    have HN := Lib.hid hn
    have HM := Lib.hid hm
    have HG := Lib.hid (eqL_go (p := twoEq) (hn.trans hm.symm))
    clear hn hm
    go_enter Tryd.func27, Tryd.ntmps27
    go_wp2
    go_loopw [5, 13] (fun _ i wr => ∃ k : Nat, k ≤ n ∧ i = .int .i64 k ∧ Hid (eqL twoEq a b = eqGo twoEq (a.drop k) (b.drop k)) ∧ Below w.heap.size w wr) (fun _ i _ => n - (intOf i).toNat)
    case atStart => exact ⟨0, by omega, rfl, HG, Below.refl _ _⟩
    case round =>
      obtain ⟨k, hk, rfl, hr, hbel⟩ := hrel
      by_cases hlt : k < n
      · obtain ⟨x, hx⟩ : ∃ x, a[k]? = some x := ⟨_, List.getElem?_eq_getElem (by rw [HN.out]; exact hlt)⟩
        obtain ⟨y, hy⟩ : ∃ y, b[k]? = some y := ⟨_, List.getElem?_eq_getElem (by rw [HM.out]; exact hlt)⟩
        obtain ⟨ad, rfl, hadb, ⟨m0, m1⟩, _⟩ := row_Two (ha.below (hbel.mono hB)) hx
        obtain ⟨ad', rfl, hadb', ⟨k0, k1⟩, _⟩ := row_Two (hb.below (hbel.mono hB')) hy
        have HX := Lib.hid (eqGo_step (p := twoEq) hx hy)
        have hk0 : (0 : Int) ≤ (k : Int) := by omega
        have hkn : (k : Int) < (n : Int) := by omega
        clear hx hy
        have heq := two_run x y
        obtain ⟨q, hq⟩ : ∃ q, twoEq x y = q := ⟨_, rfl⟩
        have HP := Lib.hid hq
        rw [hq] at heq
        clear hq
        cases q
        all_goals go_wp2
        all_goals go_quiet (fail)
        all_goals go_wp2
        all_goals first
          | (go_ret; exact ⟨ret_bool (by rw [hr.out, HX.out, HP.out]; rfl), bel_drewN hbel _⟩)
          | skip
        go_roundw
        case rel => exact ⟨k + 1, by omega, by go_num, Lib.hid (by rw [hr.out, HX.out, HP.out, Bool.true_and]), bel_drewN hbel _⟩
        case measure => simp [intOf]; omega
      · have hkn : k = n := by omega
        subst hkn
        clear hlt
        go_wp2
        go_ret
        exact ⟨ret_bool (by rw [hr.out, eqGo_end (by rw [HN.out]; exact Nat.le_refl _)]), hbel⟩
  · have hd2 : ((n : Int) == (m : Int)) = false := by simp; omega
    have hd3 : ((n : Int) != (m : Int)) = true := by simp; omega
    have HD : Hid (eqL twoEq a b = false) := Lib.hid (eqL_no (by omega))
    clear h hn hm
    go_enter Tryd.func27, Tryd.ntmps27
    go_wp2
    go_ret
    exact ⟨ret_bool (by rw [HD.out]), Below.refl _ _⟩
set_option maxHeartbeats 1000000 in
theorem eqPt_any (A : Option Addr) (c : Nat) (a : List _) (n : Nat) (hn : a.length = n) (A' : Option Addr) (c' : Nat) (b : List _) (m : Nat) (hm : b.length = m) (w : World) (B B' : Nat) (hB : B ≤ w.heap.size) (hB' : B' ≤ w.heap.size) (ha : RowAt rPt w B A a) (hb : RowAt rPt w B' A' b) :
    Calls Tryd.prog 40 #[.slice A n c, .slice A' m c'] w fun e w' => e = .returned (.bool (eqL ptEq a b)) ∧ Below w.heap.size w w' := by
  have hlen := ha.len
  rw [hn] at hlen
  by_cases h : n = m
  · subst h
    have HN := Lib.hid hn
    have HM := Lib.hid hm
    have HG := Lib.hid (eqL_go (p := ptEq) (hn.trans hm.symm))
    clear hn hm
    go_enter Tryd.func40, Tryd.ntmps40
    go_wp2
    go_loopw [5, 13] (fun _ i wr => ∃ k : Nat, k ≤ n ∧ i = .int .i64 k ∧ Hid (eqL ptEq a b = eqGo ptEq (a.drop k) (b.drop k)) ∧ Below w.heap.size w wr) (fun _ i _ => n - (intOf i).toNat)
    case atStart => exact ⟨0, by omega, rfl, HG, Below.refl _ _⟩
    case round =>
      obtain ⟨k, hk, rfl, hr, hbel⟩ := hrel
      by_cases hlt : k < n
      · obtain ⟨x, hx⟩ : ∃ x, a[k]? = some x := ⟨_, List.getElem?_eq_getElem (by rw [HN.out]; exact hlt)⟩
        obtain ⟨y, hy⟩ : ∃ y, b[k]? = some y := ⟨_, List.getElem?_eq_getElem (by rw [HM.out]; exact hlt)⟩
        obtain ⟨ad, rfl, hadb, ⟨m0, m1⟩, _⟩ := row_Pt (ha.below (hbel.mono hB)) hx
        obtain ⟨ad', rfl, hadb', ⟨k0, k1⟩, _⟩ := row_Pt (hb.below (hbel.mono hB')) hy
        have HX := Lib.hid (eqGo_step (p := ptEq) hx hy)
        have hk0 : (0 : Int) ≤ (k : Int) := by omega
        have hkn : (k : Int) < (n : Int) := by omega
        clear hx hy
        rcases ptcase x y with ⟨HP, e1, e2⟩ | ⟨HP, e1, e2⟩ | ⟨HP, e1, e2⟩
        all_goals go_wp2
        all_goals go_quiet (fail)
        all_goals go_wp2
        all_goals first
          | (go_ret; exact ⟨ret_bool (by rw [hr.out, HX.out, HP.out]; rfl), bel_drewN hbel _⟩)
          | skip
        go_roundw
        case rel => exact ⟨k + 1, by omega, by go_num, Lib.hid (by rw [hr.out, HX.out, HP.out, Bool.true_and]), bel_drewN hbel _⟩
        case measure => simp [intOf]; omega
      · have hkn : k = n := by omega
        subst hkn
        clear hlt
        go_wp2
        go_ret
        exact ⟨ret_bool (by rw [hr.out, eqGo_end (by rw [HN.out]; exact Nat.le_refl _)]), hbel⟩
  · have hd2 : ((n : Int) == (m : Int)) = false := by simp; omega
    have hd3 : ((n : Int) != (m : Int)) = true := by simp; omega
    have HD : Hid (eqL ptEq a b = false) := Lib.hid (eqL_no (by omega))
    clear h hn hm
    go_enter Tryd.func40, Tryd.ntmps40
    go_wp2
    go_ret
    exact ⟨ret_bool (by rw [HD.out]), Below.refl _ _⟩
set_option maxHeartbeats 1000000 in
theorem rpairs_any (A : Option Addr) (c : Nat) (a : List _) (n : Nat) (hn : a.length = n) (A' : Option Addr) (c' : Nat) (b : List _) (m : Nat) (hm : b.length = m) (w : World) (B B' : Nat) (hB : B ≤ w.heap.size) (hB' : B' ≤ w.heap.size) (ha : RowAt (rPair rInt rInt) w B A a) (hb : RowAt (rPair rInt rInt) w B' A' b) :
    Calls Tryd.prog 31 #[.slice A n c, .slice A' m c'] w fun e w' => e = .returned (.bool (eqL twoEq a b)) ∧ Below w.heap.size w w' := by
  have hlen := ha.len
  rw [hn] at hlen
  by_cases h : n = m
  · subst h
    have HN := Lib.hid hn
    have HM := Lib.hid hm
    have HG := Lib.hid (eqL_go (p := twoEq) (hn.trans hm.symm))
    clear hn hm
    go_enter Tryd.func31, Tryd.ntmps31
    go_wp2
    go_loopw [5] (fun i wr => ∃ k : Nat, k ≤ n ∧ i = .int .i64 k ∧ Hid (eqL twoEq a b = eqGo twoEq (a.drop k) (b.drop k)) ∧ Below w.heap.size w wr) (fun i _ => n - (intOf i).toNat)
    case atStart => exact ⟨0, by omega, rfl, HG, Below.refl _ _⟩
    case round =>
      obtain ⟨k, hk, rfl, hr, hbel⟩ := hrel
      by_cases hlt : k < n
      · obtain ⟨x, hx⟩ : ∃ x, a[k]? = some x := ⟨_, List.getElem?_eq_getElem (by rw [HN.out]; exact hlt)⟩
        obtain ⟨y, hy⟩ : ∃ y, b[k]? = some y := ⟨_, List.getElem?_eq_getElem (by rw [HM.out]; exact hlt)⟩
        obtain ⟨ad, rfl, hadb, ⟨m0, m1⟩, _⟩ := row_Two (ha.below (hbel.mono hB)) hx
        obtain ⟨ad', rfl, hadb', ⟨k0, k1⟩, _⟩ := row_Two (hb.below (hbel.mono hB')) hy
        have HX := Lib.hid (eqGo_step (p := twoEq) hx hy)
        have hk0 : (0 : Int) ≤ (k : Int) := by omega
        have hkn : (k : Int) < (n : Int) := by omega
        clear hx hy
        have heq := two_run x y
        obtain ⟨q, hq⟩ : ∃ q, twoEq x y = q := ⟨_, rfl⟩
        have HP := Lib.hid hq
        rw [hq] at heq
        clear hq
        cases q
        all_goals go_wp2
        all_goals go_quiet (fail)
        all_goals go_wp2
        all_goals first
          | (go_ret; exact ⟨ret_bool (by rw [hr.out, HX.out, HP.out]; rfl), bel_drewN hbel _⟩)
          | skip
        go_roundw
        case rel => exact ⟨k + 1, by omega, by go_num, Lib.hid (by rw [hr.out, HX.out, HP.out, Bool.true_and]), bel_drewN hbel _⟩
        case measure => simp [intOf]; omega
      · have hkn : k = n := by omega
        subst hkn
        clear hlt
        go_wp2
        go_ret
        exact ⟨ret_bool (by rw [hr.out, eqGo_end (by rw [HN.out]; exact Nat.le_refl _)]), hbel⟩
  · have hd2 : ((n : Int) == (m : Int)) = false := by simp; omega
    have hd3 : ((n : Int) != (m : Int)) = true := by simp; omega
    have HD : Hid (eqL twoEq a b = false) := Lib.hid (eqL_no (by omega))
    clear h hn hm
    go_enter Tryd.func31, Tryd.ntmps31
    go_wp2
    go_ret
    exact ⟨ret_bool (by rw [HD.out]), Below.refl _ _⟩
set_option maxHeartbeats 1000000 in
theorem rpoints_any (A : Option Addr) (c : Nat) (a : List _) (n : Nat) (hn : a.length = n) (A' : Option Addr) (c' : Nat) (b : List _) (m : Nat) (hm : b.length = m) (w : World) (B B' : Nat) (hB : B ≤ w.heap.size) (hB' : B' ≤ w.heap.size) (ha : RowAt rPt w B A a) (hb : RowAt rPt w B' A' b) :
    Calls Tryd.prog 42 #[.slice A n c, .slice A' m c'] w fun e w' => e = .returned (.bool (eqL ptEq a b)) ∧ Below w.heap.size w w' := by
  have hlen := ha.len
  rw [hn] at hlen
  by_cases h : n = m
  · subst h
    have HN := Lib.hid hn
    have HM := Lib.hid hm
    have HG := Lib.hid (eqL_go (p := ptEq) (hn.trans hm.symm))
    clear hn hm
    go_enter Tryd.func42, Tryd.ntmps42
    go_wp2
    go_loopw [5] (fun i wr => ∃ k : Nat, k ≤ n ∧ i = .int .i64 k ∧ Hid (eqL ptEq a b = eqGo ptEq (a.drop k) (b.drop k)) ∧ Below w.heap.size w wr) (fun i _ => n - (intOf i).toNat)
    case atStart => exact ⟨0, by omega, rfl, HG, Below.refl _ _⟩
    case round =>
      obtain ⟨k, hk, rfl, hr, hbel⟩ := hrel
      by_cases hlt : k < n
      · obtain ⟨x, hx⟩ : ∃ x, a[k]? = some x := ⟨_, List.getElem?_eq_getElem (by rw [HN.out]; exact hlt)⟩
        obtain ⟨y, hy⟩ : ∃ y, b[k]? = some y := ⟨_, List.getElem?_eq_getElem (by rw [HM.out]; exact hlt)⟩
        obtain ⟨ad, rfl, hadb, ⟨m0, m1⟩, _⟩ := row_Pt (ha.below (hbel.mono hB)) hx
        obtain ⟨ad', rfl, hadb', ⟨k0, k1⟩, _⟩ := row_Pt (hb.below (hbel.mono hB')) hy
        have HX := Lib.hid (eqGo_step (p := ptEq) hx hy)
        have hk0 : (0 : Int) ≤ (k : Int) := by omega
        have hkn : (k : Int) < (n : Int) := by omega
        clear hx hy
        rcases ptcase x y with ⟨HP, e1, e2⟩ | ⟨HP, e1, e2⟩ | ⟨HP, e1, e2⟩
        all_goals go_wp2
        all_goals go_quiet (fail)
        all_goals go_wp2
        all_goals first
          | (go_ret; exact ⟨ret_bool (by rw [hr.out, HX.out, HP.out]; rfl), bel_drewN hbel _⟩)
          | skip
        go_roundw
        case rel => exact ⟨k + 1, by omega, by go_num, Lib.hid (by rw [hr.out, HX.out, HP.out, Bool.true_and]), bel_drewN hbel _⟩
        case measure => simp [intOf]; omega
      · have hkn : k = n := by omega
        subst hkn
        clear hlt
        go_wp2
        go_ret
        exact ⟨ret_bool (by rw [hr.out, eqGo_end (by rw [HN.out]; exact Nat.le_refl _)]), hbel⟩
  · have hd2 : ((n : Int) == (m : Int)) = false := by simp; omega
    have hd3 : ((n : Int) != (m : Int)) = true := by simp; omega
    have HD : Hid (eqL ptEq a b = false) := Lib.hid (eqL_no (by omega))
    clear h hn hm
    go_enter Tryd.func42, Tryd.ntmps42
    go_wp2
    go_ret
    exact ⟨ret_bool (by rw [HD.out]), Below.refl _ _⟩
end Go.Proofs.YtceceomaheobhaaDoor.ins

/- The same arcs; lists of arcs, types, orders that are the same. -/
namespace Go.Proofs.YtceceomaheobhaaDoor.ins
open Go.RowKit
open Go.Proofs.YtceceomaheobhaaDoor.lib Go.Proofs.YtceceomaheobhaaDoor.rd Go.Proofs.YtceceomaheobhaaDoor.typ Go.Proofs.YtceceomaheobhaaDoor.eqg
set_option linter.unusedVariables false
set_option linter.unusedSimpArgs false

def sameA (a b : Arc) : Bool := (a.frm == b.frm) && ((a.to == b.to) && ((a.profile == b.profile) && ((a.miles == b.miles) && (eqL ptEq a.travel b.travel && eqL ptEq a.slow b.slow))))
theorem sameA_comm (a b : Arc) : sameA a b = sameA b a := by unfold sameA; rw [int_comm a.frm, int_comm a.to, int_comm a.profile, int_comm a.miles, eqL_comm ptEq_comm a.travel, eqL_comm ptEq_comm a.slow]
theorem sameA_self (a : Arc) : sameA a a = true := by unfold sameA; rw [eqL_self ptEq_self, eqL_self ptEq_self]; simp
set_option maxRecDepth 20000 in
set_option maxHeartbeats 4000000 in
theorem sameArc_any (a b : Arc) (C0 : Option Addr) (c0 : Nat) (C1 : Option Addr) (c1 : Nat) (D0 : Option Addr) (d0 : Nat) (D1 : Option Addr) (d1 : Nat) (w : World) (h1 : RowAt rPt w w.heap.size C0 a.travel) (h2 : RowAt rPt w w.heap.size C1 a.slow) (h3 : RowAt rPt w w.heap.size D0 b.travel) (h4 : RowAt rPt w w.heap.size D1 b.slow) :
    Calls Tryd.prog 22 #[.agg #[.int .i64 a.frm, .int .i64 a.to, .int .i64 a.profile, .int .i64 a.miles, .slice C0 a.travel.length c0, .slice C1 a.slow.length c1], .agg #[.int .i64 b.frm, .int .i64 b.to, .int .i64 b.profile, .int .i64 b.miles, .slice D0 b.travel.length d0, .slice D1 b.slow.length d1]] w fun e w' => e = .returned (.bool (sameA a b)) ∧ Below w.heap.size w w' := by
  obtain ⟨R, hR⟩ : ∃ R, sameA a b = R := ⟨_, rfl⟩
  have HR : Hid (R = ((a.frm == b.frm) && ((a.to == b.to) && ((a.profile == b.profile) && ((a.miles == b.miles) && (eqL ptEq a.travel b.travel && eqL ptEq a.slow b.slow)))))) := Lib.hid (by rw [← hR]; rfl)
  rw [hR]
  clear hR
  have H1 : Hid (∀ w', Below w.heap.size w w' → RowAt rPt w' w'.heap.size C0 a.travel ∧ RowAt rPt w' w'.heap.size C1 a.slow ∧ RowAt rPt w' w'.heap.size D0 b.travel ∧ RowAt rPt w' w'.heap.size D1 b.slow) := Lib.hid fun w' hb => ⟨(h1.below hb).more hb.size, (h2.below hb).more hb.size, (h3.below hb).more hb.size, (h4.below hb).more hb.size⟩
  clear h1 h2 h3 h4
  by_cases e0 : a.frm = b.frm
  case neg =>
    have f0 : (a.frm == b.frm) = false := by simp [e0]
    have HT : Hid (R = false) := Lib.hid (by rw [HR.out, f0]; rfl)
    clear e0
    go_enter Tryd.func22, Tryd.ntmps22
    go_wp2
    go_ret
    exact ⟨ret_bool HT.out.symm, by repeat (first | assumption | exact Below.refl _ _ | refine Below.drew ?_ | refine Below.alloc ?_ (by first | omega | (simp <;> omega)) _ | refine Below.setCell ?_ (by first | omega | (simp <;> omega)) _)⟩
  have g0 : (a.frm == b.frm) = true := by simp [e0]
  by_cases e1 : a.to = b.to
  case neg =>
    have f1 : (a.to == b.to) = false := by simp [e1]
    have HT : Hid (R = false) := Lib.hid (by rw [HR.out, g0, f1]; rfl)
    clear e1
    go_enter Tryd.func22, Tryd.ntmps22
    go_wp2
    go_ret
    exact ⟨ret_bool HT.out.symm, by repeat (first | assumption | exact Below.refl _ _ | refine Below.drew ?_ | refine Below.alloc ?_ (by first | omega | (simp <;> omega)) _ | refine Below.setCell ?_ (by first | omega | (simp <;> omega)) _)⟩
  have g1 : (a.to == b.to) = true := by simp [e1]
  by_cases e2 : a.profile = b.profile
  case neg =>
    have f2 : (a.profile == b.profile) = false := by simp [e2]
    have HT : Hid (R = false) := Lib.hid (by rw [HR.out, g0, g1, f2]; rfl)
    clear e2
    go_enter Tryd.func22, Tryd.ntmps22
    go_wp2
    go_ret
    exact ⟨ret_bool HT.out.symm, by repeat (first | assumption | exact Below.refl _ _ | refine Below.drew ?_ | refine Below.alloc ?_ (by first | omega | (simp <;> omega)) _ | refine Below.setCell ?_ (by first | omega | (simp <;> omega)) _)⟩
  have g2 : (a.profile == b.profile) = true := by simp [e2]
  by_cases e3 : a.miles = b.miles
  case neg =>
    have f3 : (a.miles == b.miles) = false := by simp [e3]
    have HT : Hid (R = false) := Lib.hid (by rw [HR.out, g0, g1, g2, f3]; rfl)
    clear e3
    go_enter Tryd.func22, Tryd.ntmps22
    go_wp2
    go_ret
    exact ⟨ret_bool HT.out.symm, by repeat (first | assumption | exact Below.refl _ _ | refine Below.drew ?_ | refine Below.alloc ?_ (by first | omega | (simp <;> omega)) _ | refine Below.setCell ?_ (by first | omega | (simp <;> omega)) _)⟩
  have g3 : (a.miles == b.miles) = true := by simp [e3]
  have HR2 : Hid (R = (eqL ptEq a.travel b.travel && eqL ptEq a.slow b.slow)) := Lib.hid (by rw [HR.out, g0, g1, g2, g3]; rfl)
  clear g0 g1 g2 g3
  have b2 : ∀ o o', Below w.heap.size w ((w.alloc o).alloc o') := fun o o' => ((Below.refl _ _).alloc (Nat.le_refl _) _).alloc (by simp) _
  go_enter Tryd.func22, Tryd.ntmps22
  go_wp2_with fail
  refine (eqPt_any C0 c0 a.travel _ rfl D0 d0 b.travel _ rfl _ _ _ (Nat.le_refl _) (Nat.le_refl _) (H1.out _ (b2 _ _)).1 (H1.out _ (b2 _ _)).2.2.1).mono ?_
  rintro e w1 ⟨rfl, hb1⟩
  have hz := hb1.size
  simp at hz
  have hc := fun b o h => hb1.cell (p := ⟨b, o, none⟩) h
  have hf := fun b o h => hb1.frozen (p := ⟨b, o, none⟩) h
  have l1 : w.heap.size < w1.heap.size := by omega
  have l2 : w.heap.size + 1 < w1.heap.size := by omega
  have hB : Below w.heap.size w w1 := (b2 _ _).trans (hb1.mono (by simp; omega))
  clear hb1
  cases hq1 : eqL ptEq a.travel b.travel
  · have HT : Hid (R = false) := Lib.hid (by rw [HR2.out, hq1]; rfl)
    go_wp2
    go_ret
    exact ⟨ret_bool HT.out.symm, hB⟩
  · have HT : Hid (R = eqL ptEq a.slow b.slow) := Lib.hid (by rw [HR2.out, hq1]; rfl)
    go_wp2_with (go_at_call 40; refine (eqPt_any C1 c1 a.slow _ rfl D1 d1 b.slow _ rfl _ _ _ (Nat.le_refl _) (Nat.le_refl _) (H1.out _ hB).2.1 (H1.out _ hB).2.2.2).mono ?_; rintro e w2 ⟨rfl, hb2⟩)
    go_ret
    exact ⟨ret_bool HT.out.symm, hB.trans (hb2.mono hB.size)⟩

theorem Ints.go {w w' : World} {B : Nat} {A : Option Addr} {l : List Int} (h : Ints w B A l) (hB : B ≤ w.heap.size) (hb : Below w.heap.size w w') : Ints w' w'.heap.size A l := ((h.more hB).below hb).more hb.size
theorem rows_go {X : Type} {r : Rd X} {w w' : World} {B : Nat} {A : Option Addr} {l : List X} (h : RowAt r w B A l) (hB : B ≤ w.heap.size) (hb : Below w.heap.size w w') : RowAt r w' w'.heap.size A l := ((h.more hB).below hb).more hb.size
set_option maxRecDepth 20000 in
set_option maxHeartbeats 4000000 in
theorem eqArc_any (A : Option Addr) (c : Nat) (a : List Arc) (n : Nat) (hn : a.length = n) (A' : Option Addr) (c' : Nat) (b : List Arc) (m : Nat) (hm : b.length = m) (w : World) (B B' : Nat) (hB : B ≤ w.heap.size) (hB' : B' ≤ w.heap.size) (ha : RowAt rArc w B A a) (hb : RowAt rArc w B' A' b) :
    Calls Tryd.prog 21 #[.slice A n c, .slice A' m c', .func (.func 22) #[] #[]] w fun e w' => e = .returned (.bool (eqL sameA a b)) ∧ Below w.heap.size w w' := by
  have hlen := ha.len
  rw [hn] at hlen
  by_cases h : n = m
  · subst h
    have HN := Lib.hid hn
    have HM := Lib.hid hm
    have HG := Lib.hid (eqL_go (p := sameA) (hn.trans hm.symm))
    clear hn hm
    go_enter Tryd.func21, Tryd.ntmps21
    go_wp2
    go_loopw [7, 8, 9, 17] (fun _ _ _ i wr => ∃ k : Nat, k ≤ n ∧ i = .int .i64 k ∧ Hid (eqL sameA a b = eqGo sameA (a.drop k) (b.drop k)) ∧ Below w.heap.size w wr) (fun _ _ _ i _ => n - (intOf i).toNat)
    case atStart => exact ⟨0, by omega, rfl, HG, Below.refl _ _⟩
    case round =>
      obtain ⟨k, hk, rfl, hr, hbel⟩ := hrel
      have hz := hbel.size
      by_cases hlt : k < n
      · obtain ⟨x, hx⟩ : ∃ x, a[k]? = some x := ⟨_, List.getElem?_eq_getElem (by rw [HN.out]; exact hlt)⟩
        obtain ⟨y, hy⟩ : ∃ y, b[k]? = some y := ⟨_, List.getElem?_eq_getElem (by rw [HM.out]; exact hlt)⟩
        obtain ⟨ad, C0, c0, C1, c1, rfl, hadb, ⟨m0, m1, m2, m3, m4, m5⟩, hp1, hp2, _⟩ := row_Arc (ha.below (hbel.mono hB)) hx
        obtain ⟨ad', D0, d0, D1, d1, rfl, hadb', ⟨k0, k1, k2, k3, k4, k5⟩, hp3, hp4, _⟩ := row_Arc (hb.below (hbel.mono hB')) hy; have hbb : (ad'.add (k * 6)).block < wr.heap.size := (by rw [block_of_add]; omega)
        have HX := Lib.hid (eqGo_step (p := sameA) hx hy)
        have hk0 : (0 : Int) ≤ (k : Int) := by omega
        have hkn : (k : Int) < (n : Int) := by omega
        have b2 : ∀ o o', Below wr.heap.size wr ((wr.alloc o).alloc o') := fun o o' => ((Below.refl _ _).alloc (Nat.le_refl _) _).alloc (by simp) _
        clear hx hy
        obtain ⟨q, hq⟩ : ∃ q, sameA x y = q := ⟨_, rfl⟩
        have HP := Lib.hid hq
        have HC : Hid (∀ w', Below wr.heap.size wr w' → Calls Tryd.prog 22 #[.agg #[.int .i64 x.frm, .int .i64 x.to, .int .i64 x.profile, .int .i64 x.miles, .slice C0 x.travel.length c0, .slice C1 x.slow.length c1], .agg #[.int .i64 y.frm, .int .i64 y.to, .int .i64 y.profile, .int .i64 y.miles, .slice D0 y.travel.length d0, .slice D1 y.slow.length d1]] w' fun e w'' => e = .returned (.bool q) ∧ Below w'.heap.size w' w'') := Lib.hid fun w' hw => by rw [← hq]; exact sameArc_any x y C0 c0 C1 c1 D0 d0 D1 d1 w' (rows_go hp1 (by omega) hw) (rows_go hp2 (by omega) hw) (rows_go hp3 (by omega) hw) (rows_go hp4 (by omega) hw)
        clear hq
        cases q
        · skip
          go_wp2_with (go_at_call 22; refine (HC.out _ (b2 _ _)).mono ?_; rintro e w1 ⟨rfl, hb1⟩)
          go_ret
          exact ⟨ret_bool (by rw [hr.out, HX.out, HP.out]; rfl), hbel.trans (((b2 _ _).mono hz).trans (hb1.mono (by simp; omega)))⟩
        · skip
          go_wp2_with (go_at_call 22; refine (HC.out _ (b2 _ _)).mono ?_; rintro e w1 ⟨rfl, hb1⟩)
          go_roundw
          case rel => exact ⟨k + 1, by omega, by go_num, Lib.hid (by rw [hr.out, HX.out, HP.out, Bool.true_and]), hbel.trans (((b2 _ _).mono hz).trans (hb1.mono (by simp; omega)))⟩
          case measure => simp [intOf]; omega
      · have hkn : k = n := by omega
        subst hkn
        clear hlt
        go_wp2
        go_ret
        exact ⟨ret_bool (by rw [hr.out, eqGo_end (by rw [HN.out]; exact Nat.le_refl _)]), hbel⟩
  · have hd2 : ((n : Int) == (m : Int)) = false := by simp; omega
    have hd3 : ((n : Int) != (m : Int)) = true := by simp; omega
    have HD : Hid (eqL sameA a b = false) := Lib.hid (eqL_no (by omega))
    clear h hn hm
    go_enter Tryd.func21, Tryd.ntmps21
    go_wp2
    go_ret
    exact ⟨ret_bool (by rw [HD.out]), Below.refl _ _⟩
set_option maxRecDepth 20000 in
set_option maxHeartbeats 4000000 in
theorem eqTy_any (A : Option Addr) (c : Nat) (a : List Ty) (n : Nat) (hn : a.length = n) (A' : Option Addr) (c' : Nat) (b : List Ty) (m : Nat) (hm : b.length = m) (w : World) (B B' : Nat) (hB : B ≤ w.heap.size) (hB' : B' ≤ w.heap.size) (ha : RowAt rTy w B A a) (hb : RowAt rTy w B' A' b) :
    Calls Tryd.prog 23 #[.slice A n c, .slice A' m c', .func (.func 24) #[] #[]] w fun e w' => e = .returned (.bool (eqL flt.sameT a b)) ∧ Below w.heap.size w w' := by
  have hlen := ha.len
  rw [hn] at hlen
  by_cases h : n = m
  · subst h
    have HN := Lib.hid hn
    have HM := Lib.hid hm
    have HG := Lib.hid (eqL_go (p := flt.sameT) (hn.trans hm.symm))
    clear hn hm
    go_enter Tryd.func23, Tryd.ntmps23
    go_wp2
    go_loopw [7, 8, 9, 17] (fun _ _ _ i wr => ∃ k : Nat, k ≤ n ∧ i = .int .i64 k ∧ Hid (eqL flt.sameT a b = eqGo flt.sameT (a.drop k) (b.drop k)) ∧ Below w.heap.size w wr) (fun _ _ _ i _ => n - (intOf i).toNat)
    case atStart => exact ⟨0, by omega, rfl, HG, Below.refl _ _⟩
    case round =>
      obtain ⟨k, hk, rfl, hr, hbel⟩ := hrel
      have hz := hbel.size
      by_cases hlt : k < n
      · obtain ⟨x, hx⟩ : ∃ x, a[k]? = some x := ⟨_, List.getElem?_eq_getElem (by rw [HN.out]; exact hlt)⟩
        obtain ⟨y, hy⟩ : ∃ y, b[k]? = some y := ⟨_, List.getElem?_eq_getElem (by rw [HM.out]; exact hlt)⟩
        obtain ⟨ad, C0, c0, rfl, hadb, ⟨m0, m1, m2, m3, m4, m5, m6, m7, m8, m9, m10, m11, m12, m13⟩, hp1, _⟩ := row_Ty (ha.below (hbel.mono hB)) hx
        obtain ⟨ad', D0, d0, rfl, hadb', ⟨k0, k1, k2, k3, k4, k5, k6, k7, k8, k9, k10, k11, k12, k13⟩, hp3, _⟩ := row_Ty (hb.below (hbel.mono hB')) hy; have hbb : (ad'.add (k * 14)).block < wr.heap.size := (by rw [block_of_add]; omega)
        have HX := Lib.hid (eqGo_step (p := flt.sameT) hx hy)
        have hk0 : (0 : Int) ≤ (k : Int) := by omega
        have hkn : (k : Int) < (n : Int) := by omega
        have b2 : ∀ o o', Below wr.heap.size wr ((wr.alloc o).alloc o') := fun o o' => ((Below.refl _ _).alloc (Nat.le_refl _) _).alloc (by simp) _
        clear hx hy
        obtain ⟨q, hq⟩ : ∃ q, flt.sameT x y = q := ⟨_, rfl⟩
        have HP := Lib.hid hq
        have HC : Hid (∀ w', Below wr.heap.size wr w' → Calls Tryd.prog 24 #[.agg #[.string x.name, .int .i64 x.count, .int .i64 x.frm, .int .i64 x.to, .slice C0 x.cap.length c0, .int .i64 x.skills, .int .i64 x.profile, .int .i64 x.opn, .int .i64 x.close, .int .i64 x.drive, .int .i64 x.rest, .int .i64 x.fixed, .int .i64 x.mile, .int .i64 x.tick], .agg #[.string y.name, .int .i64 y.count, .int .i64 y.frm, .int .i64 y.to, .slice D0 y.cap.length d0, .int .i64 y.skills, .int .i64 y.profile, .int .i64 y.opn, .int .i64 y.close, .int .i64 y.drive, .int .i64 y.rest, .int .i64 y.fixed, .int .i64 y.mile, .int .i64 y.tick]] w' fun e w'' => e = .returned (.bool q) ∧ Below w'.heap.size w' w'') := Lib.hid fun w' hw => by rw [← hq]; exact flt.same_any x y C0 c0 D0 d0 w' (Ints.go hp1 (by omega) hw) (Ints.go hp3 (by omega) hw)
        clear hq
        cases q
        · skip
          go_wp2_with (go_at_call 24; refine (HC.out _ (b2 _ _)).mono ?_; rintro e w1 ⟨rfl, hb1⟩)
          go_ret
          exact ⟨ret_bool (by rw [hr.out, HX.out, HP.out]; rfl), hbel.trans (((b2 _ _).mono hz).trans (hb1.mono (by simp; omega)))⟩
        · skip
          go_wp2_with (go_at_call 24; refine (HC.out _ (b2 _ _)).mono ?_; rintro e w1 ⟨rfl, hb1⟩)
          go_roundw
          case rel => exact ⟨k + 1, by omega, by go_num, Lib.hid (by rw [hr.out, HX.out, HP.out, Bool.true_and]), hbel.trans (((b2 _ _).mono hz).trans (hb1.mono (by simp; omega)))⟩
          case measure => simp [intOf]; omega
      · have hkn : k = n := by omega
        subst hkn
        clear hlt
        go_wp2
        go_ret
        exact ⟨ret_bool (by rw [hr.out, eqGo_end (by rw [HN.out]; exact Nat.le_refl _)]), hbel⟩
  · have hd2 : ((n : Int) == (m : Int)) = false := by simp; omega
    have hd3 : ((n : Int) != (m : Int)) = true := by simp; omega
    have HD : Hid (eqL flt.sameT a b = false) := Lib.hid (eqL_no (by omega))
    clear h hn hm
    go_enter Tryd.func23, Tryd.ntmps23
    go_wp2
    go_ret
    exact ⟨ret_bool (by rw [HD.out]), Below.refl _ _⟩
end Go.Proofs.YtceceomaheobhaaDoor.ins

/- Lists of orders that are the same. -/
namespace Go.Proofs.YtceceomaheobhaaDoor.ins
open Go.RowKit
open Go.Proofs.YtceceomaheobhaaDoor.lib Go.Proofs.YtceceomaheobhaaDoor.rd Go.Proofs.YtceceomaheobhaaDoor.typ Go.Proofs.YtceceomaheobhaaDoor.eqg Go.Proofs.YtceceomaheobhaaDoor.ord
set_option linter.unusedVariables false
set_option linter.unusedSimpArgs false

set_option maxRecDepth 20000 in
set_option maxHeartbeats 4000000 in
theorem eqOrd_any (A : Option Addr) (c : Nat) (a : List Ord) (n : Nat) (hn : a.length = n) (A' : Option Addr) (c' : Nat) (b : List Ord) (m : Nat) (hm : b.length = m) (w : World) (B B' : Nat) (hB : B ≤ w.heap.size) (hB' : B' ≤ w.heap.size) (ha : RowAt rOrd w B A a) (hb : RowAt rOrd w B' A' b) :
    Calls Tryd.prog 25 #[.slice A n c, .slice A' m c', .func (.func 26) #[] #[]] w fun e w' => e = .returned (.bool (eqL sameO a b)) ∧ Below w.heap.size w w' := by
  have hlen := ha.len
  rw [hn] at hlen
  by_cases h : n = m
  · subst h
    have HN := Lib.hid hn
    have HM := Lib.hid hm
    have HG := Lib.hid (eqL_go (p := sameO) (hn.trans hm.symm))
    clear hn hm
    go_enter Tryd.func25, Tryd.ntmps25
    go_wp2
    go_loopw [7, 8, 9, 17] (fun _ _ _ i wr => ∃ k : Nat, k ≤ n ∧ i = .int .i64 k ∧ Hid (eqL sameO a b = eqGo sameO (a.drop k) (b.drop k)) ∧ Below w.heap.size w wr) (fun _ _ _ i _ => n - (intOf i).toNat)
    case atStart => exact ⟨0, by omega, rfl, HG, Below.refl _ _⟩
    case round =>
      obtain ⟨k, hk, rfl, hr, hbel⟩ := hrel
      have hz := hbel.size
      by_cases hlt : k < n
      · obtain ⟨x, hx⟩ : ∃ x, a[k]? = some x := ⟨_, List.getElem?_eq_getElem (by rw [HN.out]; exact hlt)⟩
        obtain ⟨y, hy⟩ : ∃ y, b[k]? = some y := ⟨_, List.getElem?_eq_getElem (by rw [HM.out]; exact hlt)⟩
        obtain ⟨ad, C0, c0, rfl, hadb, hx0, hp1, _⟩ := row_Ord (ha.below (hbel.mono hB)) hx
        obtain ⟨ad', D0, d0, rfl, hadb', hy0, hp3, _⟩ := row_Ord (hb.below (hbel.mono hB')) hy
        have HXA := Lib.hid hx0
        have HYA := Lib.hid hy0
        have hbb : (ad.add (k * 16)).block < wr.heap.size := by rw [block_of_add]; omega
        have hbb' : (ad'.add (k * 16)).block < wr.heap.size := by rw [block_of_add]; omega
        have HX := Lib.hid (eqGo_step (p := sameO) hx hy)
        have hk0 : (0 : Int) ≤ (k : Int) := by omega
        have hkn : (k : Int) < (n : Int) := by omega
        clear hx hy hx0 hy0
        obtain ⟨q, hq⟩ : ∃ q, sameO x y = q := ⟨_, rfl⟩
        have HP := Lib.hid hq
        have HC : Hid (∀ w', Below wr.heap.size wr w' → Calls Tryd.prog 26 #[.agg #[.string x.name, .slice C0 x.load.length c0, .int .i64 x.pick.place, .int .i64 x.pick.opn, .int .i64 x.pick.close, .int .i64 x.pick.service, .int .i64 x.drop.place, .int .i64 x.drop.opn, .int .i64 x.drop.close, .int .i64 x.drop.service, .int .i64 x.skills, .int .i64 x.penalty, .int .i64 x.split, .int .i64 x.last, .int .i64 x.now, .bool x.off], .agg #[.string y.name, .slice D0 y.load.length d0, .int .i64 y.pick.place, .int .i64 y.pick.opn, .int .i64 y.pick.close, .int .i64 y.pick.service, .int .i64 y.drop.place, .int .i64 y.drop.opn, .int .i64 y.drop.close, .int .i64 y.drop.service, .int .i64 y.skills, .int .i64 y.penalty, .int .i64 y.split, .int .i64 y.last, .int .i64 y.now, .bool y.off]] w' fun e w'' => e = .returned (.bool q) ∧ Below w'.heap.size w' w'') := Lib.hid fun w' hw => by rw [← hq]; exact ord.osame_any x y C0 c0 D0 d0 w' (Ints.go hp1 (by omega) hw) (Ints.go hp3 (by omega) hw)
        clear hq hp1 hp3
        go_upto_region 5 with fail
        go_cut [7, 8] from 18 to 31 (fun i p wx => i = .int .i64 k ∧ p = .pointer (some ⟨wr.heap.size, 0, none⟩) ∧ OrBlk wx wr.heap.size x C0 c0 ∧ Below wr.heap.size wr wx ∧ wx.heap.size = wr.heap.size + 1)
        case first => as_aux_lemma =>
          obtain ⟨m0, m1, m2, m3, m4, m5, m6, m7, m8, m9, m10, m11, m12, m13, m14, m15⟩ := HXA.out
          go_wp2
          go_meet
          refine ⟨rfl, rfl, ?_, (Below.refl _ _).alloc (Nat.le_refl _) _, by simp⟩
          exact World.alloc_heap_new wr _
        obtain ⟨hi7, hp8, hblk, hb1, hs1⟩ := hcut
        subst hi7
        subst hp8
        have hbb2 : (ad'.add (k * 16)).block < wc.heap.size := by omega
        have HYB : Hid (OrdAt wc (ad'.add (k * 16)) y D0 d0) := Lib.hid (by
          obtain ⟨n0, n1, n2, n3, n4, n5, n6, n7, n8, n9, n10, n11, n12, n13, n14, n15⟩ := HYA.out
          have hk := fun (o : Nat) => hb1.cell (p := ⟨(ad'.add (k * 16)).block, o, none⟩) hbb'
          exact ⟨(hb1.cell hbb').trans n0, (hk _).trans n1, (hk _).trans n2, (hk _).trans n3, (hk _).trans n4, (hk _).trans n5, (hk _).trans n6, (hk _).trans n7, (hk _).trans n8, (hk _).trans n9, (hk _).trans n10, (hk _).trans n11, (hk _).trans n12, (hk _).trans n13, (hk _).trans n14, (hk _).trans n15⟩)
        have HBLK := Lib.hid hblk
        have HS1 := Lib.hid hs1
        clear hblk hs1
        obtain ⟨wd, hwd⟩ : ∃ wd, wc = wd := ⟨_, rfl⟩
        have HWD := Lib.hid hwd
        go_upto_region 6 with fail
        go_cut [9] from 22 to 31 (fun p wx => p = .pointer (some ⟨wd.heap.size, 0, none⟩) ∧ OrBlk wx wr.heap.size x C0 c0 ∧ OrBlk wx wd.heap.size y D0 d0 ∧ Below wr.heap.size wr wx)
        case first => as_aux_lemma =>
          obtain ⟨m0, m1, m2, m3, m4, m5, m6, m7, m8, m9, m10, m11, m12, m13, m14, m15⟩ := HYB.out
          clear hwd
          go_wp2
          go_meet
          have e := HWD.out
          subst e
          refine ⟨rfl, ?_, World.alloc_heap_new wc _, hb1.alloc hb1.size _⟩
          exact (Below.heap_alloc _ _ _ (by have := HS1.out; omega)).trans HBLK.out
        obtain ⟨hp9, hblk1, hblk2, hb2⟩ := hcut
        subst hp9
        clear hwd
        obtain ⟨m0, m1, m2, m3, m4, m5, m6, m7, m8, m9, m10, m11, m12, m13, m14, m15⟩ := hblk1.cells
        obtain ⟨n0, n1, n2, n3, n4, n5, n6, n7, n8, n9, n10, n11, n12, n13, n14, n15⟩ := hblk2.cells
        cases q
        · as_aux_lemma =>
            go_wp2_with (go_at_call 26; refine (HC.out _ hb2).mono ?_; rintro e w1 ⟨rfl, hb3⟩)
            go_ret
            exact ⟨ret_bool (by rw [hr.out, HX.out, HP.out]; rfl), hbel.trans ((hb2.mono hz).trans (hb3.mono (by have := hb2.size; omega)))⟩
        · as_aux_lemma =>
            go_wp2_with (go_at_call 26; refine (HC.out _ hb2).mono ?_; rintro e w1 ⟨rfl, hb3⟩)
            go_roundw
            case rel => exact ⟨k + 1, by omega, by go_num, Lib.hid (by rw [hr.out, HX.out, HP.out, Bool.true_and]), hbel.trans ((hb2.mono hz).trans (hb3.mono (by have := hb2.size; omega)))⟩
            case measure => simp [intOf]; omega
      · have hkn : k = n := by omega
        subst hkn
        clear hlt
        go_wp2
        go_ret
        exact ⟨ret_bool (by rw [hr.out, eqGo_end (by rw [HN.out]; exact Nat.le_refl _)]), hbel⟩
  · have hd2 : ((n : Int) == (m : Int)) = false := by simp; omega
    have hd3 : ((n : Int) != (m : Int)) = true := by simp; omega
    have HD : Hid (eqL sameO a b = false) := Lib.hid (eqL_no (by omega))
    clear h hn hm
    go_enter Tryd.func25, Tryd.ntmps25
    go_wp2
    go_ret
    exact ⟨ret_bool (by rw [HD.out]), Below.refl _ _⟩
end Go.Proofs.YtceceomaheobhaaDoor.ins

/- The same instances: the program. -/
namespace Go.Proofs.YtceceomaheobhaaDoor.ins
open Go.RowKit
open Go.Proofs.YtceceomaheobhaaDoor.lib Go.Proofs.YtceceomaheobhaaDoor.rd Go.Proofs.YtceceomaheobhaaDoor.typ Go.Proofs.YtceceomaheobhaaDoor.eqg Go.Proofs.YtceceomaheobhaaDoor.note
set_option linter.unusedVariables false
set_option linter.unusedSimpArgs false

def sameI (a b : Ins) : Bool := eqL sameS a.net.places b.net.places && (eqL sameA a.net.arcs b.net.arcs && (eqL flt.sameT a.types b.types && (eqL ord.sameO a.orders b.orders && (eqL twoEq a.apart b.apart && (eqL twoEq a.before b.before)))))
set_option maxRecDepth 20000 in
set_option maxHeartbeats 4000000 in
theorem same_any (a b : Ins) (P Q : InP) (w : World) (hP : InAt w w.heap.size a P) (hQ : InAt w w.heap.size b Q) :
    Calls Tryd.prog 12 #[InV a P, InV b Q] w fun e w' => e = .returned (.bool (sameI a b)) ∧ Below w.heap.size w w' := by
  obtain ⟨A0, c0, A1, c1, A2, c2, A3, c3, A4, c4, A5, c5⟩ := P
  obtain ⟨D0, d0, D1, d1, D2, d2, D3, d3, D4, d4, D5, d5⟩ := Q
  obtain ⟨R, hR⟩ : ∃ R, sameI a b = R := ⟨_, rfl⟩
  have HR0 : Hid (R = (eqL sameS a.net.places b.net.places && (eqL sameA a.net.arcs b.net.arcs && (eqL flt.sameT a.types b.types && (eqL ord.sameO a.orders b.orders && (eqL twoEq a.apart b.apart && (eqL twoEq a.before b.before))))))) := Lib.hid (by rw [← hR]; rfl)
  rw [hR]
  simp only [InV]
  obtain ⟨W0, hW0⟩ : ∃ W0, (w.alloc (.cells #[.slice A0 a.net.places.length c0, .slice A1 a.net.arcs.length c1, .slice A2 a.types.length c2, .slice A3 a.orders.length c3, .slice A4 a.apart.length c4, .slice A5 a.before.length c5] 30)).alloc (.cells #[.slice D0 b.net.places.length d0, .slice D1 b.net.arcs.length d1, .slice D2 b.types.length d2, .slice D3 b.orders.length d3, .slice D4 b.apart.length d4, .slice D5 b.before.length d5] 30) = W0 := ⟨_, rfl⟩
  have hB0 : Below w.heap.size w W0 := by rw [← hW0]; exact ((Below.refl _ _).alloc (Nat.le_refl _) _).alloc (by simp) _
  have z0 := hB0.size
  have hs0 : w.heap.size + 1 < W0.heap.size := by rw [← hW0]; simp
  have HS : Hid (∀ w', Below W0.heap.size W0 w' → w'.cell? ⟨w.heap.size, 0, none⟩ = some (.slice A0 a.net.places.length c0) ∧ w'.cell? ⟨w.heap.size, 1, none⟩ = some (.slice A1 a.net.arcs.length c1) ∧ w'.cell? ⟨w.heap.size, 2, none⟩ = some (.slice A2 a.types.length c2) ∧ w'.cell? ⟨w.heap.size, 3, none⟩ = some (.slice A3 a.orders.length c3) ∧ w'.cell? ⟨w.heap.size, 4, none⟩ = some (.slice A4 a.apart.length c4) ∧ w'.cell? ⟨w.heap.size, 5, none⟩ = some (.slice A5 a.before.length c5) ∧ w'.cell? ⟨w.heap.size + 1, 0, none⟩ = some (.slice D0 b.net.places.length d0) ∧ w'.cell? ⟨w.heap.size + 1, 1, none⟩ = some (.slice D1 b.net.arcs.length d1) ∧ w'.cell? ⟨w.heap.size + 1, 2, none⟩ = some (.slice D2 b.types.length d2) ∧ w'.cell? ⟨w.heap.size + 1, 3, none⟩ = some (.slice D3 b.orders.length d3) ∧ w'.cell? ⟨w.heap.size + 1, 4, none⟩ = some (.slice D4 b.apart.length d4) ∧ w'.cell? ⟨w.heap.size + 1, 5, none⟩ = some (.slice D5 b.before.length d5)) := Lib.hid fun w' h => by
    have hk := fun (o : Nat) => h.cell (p := ⟨w.heap.size, o, none⟩) (show w.heap.size < W0.heap.size by omega)
    have hk1 := fun (o : Nat) => h.cell (p := ⟨w.heap.size + 1, o, none⟩) hs0
    refine ⟨(hk _).trans ?_, (hk _).trans ?_, (hk _).trans ?_, (hk _).trans ?_, (hk _).trans ?_, (hk _).trans ?_, (hk1 _).trans ?_, (hk1 _).trans ?_, (hk1 _).trans ?_, (hk1 _).trans ?_, (hk1 _).trans ?_, (hk1 _).trans ?_⟩
    all_goals (rw [← hW0]; simp)
  have HP : Hid (∀ w', Below W0.heap.size W0 w' → InAt w' w'.heap.size a ⟨A0, c0, A1, c1, A2, c2, A3, c3, A4, c4, A5, c5⟩ ∧ InAt w' w'.heap.size b ⟨D0, d0, D1, d1, D2, d2, D3, d3, D4, d4, D5, d5⟩) := Lib.hid fun w' h => ⟨(hP.go hB0).go h, (hQ.go hB0).go h⟩
  have B0 : Below W0.heap.size W0 W0 := Below.refl _ _
  have HW0 := Lib.hid hW0
  clear hR hW0 hP hQ
  go_enter Tryd.func12, Tryd.ntmps12
  go_wp2_with fail
  rw [HW0.out]
  refine (eqStr_any A0 c0 a.net.places _ rfl D0 d0 b.net.places _ rfl _ _ _ (Nat.le_refl _) (Nat.le_refl _) (HP.out _ B0).1.places (HP.out _ B0).2.places).mono ?_
  rintro e w1 ⟨rfl, hb1⟩
  have B1 : Below W0.heap.size W0 w1 := B0.trans (hb1.mono B0.size)
  obtain ⟨m0, m1, m2, m3, m4, m5, n0, n1, n2, n3, n4, n5⟩ := HS.out _ B1
  cases hq0 : eqL sameS a.net.places b.net.places
  · have HT : Hid (R = false) := Lib.hid (by rw [HR0.out, hq0]; rfl)
    go_wp2
    go_ret
    exact ⟨ret_bool HT.out.symm, hB0.trans (B1.mono z0)⟩
  have HR1 : Hid (R = (eqL sameA a.net.arcs b.net.arcs && (eqL flt.sameT a.types b.types && (eqL ord.sameO a.orders b.orders && (eqL twoEq a.apart b.apart && (eqL twoEq a.before b.before)))))) := Lib.hid (by rw [HR0.out, hq0]; rfl)
  clear hq0 hb1
  go_wp2_with fail
  refine (eqArc_any A1 c1 a.net.arcs _ rfl D1 d1 b.net.arcs _ rfl _ _ _ (Nat.le_refl _) (Nat.le_refl _) (HP.out _ B1).1.arcs (HP.out _ B1).2.arcs).mono ?_
  rintro e w2 ⟨rfl, hb2⟩
  have B2 : Below W0.heap.size W0 w2 := B1.trans (hb2.mono B1.size)
  obtain ⟨m0, m1, m2, m3, m4, m5, n0, n1, n2, n3, n4, n5⟩ := HS.out _ B2
  cases hq1 : eqL sameA a.net.arcs b.net.arcs
  · have HT : Hid (R = false) := Lib.hid (by rw [HR1.out, hq1]; rfl)
    go_wp2
    go_ret
    exact ⟨ret_bool HT.out.symm, hB0.trans (B2.mono z0)⟩
  have HR2 : Hid (R = (eqL flt.sameT a.types b.types && (eqL ord.sameO a.orders b.orders && (eqL twoEq a.apart b.apart && (eqL twoEq a.before b.before))))) := Lib.hid (by rw [HR1.out, hq1]; rfl)
  clear hq1 hb2
  go_wp2_with fail
  refine (eqTy_any A2 c2 a.types _ rfl D2 d2 b.types _ rfl _ _ _ (Nat.le_refl _) (Nat.le_refl _) (HP.out _ B2).1.types (HP.out _ B2).2.types).mono ?_
  rintro e w3 ⟨rfl, hb3⟩
  have B3 : Below W0.heap.size W0 w3 := B2.trans (hb3.mono B2.size)
  obtain ⟨m0, m1, m2, m3, m4, m5, n0, n1, n2, n3, n4, n5⟩ := HS.out _ B3
  cases hq2 : eqL flt.sameT a.types b.types
  · have HT : Hid (R = false) := Lib.hid (by rw [HR2.out, hq2]; rfl)
    go_wp2
    go_ret
    exact ⟨ret_bool HT.out.symm, hB0.trans (B3.mono z0)⟩
  have HR3 : Hid (R = (eqL ord.sameO a.orders b.orders && (eqL twoEq a.apart b.apart && (eqL twoEq a.before b.before)))) := Lib.hid (by rw [HR2.out, hq2]; rfl)
  clear hq2 hb3
  go_wp2_with fail
  refine (eqOrd_any A3 c3 a.orders _ rfl D3 d3 b.orders _ rfl _ _ _ (Nat.le_refl _) (Nat.le_refl _) (HP.out _ B3).1.orders (HP.out _ B3).2.orders).mono ?_
  rintro e w4 ⟨rfl, hb4⟩
  have B4 : Below W0.heap.size W0 w4 := B3.trans (hb4.mono B3.size)
  obtain ⟨m0, m1, m2, m3, m4, m5, n0, n1, n2, n3, n4, n5⟩ := HS.out _ B4
  cases hq3 : eqL ord.sameO a.orders b.orders
  · have HT : Hid (R = false) := Lib.hid (by rw [HR3.out, hq3]; rfl)
    go_wp2
    go_ret
    exact ⟨ret_bool HT.out.symm, hB0.trans (B4.mono z0)⟩
  have HR4 : Hid (R = (eqL twoEq a.apart b.apart && (eqL twoEq a.before b.before))) := Lib.hid (by rw [HR3.out, hq3]; rfl)
  clear hq3 hb4
  go_wp2_with fail
  refine (eqTwo_any A4 c4 a.apart _ rfl D4 d4 b.apart _ rfl _ _ _ (Nat.le_refl _) (Nat.le_refl _) (HP.out _ B4).1.apart (HP.out _ B4).2.apart).mono ?_
  rintro e w5 ⟨rfl, hb5⟩
  have B5 : Below W0.heap.size W0 w5 := B4.trans (hb5.mono B4.size)
  obtain ⟨m0, m1, m2, m3, m4, m5, n0, n1, n2, n3, n4, n5⟩ := HS.out _ B5
  cases hq4 : eqL twoEq a.apart b.apart
  · have HT : Hid (R = false) := Lib.hid (by rw [HR4.out, hq4]; rfl)
    go_wp2
    go_ret
    exact ⟨ret_bool HT.out.symm, hB0.trans (B5.mono z0)⟩
  have HR5 : Hid (R = (eqL twoEq a.before b.before)) := Lib.hid (by rw [HR4.out, hq4]; rfl)
  clear hq4 hb5
  go_wp2_with fail
  refine (eqTwo_any A5 c5 a.before _ rfl D5 d5 b.before _ rfl _ _ _ (Nat.le_refl _) (Nat.le_refl _) (HP.out _ B5).1.before (HP.out _ B5).2.before).mono ?_
  rintro e w6 ⟨rfl, hb6⟩
  have B6 : Below W0.heap.size W0 w6 := B5.trans (hb6.mono B5.size)
  go_wp2
  go_ret
  exact ⟨ret_bool HR5.out.symm, hB0.trans (B6.mono z0)⟩
end Go.Proofs.YtceceomaheobhaaDoor.ins

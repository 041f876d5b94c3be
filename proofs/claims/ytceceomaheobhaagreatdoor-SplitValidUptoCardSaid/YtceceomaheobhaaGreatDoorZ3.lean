/- Joined texts: InsA InsD InsE InsF InsH OnlA. -/
import Derived.Test.YtceceomaheobhaaGreatDoorBase
import Derived.Deep.QuietTactic
import Derived.BigQuiet
import Derived.Test.YtceceomaheobhaaGreatDoorOrdI
import Derived.Test.YtceceomaheobhaaGreatDoorFltX
import Derived.Test.YtceceomaheobhaaGreatDoorZ1
import Derived.Deep.DeepCutAuto
import Derived.Outline
/- Instances: where they lie; the sets of all orders and of those that must be served. -/
namespace Go.Proofs.YtceceomaheobhaaGreatDoor.ins
open Go.RowKit
open Go.Proofs.YtceceomaheobhaaGreatDoor.lib Go.Proofs.YtceceomaheobhaaGreatDoor.rd Go.Proofs.YtceceomaheobhaaGreatDoor.typ Go.Proofs.YtceceomaheobhaaGreatDoor.sch Go.Proofs.YtceceomaheobhaaGreatDoor.sets
set_option linter.unusedVariables false
set_option linter.unusedSimpArgs false

/-- Where an instance's lists lie. -/
structure InP where
  a0 : Option Addr
  c0 : Nat
  a1 : Option Addr
  c1 : Nat
  a2 : Option Addr
  c2 : Nat
  a3 : Option Addr
  c3 : Nat
  a4 : Option Addr
  c4 : Nat
  a5 : Option Addr
  c5 : Nat
abbrev InV (x : Ins) (P : InP) : Value := .agg #[.slice P.a0 x.net.places.length P.c0, .slice P.a1 x.net.arcs.length P.c1, .slice P.a2 x.types.length P.c2, .slice P.a3 x.orders.length P.c3, .slice P.a4 x.apart.length P.c4, .slice P.a5 x.before.length P.c5]
structure InAt (w : World) (B : Nat) (x : Ins) (P : InP) : Prop where
  places : RowAt rStr w B P.a0 x.net.places
  arcs : RowAt rArc w B P.a1 x.net.arcs
  types : RowAt rTy w B P.a2 x.types
  orders : RowAt rOrd w B P.a3 x.orders
  apart : RowAt (rPair rInt rInt) w B P.a4 x.apart
  before : RowAt (rPair rInt rInt) w B P.a5 x.before
  capT : x.types.length ≤ P.c2
  capO : x.orders.length ≤ P.c3
  capA : x.apart.length ≤ P.c4
  capB : x.before.length ≤ P.c5
theorem InAt.below {w w' : World} {B : Nat} {x : Ins} {P : InP} (h : InAt w B x P) (hb : Below B w w') : InAt w' B x P := ⟨h.1.below hb, h.2.below hb, h.3.below hb, h.4.below hb, h.5.below hb, h.6.below hb, h.7, h.8, h.9, h.10⟩
theorem InAt.more {w : World} {B B' : Nat} {x : Ins} {P : InP} (h : InAt w B x P) (hB : B ≤ B') : InAt w B' x P := ⟨h.1.more hB, h.2.more hB, h.3.more hB, h.4.more hB, h.5.more hB, h.6.more hB, h.7, h.8, h.9, h.10⟩
theorem InAt.go {w w' : World} {x : Ins} {P : InP} (h : InAt w w.heap.size x P) (hb : Below w.heap.size w w') : InAt w' w'.heap.size x P := (h.below hb).more hb.size

def allP (o : Ord) : Bool := !o.off
def mustP (o : Ord) : Bool := !o.off && (o.penalty == -1)
theorem mustP_all (o : Ord) (h : mustP o = true) : allP o = true := by unfold mustP at h; unfold allP; simp only [Bool.and_eq_true] at h; exact h.1
theorem wrap_p2 {k : Nat} (h2 : p2 k ≤ 2305843009213693952) : wrap64 (2 ^ k) = (p2 k : Int) := by
  have e : ((2 : Int) ^ k) = (p2 k : Int) := by rw [p2_eq]; simp
  rw [e]
  generalize p2 k = z at *
  unfold wrap64
  omega
theorem or_small {s k : Nat} (h1 : s < p2 k) (h2 : p2 k ≤ 2305843009213693952) : bits .or .i64 (s : Int) (wrap64 (2 ^ k)) = ((s ||| p2 k : Nat) : Int) := by
  rw [wrap_p2 h2]
  generalize p2 k = z at *
  exact or_nat s z (by omega) (by omega)
theorem allF_any (o : Ord) (b : Bool) (C : Option Addr) (c : Nat) (w : World) : Calls Tryz.prog 50 #[.agg #[.string o.name, .slice C o.load.length c, .int .i64 o.pick.place, .int .i64 o.pick.opn, .int .i64 o.pick.close, .int .i64 o.pick.service, .int .i64 o.drop.place, .int .i64 o.drop.opn, .int .i64 o.drop.close, .int .i64 o.drop.service, .int .i64 o.skills, .int .i64 o.penalty, .int .i64 o.split, .int .i64 o.last, .int .i64 o.now, .bool b]] w fun e w' => e = .returned (.bool true) ∧ Below w.heap.size w w' := by
  go_enter Tryz.func50, Tryz.ntmps50
  go_wp2
  go_ret
  exact ⟨rfl, (Below.refl _ _).alloc (Nat.le_refl _) _⟩
theorem mustF_any (o : Ord) (b : Bool) (C : Option Addr) (c : Nat) (w : World) : Calls Tryz.prog 51 #[.agg #[.string o.name, .slice C o.load.length c, .int .i64 o.pick.place, .int .i64 o.pick.opn, .int .i64 o.pick.close, .int .i64 o.pick.service, .int .i64 o.drop.place, .int .i64 o.drop.opn, .int .i64 o.drop.close, .int .i64 o.drop.service, .int .i64 o.skills, .int .i64 o.penalty, .int .i64 o.split, .int .i64 o.last, .int .i64 o.now, .bool b]] w fun e w' => e = .returned (.bool (o.penalty == -1)) ∧ Below w.heap.size w w' := by
  go_enter Tryz.func51, Tryz.ntmps51
  go_wp2
  go_ret
  exact ⟨rfl, (Below.refl _ _).alloc (Nat.le_refl _) _⟩

set_option maxHeartbeats 2000000 in
theorem allSuch_any (x : Ins) (P : InP) (w : World) (h : InAt w w.heap.size x P) (hl : x.orders.length ≤ 61) :
    Calls Tryz.prog 49 #[InV x P, .func (.func 50) #[] #[]] w fun e w' => e = .returned (.int .i64 (suchN allP x.orders x.orders.length)) ∧ Below w.heap.size w w' := by
  obtain ⟨a0, c0, a1, c1, a2, c2, a3, c3, a4, c4, a5, c5⟩ := P
  have hL := h.orders
  obtain ⟨n, hn⟩ : ∃ n, x.orders.length = n := ⟨_, rfl⟩
  obtain ⟨l, hxl⟩ : ∃ l, x.orders = l := ⟨_, rfl⟩
  have HN : Hid (l.length = n) := Lib.hid (by rw [← hxl]; exact hn)
  rw [hn] at hl
  simp only [InV]
  rw [hn]
  rw [hxl] at hL ⊢
  clear hn hxl h
  go_enter Tryz.func49, Tryz.ntmps49
  go_wp2
  go_loopw [5, 6, 7, 11] (fun v _ _ i wr => ∃ k : Nat, k ≤ n ∧ i = .int .i64 k ∧ v = .int .i64 (suchN allP l k) ∧ Below w.heap.size w wr) (fun _ _ _ i _ => n - (intOf i).toNat)
  case atStart => exact ⟨0, by omega, rfl, by rw [such_zero]; rfl, by repeat (first | assumption | exact Below.refl _ _ | refine Below.drew ?_ | refine Below.alloc ?_ (by first | omega | (simp <;> omega)) _ | refine Below.setCell ?_ (by first | omega | (simp <;> omega)) _)⟩
  case round =>
    obtain ⟨k, hk, rfl, rfl, hb⟩ := hrel
    have hz := hb.size
    by_cases hlt : k < n
    · obtain ⟨o, ho⟩ : ∃ o, l[k]? = some o := ⟨_, List.getElem?_eq_getElem (by rw [HN.out]; exact hlt)⟩
      obtain ⟨ad, C0, c0, rfl, hadb, ⟨m0, m1, m2, m3, m4, m5, m6, m7, m8, m9, m10, m11, m12, m13, m14, m15⟩, _, _⟩ := row_Ord (hL.below hb) ho
      have hk0 : (0 : Int) ≤ (k : Int) := by omega
      have hkn : (k : Int) < (n : Int) := by omega
      have HB := Lib.hid (such_lt allP l k)
      have HY : Hid (allP o = true → suchN allP l (k + 1) = suchN allP l k ||| p2 k) := Lib.hid (fun hp => such_yes ho hp)
      have HNO : Hid (allP o = false → suchN allP l (k + 1) = suchN allP l k) := Lib.hid (fun hp => such_no ho hp)
      obtain ⟨s, hs⟩ : ∃ s, suchN allP l k = s := ⟨_, rfl⟩
      rw [hs] at HB HY HNO
      simp only [hs]
      have hpw := p2_le (k := k) (by omega)
      have HS : Hid (bits .or .i64 (s : Int) (wrap64 (2 ^ k)) = ((s ||| p2 k : Nat) : Int)) := Lib.hid (or_small HB.out hpw)
      clear ho hs
      cases hoff : o.off
      case false =>
        have HF : Hid (suchN allP l (k + 1) = s ||| p2 k) := Lib.hid (HY.out (by unfold allP; rw [hoff]; rfl))
        go_wp2_with (go_at_call 50; refine (allF_any o false _ _ _).mono ?_; rintro e w1 ⟨rfl, hb1⟩)
        go_roundw
        case rel => exact ⟨k + 1, by omega, by go_num, by first | (rw [HF.out]; done) | rw [HF.out, ← HS.out], (hb.alloc hz _).trans (hb1.mono (by simp; omega))⟩
        case measure => simp [intOf]; omega
      case true =>
        have HF : Hid (suchN allP l (k + 1) = s) := Lib.hid (HNO.out (by unfold allP; rw [hoff]; rfl))
        go_wp2
        go_roundw
        case rel => exact ⟨k + 1, by omega, by go_num, by rw [HF.out], hb.alloc hz _⟩
        case measure => simp [intOf]; omega
    · have hkn : k = n := by omega
      subst hkn
      go_wp2
      go_ret
      exact ⟨rfl, hb⟩
set_option maxHeartbeats 2000000 in
theorem mustSuch_any (x : Ins) (P : InP) (w : World) (h : InAt w w.heap.size x P) (hl : x.orders.length ≤ 61) :
    Calls Tryz.prog 49 #[InV x P, .func (.func 51) #[] #[]] w fun e w' => e = .returned (.int .i64 (suchN mustP x.orders x.orders.length)) ∧ Below w.heap.size w w' := by
  obtain ⟨a0, c0, a1, c1, a2, c2, a3, c3, a4, c4, a5, c5⟩ := P
  have hL := h.orders
  obtain ⟨n, hn⟩ : ∃ n, x.orders.length = n := ⟨_, rfl⟩
  obtain ⟨l, hxl⟩ : ∃ l, x.orders = l := ⟨_, rfl⟩
  have HN : Hid (l.length = n) := Lib.hid (by rw [← hxl]; exact hn)
  rw [hn] at hl
  simp only [InV]
  rw [hn]
  rw [hxl] at hL ⊢
  clear hn hxl h
  go_enter Tryz.func49, Tryz.ntmps49
  go_wp2
  go_loopw [5, 6, 7, 11] (fun v _ _ i wr => ∃ k : Nat, k ≤ n ∧ i = .int .i64 k ∧ v = .int .i64 (suchN mustP l k) ∧ Below w.heap.size w wr) (fun _ _ _ i _ => n - (intOf i).toNat)
  case atStart => exact ⟨0, by omega, rfl, by rw [such_zero]; rfl, by repeat (first | assumption | exact Below.refl _ _ | refine Below.drew ?_ | refine Below.alloc ?_ (by first | omega | (simp <;> omega)) _ | refine Below.setCell ?_ (by first | omega | (simp <;> omega)) _)⟩
  case round =>
    obtain ⟨k, hk, rfl, rfl, hb⟩ := hrel
    have hz := hb.size
    by_cases hlt : k < n
    · obtain ⟨o, ho⟩ : ∃ o, l[k]? = some o := ⟨_, List.getElem?_eq_getElem (by rw [HN.out]; exact hlt)⟩
      obtain ⟨ad, C0, c0, rfl, hadb, ⟨m0, m1, m2, m3, m4, m5, m6, m7, m8, m9, m10, m11, m12, m13, m14, m15⟩, _, _⟩ := row_Ord (hL.below hb) ho
      have hk0 : (0 : Int) ≤ (k : Int) := by omega
      have hkn : (k : Int) < (n : Int) := by omega
      have HB := Lib.hid (such_lt mustP l k)
      have HY : Hid (mustP o = true → suchN mustP l (k + 1) = suchN mustP l k ||| p2 k) := Lib.hid (fun hp => such_yes ho hp)
      have HNO : Hid (mustP o = false → suchN mustP l (k + 1) = suchN mustP l k) := Lib.hid (fun hp => such_no ho hp)
      obtain ⟨s, hs⟩ : ∃ s, suchN mustP l k = s := ⟨_, rfl⟩
      rw [hs] at HB HY HNO
      simp only [hs]
      have hpw := p2_le (k := k) (by omega)
      have HS : Hid (bits .or .i64 (s : Int) (wrap64 (2 ^ k)) = ((s ||| p2 k : Nat) : Int)) := Lib.hid (or_small HB.out hpw)
      clear ho hs
      cases hoff : o.off
      case false =>
        cases hpen : (o.penalty == -1)
        case true =>
          have HF : Hid (suchN mustP l (k + 1) = s ||| p2 k) := Lib.hid (HY.out (by unfold mustP; rw [hoff, hpen]; rfl))
          go_wp2_with (go_at_call 51; refine (mustF_any o false _ _ _).mono ?_; rintro e w1 ⟨rfl, hb1⟩)
          go_roundw
          case rel => exact ⟨k + 1, by omega, by go_num, by first | (rw [HF.out]; done) | rw [HF.out, ← HS.out], (hb.alloc hz _).trans (hb1.mono (by simp; omega))⟩
          case measure => simp [intOf]; omega
        case false =>
          have HF : Hid (suchN mustP l (k + 1) = s) := Lib.hid (HNO.out (by unfold mustP; rw [hoff, hpen]; rfl))
          go_wp2_with (go_at_call 51; refine (mustF_any o false _ _ _).mono ?_; rintro e w1 ⟨rfl, hb1⟩)
          go_roundw
          case rel => exact ⟨k + 1, by omega, by go_num, by first | (rw [HF.out]; done) | rw [HF.out, ← HS.out], (hb.alloc hz _).trans (hb1.mono (by simp; omega))⟩
          case measure => simp [intOf]; omega
      case true =>
        have HF : Hid (suchN mustP l (k + 1) = s) := Lib.hid (HNO.out (by unfold mustP; rw [hoff]; rfl))
        go_wp2
        go_roundw
        case rel => exact ⟨k + 1, by omega, by go_num, by rw [HF.out], hb.alloc hz _⟩
        case measure => simp [intOf]; omega
    · have hkn : k = n := by omega
      subst hkn
      go_wp2
      go_ret
      exact ⟨rfl, hb⟩

theorem all_any (x : Ins) (P : InP) (w : World) (h : InAt w w.heap.size x P) (hl : x.orders.length ≤ 61) :
    Calls Tryz.prog 19 #[InV x P] w fun e w' => e = .returned (.int .i64 (suchN allP x.orders x.orders.length)) ∧ Below w.heap.size w w' := by
  have H : Hid (∀ o, Calls Tryz.prog 49 #[InV x P, .func (.func 50) #[] #[]] (w.alloc o) fun e w' => e = .returned (.int .i64 (suchN allP x.orders x.orders.length)) ∧ Below (w.alloc o).heap.size (w.alloc o) w') := Lib.hid fun o => allSuch_any x P _ (h.go ((Below.refl _ _).alloc (Nat.le_refl _) _)) hl
  clear h hl
  go_enter Tryz.func19, Tryz.ntmps19
  go_wp2_with fail
  refine (H.out _).mono ?_
  rintro e w1 ⟨rfl, hb1⟩
  go_wp2
  go_ret
  exact ⟨rfl, ((Below.refl _ _).alloc (Nat.le_refl _) _).trans (hb1.mono (by simp))⟩
theorem must_any (x : Ins) (P : InP) (w : World) (h : InAt w w.heap.size x P) (hl : x.orders.length ≤ 61) :
    Calls Tryz.prog 20 #[InV x P] w fun e w' => e = .returned (.int .i64 (suchN mustP x.orders x.orders.length)) ∧ Below w.heap.size w w' := by
  have H : Hid (∀ o, Calls Tryz.prog 49 #[InV x P, .func (.func 51) #[] #[]] (w.alloc o) fun e w' => e = .returned (.int .i64 (suchN mustP x.orders x.orders.length)) ∧ Below (w.alloc o).heap.size (w.alloc o) w') := Lib.hid fun o => mustSuch_any x P _ (h.go ((Below.refl _ _).alloc (Nat.le_refl _) _)) hl
  clear h hl
  go_enter Tryz.func20, Tryz.ntmps20
  go_wp2_with fail
  refine (H.out _).mono ?_
  rintro e w1 ⟨rfl, hb1⟩
  go_wp2
  go_ret
  exact ⟨rfl, ((Below.refl _ _).alloc (Nat.le_refl _) _).trans (hb1.mono (by simp))⟩
end Go.Proofs.YtceceomaheobhaaGreatDoor.ins

/- Equal lists of texts, pairs, points; the same arcs. -/
namespace Go.Proofs.YtceceomaheobhaaGreatDoor.ins
open Go.RowKit
open Go.Proofs.YtceceomaheobhaaGreatDoor.lib Go.Proofs.YtceceomaheobhaaGreatDoor.rd Go.Proofs.YtceceomaheobhaaGreatDoor.typ Go.Proofs.YtceceomaheobhaaGreatDoor.eqg Go.Proofs.YtceceomaheobhaaGreatDoor.note
set_option linter.unusedVariables false
set_option linter.unusedSimpArgs false

def ptEq (x y : Pt) : Bool := x.t == y.t && x.a == y.a
theorem ptEq_comm (x y : Pt) : ptEq x y = ptEq y x := by unfold ptEq; rw [int_comm x.t, int_comm x.a]
theorem ptEq_self (x : Pt) : ptEq x x = true := by unfold ptEq; simp
theorem ptcase (x y : Pt) : (Hid (ptEq x y = false) ∧ (x.t == y.t) = false ∧ (x.t != y.t) = true) ∨ (Hid (ptEq x y = false) ∧ x.t = y.t ∧ (x.a == y.a) = false) ∨ (Hid (ptEq x y = true) ∧ x.t = y.t ∧ x.a = y.a) := by
  by_cases h1 : x.t = y.t
  · by_cases h2 : x.a = y.a
    · exact .inr (.inr ⟨Lib.hid (by simp [ptEq, h1, h2]), h1, h2⟩)
    · exact .inr (.inl ⟨Lib.hid (by simp [ptEq, h2]), h1, by simp [h2]⟩)
  · exact .inl ⟨Lib.hid (by simp [ptEq, h1]), by simp [h1], by simp [h1]⟩
theorem two_run (x y : Int × Int) (w : World) : (Op.equalIn 10000 88 (.agg #[.int .i64 x.1, .int .i64 x.2]) (.agg #[.int .i64 y.1, .int .i64 y.2])).run Tryz.prog w = .ok (twoEq x y) w := by
  obtain ⟨i0, hi, _⟩ := info_parts int_info
  have h := arr.run_eq_ints (t := 88) w 9998 Tryz.underlying88 hi [x.1, x.2] [y.1, y.2] rfl rfl
  have e : decide ([x.1, x.2] = [y.1, y.2]) = twoEq x y := by
    unfold twoEq
    rw [Bool.eq_iff_iff]
    simp
  rw [e] at h
  exact h

set_option maxHeartbeats 1000000 in
theorem eqStr_any (A : Option Addr) (c : Nat) (a : List _) (n : Nat) (hn : a.length = n) (A' : Option Addr) (c' : Nat) (b : List _) (m : Nat) (hm : b.length = m) (w : World) (B B' : Nat) (hB : B ≤ w.heap.size) (hB' : B' ≤ w.heap.size) (ha : RowAt rStr w B A a) (hb : RowAt rStr w B' A' b) :
    Calls Tryz.prog 52 #[.slice A n c, .slice A' m c'] w fun e w' => e = .returned (.bool (eqL sameS a b)) ∧ Below w.heap.size w w' := by
  have hlen := ha.len
  rw [hn] at hlen
  by_cases h : n = m
  · subst h
    have HN := Lib.hid hn
    have HM := Lib.hid hm
    have HG := Lib.hid (eqL_go (p := sameS) (hn.trans hm.symm))
    clear hn hm
    go_enter Tryz.func52, Tryz.ntmps52
    go_wp2
    go_loopw [5, 13] (fun _ i wr => ∃ k : Nat, k ≤ n ∧ i = .int .i64 k ∧ Hid (eqL sameS a b = eqGo sameS (a.drop k) (b.drop k)) ∧ Below w.heap.size w wr) (fun _ i _ => n - (intOf i).toNat)
    case atStart => exact ⟨0, by omega, rfl, HG, Below.refl _ _⟩
    case round =>
      obtain ⟨k, hk, rfl, hr, hbel⟩ := hrel
      by_cases hlt : k < n
      · obtain ⟨x, hx⟩ : ∃ x, a[k]? = some x := ⟨_, List.getElem?_eq_getElem (by rw [HN.out]; exact hlt)⟩
        obtain ⟨y, hy⟩ : ∃ y, b[k]? = some y := ⟨_, List.getElem?_eq_getElem (by rw [HM.out]; exact hlt)⟩
        obtain ⟨ad, rfl, hadb, hc1, _⟩ := row_Str (ha.below (hbel.mono hB)) hx
        obtain ⟨ad', rfl, hadb', hc2, _⟩ := row_Str (hb.below (hbel.mono hB')) hy
        have HX := Lib.hid (eqGo_step (p := sameS) hx hy)
        have hk0 : (0 : Int) ≤ (k : Int) := by omega
        have hkn : (k : Int) < (n : Int) := by omega
        clear hx hy
        obtain ⟨q, hq⟩ : ∃ q, (x.toList == y.toList) = q := ⟨_, rfl⟩
        have h2 : (x.toList != y.toList) = !q := by simp [bne, hq]
        have HP : Hid (sameS x y = q) := Lib.hid hq
        cases q
        all_goals simp only [Bool.not_true, Bool.not_false] at h2
        all_goals go_wp2
        all_goals go_quiet (fail)
        all_goals go_wp2
        all_goals first
          | (go_ret; exact ⟨ret_bool (by rw [hr.out, HX.out, HP.out]; rfl), bel_drewN hbel _⟩)
          | skip
        go_roundw
        case rel => exact ⟨k + 1, by omega, by go_num, Lib.hid (by rw [hr.out, HX.out, HP.out, Bool.true_and]), bel_drewN hbel _⟩
        case measure => simp [intOf]; omega
      · have hkn : k = n := by omega
        subst hkn
        clear hlt
        go_wp2
        go_ret
        exact ⟨ret_bool (by rw [hr.out, eqGo_end (by rw [HN.out]; exact Nat.le_refl _)]), hbel⟩
  · have hd2 : ((n : Int) == (m : Int)) = false := by simp; omega
    have hd3 : ((n : Int) != (m : Int)) = true := by simp; omega
    have HD : Hid (eqL sameS a b = false) := Lib.hid (eqL_no (by omega))
    clear h hn hm
    go_enter Tryz.func52, Tryz.ntmps52
    go_wp2
    go_ret
    exact ⟨ret_bool (by rw [HD.out]), Below.refl _ _⟩
set_option maxHeartbeats 1000000 in
theorem eqTwo_any (A : Option Addr) (c : Nat) (a : List _) (n : Nat) (hn : a.length = n) (A' : Option Addr) (c' : Nat) (b : List _) (m : Nat) (hm : b.length = m) (w : World) (B B' : Nat) (hB : B ≤ w.heap.size) (hB' : B' ≤ w.heap.size) (ha : RowAt (rPair rInt rInt) w B A a) (hb : RowAt (rPair rInt rInt) w B' A' b) :
    Calls Tryz.prog 59 #[.slice A n c, .slice A' m c'] w fun e w' => e = .returned (.bool (eqL twoEq a b)) ∧ Below w.heap.size w w' := by
  have hlen := ha.len
  rw [hn] at hlen
  by_cases h : n = m
  · subst h
    have HN := Lib.hid hn
    have HM := Lib.hid hm
    have HG := Lib.hid (eqL_go (p := twoEq) (hn.trans hm.symm))
    clear hn hm
    go_enter Tryz.func59, Tryz.ntmps59
    go_wp2
    go_loopw [5, 13] (fun _ i wr => ∃ k : Nat, k ≤ n ∧ i = .int .i64 k ∧ Hid (eqL twoEq a b = eqGo twoEq (a.drop k) (b.drop k)) ∧ Below w.heap.size w wr) (fun _ i _ => n - (intOf i).toNat)
    case atStart => exact ⟨0, by omega, rfl, HG, Below.refl _ _⟩
    case round =>
      obtain ⟨k, hk, rfl, hr, hbel⟩ := hrel
      by_cases hlt : k < n
      · obtain ⟨x, hx⟩ : ∃ x, a[k]? = some x := ⟨_, List.getElem?_eq_getElem (by rw [HN.out]; exact hlt)⟩
        obtain ⟨y, hy⟩ : ∃ y, b[k]? = some y := ⟨_, List.getElem?_eq_getElem (by rw [HM.out]; exact hlt)⟩
        obtain ⟨ad, rfl, hadb, ⟨m0, m1⟩, _⟩ := row_Two (ha.below (hbel.mono hB)) hx
        obtain ⟨ad', rfl, hadb', ⟨k0, k1⟩, _⟩ := row_Two (hb.below (hbel.mono hB')) hy
        have HX := Lib.hid (eqGo_step (p := twoEq) hx hy)
        have hk0 : (0 : Int) ≤ (k : Int) := by omega
        have hkn : (k : Int) < (n : Int) := by omega
        clear hx hy
        have heq := two_run x y
        obtain ⟨q, hq⟩ : ∃ q, twoEq x y = q := ⟨_, rfl⟩
        have HP := Lib.hid hq
        rw [hq] at heq
        clear hq
        cases q
        all_goals go_wp2
        all_goals go_quiet (fail)
        all_goals go_wp2
        all_goals first
          | (go_ret; exact ⟨ret_bool (by rw [hr.out, HX.out, HP.out]; rfl), bel_drewN hbel _⟩)
          | skip
        go_roundw
        case rel => exact ⟨k + 1, by omega, by go_num, Lib.hid (by rw [hr.out, HX.out, HP.out, Bool.true_and]), bel_drewN hbel _⟩
        case measure => simp [intOf]; omega
      · have hkn : k = n := by omega
        subst hkn
        clear hlt
        go_wp2
        go_ret
        exact ⟨ret_bool (by rw [hr.out, eqGo_end (by rw [HN.out]; exact Nat.le_refl _)]), hbel⟩
  · have hd2 : ((n : Int) == (m : Int)) = false := by simp; omega
    have hd3 : ((n : Int) != (m : Int)) = true := by simp; omega
    have HD : Hid (eqL twoEq a b = false) := Lib.hid (eqL_no (by omega))
    clear h hn hm
    go_enter Tryz.func59, Tryz.ntmps59
    go_wp2
    go_ret
    exact ⟨ret_bool (by rw [HD.out]), Below.refl _ _⟩
set_option maxHeartbeats 1000000 in
theorem eqPt_any (A : Option Addr) (c : Nat) (a : List _) (n : Nat) (hn : a.length = n) (A' : Option Addr) (c' : Nat) (b : List _) (m : Nat) (hm : b.length = m) (w : World) (B B' : Nat) (hB : B ≤ w.heap.size) (hB' : B' ≤ w.heap.size) (ha : RowAt rPt w B A a) (hb : RowAt rPt w B' A' b) :
    Calls Tryz.prog 90 #[.slice A n c, .slice A' m c'] w fun e w' => e = .returned (.bool (eqL ptEq a b)) ∧ Below w.heap.size w w' := by
  have hlen := ha.len
  rw [hn] at hlen
  by_cases h : n = m
  · subst h
    have HN := Lib.hid hn
    have HM := Lib.hid hm
    have HG := Lib.hid (eqL_go (p := ptEq) (hn.trans hm.symm))
    clear hn hm
    go_enter Tryz.func90, Tryz.ntmps90
    go_wp2
    go_loopw [5, 13] (fun _ i wr => ∃ k : Nat, k ≤ n ∧ i = .int .i64 k ∧ Hid (eqL ptEq a b = eqGo ptEq (a.drop k) (b.drop k)) ∧ Below w.heap.size w wr) (fun _ i _ => n - (intOf i).toNat)
    case atStart => exact ⟨0, by omega, rfl, HG, Below.refl _ _⟩
    case round =>
      obtain ⟨k, hk, rfl, hr, hbel⟩ := hrel
      by_cases hlt : k < n
      · obtain ⟨x, hx⟩ : ∃ x, a[k]? = some x := ⟨_, List.getElem?_eq_getElem (by rw [HN.out]; exact hlt)⟩
        obtain ⟨y, hy⟩ : ∃ y, b[k]? = some y := ⟨_, List.getElem?_eq_getElem (by rw [HM.out]; exact hlt)⟩
        obtain ⟨ad, rfl, hadb, ⟨m0, m1⟩, _⟩ := row_Pt (ha.below (hbel.mono hB)) hx
        obtain ⟨ad', rfl, hadb', ⟨k0, k1⟩, _⟩ := row_Pt (hb.below (hbel.mono hB')) hy
        have HX := Lib.hid (eqGo_step (p := ptEq) hx hy)
        have hk0 : (0 : Int) ≤ (k : Int) := by omega
        have hkn : (k : Int) < (n : Int) := by omega
        clear hx hy
        rcases ptcase x y with ⟨HP, e1, e2⟩ | ⟨HP, e1, e2⟩ | ⟨HP, e1, e2⟩
        all_goals go_wp2
        all_goals go_quiet (fail)
        all_goals go_wp2
        all_goals first
          | (go_ret; exact ⟨ret_bool (by rw [hr.out, HX.out, HP.out]; rfl), bel_drewN hbel _⟩)
          | skip
        go_roundw
        case rel => exact ⟨k + 1, by omega, by go_num, Lib.hid (by rw [hr.out, HX.out, HP.out, Bool.true_and]), bel_drewN hbel _⟩
        case measure => simp [intOf]; omega
      · have hkn : k = n := by omega
        subst hkn
        clear hlt
        go_wp2
        go_ret
        exact ⟨ret_bool (by rw [hr.out, eqGo_end (by rw [HN.out]; exact Nat.le_refl _)]), hbel⟩
  · have hd2 : ((n : Int) == (m : Int)) = false := by simp; omega
    have hd3 : ((n : Int) != (m : Int)) = true := by simp; omega
    have HD : Hid (eqL ptEq a b = false) := Lib.hid (eqL_no (by omega))
    clear h hn hm
    go_enter Tryz.func90, Tryz.ntmps90
    go_wp2
    go_ret
    exact ⟨ret_bool (by rw [HD.out]), Below.refl _ _⟩
set_option maxHeartbeats 1000000 in
theorem rpairs_any (A : Option Addr) (c : Nat) (a : List _) (n : Nat) (hn : a.length = n) (A' : Option Addr) (c' : Nat) (b : List _) (m : Nat) (hm : b.length = m) (w : World) (B B' : Nat) (hB : B ≤ w.heap.size) (hB' : B' ≤ w.heap.size) (ha : RowAt (rPair rInt rInt) w B A a) (hb : RowAt (rPair rInt rInt) w B' A' b) :
    Calls Tryz.prog 39 #[.slice A n c, .slice A' m c'] w fun e w' => e = .returned (.bool (eqL twoEq a b)) ∧ Below w.heap.size w w' := by
  have hlen := ha.len
  rw [hn] at hlen
  by_cases h : n = m
  · subst h
    have HN := Lib.hid hn
    have HM := Lib.hid hm
    have HG := Lib.hid (eqL_go (p := twoEq) (hn.trans hm.symm))
    clear hn hm
    go_enter Tryz.func39, Tryz.ntmps39
    go_wp2
    go_loopw [5] (fun i wr => ∃ k : Nat, k ≤ n ∧ i = .int .i64 k ∧ Hid (eqL twoEq a b = eqGo twoEq (a.drop k) (b.drop k)) ∧ Below w.heap.size w wr) (fun i _ => n - (intOf i).toNat)
    case atStart => exact ⟨0, by omega, rfl, HG, Below.refl _ _⟩
    case round =>
      obtain ⟨k, hk, rfl, hr, hbel⟩ := hrel
      by_cases hlt : k < n
      · obtain ⟨x, hx⟩ : ∃ x, a[k]? = some x := ⟨_, List.getElem?_eq_getElem (by rw [HN.out]; exact hlt)⟩
        obtain ⟨y, hy⟩ : ∃ y, b[k]? = some y := ⟨_, List.getElem?_eq_getElem (by rw [HM.out]; exact hlt)⟩
        obtain ⟨ad, rfl, hadb, ⟨m0, m1⟩, _⟩ := row_Two (ha.below (hbel.mono hB)) hx
        obtain ⟨ad', rfl, hadb', ⟨k0, k1⟩, _⟩ := row_Two (hb.below (hbel.mono hB')) hy
        have HX := Lib.hid (eqGo_step (p := twoEq) hx hy)
        have hk0 : (0 : Int) ≤ (k : Int) := by omega
        have hkn : (k : Int) < (n : Int) := by omega
        clear hx hy
        have heq := two_run x y
        obtain ⟨q, hq⟩ : ∃ q, twoEq x y = q := ⟨_, rfl⟩
        have HP := Lib.hid hq
        rw [hq] at heq
        clear hq
        cases q
        all_goals go_wp2
        all_goals go_quiet (fail)
        all_goals go_wp2
        all_goals first
          | (go_ret; exact ⟨ret_bool (by rw [hr.out, HX.out, HP.out]; rfl), bel_drewN hbel _⟩)
          | skip
        go_roundw
        case rel => exact ⟨k + 1, by omega, by go_num, Lib.hid (by rw [hr.out, HX.out, HP.out, Bool.true_and]), bel_drewN hbel _⟩
        case measure => simp [intOf]; omega
      · have hkn : k = n := by omega
        subst hkn
        clear hlt
        go_wp2
        go_ret
        exact ⟨ret_bool (by rw [hr.out, eqGo_end (by rw [HN.out]; exact Nat.le_refl _)]), hbel⟩
  · have hd2 : ((n : Int) == (m : Int)) = false := by simp; omega
    have hd3 : ((n : Int) != (m : Int)) = true := by simp; omega
    have HD : Hid (eqL twoEq a b = false) := Lib.hid (eqL_no (by omega))
    clear h hn hm
    go_enter Tryz.func39, Tryz.ntmps39
    go_wp2
    go_ret
    exact ⟨ret_bool (by rw [HD.out]), Below.refl _ _⟩
set_option maxHeartbeats 1000000 in
theorem rpoints_any (A : Option Addr) (c : Nat) (a : List _) (n : Nat) (hn : a.length = n) (A' : Option Addr) (c' : Nat) (b : List _) (m : Nat) (hm : b.length = m) (w : World) (B B' : Nat) (hB : B ≤ w.heap.size) (hB' : B' ≤ w.heap.size) (ha : RowAt rPt w B A a) (hb : RowAt rPt w B' A' b) :
    Calls Tryz.prog 78 #[.slice A n c, .slice A' m c'] w fun e w' => e = .returned (.bool (eqL ptEq a b)) ∧ Below w.heap.size w w' := by
  have hlen := ha.len
  rw [hn] at hlen
  by_cases h : n = m
  · subst h
    have HN := Lib.hid hn
    have HM := Lib.hid hm
    have HG := Lib.hid (eqL_go (p := ptEq) (hn.trans hm.symm))
    clear hn hm
    go_enter Tryz.func78, Tryz.ntmps78
    go_wp2
    go_loopw [5] (fun i wr => ∃ k : Nat, k ≤ n ∧ i = .int .i64 k ∧ Hid (eqL ptEq a b = eqGo ptEq (a.drop k) (b.drop k)) ∧ Below w.heap.size w wr) (fun i _ => n - (intOf i).toNat)
    case atStart => exact ⟨0, by omega, rfl, HG, Below.refl _ _⟩
    case round =>
      obtain ⟨k, hk, rfl, hr, hbel⟩ := hrel
      by_cases hlt : k < n
      · obtain ⟨x, hx⟩ : ∃ x, a[k]? = some x := ⟨_, List.getElem?_eq_getElem (by rw [HN.out]; exact hlt)⟩
        obtain ⟨y, hy⟩ : ∃ y, b[k]? = some y := ⟨_, List.getElem?_eq_getElem (by rw [HM.out]; exact hlt)⟩
        obtain ⟨ad, rfl, hadb, ⟨m0, m1⟩, _⟩ := row_Pt (ha.below (hbel.mono hB)) hx
        obtain ⟨ad', rfl, hadb', ⟨k0, k1⟩, _⟩ := row_Pt (hb.below (hbel.mono hB')) hy
        have HX := Lib.hid (eqGo_step (p := ptEq) hx hy)
        have hk0 : (0 : Int) ≤ (k : Int) := by omega
        have hkn : (k : Int) < (n : Int) := by omega
        clear hx hy
        rcases ptcase x y with ⟨HP, e1, e2⟩ | ⟨HP, e1, e2⟩ | ⟨HP, e1, e2⟩
        all_goals go_wp2
        all_goals go_quiet (fail)
        all_goals go_wp2
        all_goals first
          | (go_ret; exact ⟨ret_bool (by rw [hr.out, HX.out, HP.out]; rfl), bel_drewN hbel _⟩)
          | skip
        go_roundw
        case rel => exact ⟨k + 1, by omega, by go_num, Lib.hid (by rw [hr.out, HX.out, HP.out, Bool.true_and]), bel_drewN hbel _⟩
        case measure => simp [intOf]; omega
      · have hkn : k = n := by omega
        subst hkn
        clear hlt
        go_wp2
        go_ret
        exact ⟨ret_bool (by rw [hr.out, eqGo_end (by rw [HN.out]; exact Nat.le_refl _)]), hbel⟩
  · have hd2 : ((n : Int) == (m : Int)) = false := by simp; omega
    have hd3 : ((n : Int) != (m : Int)) = true := by simp; omega
    have HD : Hid (eqL ptEq a b = false) := Lib.hid (eqL_no (by omega))
    clear h hn hm
    go_enter Tryz.func78, Tryz.ntmps78
    go_wp2
    go_ret
    exact ⟨ret_bool (by rw [HD.out]), Below.refl _ _⟩
end Go.Proofs.YtceceomaheobhaaGreatDoor.ins

/- The same arcs; lists of arcs, types, orders that are the same. -/
namespace Go.Proofs.YtceceomaheobhaaGreatDoor.ins
open Go.RowKit
open Go.Proofs.YtceceomaheobhaaGreatDoor.lib Go.Proofs.YtceceomaheobhaaGreatDoor.rd Go.Proofs.YtceceomaheobhaaGreatDoor.typ Go.Proofs.YtceceomaheobhaaGreatDoor.eqg
set_option linter.unusedVariables false
set_option linter.unusedSimpArgs false

def sameA (a b : Arc) : Bool := (a.frm == b.frm) && ((a.to == b.to) && ((a.profile == b.profile) && ((a.miles == b.miles) && (eqL ptEq a.travel b.travel && eqL ptEq a.slow b.slow))))
theorem sameA_comm (a b : Arc) : sameA a b = sameA b a := by unfold sameA; rw [int_comm a.frm, int_comm a.to, int_comm a.profile, int_comm a.miles, eqL_comm ptEq_comm a.travel, eqL_comm ptEq_comm a.slow]
theorem sameA_self (a : Arc) : sameA a a = true := by unfold sameA; rw [eqL_self ptEq_self, eqL_self ptEq_self]; simp
set_option maxRecDepth 20000 in
set_option maxHeartbeats 4000000 in
theorem sameArc_any (a b : Arc) (C0 : Option Addr) (c0 : Nat) (C1 : Option Addr) (c1 : Nat) (D0 : Option Addr) (d0 : Nat) (D1 : Option Addr) (d1 : Nat) (w : World) (h1 : RowAt rPt w w.heap.size C0 a.travel) (h2 : RowAt rPt w w.heap.size C1 a.slow) (h3 : RowAt rPt w w.heap.size D0 b.travel) (h4 : RowAt rPt w w.heap.size D1 b.slow) :
    Calls Tryz.prog 54 #[.agg #[.int .i64 a.frm, .int .i64 a.to, .int .i64 a.profile, .int .i64 a.miles, .slice C0 a.travel.length c0, .slice C1 a.slow.length c1], .agg #[.int .i64 b.frm, .int .i64 b.to, .int .i64 b.profile, .int .i64 b.miles, .slice D0 b.travel.length d0, .slice D1 b.slow.length d1]] w fun e w' => e = .returned (.bool (sameA a b)) ∧ Below w.heap.size w w' := by
  obtain ⟨R, hR⟩ : ∃ R, sameA a b = R := ⟨_, rfl⟩
  have HR : Hid (R = ((a.frm == b.frm) && ((a.to == b.to) && ((a.profile == b.profile) && ((a.miles == b.miles) && (eqL ptEq a.travel b.travel && eqL ptEq a.slow b.slow)))))) := Lib.hid (by rw [← hR]; rfl)
  rw [hR]
  clear hR
  have H1 : Hid (∀ w', Below w.heap.size w w' → RowAt rPt w' w'.heap.size C0 a.travel ∧ RowAt rPt w' w'.heap.size C1 a.slow ∧ RowAt rPt w' w'.heap.size D0 b.travel ∧ RowAt rPt w' w'.heap.size D1 b.slow) := Lib.hid fun w' hb => ⟨(h1.below hb).more hb.size, (h2.below hb).more hb.size, (h3.below hb).more hb.size, (h4.below hb).more hb.size⟩
  clear h1 h2 h3 h4
  by_cases e0 : a.frm = b.frm
  case neg =>
    have f0 : (a.frm == b.frm) = false := by simp [e0]
    have HT : Hid (R = false) := Lib.hid (by rw [HR.out, f0]; rfl)
    clear e0
    go_enter Tryz.func54, Tryz.ntmps54
    go_wp2
    go_ret
    exact ⟨ret_bool HT.out.symm, by repeat (first | assumption | exact Below.refl _ _ | refine Below.drew ?_ | refine Below.alloc ?_ (by first | omega | (simp <;> omega)) _ | refine Below.setCell ?_ (by first | omega | (simp <;> omega)) _)⟩
  have g0 : (a.frm == b.frm) = true := by simp [e0]
  by_cases e1 : a.to = b.to
  case neg =>
    have f1 : (a.to == b.to) = false := by simp [e1]
    have HT : Hid (R = false) := Lib.hid (by rw [HR.out, g0, f1]; rfl)
    clear e1
    go_enter Tryz.func54, Tryz.ntmps54
    go_wp2
    go_ret
    exact ⟨ret_bool HT.out.symm, by repeat (first | assumption | exact Below.refl _ _ | refine Below.drew ?_ | refine Below.alloc ?_ (by first | omega | (simp <;> omega)) _ | refine Below.setCell ?_ (by first | omega | (simp <;> omega)) _)⟩
  have g1 : (a.to == b.to) = true := by simp [e1]
  by_cases e2 : a.profile = b.profile
  case neg =>
    have f2 : (a.profile == b.profile) = false := by simp [e2]
    have HT : Hid (R = false) := Lib.hid (by rw [HR.out, g0, g1, f2]; rfl)
    clear e2
    go_enter Tryz.func54, Tryz.ntmps54
    go_wp2
    go_ret
    exact ⟨ret_bool HT.out.symm, by repeat (first | assumption | exact Below.refl _ _ | refine Below.drew ?_ | refine Below.alloc ?_ (by first | omega | (simp <;> omega)) _ | refine Below.setCell ?_ (by first | omega | (simp <;> omega)) _)⟩
  have g2 : (a.profile == b.profile) = true := by simp [e2]
  by_cases e3 : a.miles = b.miles
  case neg =>
    have f3 : (a.miles == b.miles) = false := by simp [e3]
    have HT : Hid (R = false) := Lib.hid (by rw [HR.out, g0, g1, g2, f3]; rfl)
    clear e3
    go_enter Tryz.func54, Tryz.ntmps54
    go_wp2
    go_ret
    exact ⟨ret_bool HT.out.symm, by repeat (first | assumption | exact Below.refl _ _ | refine Below.drew ?_ | refine Below.alloc ?_ (by first | omega | (simp <;> omega)) _ | refine Below.setCell ?_ (by first | omega | (simp <;> omega)) _)⟩
  have g3 : (a.miles == b.miles) = true := by simp [e3]
  have HR2 : Hid (R = (eqL ptEq a.travel b.travel && eqL ptEq a.slow b.slow)) := Lib.hid (by rw [HR.out, g0, g1, g2, g3]; rfl)
  clear g0 g1 g2 g3
  have b2 : ∀ o o', Below w.heap.size w ((w.alloc o).alloc o') := fun o o' => ((Below.refl _ _).alloc (Nat.le_refl _) _).alloc (by simp) _
  go_enter Tryz.func54, Tryz.ntmps54
  go_wp2_with fail
  refine (eqPt_any C0 c0 a.travel _ rfl D0 d0 b.travel _ rfl _ _ _ (Nat.le_refl _) (Nat.le_refl _) (H1.out _ (b2 _ _)).1 (H1.out _ (b2 _ _)).2.2.1).mono ?_
  rintro e w1 ⟨rfl, hb1⟩
  have hz := hb1.size
  simp at hz
  have hc := fun b o h => hb1.cell (p := ⟨b, o, none⟩) h
  have hf := fun b o h => hb1.frozen (p := ⟨b, o, none⟩) h
  have l1 : w.heap.size < w1.heap.size := by omega
  have l2 : w.heap.size + 1 < w1.heap.size := by omega
  have hB : Below w.heap.size w w1 := (b2 _ _).trans (hb1.mono (by simp; omega))
  clear hb1
  cases hq1 : eqL ptEq a.travel b.travel
  · have HT : Hid (R = false) := Lib.hid (by rw [HR2.out, hq1]; rfl)
    go_wp2
    go_ret
    exact ⟨ret_bool HT.out.symm, hB⟩
  · have HT : Hid (R = eqL ptEq a.slow b.slow) := Lib.hid (by rw [HR2.out, hq1]; rfl)
    go_wp2_with (go_at_call 90; refine (eqPt_any C1 c1 a.slow _ rfl D1 d1 b.slow _ rfl _ _ _ (Nat.le_refl _) (Nat.le_refl _) (H1.out _ hB).2.1 (H1.out _ hB).2.2.2).mono ?_; rintro e w2 ⟨rfl, hb2⟩)
    go_ret
    exact ⟨ret_bool HT.out.symm, hB.trans (hb2.mono hB.size)⟩

theorem Ints.go {w w' : World} {B : Nat} {A : Option Addr} {l : List Int} (h : Ints w B A l) (hB : B ≤ w.heap.size) (hb : Below w.heap.size w w') : Ints w' w'.heap.size A l := ((h.more hB).below hb).more hb.size
theorem rows_go {X : Type} {r : Rd X} {w w' : World} {B : Nat} {A : Option Addr} {l : List X} (h : RowAt r w B A l) (hB : B ≤ w.heap.size) (hb : Below w.heap.size w w') : RowAt r w' w'.heap.size A l := ((h.more hB).below hb).more hb.size
set_option maxRecDepth 20000 in
set_option maxHeartbeats 4000000 in
theorem eqArc_any (A : Option Addr) (c : Nat) (a : List Arc) (n : Nat) (hn : a.length = n) (A' : Option Addr) (c' : Nat) (b : List Arc) (m : Nat) (hm : b.length = m) (w : World) (B B' : Nat) (hB : B ≤ w.heap.size) (hB' : B' ≤ w.heap.size) (ha : RowAt rArc w B A a) (hb : RowAt rArc w B' A' b) :
    Calls Tryz.prog 53 #[.slice A n c, .slice A' m c', .func (.func 54) #[] #[]] w fun e w' => e = .returned (.bool (eqL sameA a b)) ∧ Below w.heap.size w w' := by
  have hlen := ha.len
  rw [hn] at hlen
  by_cases h : n = m
  · subst h
    have HN := Lib.hid hn
    have HM := Lib.hid hm
    have HG := Lib.hid (eqL_go (p := sameA) (hn.trans hm.symm))
    clear hn hm
    go_enter Tryz.func53, Tryz.ntmps53
    go_wp2
    go_loopw [7, 8, 9, 17] (fun _ _ _ i wr => ∃ k : Nat, k ≤ n ∧ i = .int .i64 k ∧ Hid (eqL sameA a b = eqGo sameA (a.drop k) (b.drop k)) ∧ Below w.heap.size w wr) (fun _ _ _ i _ => n - (intOf i).toNat)
    case atStart => exact ⟨0, by omega, rfl, HG, Below.refl _ _⟩
    case round =>
      obtain ⟨k, hk, rfl, hr, hbel⟩ := hrel
      have hz := hbel.size
      by_cases hlt : k < n
      · obtain ⟨x, hx⟩ : ∃ x, a[k]? = some x := ⟨_, List.getElem?_eq_getElem (by rw [HN.out]; exact hlt)⟩
        obtain ⟨y, hy⟩ : ∃ y, b[k]? = some y := ⟨_, List.getElem?_eq_getElem (by rw [HM.out]; exact hlt)⟩
        obtain ⟨ad, C0, c0, C1, c1, rfl, hadb, ⟨m0, m1, m2, m3, m4, m5⟩, hp1, hp2, _⟩ := row_Arc (ha.below (hbel.mono hB)) hx
        obtain ⟨ad', D0, d0, D1, d1, rfl, hadb', ⟨k0, k1, k2, k3, k4, k5⟩, hp3, hp4, _⟩ := row_Arc (hb.below (hbel.mono hB')) hy; have hbb : (ad'.add (k * 6)).block < wr.heap.size := (by rw [block_of_add]; omega)
        have HX := Lib.hid (eqGo_step (p := sameA) hx hy)
        have hk0 : (0 : Int) ≤ (k : Int) := by omega
        have hkn : (k : Int) < (n : Int) := by omega
        have b2 : ∀ o o', Below wr.heap.size wr ((wr.alloc o).alloc o') := fun o o' => ((Below.refl _ _).alloc (Nat.le_refl _) _).alloc (by simp) _
        clear hx hy
        obtain ⟨q, hq⟩ : ∃ q, sameA x y = q := ⟨_, rfl⟩
        have HP := Lib.hid hq
        have HC : Hid (∀ w', Below wr.heap.size wr w' → Calls Tryz.prog 54 #[.agg #[.int .i64 x.frm, .int .i64 x.to, .int .i64 x.profile, .int .i64 x.miles, .slice C0 x.travel.length c0, .slice C1 x.slow.length c1], .agg #[.int .i64 y.frm, .int .i64 y.to, .int .i64 y.profile, .int .i64 y.miles, .slice D0 y.travel.length d0, .slice D1 y.slow.length d1]] w' fun e w'' => e = .returned (.bool q) ∧ Below w'.heap.size w' w'') := Lib.hid fun w' hw => by rw [← hq]; exact sameArc_any x y C0 c0 C1 c1 D0 d0 D1 d1 w' (rows_go hp1 (by omega) hw) (rows_go hp2 (by omega) hw) (rows_go hp3 (by omega) hw) (rows_go hp4 (by omega) hw)
        clear hq
        cases q
        · skip
          go_wp2_with (go_at_call 54; refine (HC.out _ (b2 _ _)).mono ?_; rintro e w1 ⟨rfl, hb1⟩)
          go_ret
          exact ⟨ret_bool (by rw [hr.out, HX.out, HP.out]; rfl), hbel.trans (((b2 _ _).mono hz).trans (hb1.mono (by simp; omega)))⟩
        · skip
          go_wp2_with (go_at_call 54; refine (HC.out _ (b2 _ _)).mono ?_; rintro e w1 ⟨rfl, hb1⟩)
          go_roundw
          case rel => exact ⟨k + 1, by omega, by go_num, Lib.hid (by rw [hr.out, HX.out, HP.out, Bool.true_and]), hbel.trans (((b2 _ _).mono hz).trans (hb1.mono (by simp; omega)))⟩
          case measure => simp [intOf]; omega
      · have hkn : k = n := by omega
        subst hkn
        clear hlt
        go_wp2
        go_ret
        exact ⟨ret_bool (by rw [hr.out, eqGo_end (by rw [HN.out]; exact Nat.le_refl _)]), hbel⟩
  · have hd2 : ((n : Int) == (m : Int)) = false := by simp; omega
    have hd3 : ((n : Int) != (m : Int)) = true := by simp; omega
    have HD : Hid (eqL sameA a b = false) := Lib.hid (eqL_no (by omega))
    clear h hn hm
    go_enter Tryz.func53, Tryz.ntmps53
    go_wp2
    go_ret
    exact ⟨ret_bool (by rw [HD.out]), Below.refl _ _⟩
set_option maxRecDepth 20000 in
set_option maxHeartbeats 4000000 in
theorem eqTy_any (A : Option Addr) (c : Nat) (a : List Ty) (n : Nat) (hn : a.length = n) (A' : Option Addr) (c' : Nat) (b : List Ty) (m : Nat) (hm : b.length = m) (w : World) (B B' : Nat) (hB : B ≤ w.heap.size) (hB' : B' ≤ w.heap.size) (ha : RowAt rTy w B A a) (hb : RowAt rTy w B' A' b) :
    Calls Tryz.prog 55 #[.slice A n c, .slice A' m c', .func (.func 56) #[] #[]] w fun e w' => e = .returned (.bool (eqL flt.sameT a b)) ∧ Below w.heap.size w w' := by
  have hlen := ha.len
  rw [hn] at hlen
  by_cases h : n = m
  · subst h
    have HN := Lib.hid hn
    have HM := Lib.hid hm
    have HG := Lib.hid (eqL_go (p := flt.sameT) (hn.trans hm.symm))
    clear hn hm
    go_enter Tryz.func55, Tryz.ntmps55
    go_wp2
    go_loopw [7, 8, 9, 17] (fun _ _ _ i wr => ∃ k : Nat, k ≤ n ∧ i = .int .i64 k ∧ Hid (eqL flt.sameT a b = eqGo flt.sameT (a.drop k) (b.drop k)) ∧ Below w.heap.size w wr) (fun _ _ _ i _ => n - (intOf i).toNat)
    case atStart => exact ⟨0, by omega, rfl, HG, Below.refl _ _⟩
    case round =>
      obtain ⟨k, hk, rfl, hr, hbel⟩ := hrel
      have hz := hbel.size
      by_cases hlt : k < n
      · obtain ⟨x, hx⟩ : ∃ x, a[k]? = some x := ⟨_, List.getElem?_eq_getElem (by rw [HN.out]; exact hlt)⟩
        obtain ⟨y, hy⟩ : ∃ y, b[k]? = some y := ⟨_, List.getElem?_eq_getElem (by rw [HM.out]; exact hlt)⟩
        obtain ⟨ad, C0, c0, rfl, hadb, ⟨m0, m1, m2, m3, m4, m5, m6, m7, m8, m9, m10, m11, m12, m13⟩, hp1, _⟩ := row_Ty (ha.below (hbel.mono hB)) hx
        obtain ⟨ad', D0, d0, rfl, hadb', ⟨k0, k1, k2, k3, k4, k5, k6, k7, k8, k9, k10, k11, k12, k13⟩, hp3, _⟩ := row_Ty (hb.below (hbel.mono hB')) hy; have hbb : (ad'.add (k * 14)).block < wr.heap.size := (by rw [block_of_add]; omega)
        have HX := Lib.hid (eqGo_step (p := flt.sameT) hx hy)
        have hk0 : (0 : Int) ≤ (k : Int) := by omega
        have hkn : (k : Int) < (n : Int) := by omega
        have b2 : ∀ o o', Below wr.heap.size wr ((wr.alloc o).alloc o') := fun o o' => ((Below.refl _ _).alloc (Nat.le_refl _) _).alloc (by simp) _
        clear hx hy
        obtain ⟨q, hq⟩ : ∃ q, flt.sameT x y = q := ⟨_, rfl⟩
        have HP := Lib.hid hq
        have HC : Hid (∀ w', Below wr.heap.size wr w' → Calls Tryz.prog 56 #[.agg #[.string x.name, .int .i64 x.count, .int .i64 x.frm, .int .i64 x.to, .slice C0 x.cap.length c0, .int .i64 x.skills, .int .i64 x.profile, .int .i64 x.opn, .int .i64 x.close, .int .i64 x.drive, .int .i64 x.rest, .int .i64 x.fixed, .int .i64 x.mile, .int .i64 x.tick], .agg #[.string y.name, .int .i64 y.count, .int .i64 y.frm, .int .i64 y.to, .slice D0 y.cap.length d0, .int .i64 y.skills, .int .i64 y.profile, .int .i64 y.opn, .int .i64 y.close, .int .i64 y.drive, .int .i64 y.rest, .int .i64 y.fixed, .int .i64 y.mile, .int .i64 y.tick]] w' fun e w'' => e = .returned (.bool q) ∧ Below w'.heap.size w' w'') := Lib.hid fun w' hw => by rw [← hq]; exact flt.same_any x y C0 c0 D0 d0 w' (Ints.go hp1 (by omega) hw) (Ints.go hp3 (by omega) hw)
        clear hq
        cases q
        · skip
          go_wp2_with (go_at_call 56; refine (HC.out _ (b2 _ _)).mono ?_; rintro e w1 ⟨rfl, hb1⟩)
          go_ret
          exact ⟨ret_bool (by rw [hr.out, HX.out, HP.out]; rfl), hbel.trans (((b2 _ _).mono hz).trans (hb1.mono (by simp; omega)))⟩
        · skip
          go_wp2_with (go_at_call 56; refine (HC.out _ (b2 _ _)).mono ?_; rintro e w1 ⟨rfl, hb1⟩)
          go_roundw
          case rel => exact ⟨k + 1, by omega, by go_num, Lib.hid (by rw [hr.out, HX.out, HP.out, Bool.true_and]), hbel.trans (((b2 _ _).mono hz).trans (hb1.mono (by simp; omega)))⟩
          case measure => simp [intOf]; omega
      · have hkn : k = n := by omega
        subst hkn
        clear hlt
        go_wp2
        go_ret
        exact ⟨ret_bool (by rw [hr.out, eqGo_end (by rw [HN.out]; exact Nat.le_refl _)]), hbel⟩
  · have hd2 : ((n : Int) == (m : Int)) = false := by simp; omega
    have hd3 : ((n : Int) != (m : Int)) = true := by simp; omega
    have HD : Hid (eqL flt.sameT a b = false) := Lib.hid (eqL_no (by omega))
    clear h hn hm
    go_enter Tryz.func55, Tryz.ntmps55
    go_wp2
    go_ret
    exact ⟨ret_bool (by rw [HD.out]), Below.refl _ _⟩
end Go.Proofs.YtceceomaheobhaaGreatDoor.ins

/- Lists of orders that are the same. -/
namespace Go.Proofs.YtceceomaheobhaaGreatDoor.ins
open Go.RowKit
open Go.Proofs.YtceceomaheobhaaGreatDoor.lib Go.Proofs.YtceceomaheobhaaGreatDoor.rd Go.Proofs.YtceceomaheobhaaGreatDoor.typ Go.Proofs.YtceceomaheobhaaGreatDoor.eqg Go.Proofs.YtceceomaheobhaaGreatDoor.ord
set_option linter.unusedVariables false
set_option linter.unusedSimpArgs false

set_option maxRecDepth 20000 in
set_option maxHeartbeats 4000000 in
theorem eqOrd_any (A : Option Addr) (c : Nat) (a : List Ord) (n : Nat) (hn : a.length = n) (A' : Option Addr) (c' : Nat) (b : List Ord) (m : Nat) (hm : b.length = m) (w : World) (B B' : Nat) (hB : B ≤ w.heap.size) (hB' : B' ≤ w.heap.size) (ha : RowAt rOrd w B A a) (hb : RowAt rOrd w B' A' b) :
    Calls Tryz.prog 57 #[.slice A n c, .slice A' m c', .func (.func 58) #[] #[]] w fun e w' => e = .returned (.bool (eqL sameO a b)) ∧ Below w.heap.size w w' := by
  have hlen := ha.len
  rw [hn] at hlen
  by_cases h : n = m
  · subst h
    have HN := Lib.hid hn
    have HM := Lib.hid hm
    have HG := Lib.hid (eqL_go (p := sameO) (hn.trans hm.symm))
    clear hn hm
    go_enter Tryz.func57, Tryz.ntmps57
    go_wp2
    go_loopw [7, 8, 9, 17] (fun _ _ _ i wr => ∃ k : Nat, k ≤ n ∧ i = .int .i64 k ∧ Hid (eqL sameO a b = eqGo sameO (a.drop k) (b.drop k)) ∧ Below w.heap.size w wr) (fun _ _ _ i _ => n - (intOf i).toNat)
    case atStart => exact ⟨0, by omega, rfl, HG, Below.refl _ _⟩
    case round =>
      obtain ⟨k, hk, rfl, hr, hbel⟩ := hrel
      have hz := hbel.size
      by_cases hlt : k < n
      · obtain ⟨x, hx⟩ : ∃ x, a[k]? = some x := ⟨_, List.getElem?_eq_getElem (by rw [HN.out]; exact hlt)⟩
        obtain ⟨y, hy⟩ : ∃ y, b[k]? = some y := ⟨_, List.getElem?_eq_getElem (by rw [HM.out]; exact hlt)⟩
        obtain ⟨ad, C0, c0, rfl, hadb, hx0, hp1, _⟩ := row_Ord (ha.below (hbel.mono hB)) hx
        obtain ⟨ad', D0, d0, rfl, hadb', hy0, hp3, _⟩ := row_Ord (hb.below (hbel.mono hB')) hy
        have HXA := Lib.hid hx0
        have HYA := Lib.hid hy0
        have hbb : (ad.add (k * 16)).block < wr.heap.size := by rw [block_of_add]; omega
        have hbb' : (ad'.add (k * 16)).block < wr.heap.size := by rw [block_of_add]; omega
        have HX := Lib.hid (eqGo_step (p := sameO) hx hy)
        have hk0 : (0 : Int) ≤ (k : Int) := by omega
        have hkn : (k : Int) < (n : Int) := by omega
        clear hx hy hx0 hy0
        obtain ⟨q, hq⟩ : ∃ q, sameO x y = q := ⟨_, rfl⟩
        have HP := Lib.hid hq
        have HC : Hid (∀ w', Below wr.heap.size wr w' → Calls Tryz.prog 58 #[.agg #[.string x.name, .slice C0 x.load.length c0, .int .i64 x.pick.place, .int .i64 x.pick.opn, .int .i64 x.pick.close, .int .i64 x.pick.service, .int .i64 x.drop.place, .int .i64 x.drop.opn, .int .i64 x.drop.close, .int .i64 x.drop.service, .int .i64 x.skills, .int .i64 x.penalty, .int .i64 x.split, .int .i64 x.last, .int .i64 x.now, .bool x.off], .agg #[.string y.name, .slice D0 y.load.length d0, .int .i64 y.pick.place, .int .i64 y.pick.opn, .int .i64 y.pick.close, .int .i64 y.pick.service, .int .i64 y.drop.place, .int .i64 y.drop.opn, .int .i64 y.drop.close, .int .i64 y.drop.service, .int .i64 y.skills, .int .i64 y.penalty, .int .i64 y.split, .int .i64 y.last, .int .i64 y.now, .bool y.off]] w' fun e w'' => e = .returned (.bool q) ∧ Below w'.heap.size w' w'') := Lib.hid fun w' hw => by rw [← hq]; exact ord.osame_any x y C0 c0 D0 d0 w' (Ints.go hp1 (by omega) hw) (Ints.go hp3 (by omega) hw)
        clear hq hp1 hp3
        go_upto_region 5 with fail
        go_cut [7, 8] from 18 to 31 (fun i p wx => i = .int .i64 k ∧ p = .pointer (some ⟨wr.heap.size, 0, none⟩) ∧ OrBlk wx wr.heap.size x C0 c0 ∧ Below wr.heap.size wr wx ∧ wx.heap.size = wr.heap.size + 1)
        case first => as_aux_lemma =>
          obtain ⟨m0, m1, m2, m3, m4, m5, m6, m7, m8, m9, m10, m11, m12, m13, m14, m15⟩ := HXA.out
          go_wp2
          go_meet
          refine ⟨rfl, rfl, ?_, (Below.refl _ _).alloc (Nat.le_refl _) _, by simp⟩
          exact World.alloc_heap_new wr _
        obtain ⟨hi7, hp8, hblk, hb1, hs1⟩ := hcut
        subst hi7
        subst hp8
        have hbb2 : (ad'.add (k * 16)).block < wc.heap.size := by omega
        have HYB : Hid (OrdAt wc (ad'.add (k * 16)) y D0 d0) := Lib.hid (by
          obtain ⟨n0, n1, n2, n3, n4, n5, n6, n7, n8, n9, n10, n11, n12, n13, n14, n15⟩ := HYA.out
          have hk := fun (o : Nat) => hb1.cell (p := ⟨(ad'.add (k * 16)).block, o, none⟩) hbb'
          exact ⟨(hb1.cell hbb').trans n0, (hk _).trans n1, (hk _).trans n2, (hk _).trans n3, (hk _).trans n4, (hk _).trans n5, (hk _).trans n6, (hk _).trans n7, (hk _).trans n8, (hk _).trans n9, (hk _).trans n10, (hk _).trans n11, (hk _).trans n12, (hk _).trans n13, (hk _).trans n14, (hk _).trans n15⟩)
        have HBLK := Lib.hid hblk
        have HS1 := Lib.hid hs1
        clear hblk hs1
        obtain ⟨wd, hwd⟩ : ∃ wd, wc = wd := ⟨_, rfl⟩
        have HWD := Lib.hid hwd
        go_upto_region 6 with fail
        go_cut [9] from 22 to 31 (fun p wx => p = .pointer (some ⟨wd.heap.size, 0, none⟩) ∧ OrBlk wx wr.heap.size x C0 c0 ∧ OrBlk wx wd.heap.size y D0 d0 ∧ Below wr.heap.size wr wx)
        case first => as_aux_lemma =>
          obtain ⟨m0, m1, m2, m3, m4, m5, m6, m7, m8, m9, m10, m11, m12, m13, m14, m15⟩ := HYB.out
          clear hwd
          go_wp2
          go_meet
          have e := HWD.out
          subst e
          refine ⟨rfl, ?_, World.alloc_heap_new wc _, hb1.alloc hb1.size _⟩
          exact (Below.heap_alloc _ _ _ (by have := HS1.out; omega)).trans HBLK.out
        obtain ⟨hp9, hblk1, hblk2, hb2⟩ := hcut
        subst hp9
        clear hwd
        obtain ⟨m0, m1, m2, m3, m4, m5, m6, m7, m8, m9, m10, m11, m12, m13, m14, m15⟩ := hblk1.cells
        obtain ⟨n0, n1, n2, n3, n4, n5, n6, n7, n8, n9, n10, n11, n12, n13, n14, n15⟩ := hblk2.cells
        cases q
        · as_aux_lemma =>
            go_wp2_with (go_at_call 58; refine (HC.out _ hb2).mono ?_; rintro e w1 ⟨rfl, hb3⟩)
            go_ret
            exact ⟨ret_bool (by rw [hr.out, HX.out, HP.out]; rfl), hbel.trans ((hb2.mono hz).trans (hb3.mono (by have := hb2.size; omega)))⟩
        · as_aux_lemma =>
            go_wp2_with (go_at_call 58; refine (HC.out _ hb2).mono ?_; rintro e w1 ⟨rfl, hb3⟩)
            go_roundw
            case rel => exact ⟨k + 1, by omega, by go_num, Lib.hid (by rw [hr.out, HX.out, HP.out, Bool.true_and]), hbel.trans ((hb2.mono hz).trans (hb3.mono (by have := hb2.size; omega)))⟩
            case measure => simp [intOf]; omega
      · have hkn : k = n := by omega
        subst hkn
        clear hlt
        go_wp2
        go_ret
        exact ⟨ret_bool (by rw [hr.out, eqGo_end (by rw [HN.out]; exact Nat.le_refl _)]), hbel⟩
  · have hd2 : ((n : Int) == (m : Int)) = false := by simp; omega
    have hd3 : ((n : Int) != (m : Int)) = true := by simp; omega
    have HD : Hid (eqL sameO a b = false) := Lib.hid (eqL_no (by omega))
    clear h hn hm
    go_enter Tryz.func57, Tryz.ntmps57
    go_wp2
    go_ret
    exact ⟨ret_bool (by rw [HD.out]), Below.refl _ _⟩
end Go.Proofs.YtceceomaheobhaaGreatDoor.ins

/- The same instances: the program. -/
namespace Go.Proofs.YtceceomaheobhaaGreatDoor.ins
open Go.RowKit
open Go.Proofs.YtceceomaheobhaaGreatDoor.lib Go.Proofs.YtceceomaheobhaaGreatDoor.rd Go.Proofs.YtceceomaheobhaaGreatDoor.typ Go.Proofs.YtceceomaheobhaaGreatDoor.eqg Go.Proofs.YtceceomaheobhaaGreatDoor.note
set_option linter.unusedVariables false
set_option linter.unusedSimpArgs false

def sameI (a b : Ins) : Bool := eqL sameS a.net.places b.net.places && (eqL sameA a.net.arcs b.net.arcs && (eqL flt.sameT a.types b.types && (eqL ord.sameO a.orders b.orders && (eqL twoEq a.apart b.apart && (eqL twoEq a.before b.before)))))
set_option maxRecDepth 20000 in
set_option maxHeartbeats 4000000 in
theorem same_any (a b : Ins) (P Q : InP) (w : World) (hP : InAt w w.heap.size a P) (hQ : InAt w w.heap.size b Q) :
    Calls Tryz.prog 21 #[InV a P, InV b Q] w fun e w' => e = .returned (.bool (sameI a b)) ∧ Below w.heap.size w w' := by
  obtain ⟨A0, c0, A1, c1, A2, c2, A3, c3, A4, c4, A5, c5⟩ := P
  obtain ⟨D0, d0, D1, d1, D2, d2, D3, d3, D4, d4, D5, d5⟩ := Q
  obtain ⟨R, hR⟩ : ∃ R, sameI a b = R := ⟨_, rfl⟩
  have HR0 : Hid (R = (eqL sameS a.net.places b.net.places && (eqL sameA a.net.arcs b.net.arcs && (eqL flt.sameT a.types b.types && (eqL ord.sameO a.orders b.orders && (eqL twoEq a.apart b.apart && (eqL twoEq a.before b.before))))))) := Lib.hid (by rw [← hR]; rfl)
  rw [hR]
  simp only [InV]
  obtain ⟨W0, hW0⟩ : ∃ W0, (w.alloc (.cells #[.slice A0 a.net.places.length c0, .slice A1 a.net.arcs.length c1, .slice A2 a.types.length c2, .slice A3 a.orders.length c3, .slice A4 a.apart.length c4, .slice A5 a.before.length c5] 30)).alloc (.cells #[.slice D0 b.net.places.length d0, .slice D1 b.net.arcs.length d1, .slice D2 b.types.length d2, .slice D3 b.orders.length d3, .slice D4 b.apart.length d4, .slice D5 b.before.length d5] 30) = W0 := ⟨_, rfl⟩
  have hB0 : Below w.heap.size w W0 := by rw [← hW0]; exact ((Below.refl _ _).alloc (Nat.le_refl _) _).alloc (by simp) _
  have z0 := hB0.size
  have hs0 : w.heap.size + 1 < W0.heap.size := by rw [← hW0]; simp
  have HS : Hid (∀ w', Below W0.heap.size W0 w' → w'.cell? ⟨w.heap.size, 0, none⟩ = some (.slice A0 a.net.places.length c0) ∧ w'.cell? ⟨w.heap.size, 1, none⟩ = some (.slice A1 a.net.arcs.length c1) ∧ w'.cell? ⟨w.heap.size, 2, none⟩ = some (.slice A2 a.types.length c2) ∧ w'.cell? ⟨w.heap.size, 3, none⟩ = some (.slice A3 a.orders.length c3) ∧ w'.cell? ⟨w.heap.size, 4, none⟩ = some (.slice A4 a.apart.length c4) ∧ w'.cell? ⟨w.heap.size, 5, none⟩ = some (.slice A5 a.before.length c5) ∧ w'.cell? ⟨w.heap.size + 1, 0, none⟩ = some (.slice D0 b.net.places.length d0) ∧ w'.cell? ⟨w.heap.size + 1, 1, none⟩ = some (.slice D1 b.net.arcs.length d1) ∧ w'.cell? ⟨w.heap.size + 1, 2, none⟩ = some (.slice D2 b.types.length d2) ∧ w'.cell? ⟨w.heap.size + 1, 3, none⟩ = some (.slice D3 b.orders.length d3) ∧ w'.cell? ⟨w.heap.size + 1, 4, none⟩ = some (.slice D4 b.apart.length d4) ∧ w'.cell? ⟨w.heap.size + 1, 5, none⟩ = some (.slice D5 b.before.length d5)) := Lib.hid fun w' h => by
    have hk := fun (o : Nat) => h.cell (p := ⟨w.heap.size, o, none⟩) (show w.heap.size < W0.heap.size by omega)
    have hk1 := fun (o : Nat) => h.cell (p := ⟨w.heap.size + 1, o, none⟩) hs0
    refine ⟨(hk _).trans ?_, (hk _).trans ?_, (hk _).trans ?_, (hk _).trans ?_, (hk _).trans ?_, (hk _).trans ?_, (hk1 _).trans ?_, (hk1 _).trans ?_, (hk1 _).trans ?_, (hk1 _).trans ?_, (hk1 _).trans ?_, (hk1 _).trans ?_⟩
    all_goals (rw [← hW0]; simp)
  have HP : Hid (∀ w', Below W0.heap.size W0 w' → InAt w' w'.heap.size a ⟨A0, c0, A1, c1, A2, c2, A3, c3, A4, c4, A5, c5⟩ ∧ InAt w' w'.heap.size b ⟨D0, d0, D1, d1, D2, d2, D3, d3, D4, d4, D5, d5⟩) := Lib.hid fun w' h => ⟨(hP.go hB0).go h, (hQ.go hB0).go h⟩
  have B0 : Below W0.heap.size W0 W0 := Below.refl _ _
  have HW0 := Lib.hid hW0
  clear hR hW0 hP hQ
  go_enter Tryz.func21, Tryz.ntmps21
  go_wp2_with fail
  rw [HW0.out]
  refine (eqStr_any A0 c0 a.net.places _ rfl D0 d0 b.net.places _ rfl _ _ _ (Nat.le_refl _) (Nat.le_refl _) (HP.out _ B0).1.places (HP.out _ B0).2.places).mono ?_
  rintro e w1 ⟨rfl, hb1⟩
  have B1 : Below W0.heap.size W0 w1 := B0.trans (hb1.mono B0.size)
  obtain ⟨m0, m1, m2, m3, m4, m5, n0, n1, n2, n3, n4, n5⟩ := HS.out _ B1
  cases hq0 : eqL sameS a.net.places b.net.places
  · have HT : Hid (R = false) := Lib.hid (by rw [HR0.out, hq0]; rfl)
    go_wp2
    go_ret
    exact ⟨ret_bool HT.out.symm, hB0.trans (B1.mono z0)⟩
  have HR1 : Hid (R = (eqL sameA a.net.arcs b.net.arcs && (eqL flt.sameT a.types b.types && (eqL ord.sameO a.orders b.orders && (eqL twoEq a.apart b.apart && (eqL twoEq a.before b.before)))))) := Lib.hid (by rw [HR0.out, hq0]; rfl)
  clear hq0 hb1
  go_wp2_with fail
  refine (eqArc_any A1 c1 a.net.arcs _ rfl D1 d1 b.net.arcs _ rfl _ _ _ (Nat.le_refl _) (Nat.le_refl _) (HP.out _ B1).1.arcs (HP.out _ B1).2.arcs).mono ?_
  rintro e w2 ⟨rfl, hb2⟩
  have B2 : Below W0.heap.size W0 w2 := B1.trans (hb2.mono B1.size)
  obtain ⟨m0, m1, m2, m3, m4, m5, n0, n1, n2, n3, n4, n5⟩ := HS.out _ B2
  cases hq1 : eqL sameA a.net.arcs b.net.arcs
  · have HT : Hid (R = false) := Lib.hid (by rw [HR1.out, hq1]; rfl)
    go_wp2
    go_ret
    exact ⟨ret_bool HT.out.symm, hB0.trans (B2.mono z0)⟩
  have HR2 : Hid (R = (eqL flt.sameT a.types b.types && (eqL ord.sameO a.orders b.orders && (eqL twoEq a.apart b.apart && (eqL twoEq a.before b.before))))) := Lib.hid (by rw [HR1.out, hq1]; rfl)
  clear hq1 hb2
  go_wp2_with fail
  refine (eqTy_any A2 c2 a.types _ rfl D2 d2 b.types _ rfl _ _ _ (Nat.le_refl _) (Nat.le_refl _) (HP.out _ B2).1.types (HP.out _ B2).2.types).mono ?_
  rintro e w3 ⟨rfl, hb3⟩
  have B3 : Below W0.heap.size W0 w3 := B2.trans (hb3.mono B2.size)
  obtain ⟨m0, m1, m2, m3, m4, m5, n0, n1, n2, n3, n4, n5⟩ := HS.out _ B3
  cases hq2 : eqL flt.sameT a.types b.types
  · have HT : Hid (R = false) := Lib.hid (by rw [HR2.out, hq2]; rfl)
    go_wp2
    go_ret
    exact ⟨ret_bool HT.out.symm, hB0.trans (B3.mono z0)⟩
  have HR3 : Hid (R = (eqL ord.sameO a.orders b.orders && (eqL twoEq a.apart b.apart && (eqL twoEq a.before b.before)))) := Lib.hid (by rw [HR2.out, hq2]; rfl)
  clear hq2 hb3
  go_wp2_with fail
  refine (eqOrd_any A3 c3 a.orders _ rfl D3 d3 b.orders _ rfl _ _ _ (Nat.le_refl _) (Nat.le_refl _) (HP.out _ B3).1.orders (HP.out _ B3).2.orders).mono ?_
  rintro e w4 ⟨rfl, hb4⟩
  have B4 : Below W0.heap.size W0 w4 := B3.trans (hb4.mono B3.size)
  obtain ⟨m0, m1, m2, m3, m4, m5, n0, n1, n2, n3, n4, n5⟩ := HS.out _ B4
  cases hq3 : eqL ord.sameO a.orders b.orders
  · have HT : Hid (R = false) := Lib.hid (by rw [HR3.out, hq3]; rfl)
    go_wp2
    go_ret
    exact ⟨ret_bool HT.out.symm, hB0.trans (B4.mono z0)⟩
  have HR4 : Hid (R = (eqL twoEq a.apart b.apart && (eqL twoEq a.before b.before))) := Lib.hid (by rw [HR3.out, hq3]; rfl)
  clear hq3 hb4
  go_wp2_with fail
  refine (eqTwo_any A4 c4 a.apart _ rfl D4 d4 b.apart _ rfl _ _ _ (Nat.le_refl _) (Nat.le_refl _) (HP.out _ B4).1.apart (HP.out _ B4).2.apart).mono ?_
  rintro e w5 ⟨rfl, hb5⟩
  have B5 : Below W0.heap.size W0 w5 := B4.trans (hb5.mono B4.size)
  obtain ⟨m0, m1, m2, m3, m4, m5, n0, n1, n2, n3, n4, n5⟩ := HS.out _ B5
  cases hq4 : eqL twoEq a.apart b.apart
  · have HT : Hid (R = false) := Lib.hid (by rw [HR4.out, hq4]; rfl)
    go_wp2
    go_ret
    exact ⟨ret_bool HT.out.symm, hB0.trans (B5.mono z0)⟩
  have HR5 : Hid (R = (eqL twoEq a.before b.before)) := Lib.hid (by rw [HR4.out, hq4]; rfl)
  clear hq4 hb5
  go_wp2_with fail
  refine (eqTwo_any A5 c5 a.before _ rfl D5 d5 b.before _ rfl _ _ _ (Nat.le_refl _) (Nat.le_refl _) (HP.out _ B5).1.before (HP.out _ B5).2.before).mono ?_
  rintro e w6 ⟨rfl, hb6⟩
  have B6 : Below W0.heap.size W0 w6 := B5.trans (hb6.mono B5.size)
  go_wp2
  go_ret
  exact ⟨ret_bool HR5.out.symm, hB0.trans (B6.mono z0)⟩
end Go.Proofs.YtceceomaheobhaaGreatDoor.ins

/- Parts of instances: plain words, orders in a row of the call's own. -/
namespace Go.Proofs.YtceceomaheobhaaGreatDoor.ins
open Go.RowKit
open Go.Proofs.YtceceomaheobhaaGreatDoor.lib Go.Proofs.YtceceomaheobhaaGreatDoor.rd Go.Proofs.YtceceomaheobhaaGreatDoor.typ Go.Proofs.YtceceomaheobhaaGreatDoor.app Go.Proofs.YtceceomaheobhaaGreatDoor.els Go.Proofs.YtceceomaheobhaaGreatDoor.ren Go.Proofs.YtceceomaheobhaaGreatDoor.ord Go.Proofs.YtceceomaheobhaaGreatDoor.sets
set_option linter.unusedVariables false
set_option linter.unusedSimpArgs false

theorem ord_elem : ElemOf 27 42 (.agg #[.string ⟨#[]⟩, .slice none 0 0, .int .i64 0, .int .i64 0, .int .i64 0, .int .i64 0, .int .i64 0, .int .i64 0, .int .i64 0, .int .i64 0, .int .i64 0, .int .i64 0, .int .i64 0, .int .i64 0, .int .i64 0, .bool false]) 16 152 := ⟨Tryz.underlying27, by kernel_rfl, rfl, by decide, by decide⟩
/-- The orders of a set below k. -/
def selO (s : Int) (l : List Ord) : Nat → List Ord
  | 0 => []
  | k + 1 => selO s l k ++ (match l[k]? with
    | some o => if hasN s k = true then [o] else []
    | none => [])
theorem selO_yes {s : Int} {l : List Ord} {k : Nat} {o : Ord} (h : l[k]? = some o) (hb : hasN s k = true) : selO s l (k + 1) = selO s l k ++ [o] := by
  rw [selO, h]
  simp [hb]
theorem selO_no {s : Int} {l : List Ord} {k : Nat} {o : Ord} (h : l[k]? = some o) (hb : hasN s k = false) : selO s l (k + 1) = selO s l k := by
  rw [selO, h]
  simp [hb]
theorem selO_len (s : Int) (l : List Ord) : ∀ k, (selO s l k).length ≤ k
  | 0 => Nat.le_refl _
  | k + 1 => by
    have ih := selO_len s l k
    rw [selO, List.length_append]
    split
    · split <;> simp <;> omega
    · simp; omega
theorem selO_mem {s : Int} {l : List Ord} : ∀ {k : Nat} {o : Ord}, o ∈ selO s l k → o ∈ l
  | 0, o, h => by cases h
  | k + 1, o, h => by
    rw [selO] at h
    rcases List.mem_append.1 h with h | h
    · exact selO_mem h
    · split at h
      · rename_i o' ho
        split at h
        · rw [List.mem_singleton] at h
          subst h
          exact List.mem_of_getElem? ho
        · cases h
      · cases h
/-- The part of an instance. -/
def onlyI (x : Ins) (s : Int) : Ins := ⟨x.net, x.types, selO s x.orders x.orders.length, renL (memTo s x.orders.length) x.apart, renL (memTo s x.orders.length) x.before⟩
def setBad (s : Int) (n : Nat) : Bool := decide (s < 0) || decide (s / 2 ^ n ≠ 0)
def nilI : Ins := ⟨⟨[], []⟩, [], [], [], []⟩
def nilP : InP := ⟨none, 0, none, 0, none, 0, none, 0, none, 0, none, 0⟩
/-- An order's cells but for its load. -/
def ordEl (o : Ord) : El := ⟨[.string o.name], o.load, [.int .i64 o.pick.place, .int .i64 o.pick.opn, .int .i64 o.pick.close, .int .i64 o.pick.service, .int .i64 o.drop.place, .int .i64 o.drop.opn, .int .i64 o.drop.close, .int .i64 o.drop.service, .int .i64 o.skills, .int .i64 o.penalty, .int .i64 o.split, .int .i64 o.last, .int .i64 o.now, .bool o.off]⟩
theorem ordEl_cells (o : Ord) (A : Option Addr) (c : Nat) : (ordEl o).cells A c = OrdCells o A c := rfl
/-- Rows of elements of two types lie in two blocks. -/
theorem own_ne_type {w : World} {base base' : Nat} {e e' : TypeId} {size size' n n' : Nat} {v v' : Value} {xs xs' : List Value} (h : w.ownsRow base e size v n xs) (h' : w.ownsRow base' e' size' v' n' xs') (hne : e ≠ e') : v.ownBlock = none ∨ v.ownBlock ≠ v'.ownBlock := by
  rcases h.2 with ⟨rfl, _⟩ | ⟨g, cap, cur, rfl, _, hg, _⟩
  · exact .inl rfl
  · right
    intro hb
    rcases h'.2 with ⟨rfl, _⟩ | ⟨g', cap', cur', rfl, _, hg', _⟩
    · cases hb
    · simp [Value.ownBlock] at hb
      subst hb
      rw [hg] at hg'
      injection hg' with hg'
      injection hg' with _ ht
      exact hne ht
theorem own_len_cap {w : World} {base : Nat} {e : TypeId} {size n c : Nat} {A : Option Addr} {xs : List Value} (h : w.ownsRow base e size (.slice A n c) n xs) : n ≤ c := by
  rcases h.2 with ⟨h1, h2⟩ | ⟨g, cap, cur, h1, _, _, h3, _⟩
  · omega
  · injection h1 with _ _ h1
    omega
/-- A block of six cells. -/
def SixAt (w : World) (k : Nat) (cs : List Value) : Prop := w.heap[k]? = some (.cells cs.toArray 30 (0, 0))
def insCs (x : Ins) (P : InP) : List Value := [.slice P.a0 x.net.places.length P.c0, .slice P.a1 x.net.arcs.length P.c1, .slice P.a2 x.types.length P.c2, .slice P.a3 x.orders.length P.c3, .slice P.a4 x.apart.length P.c4, .slice P.a5 x.before.length P.c5]
def nilCs : List Value := [.slice none 0 0, .slice none 0 0, .slice none 0 0, .slice none 0 0, .slice none 0 0, .slice none 0 0]
theorem SixAt.cell {w : World} {k : Nat} {cs : List Value} (h : SixAt w k cs) {j : Nat} {u : Value} (hu : cs[j]? = some u) : w.cell? ((⟨k, 0, none⟩ : Addr).add j) = some u := World.news_of_block (w := w) (B := k) h j u (by simpa using hu)
theorem SixAt.keep {w w' : World} {k : Nat} {cs : List Value} (h : SixAt w k cs) (e : w'.heap[k]? = w.heap[k]?) : SixAt w' k cs := e.trans h
theorem SixAt.below {w w' : World} {k : Nat} {cs : List Value} (h : SixAt w k cs) (hb : Below w.heap.size w w') : SixAt w' k cs := (hb.block k (Array.getElem?_eq_some_iff.1 h).1).trans h
theorem int_elem : ElemOf 38 3 (.int .i64 0) 1 8 := ⟨Tryz.underlying38, by kernel_rfl, rfl, by decide, by decide⟩
theorem ord_int : (42 : TypeId) ≠ 3 := by decide
theorem ordCells_one (o : Ord) (C : Option Addr) (c : Nat) : ∀ u ∈ OrdCells o C c, u.oneCell' = true := fun u hu => by
  simp only [OrdCells, List.mem_cons, List.not_mem_nil, or_false] at hu
  rcases hu with rfl | rfl | rfl | rfl | rfl | rfl | rfl | rfl | rfl | rfl | rfl | rfl | rfl | rfl | rfl | rfl <;> rfl
theorem ord_new (w : World) (o : Ord) (C : Option Addr) (c : Nat) (j : Nat) (u : Value) (h : (OrdCells o C c)[j]? = some u) : (w.alloc (.cells (OrdCells o C c).toArray 42)).cell? ((⟨w.heap.size, 0, none⟩ : Addr).add j) = some u :=
  World.news_of_block (w := w.alloc (.cells (OrdCells o C c).toArray 42)) (B := w.heap.size) (heap_alloc_new w _) j u (by simpa using h)
theorem own_ne_block {w : World} {base : Nat} {e : TypeId} {size n : Nat} {v : Value} {xs : List Value} {P : Nat} {o : Ord} {C : Option Addr} {c : Nat} (h : w.ownsRow base e size v n xs) (hb : OrBlk w P o C c) (hne : e ≠ 42) : v.ownBlock = none ∨ v.ownBlock ≠ some P := by
  rcases h.2 with ⟨rfl, _⟩ | ⟨g, cap, cur, rfl, _, hg, _⟩
  · exact .inl rfl
  · right
    intro hv
    simp [Value.ownBlock] at hv
    subst hv
    unfold OrBlk at hb
    rw [hg] at hb
    injection hb with hb
    injection hb with _ ht
    exact hne ht
/-- Where Only stands: the numbers ns and the orders os, in rows of its own. -/
structure OnlSt (H : Nat) (w : World) (bx : List Value) (ns : List Int) (os : List Ord) (wr : World) (B1 : Option Addr) (d1 : Nat) (B2 : Option Addr) (d2 : Nat) (cs : List Value) : Prop where
  own1 : wr.ownsRow (H + 1 + 1) 3 1 (.slice B1 ns.length d1) ns.length (ns.map (.int .i64))
  own2 : wr.ownsRow (H + 1 + 1) 42 16 (.slice B2 os.length d2) os.length cs
  els : ElsIn ordEl wr (· < H) cs os
  box : SixAt wr H bx
  res : SixAt wr (H + 1) nilCs
  bel : Below H w wr
  sz : H + 1 + 1 ≤ wr.heap.size
section
variable {H : Nat} {w : World} {bx : List Value} {ns : List Int} {os : List Ord} {wr wx : World} {B1 : Option Addr} {d1 : Nat} {B2 : Option Addr} {d2 : Nat} {cs : List Value}
theorem OnlSt.below (h : OnlSt H w bx ns os wr B1 d1 B2 d2 cs) (hb : Below wr.heap.size wr wx) : OnlSt H w bx ns os wx B1 d1 B2 d2 cs := by
  have := h.sz
  exact ⟨own_below h.own1 hb, own_below h.own2 hb, h.els.stay (row := none) (Stays.below hb) (fun b _ _ e => by cases e) (fun b _ hp => hp), h.box.below hb, h.res.below hb, h.bel.trans (hb.mono (by omega)), Nat.le_trans h.sz hb.size⟩
theorem OnlSt.push1 (h : OnlSt H w bx ns os wr B1 d1 B2 d2 cs) {k : Int} {A : Option Addr} {c : Nat}
    (hown : wx.ownsRow (H + 1 + 1) 3 1 (.slice A (ns.length + 1) c) (ns.length + 1) (ns.map (.int .i64) ++ [.int .i64 k])) (hg : wr.grownBy wx (Value.slice B1 ns.length d1).ownBlock) : OnlSt H w bx (ns ++ [k]) os wx A c B2 d2 cs := by
  have hb := fun q e => (World.ownsRow.lt h.own1 q e).1
  have hs := h.sz
  refine ⟨by rw [List.length_append, List.map_append]; exact hown, own_grown h.own2 hg (own_ne_type h.own2 h.own1 ord_int), h.els.stay (Stays.grown hg) (fun b _ hp e => ?_) (fun b _ hp => hp), h.box.keep (hg.block H (by omega) (fun e => ?_)), h.res.keep (hg.block (H + 1) (by omega) (fun e => ?_)), h.bel.grown hg (by omega) (fun q e => ?_), Nat.le_trans hs hg.size⟩
  · have h1 := hb b e.symm
    have h2 : b < H := hp
    omega
  · have := hb _ e.symm; omega
  · have := hb _ e.symm; omega
  · have := hb _ e; omega
theorem OnlSt.push2 (h : OnlSt H w bx ns os wr B1 d1 B2 d2 cs) {o : Ord} {C : Option Addr} {c0 : Nat} {A : Option Addr} {c : Nat} (hI : IntsOff wr (· < H) C o.load)
    (hown : wx.ownsRow (H + 1 + 1) 42 16 (.slice A (os.length + 1) c) (os.length + 1) (cs ++ OrdCells o C c0)) (hg : wr.grownBy wx (Value.slice B2 os.length d2).ownBlock) : OnlSt H w bx ns (os ++ [o]) wx B1 d1 A c (cs ++ OrdCells o C c0) := by
  have hb := fun q e => (World.ownsRow.lt h.own2 q e).1
  have hs := h.sz
  have hne : (Value.slice B1 ns.length d1).ownBlock = none ∨ (Value.slice B1 ns.length d1).ownBlock ≠ (Value.slice B2 os.length d2).ownBlock := own_ne_type h.own1 h.own2 (Ne.symm ord_int)
  have hst : ∀ b, b < wr.heap.size → b < H → some b ≠ (Value.slice B2 os.length d2).ownBlock := fun b _ hp e => by have := hb b e.symm; omega
  refine ⟨own_grown h.own1 hg hne, by rw [List.length_append]; exact hown, ElsIn.snoc c0 (h.els.stay (Stays.grown hg) hst (fun b _ hp => hp)) (hI.stay (Stays.grown hg) hst (fun b _ hp => hp)), h.box.keep (hg.block H (by omega) (fun e => ?_)), h.res.keep (hg.block (H + 1) (by omega) (fun e => ?_)), h.bel.grown hg (by omega) (fun q e => ?_), Nat.le_trans hs hg.size⟩
  · have := hb _ e.symm; omega
  · have := hb _ e.symm; omega
  · have := hb _ e; omega
end
theorem grownBy_set (W : World) (b i : Nat) (v : Value) : W.grownBy (W.setCell ⟨b, i, none⟩ v) (some b) :=
  ⟨rfl, rfl, rfl, (KeepsWalks.setCell W _ v).size, fun k _ hk => Below.heap_setCell _ _ _ k (fun e => hk (by rw [e]))⟩
theorem SixAt.set {w : World} {k : Nat} {cs : List Value} (h : SixAt w k cs) (i : Nat) (u : Value) : SixAt (w.setCell ⟨k, i, none⟩ u) k (cs.set i u) := by
  have h1 := heap_setCell_same w k i cs.toArray 30 u h
  simpa [SixAt] using h1
theorem SixAt.frozen {w : World} {k : Nat} {cs : List Value} (h : SixAt w k cs) (i : Nat) : w.frozen? ⟨k, i, none⟩ = false := by simp [World.frozen?, show w.heap[k]? = _ from h]
section
variable {H : Nat} {w : World} {bx : List Value} {ns : List Int} {os : List Ord} {wr wx : World} {B1 : Option Addr} {d1 : Nat} {B2 : Option Addr} {d2 : Nat} {cs : List Value}
theorem OnlSt.store (h : OnlSt H w bx ns os wr B1 d1 B2 d2 cs) (i : Nat) (u : Value) : OnlSt H w (bx.set i u) ns os (wr.setCell ⟨H, i, none⟩ u) B1 d1 B2 d2 cs := by
  have hs := h.sz
  have hg := grownBy_set wr H i u
  refine ⟨ownsRow_setCell_below h.own1 (by show H < _; omega) u, ownsRow_setCell_below h.own2 (by show H < _; omega) u, h.els.stay (Stays.grown hg) (fun b _ hp e => ?_) (fun b _ hp => hp), h.box.set i u, h.res.keep (Below.heap_setCell _ _ _ _ (by show H + 1 ≠ H; omega)), h.bel.setCell (p := ⟨H, i, none⟩) (Nat.le_refl _) u, Nat.le_trans hs hg.size⟩
  have h2 : b < H := hp
  injection e with e
  omega
theorem OnlSt.ints (h : OnlSt H w bx ns os wr B1 d1 B2 d2 cs) (hl : ns.length ≤ 1000) : Ints wr wr.heap.size B1 ns := Ints.of_own h.own1 (by omega)
theorem OnlSt.orders (h : OnlSt H w bx ns os wr B1 d1 B2 d2 cs) (hl : os.length ≤ 1000) (hf : ∀ o ∈ os, OrdFits o) : RowAt rOrd wr wr.heap.size B2 os :=
  h.els.row (r := rOrd) (fun o A c => rfl) h.own2 (fun o ho A c hi => rOrd_mk hi (hf o ho)) (by omega)
end
theorem two_fits {ps : List (Int × Int)} {w : World} {base c : Nat} {A : Option Addr} (h : w.ownsRow base 88 2 (.slice A ps.length c) ps.length (tcs ps)) (hf : ∀ p ∈ ps, (-100 ≤ p.1 ∧ p.1 ≤ 100000000) ∧ (-100 ≤ p.2 ∧ p.2 ≤ 100000000)) (hl : ps.length ≤ 17592186043904) : RowAt (rPair rInt rInt) w w.heap.size A ps :=
  rowAt_own (r := rPair rInt rInt) (cells := fun p => [.int .i64 p.1, .int .i64 p.2]) (fun _ => rfl) h (fun p hp => ⟨_, _, rfl, ⟨rfl, by have := hf p hp; omega⟩, ⟨rfl, by have := hf p hp; omega⟩⟩) hl (by decide)
/-- What the end keeps. -/
structure OnlT (H : Nat) (w : World) (ns : List Int) (os : List Ord) (ps qs : List (Int × Int)) (wr : World) (B1 : Option Addr) (d1 : Nat) (B2 : Option Addr) (d2 : Nat) (cs : List Value) (E1 : Option Addr) (f1 : Nat) (E2 : Option Addr) (f2 : Nat) : Prop where
  own1 : wr.ownsRow (H + 1 + 1) 3 1 (.slice B1 ns.length d1) ns.length (ns.map (.int .i64))
  own2 : wr.ownsRow (H + 1 + 1) 42 16 (.slice B2 os.length d2) os.length cs
  els : ElsIn ordEl wr (· < H) cs os
  own3 : wr.ownsRow (H + 1 + 1) 88 2 (.slice E1 ps.length f1) ps.length (tcs ps)
  own4 : wr.ownsRow (H + 1 + 1) 88 2 (.slice E2 qs.length f2) qs.length (tcs qs)
  bel : Below H w wr
  sz : H + 1 + 1 ≤ wr.heap.size
section
variable {H : Nat} {w : World} {bx : List Value} {ns : List Int} {os : List Ord} {ps qs : List (Int × Int)} {wr wx : World} {B1 : Option Addr} {d1 : Nat} {B2 : Option Addr} {d2 : Nat} {cs : List Value} {E1 : Option Addr} {f1 : Nat} {E2 : Option Addr} {f2 : Nat}
theorem OnlT.set (h : OnlT H w ns os ps qs wr B1 d1 B2 d2 cs E1 f1 E2 f2) {b : Nat} (hb1 : H ≤ b) (hb2 : b < H + 1 + 1) (i : Nat) (u : Value) : OnlT H w ns os ps qs (wr.setCell ⟨b, i, none⟩ u) B1 d1 B2 d2 cs E1 f1 E2 f2 := by
  have hs := h.sz
  have hg := grownBy_set wr b i u
  refine ⟨ownsRow_setCell_below h.own1 hb2 u, ownsRow_setCell_below h.own2 hb2 u, h.els.stay (Stays.grown hg) (fun b' _ hp e => ?_) (fun b _ hp => hp), ownsRow_setCell_below h.own3 hb2 u, ownsRow_setCell_below h.own4 hb2 u, h.bel.setCell (p := ⟨b, i, none⟩) hb1 u, Nat.le_trans hs hg.size⟩
  have h2 : b' < H := hp
  injection e with e
  omega
theorem OnlT.orders (h : OnlT H w ns os ps qs wr B1 d1 B2 d2 cs E1 f1 E2 f2) (hl : os.length ≤ 1000) (hf : ∀ o ∈ os, OrdFits o) : RowAt rOrd wr wr.heap.size B2 os :=
  h.els.row (r := rOrd) (fun o A c => rfl) h.own2 (fun o ho A c hi => rOrd_mk hi (hf o ho)) (by omega)
end
theorem idxGo_bd (n : Int) : ∀ (l : List Int) (k : Int), 0 ≤ k → -1 ≤ idx.idxGo n l k ∧ idx.idxGo n l k ≤ k + l.length
  | [], k, h => by unfold idx.idxGo; simp; omega
  | x :: l, k, h => by
    unfold idx.idxGo
    split
    · simp; omega
    · have := idxGo_bd n l (k + 1) (by omega)
      simp
      omega
theorem renL_bd {old : List Int} {l : List (Int × Int)} (h : old.length ≤ 1000) : ∀ p ∈ renL old l, (-100 ≤ p.1 ∧ p.1 ≤ 100000000) ∧ (-100 ≤ p.2 ∧ p.2 ≤ 100000000) := fun p hp => by
  unfold renL at hp
  rw [List.mem_flatMap] at hp
  obtain ⟨q, _, hq⟩ := hp
  unfold renP at hq
  split at hq
  · rw [List.mem_singleton] at hq
    subst hq
    have h1 := idxGo_bd q.1 old 0 (by omega)
    have h2 := idxGo_bd q.2 old 0 (by omega)
    unfold idx.idxI
    omega
  · cases hq
end Go.Proofs.YtceceomaheobhaaGreatDoor.ins

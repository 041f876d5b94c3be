/- Instances: where they lie; the sets of all orders and of those that must be served. -/
import Derived.Test.YtceceomaheobhaaBase
import Derived.Deep.QuietTactic
namespace Go.Proofs.Ytceceomaheobhaa.ins
open Go.RowKit
open Go.Proofs.Ytceceomaheobhaa.lib Go.Proofs.Ytceceomaheobhaa.rd Go.Proofs.Ytceceomaheobhaa.typ Go.Proofs.Ytceceomaheobhaa.sch Go.Proofs.Ytceceomaheobhaa.sets
set_option linter.unusedVariables false
set_option linter.unusedSimpArgs false

/-- Where an instance's lists lie. -/
structure InP where
  a0 : Option Addr
  c0 : Nat
  a1 : Option Addr
  c1 : Nat
  a2 : Option Addr
  c2 : Nat
  a3 : Option Addr
  c3 : Nat
  a4 : Option Addr
  c4 : Nat
  a5 : Option Addr
  c5 : Nat
abbrev InV (x : Ins) (P : InP) : Value := .agg #[.slice P.a0 x.net.places.length P.c0, .slice P.a1 x.net.arcs.length P.c1, .slice P.a2 x.types.length P.c2, .slice P.a3 x.orders.length P.c3, .slice P.a4 x.apart.length P.c4, .slice P.a5 x.before.length P.c5]
structure InAt (w : World) (B : Nat) (x : Ins) (P : InP) : Prop where
  places : RowAt rStr w B P.a0 x.net.places
  arcs : RowAt rArc w B P.a1 x.net.arcs
  types : RowAt rTy w B P.a2 x.types
  orders : RowAt rOrd w B P.a3 x.orders
  apart : RowAt (rPair rInt rInt) w B P.a4 x.apart
  before : RowAt (rPair rInt rInt) w B P.a5 x.before
  capT : x.types.length ≤ P.c2
  capO : x.orders.length ≤ P.c3
  capA : x.apart.length ≤ P.c4
  capB : x.before.length ≤ P.c5
theorem InAt.below {w w' : World} {B : Nat} {x : Ins} {P : InP} (h : InAt w B x P) (hb : Below B w w') : InAt w' B x P := ⟨h.1.below hb, h.2.below hb, h.3.below hb, h.4.below hb, h.5.below hb, h.6.below hb, h.7, h.8, h.9, h.10⟩
theorem InAt.more {w : World} {B B' : Nat} {x : Ins} {P : InP} (h : InAt w B x P) (hB : B ≤ B') : InAt w B' x P := ⟨h.1.more hB, h.2.more hB, h.3.more hB, h.4.more hB, h.5.more hB, h.6.more hB, h.7, h.8, h.9, h.10⟩
theorem InAt.go {w w' : World} {x : Ins} {P : InP} (h : InAt w w.heap.size x P) (hb : Below w.heap.size w w') : InAt w' w'.heap.size x P := (h.below hb).more hb.size

def allP (o : Ord) : Bool := !o.off
def mustP (o : Ord) : Bool := !o.off && (o.penalty == -1)
theorem mustP_all (o : Ord) (h : mustP o = true) : allP o = true := by unfold mustP at h; unfold allP; simp only [Bool.and_eq_true] at h; exact h.1
theorem wrap_p2 {k : Nat} (h2 : p2 k ≤ 2305843009213693952) : wrap64 (2 ^ k) = (p2 k : Int) := by
  have e : ((2 : Int) ^ k) = (p2 k : Int) := by rw [p2_eq]; simp
  rw [e]
  generalize p2 k = z at *
  unfold wrap64
  omega
theorem or_small {s k : Nat} (h1 : s < p2 k) (h2 : p2 k ≤ 2305843009213693952) : bits .or .i64 (s : Int) (wrap64 (2 ^ k)) = ((s ||| p2 k : Nat) : Int) := by
  rw [wrap_p2 h2]
  generalize p2 k = z at *
  exact or_nat s z (by omega) (by omega)
theorem allF_any (o : Ord) (b : Bool) (C : Option Addr) (c : Nat) (w : World) : Calls Try.prog 64 #[.agg #[.string o.name, .slice C o.load.length c, .int .i64 o.pick.place, .int .i64 o.pick.opn, .int .i64 o.pick.close, .int .i64 o.pick.service, .int .i64 o.drop.place, .int .i64 o.drop.opn, .int .i64 o.drop.close, .int .i64 o.drop.service, .int .i64 o.skills, .int .i64 o.penalty, .int .i64 o.split, .int .i64 o.last, .int .i64 o.now, .bool b]] w fun e w' => e = .returned (.bool true) ∧ Below w.heap.size w w' := by
  go_enter Try.func64, Try.ntmps64
  go_wp2
  go_ret
  exact ⟨rfl, (Below.refl _ _).alloc (Nat.le_refl _) _⟩
set_option maxHeartbeats 2000000 in
theorem allSuch_any (x : Ins) (P : InP) (w : World) (h : InAt w w.heap.size x P) (hl : x.orders.length ≤ 61) :
    Calls Try.prog 63 #[InV x P, .func (.func 64) #[] #[]] w fun e w' => e = .returned (.int .i64 (suchN allP x.orders x.orders.length)) ∧ Below w.heap.size w w' := by
  obtain ⟨a0, c0, a1, c1, a2, c2, a3, c3, a4, c4, a5, c5⟩ := P
  have hL := h.orders
  obtain ⟨n, hn⟩ : ∃ n, x.orders.length = n := ⟨_, rfl⟩
  obtain ⟨l, hxl⟩ : ∃ l, x.orders = l := ⟨_, rfl⟩
  have HN : Hid (l.length = n) := Lib.hid (by rw [← hxl]; exact hn)
  rw [hn] at hl
  simp only [InV]
  rw [hn]
  rw [hxl] at hL ⊢
  clear hn hxl h
  go_enter Try.func63, Try.ntmps63
  go_wp2
  go_loopw [5, 6, 7, 11] (fun v _ _ i wr => ∃ k : Nat, k ≤ n ∧ i = .int .i64 k ∧ v = .int .i64 (suchN allP l k) ∧ Below w.heap.size w wr) (fun _ _ _ i _ => n - (intOf i).toNat)
  case atStart => exact ⟨0, by omega, rfl, by rw [such_zero]; rfl, by repeat (first | assumption | exact Below.refl _ _ | refine Below.drew ?_ | refine Below.alloc ?_ (by first | omega | (simp <;> omega)) _ | refine Below.setCell ?_ (by first | omega | (simp <;> omega)) _)⟩
  case round =>
    obtain ⟨k, hk, rfl, rfl, hb⟩ := hrel
    have hz := hb.size
    by_cases hlt : k < n
    · obtain ⟨o, ho⟩ : ∃ o, l[k]? = some o := ⟨_, List.getElem?_eq_getElem (by rw [HN.out]; exact hlt)⟩
      obtain ⟨ad, C0, c0, rfl, hadb, ⟨m0, m1, m2, m3, m4, m5, m6, m7, m8, m9, m10, m11, m12, m13, m14, m15⟩, _, _⟩ := row_Ord (hL.below hb) ho
      have hk0 : (0 : Int) ≤ (k : Int) := by omega
      have hkn : (k : Int) < (n : Int) := by omega
      have HB := Lib.hid (such_lt allP l k)
      have HY : Hid (allP o = true → suchN allP l (k + 1) = suchN allP l k ||| p2 k) := Lib.hid (fun hp => such_yes ho hp)
      have HNO : Hid (allP o = false → suchN allP l (k + 1) = suchN allP l k) := Lib.hid (fun hp => such_no ho hp)
      obtain ⟨s, hs⟩ : ∃ s, suchN allP l k = s := ⟨_, rfl⟩
      rw [hs] at HB HY HNO
      simp only [hs]
      have hpw := p2_le (k := k) (by omega)
      have HS : Hid (bits .or .i64 (s : Int) (wrap64 (2 ^ k)) = ((s ||| p2 k : Nat) : Int)) := Lib.hid (or_small HB.out hpw)
      clear ho hs
      cases hoff : o.off
      case false =>
        have HF : Hid (suchN allP l (k + 1) = s ||| p2 k) := Lib.hid (HY.out (by unfold allP; rw [hoff]; rfl))
        go_wp2_with (go_at_call 64; refine (allF_any o false _ _ _).mono ?_; rintro e w1 ⟨rfl, hb1⟩)
        go_roundw
        case rel => exact ⟨k + 1, by omega, by go_num, by first | (rw [HF.out]; done) | rw [HF.out, ← HS.out], (hb.alloc hz _).trans (hb1.mono (by simp; omega))⟩
        case measure => simp [intOf]; omega
      case true =>
        have HF : Hid (suchN allP l (k + 1) = s) := Lib.hid (HNO.out (by unfold allP; rw [hoff]; rfl))
        go_wp2
        go_roundw
        case rel => exact ⟨k + 1, by omega, by go_num, by rw [HF.out], hb.alloc hz _⟩
        case measure => simp [intOf]; omega
    · have hkn : k = n := by omega
      subst hkn
      go_wp2
      go_ret
      exact ⟨rfl, hb⟩
theorem all_any (x : Ins) (P : InP) (w : World) (h : InAt w w.heap.size x P) (hl : x.orders.length ≤ 61) :
    Calls Try.prog 40 #[InV x P] w fun e w' => e = .returned (.int .i64 (suchN allP x.orders x.orders.length)) ∧ Below w.heap.size w w' := by
  have H : Hid (∀ o, Calls Try.prog 63 #[InV x P, .func (.func 64) #[] #[]] (w.alloc o) fun e w' => e = .returned (.int .i64 (suchN allP x.orders x.orders.length)) ∧ Below (w.alloc o).heap.size (w.alloc o) w') := Lib.hid fun o => allSuch_any x P _ (h.go ((Below.refl _ _).alloc (Nat.le_refl _) _)) hl
  clear h hl
  go_enter Try.func40, Try.ntmps40
  go_wp2_with fail
  refine (H.out _).mono ?_
  rintro e w1 ⟨rfl, hb1⟩
  go_wp2
  go_ret
  exact ⟨rfl, ((Below.refl _ _).alloc (Nat.le_refl _) _).trans (hb1.mono (by simp))⟩
end Go.Proofs.Ytceceomaheobhaa.ins

import Derived.Test.YthcmopgdjibojaaGreatDoorBase
import Derived.Test.YthcmopgdjibojaaGreatDoorRatF
import Derived.Test.YthcmopgdjibojaaGreatDoorSmxY
import Derived.Test.YthcmopgdjibojaaGreatDoorC2
/- Linear programs, read from memory. -/
namespace Go.Proofs.YthcmopgdjibojaaGreatDoor.typ
open Go.RowKit
open Go.ChangeShapes Go.WideShapes Go.ChangeAt Go.Deep
open Go.Proofs.YthcmopgdjibojaaGreatDoor.lib
open Go.Proofs.YthcmopgdjibojaaGreatDoor.rd
set_option linter.unusedVariables false

/-- In the reach of an int. -/
def i64Q (n : Int) : Prop := -9223372036854775808 ≤ n ∧ n ≤ 9223372036854775807
/-- Numbers, each in the reach of an int. -/
def rI64 : Rd (List Int) where
  size := 1
  at_ w B cs x := rInts.at_ w B cs x ∧ ∀ y ∈ x, i64Q y
  len h := rInts.len h.1
  keep hk h := ⟨rInts.keep hk h.1, h.2⟩
  more hB h := ⟨rInts.more hB h.1, h.2⟩
theorem opens_i64 {t e : TypeId} (ht : Tryz.prog.underlying t = some (.slice e)) (he : Tryz.prog.underlying e = some (.int .i64)) (hC : Tryz.prog.cellsOf e = 1) (h8 : 8 ≤ Tryz.prog.bytesOf e) : Opens t rI64 := fun H enc W fuel cs y h hw => by
  obtain ⟨l, A, c, rfl, hl, hr⟩ := opens_slice ht hC (by decide) h8 (opens_int he) H enc W fuel cs y h hw
  refine ⟨l, ⟨A, c, rfl, ⟨by simp, fun hn => ?_⟩, hl⟩, fun x hx => ?_⟩
  · obtain ⟨ad, cs0, hA, hb, _, _⟩ := hr 0 l[0] (List.getElem?_eq_getElem hn)
    refine ⟨ad, hA, hb, fun j u hu => ?_⟩
    rw [List.getElem?_map, Option.map_eq_some_iff] at hu
    obtain ⟨x, hx, rfl⟩ := hu
    obtain ⟨ad', cs1, hA', _, ⟨rfl, _⟩, h4⟩ := hr j x hx
    have e0 := Option.some.inj (hA.symm.trans hA')
    subst e0
    have := h4 0 _ rfl
    simpa [rInt] using this
  · obtain ⟨i, hi⟩ := List.getElem?_of_mem hx
    obtain ⟨ad', cs1, hA', _, ⟨rfl, h3⟩, h4⟩ := hr i x hi
    exact h3

structure Lrw where
  coef : List Int
  kind : Int
  right : Int
def rLrw : Rd Lrw := rMap (rPair rI64 (rPair rInt rInt)) fun x => ⟨x.1, x.2.1, x.2.2⟩
def LrwCells (t : Lrw) (C0 : Option Addr) (c0 : Nat) : List Value := [.slice C0 t.coef.length c0, .int .i64 t.kind, .int .i64 t.right]
def LrwFits (t : Lrw) : Prop := (∀ y ∈ t.coef, i64Q y) ∧ (-9223372036854775808 ≤ t.kind ∧ t.kind ≤ 9223372036854775807) ∧ (-9223372036854775808 ≤ t.right ∧ t.right ≤ 9223372036854775807)
theorem rLrw_at {w : World} {B : Nat} {cs : List Value} {t : Lrw} (h : rLrw.at_ w B cs t) : ∃ C0 c0, cs = LrwCells t C0 c0 ∧ Ints w B C0 t.coef ∧ LrwFits t := by
  obtain ⟨⟨f0, f1, f2⟩, rfl, _, _, rfl, ⟨⟨A0, d0, rfl, hr0⟩, h64⟩, _, _, rfl, ⟨rfl, hf1⟩, ⟨rfl, hf2⟩⟩ := h
  exact ⟨A0, d0, rfl, hr0, h64, hf1, hf2⟩
set_option maxRecDepth 20000 in
theorem opens_Lrw : Opens 30 rLrw := opens_map _ (opens_struct Tryz.underlying30 (by kernel_rfl) (fieldsOpen_cons rfl (by kernel_rfl) (opens_i64 Tryz.underlying22 Tryz.underlying3 (by kernel_rfl) (by rw [show Tryz.prog.bytesOf 3 = 8 by kernel_rfl]; omega)) (fieldsOpen_cons rfl (by kernel_rfl) (opens_int Tryz.underlying3) (fieldsOpen_one rfl (by kernel_rfl) (opens_int Tryz.underlying3)))))
/-- What lies at an element's address. -/
def LrwAt (w : World) (ea : Addr) (t : Lrw) (C0 : Option Addr) (c0 : Nat) : Prop := w.cell? ea = some (.slice C0 t.coef.length c0) ∧ w.cell? ⟨ea.block, ea.off + 1, none⟩ = some (.int .i64 t.kind) ∧ w.cell? ⟨ea.block, ea.off + 2, none⟩ = some (.int .i64 t.right)
theorem row_Lrw {w : World} {B : Nat} {A : Option Addr} {l : List Lrw} (h : RowAt rLrw w B A l) {i : Nat} {t : Lrw} (hi : l[i]? = some t) : ∃ (ad : Addr) (C0 : Option Addr) (c0 : Nat), A = some ad ∧ ad.block < B ∧ LrwAt w (ad.add (i * 3)) t C0 c0 ∧ Ints w B C0 t.coef ∧ LrwFits t := by
  obtain ⟨ad, cs, hA, hb, hr, hc⟩ := h.2 i t hi
  obtain ⟨C0, c0, rfl, hrest⟩ := rLrw_at hr
  exact ⟨ad, C0, c0, hA, hb, ⟨hc 0 _ rfl, by rw [← add_split]; exact hc 1 _ rfl, by rw [← add_split]; exact hc 2 _ rfl⟩, hrest⟩

structure Lnr where
  cost : List Int
  rows : List Lrw
def rLnr : Rd Lnr := rMap (rPair rI64 (rSlice rLrw)) fun x => ⟨x.1, x.2⟩
def LnrCells (t : Lnr) (C0 : Option Addr) (c0 : Nat) (C1 : Option Addr) (c1 : Nat) : List Value := [.slice C0 t.cost.length c0, .slice C1 t.rows.length c1]
def LnrFits (t : Lnr) : Prop := ∀ y ∈ t.cost, i64Q y
theorem rLnr_at {w : World} {B : Nat} {cs : List Value} {t : Lnr} (h : rLnr.at_ w B cs t) : ∃ C0 c0 C1 c1, cs = LnrCells t C0 c0 C1 c1 ∧ Ints w B C0 t.cost ∧ RowAt rLrw w B C1 t.rows ∧ LnrFits t := by
  obtain ⟨⟨f0, f1⟩, rfl, _, _, rfl, ⟨⟨A0, d0, rfl, hr0⟩, h64⟩, ⟨A1, d1, rfl, hr1⟩⟩ := h
  exact ⟨A0, d0, A1, d1, rfl, hr0, hr1, h64⟩
set_option maxRecDepth 20000 in
theorem opens_Lnr : Opens 25 rLnr := opens_map _ (opens_struct Tryz.underlying25 (by kernel_rfl) (fieldsOpen_cons rfl (by kernel_rfl) (opens_i64 Tryz.underlying22 Tryz.underlying3 (by kernel_rfl) (by rw [show Tryz.prog.bytesOf 3 = 8 by kernel_rfl]; omega)) (fieldsOpen_one rfl (by kernel_rfl) (opens_slice Tryz.underlying23 (by kernel_rfl) (by decide) (of_decide_eq_true (by kernel_rfl)) opens_Lrw))))
end Go.Proofs.YthcmopgdjibojaaGreatDoor.typ

/- linear: Check, Value, Left, holds. -/
namespace Go.Proofs.YthcmopgdjibojaaGreatDoor.lnr
open Go.RowKit
open Go.Proofs.YthcmopgdjibojaaGreatDoor.lib Go.Proofs.YthcmopgdjibojaaGreatDoor.app Go.Proofs.YthcmopgdjibojaaGreatDoor.nt Go.Proofs.YthcmopgdjibojaaGreatDoor.rd Go.Proofs.YthcmopgdjibojaaGreatDoor.wh Go.Proofs.YthcmopgdjibojaaGreatDoor.smx Go.Proofs.YthcmopgdjibojaaGreatDoor.rat Go.Proofs.YthcmopgdjibojaaGreatDoor.typ
set_option linter.unusedVariables false
set_option linter.unusedSimpArgs false

/-- A program that is right. -/
def LnOk (t : Lnr) : Prop := ∀ r ∈ t.rows, r.coef.length = t.cost.length ∧ 1 ≤ r.kind ∧ r.kind ≤ 3
/-- A program as a value. -/
def LnV (n m : Nat) (C0 : Option Addr) (c0 : Nat) (C1 : Option Addr) (c1 : Nat) : Value := .agg #[.slice C0 n c0, .slice C1 m c1]
/-- A program in a block of its own. -/
def PBox (w : World) (b n m : Nat) (C0 : Option Addr) (c0 : Nat) (C1 : Option Addr) (c1 : Nat) : Prop :=
  w.cell? ⟨b, 0, none⟩ = some (.slice C0 n c0) ∧ w.cell? ⟨b, 1, none⟩ = some (.slice C1 m c1)
theorem PBox.below {w w' : World} {B b n m c0 c1 : Nat} {C0 C1 : Option Addr} (h : PBox w b n m C0 c0 C1 c1) (hb : Below B w w') (h1 : b < B) : PBox w' b n m C0 c0 C1 c1 :=
  ⟨(hb.cell (p := ⟨b, 0, none⟩) h1).trans h.1, (hb.cell (p := ⟨b, 1, none⟩) h1).trans h.2⟩
theorem row_at {w : World} {B k : Nat} {A : Option Addr} {l : List Lrw} (h : RowAt rLrw w B A l) (hk : k < l.length) : ∃ (t : Lrw) (ad : Addr) (C0 : Option Addr) (c0 : Nat), l[k]? = some t ∧ A = some ad ∧ ad.block < B ∧ LrwAt w (ad.add (k * 3)) t C0 c0 ∧ Ints w B C0 t.coef ∧ LrwFits t := by
  obtain ⟨ad, C0, c0, hA, hb, h1, h2, h3⟩ := row_Lrw h (List.getElem?_eq_getElem hk)
  exact ⟨l[k], ad, C0, c0, List.getElem?_eq_getElem hk, hA, hb, h1, h2, h3⟩

set_option maxRecDepth 20000 in
set_option maxHeartbeats 1000000 in
theorem check_any (C0 : Option Addr) (c0 : Nat) (C1 : Option Addr) (c1 : Nat) (t : Lnr) (h0 : LnOk t) (hn : t.cost.length ≤ 8) (hm : t.rows.length ≤ 6) (w : World) (B : Nat) (hB : B ≤ w.heap.size) (hr : RowAt rLrw w B C1 t.rows) :
    Calls Tryz.prog 21 #[LnV t.cost.length t.rows.length C0 c0 C1 c1] w fun e w' => e = .returned (.slice none 0 0) ∧ Below w.heap.size w w' := by
  obtain ⟨n, hn'⟩ : ∃ n, t.cost.length = n := ⟨_, rfl⟩
  have HK : Hid (∀ r ∈ t.rows, r.coef.length = n ∧ 1 ≤ r.kind ∧ r.kind ≤ 3) := Lib.hid (by rw [← hn']; exact h0)
  obtain ⟨l, hl⟩ : ∃ l, t.rows = l := ⟨_, rfl⟩
  rw [hl] at HK hr hm ⊢
  rw [hn'] at hn ⊢
  clear h0 hl hn'
  unfold LnV
  obtain ⟨m, hm'⟩ : ∃ m, l.length = m := ⟨_, rfl⟩
  have hbelr : ∀ w', Below w.heap.size w w' → RowAt rLrw w' B C1 l := fun w' h => hr.below (h.mono hB)
  rw [hm'] at hm ⊢
  go_enter Tryz.func21, Tryz.ntmps21
  go_wp2
  go_loopw [3, 26] (fun o i wr => ∃ k : Nat, k ≤ m ∧ i = .int .i64 k ∧ o = .slice none 0 0 ∧ Below w.heap.size w wr ∧ w.heap.size < wr.heap.size ∧ PBox wr w.heap.size n m C0 c0 C1 c1) (fun _ i _ => m - (intOf i).toNat)
  case atStart => exact ⟨0, by omega, rfl, rfl, by repeat (first | assumption | exact Below.refl _ _ | refine Below.drew ?_ | refine Below.alloc ?_ (by first | omega | (simp <;> omega)) _ | refine Below.setCell ?_ (by first | omega | (simp <;> omega)) _), by simp, by simp [PBox]⟩
  case round =>
    obtain ⟨k, hk, rfl, rfl, hbel, hsz, ⟨b0, b1⟩⟩ := hrel
    by_cases hlt : k < m
    · obtain ⟨r, ad, D0, d0, hx, rfl, hadb, ⟨k0, k1, k2⟩, hI, hF⟩ := row_at (hbelr _ hbel) (k := k) (by omega)
      obtain ⟨hc, h1, h3⟩ := HK.out r (List.mem_of_getElem? hx)
      have hk100 : k < 100 := by omega
      rw [hc] at k0
      have hb' : (ad.add (k * 3)).block < wr.heap.size := by rw [block_of_add]; omega
      clear hx hI hF
      go_wp2_with (go_at_call 62; refine (txt.dec_any k hk100 _).mono ?_; rintro e we ⟨rfl, rfl⟩)
      go_roundw
      case rel => exact ⟨k + 1, by omega, by go_num, rfl, by repeat (first | assumption | exact Below.refl _ _ | refine Below.drew ?_ | refine Below.alloc ?_ (by first | omega | (simp <;> omega)) _ | refine Below.setCell ?_ (by first | omega | (simp <;> omega)) _), by simp; omega, PBox.below (B := wr.heap.size) ⟨b0, b1⟩ (by repeat (first | assumption | exact Below.refl _ _ | refine Below.drew ?_ | refine Below.alloc ?_ (by first | omega | (simp <;> omega)) _ | refine Below.setCell ?_ (by first | omega | (simp <;> omega)) _)) hsz⟩
      case measure => simp [intOf]; omega
    · obtain rfl : k = m := by omega
      clear hlt
      go_wp2
      go_ret
      exact ⟨rfl, hbel⟩
end Go.Proofs.YthcmopgdjibojaaGreatDoor.lnr

/- linear: Value, Left, holds. -/
namespace Go.Proofs.YthcmopgdjibojaaGreatDoor.lnr
open Go.RowKit
open Go.Proofs.YthcmopgdjibojaaGreatDoor.lib Go.Proofs.YthcmopgdjibojaaGreatDoor.app Go.Proofs.YthcmopgdjibojaaGreatDoor.nt Go.Proofs.YthcmopgdjibojaaGreatDoor.rd Go.Proofs.YthcmopgdjibojaaGreatDoor.wh Go.Proofs.YthcmopgdjibojaaGreatDoor.smx Go.Proofs.YthcmopgdjibojaaGreatDoor.rat Go.Proofs.YthcmopgdjibojaaGreatDoor.typ
set_option linter.unusedVariables false
set_option linter.unusedSimpArgs false

set_option maxHeartbeats 1000000 in
theorem value_any (C0 : Option Addr) (c0 : Nat) (C1 : Option Addr) (c1 m : Nat) (l : List Int) (A' : Option Addr) (c' : Nat) (q : Nat → Rat) (hn : l.length ≤ 8) (h64 : ∀ x ∈ l, i64Q x) (hq : ∀ i, i < l.length → Dg 200 (q i)) (w : World) (B B' : Nat) (hB : B ≤ w.heap.size) (hB' : B' ≤ w.heap.size) (hl : Ints w B C0 l) (hr : Rats w B' A' l.length q) (ht : TabT w) :
    Calls Tryz.prog 9 #[LnV l.length m C0 c0 C1 c1, .slice A' l.length c'] w (RatOut w (dot l q l.length)) := by
  have HT := Lib.hid (fun (w' : World) (h : Below w.heap.size w w') => times_any C0 c0 l A' c' q hn h64 hq w' B B' (Nat.le_trans hB h.size) (Nat.le_trans hB' h.size) (hl.below (h.mono hB)) (hr.below (h.mono hB')) (ht.below h))
  unfold RatOut at HT ⊢
  unfold LnV
  generalize ratS (dot l q l.length) = R at HT ⊢
  obtain ⟨n, hn'⟩ : ∃ n, l.length = n := ⟨_, rfl⟩
  rw [hn'] at HT ⊢
  clear hn' h64 hq ht hr hl hn
  go_enter Tryz.func9, Tryz.ntmps9
  go_wp2_with (go_at_call 37; (with_reducible refine (HT.out _ (by exact by repeat (first | assumption | exact Below.refl _ _ | refine Below.drew ?_ | refine Below.alloc ?_ (by first | omega | (simp <;> omega)) _ | refine Below.setCell ?_ (by first | omega | (simp <;> omega)) _))).mono ?_); rintro e w2 ⟨rfl, hb2⟩; have hbl : Below w.heap.size w w2 := Below.trans (by repeat (first | assumption | exact Below.refl _ _ | refine Below.drew ?_ | refine Below.alloc ?_ (by first | omega | (simp <;> omega)) _ | refine Below.setCell ?_ (by first | omega | (simp <;> omega)) _)) (hb2.mono (by simp)))
  go_ret2
  exact ⟨rfl, hbl⟩

set_option maxHeartbeats 1000000 in
theorem left_any (C0 : Option Addr) (c0 : Nat) (C1 : Option Addr) (c1 n : Nat) (l : List Lrw) (i : Nat) (r : Lrw) (hi : l[i]? = some r) (A' : Option Addr) (c' : Nat) (q : Nat → Rat) (hn : r.coef.length = n) (hn8 : n ≤ 8) (hq : ∀ i, i < n → Dg 200 (q i)) (w : World) (B B' : Nat) (hB : B ≤ w.heap.size) (hB' : B' ≤ w.heap.size) (hl : RowAt rLrw w B C1 l) (hr : Rats w B' A' n q) (ht : TabT w) :
    Calls Tryz.prog 43 #[LnV n l.length C0 c0 C1 c1, .int .i64 i, .slice A' n c'] w (RatOut w (dot r.coef q n)) := by
  have hlen := hl.len
  have hil : i < l.length := (List.getElem?_eq_some_iff.1 hi).1
  obtain ⟨ad, D0, d0, rfl, hadb, ⟨k0, k1, k2⟩, hI, hF⟩ := row_Lrw hl hi
  have HT := Lib.hid (fun (w' : World) (h : Below w.heap.size w w') => times_any D0 d0 r.coef A' c' q (by omega) hF.1 (fun i hi => hq i (by omega)) w' B B' (Nat.le_trans hB h.size) (Nat.le_trans hB' h.size) (hI.below (h.mono hB)) (by rw [hn]; exact hr.below (h.mono hB')) (ht.below h))
  unfold RatOut at HT ⊢
  unfold LnV
  rw [hn] at HT k0
  generalize ratS (dot r.coef q n) = R at HT ⊢
  obtain ⟨m, hm⟩ : ∃ m, l.length = m := ⟨_, rfl⟩
  rw [hm] at hlen hil ⊢
  have hb' : (ad.add (i * 3)).block < w.heap.size := by rw [block_of_add]; omega
  clear hm hl hi hn hI hF hq ht hr k1 k2
  have hi0 : (0 : Int) ≤ i := by omega
  have him : (i : Int) < m := by omega
  go_enter Tryz.func43, Tryz.ntmps43
  go_wp2_with (go_at_call 37; (with_reducible refine (HT.out _ (by exact by repeat (first | assumption | exact Below.refl _ _ | refine Below.drew ?_ | refine Below.alloc ?_ (by first | omega | (simp <;> omega)) _ | refine Below.setCell ?_ (by first | omega | (simp <;> omega)) _))).mono ?_); rintro e w2 ⟨rfl, hb2⟩; have hbl : Below w.heap.size w w2 := Below.trans (by repeat (first | assumption | exact Below.refl _ _ | refine Below.drew ?_ | refine Below.alloc ?_ (by first | omega | (simp <;> omega)) _ | refine Below.setCell ?_ (by first | omega | (simp <;> omega)) _)) (hb2.mono (by simp)))
  go_ret2
  exact ⟨rfl, hbl⟩

theorem holds_any (kind : Int) (hk : 1 ≤ kind ∧ kind ≤ 3) (a b : Rat) (hh : Lp.Holds kind a b) (ha : Dg 4095 a) (hb : Dg 4095 b) (w : World) (ht : TabT w) :
    Calls Tryz.prog 44 #[.int .i64 kind, .string (ratS a), .string (ratS b)] w fun e w' => e = .returned (.bool true) ∧ Below w.heap.size w w' := by
  have HC := Lib.hid (compare_any a b ha hb w ht)
  have h1 : kind = 1 → cmpQ a b ≤ 0 := fun h => by
    have h2 := hh.1 h
    rcases Rat.le_iff_lt_or_eq.1 h2 with h3 | h3
    · have := cmpQ_lt.2 h3; omega
    · have := cmpQ_eq.2 h3; omega
  have h2 : kind = 2 → cmpQ a b = 0 := fun h => cmpQ_eq.2 (hh.2.1 h)
  have h3 : kind = 3 → 0 ≤ cmpQ a b := fun h => by
    have h2 := hh.2.2 h
    refine Int.not_lt.1 fun h4 => ?_
    have h5 := cmpQ_lt.1 h4
    exact Rat.not_le.2 h5 h2
  generalize cmpQ a b = c at HC h1 h2 h3
  generalize ratS a = S at HC ⊢
  generalize ratS b = R at HC ⊢
  clear hh ha hb ht
  have hk3 : kind = 1 ∨ kind = 2 ∨ kind = 3 := by omega
  clear hk
  go_enter Tryz.func44, Tryz.ntmps44
  rcases hk3 with rfl | rfl | rfl
  · have hc := h1 rfl
    clear h1 h2 h3
    go_wp2_with (go_at_call 76; (with_reducible refine HC.out.mono ?_); rintro e w2 ⟨rfl, hb2⟩)
    go_ret
    exact ⟨rfl, hb2⟩
  · have hc := h2 rfl
    clear h1 h2 h3
    go_wp2_with (go_at_call 76; (with_reducible refine HC.out.mono ?_); rintro e w2 ⟨rfl, hb2⟩)
    go_ret
    exact ⟨rfl, hb2⟩
  · have hc := h3 rfl
    clear h1 h2 h3
    go_wp2_with (go_at_call 76; (with_reducible refine HC.out.mono ?_); rintro e w2 ⟨rfl, hb2⟩)
    go_ret
    exact ⟨rfl, hb2⟩
end Go.Proofs.YthcmopgdjibojaaGreatDoor.lnr

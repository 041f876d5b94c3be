import Derived.Test.YthcmopgdjibojaaGreatDoorLnrY
import Derived.Test.YthcmopgdjibojaaGreatDoorLnrF
/- linear: Proves, Refutes. -/
namespace Go.Proofs.YthcmopgdjibojaaGreatDoor.lnr
open Go.RowKit
open Go.Proofs.YthcmopgdjibojaaGreatDoor.lib Go.Proofs.YthcmopgdjibojaaGreatDoor.app Go.Proofs.YthcmopgdjibojaaGreatDoor.nt Go.Proofs.YthcmopgdjibojaaGreatDoor.rd Go.Proofs.YthcmopgdjibojaaGreatDoor.wh Go.Proofs.YthcmopgdjibojaaGreatDoor.smx Go.Proofs.YthcmopgdjibojaaGreatDoor.rat Go.Proofs.YthcmopgdjibojaaGreatDoor.typ
set_option linter.unusedVariables false
set_option linter.unusedSimpArgs false

theorem PBox.new {w w' : World} {n m c0 c1 ty : Nat} {C0 C1 : Option Addr} (hb : Below (w.alloc (.cells #[.slice C0 n c0, .slice C1 m c1] ty)).heap.size (w.alloc (.cells #[.slice C0 n c0, .slice C1 m c1] ty)) w') : PBox w' w.heap.size n m C0 c0 C1 c1 := by
  refine PBox.below (w := w.alloc (.cells #[.slice C0 n c0, .slice C1 m c1] ty)) ?_ hb (by simp)
  simp [PBox]
theorem cost_any (pb n m c0 c1 : Nat) (C0 C1 : Option Addr) (l : List Int) (i : Nat) (x : Int) (hx : l[i]? = some x) (hn : l.length = n) (w : World) (B : Nat) (hp : pb < w.heap.size) (h : PBox w pb n m C0 c0 C1 c1) (hI : Ints w B C0 l) (hB : B ≤ w.heap.size) :
    Calls Tryz.prog 40 #[.int .i64 i, .pointer (some ⟨pb, 0, none⟩)] w fun e w' => e = .returned (.int .i64 x) ∧ Below w.heap.size w w' := by
  have hil := (List.getElem?_eq_some_iff.1 hx).1
  have hlen := hI.len
  obtain ⟨ad, y, rfl, hadb, hy, hcy⟩ := hI.at_ (k := i) hil
  rw [hx] at hy
  injection hy with hy
  subst hy
  obtain ⟨b0, b1⟩ := h
  have hi0 : (0 : Int) ≤ i := by omega
  have hin : (i : Int) < n := by omega
  have hb : (ad.add i).block < w.heap.size := by rw [block_of_add]; omega
  clear hx hI
  go_enter Tryz.func40, Tryz.ntmps40
  go_wp2
  go_ret
  exact ⟨rfl, by repeat (first | assumption | exact Below.refl _ _ | refine Below.drew ?_ | refine Below.alloc ?_ (by first | omega | (simp <;> omega)) _ | refine Below.setCell ?_ (by first | omega | (simp <;> omega)) _)⟩
theorem zero_any (i : Nat) (w : World) :
    Calls Tryz.prog 46 #[.int .i64 i] w fun e w' => e = .returned (.int .i64 0) ∧ Below w.heap.size w w' := by
  go_enter Tryz.func46, Tryz.ntmps46
  go_wp2
  go_ret
  exact ⟨rfl, by repeat (first | assumption | exact Below.refl _ _ | refine Below.drew ?_ | refine Below.alloc ?_ (by first | omega | (simp <;> omega)) _ | refine Below.setCell ?_ (by first | omega | (simp <;> omega)) _)⟩

set_option maxRecDepth 20000 in
set_option maxHeartbeats 2000000 in
theorem proves_any (C0 : Option Addr) (c0 : Nat) (C1 : Option Addr) (c1 : Nat) (t : Lnr) (h0 : LnOk t) (h64 : LnrFits t) (hn8 : t.cost.length ≤ 8) (hm6 : t.rows.length ≤ 6) (A' : Option Addr) (c' : Nat) (q : Nat → Rat)
    (hq : ∀ i, i < t.rows.length → Dg 200 (q i)) (hs : ∀ i r, t.rows[i]? = some r → (r.kind = 1 → q i ≤ 0) ∧ (r.kind = 3 → 0 ≤ q i))
    (hle : ∀ i, i < t.cost.length → dot (colL t.rows i) q t.rows.length ≤ ((t.cost[i]?.getD 0 : Int) : Rat))
    (w : World) (B B' : Nat) (hB : B ≤ w.heap.size) (hB' : B' ≤ w.heap.size) (hI : Ints w B C0 t.cost) (hl : RowAt rLrw w B C1 t.rows) (hr : Rats w B' A' t.rows.length q) (ht : TabT w) :
    Calls Tryz.prog 10 #[LnV t.cost.length t.rows.length C0 c0 C1 c1, .slice A' t.rows.length c'] w fun e w' => e = .returned (.tuple #[.string (ratS (dot (rightL t.rows) q t.rows.length)), .bool true]) ∧ Below w.heap.size w w' := by
  obtain ⟨n, hn⟩ : ∃ n, t.cost.length = n := ⟨_, rfl⟩
  have hok : ∀ r ∈ t.rows, r.coef.length = n := fun r hr => by rw [← hn]; exact (h0 r hr).1
  obtain ⟨l, hl'⟩ : ∃ l, t.rows = l := ⟨_, rfl⟩
  rw [hn] at hn8 hle ⊢
  rw [hl'] at hok hl hm6 hr hq hs hle ⊢
  have HS := Lib.hid (fun (w' : World) (h : Below w.heap.size w w') => signs_any C0 c0 C1 c1 n l hm6 A' c' q hq hs w' B B' (Nat.le_trans hB h.size) (Nat.le_trans hB' h.size) (hl.below (h.mono hB)) (hr.below (h.mono hB')) (ht.below h))
  have HBO := Lib.hid (fun (w' : World) (h : Below w.heap.size w w') => bound_any C0 c0 C1 c1 n l hm6 A' c' q hq w' B B' (Nat.le_trans hB h.size) (Nat.le_trans hB' h.size) (hl.below (h.mono hB)) (hr.below (h.mono hB')) (ht.below h))
  have HBE := Lib.hid (fun (w' : World) (h : Below w.heap.size w w') (pb : Nat) (hp : pb < w'.heap.size) (hbx : PBox w' pb n l.length C0 c0 C1 c1) => below1_any pb (fun i => t.cost[i]?.getD 0) C0 c0 C1 c1 n l hn8 hm6 hok A' c' q hq hle (fun i hi => by
      have h := h64 (t.cost[i]'(by omega)) (List.getElem_mem _)
      show i64Q (t.cost[i]?.getD 0)
      rw [List.getElem?_eq_getElem (by omega)]
      exact h) w' B B' (Nat.le_trans hB h.size) (Nat.le_trans hB' h.size) (hl.below (h.mono hB)) (hr.below (h.mono hB')) (ht.below h) (fun i hi w2 h2 => by
      refine cost_any pb n l.length c0 c1 C0 C1 t.cost i _ ?_ hn w2 B (Nat.lt_of_lt_of_le hp h2.size) (hbx.below h2 hp) ((hI.below (h.mono hB)).below (h2.mono (Nat.le_trans hB h.size))) (Nat.le_trans hB (Nat.le_trans h.size h2.size))
      show _ = some (t.cost[i]?.getD 0)
      rw [List.getElem?_eq_getElem (by omega)]
      rfl))
  unfold LnV at HS HBO HBE ⊢
  generalize ratS (dot (rightL l) q l.length) = R at HBO ⊢
  obtain ⟨m, hm⟩ : ∃ m, l.length = m := ⟨_, rfl⟩
  rw [hm] at HS HBO HBE ⊢
  clear hm hl hr hq hs hle hok ht hI hn hl' h0 h64 hm6 hn8
  go_enter Tryz.func10, Tryz.ntmps10
  go_wp2_with (first | (go_at_call 38; (with_reducible refine (HS.out _ (by exact by repeat (first | assumption | exact Below.refl _ _ | refine Below.drew ?_ | refine Below.alloc ?_ (by first | omega | (simp <;> omega)) _ | refine Below.setCell ?_ (by first | omega | (simp <;> omega)) _))).mono ?_); rintro e w2 ⟨rfl, hb2⟩; have hbl2 : Below w.heap.size w w2 := Below.trans (by repeat (first | assumption | exact Below.refl _ _ | refine Below.drew ?_ | refine Below.alloc ?_ (by first | omega | (simp <;> omega)) _ | refine Below.setCell ?_ (by first | omega | (simp <;> omega)) _)) (hb2.mono (by simp)); have hz2 : w.heap.size < w2.heap.size := (by have := hb2.size; simp at this; omega); have hx2 : PBox w2 w.heap.size n m C0 c0 C1 c1 := PBox.new hb2; have HPX := Lib.hid hx2; obtain ⟨p0, p1⟩ := hx2) | (go_at_call 39; (with_reducible refine (HBE.out _ hbl2 w.heap.size hz2 HPX.out).mono ?_); rintro e w3 ⟨rfl, hb3⟩; have hbl3 := hbl2.trans (hb3.mono hbl2.size); have hx3 := PBox.below (B := w2.heap.size) ⟨p0, p1⟩ hb3 hz2; obtain ⟨q0, q1⟩ := hx3) | (go_at_call 41; (with_reducible refine (HBO.out _ hbl3).mono ?_); rintro e w4 ⟨rfl, hb4⟩; have hbl4 := hbl3.trans (hb4.mono hbl3.size)))
  go_ret2
  exact ⟨rfl, hbl4⟩

set_option maxRecDepth 20000 in
set_option maxHeartbeats 2000000 in
theorem refutes_any (C0 : Option Addr) (c0 : Nat) (C1 : Option Addr) (c1 : Nat) (t : Lnr) (h0 : LnOk t) (hn8 : t.cost.length ≤ 8) (hm6 : t.rows.length ≤ 6) (A' : Option Addr) (c' : Nat) (q : Nat → Rat)
    (hq : ∀ i, i < t.rows.length → Dg 200 (q i)) (hs : ∀ i r, t.rows[i]? = some r → (r.kind = 1 → q i ≤ 0) ∧ (r.kind = 3 → 0 ≤ q i))
    (hle : ∀ i, i < t.cost.length → dot (colL t.rows i) q t.rows.length ≤ 0) (hpos : 0 < dot (rightL t.rows) q t.rows.length)
    (w : World) (B B' : Nat) (hB : B ≤ w.heap.size) (hB' : B' ≤ w.heap.size) (hl : RowAt rLrw w B C1 t.rows) (hr : Rats w B' A' t.rows.length q) (ht : TabT w) :
    Calls Tryz.prog 12 #[LnV t.cost.length t.rows.length C0 c0 C1 c1, .slice A' t.rows.length c'] w fun e w' => e = .returned (.bool true) ∧ Below w.heap.size w w' := by
  have hdg : Dg 2000 (dot (rightL t.rows) q t.rows.length) := by
    have h := sum_dg (f := fun k => ((((rightL t.rows)[k]?.getD 0 : Int)) : Rat) * q k) (e := 219) (n := t.rows.length) (fun k hk => by
      obtain ⟨_, _, _, _, _, _, _, hF⟩ := row_Lrw hl (List.getElem?_eq_getElem hk)
      have e : (rightL t.rows)[k]? = some (t.rows[k]).right := by unfold rightL; rw [List.getElem?_map, List.getElem?_eq_getElem hk]; rfl
      rw [e]
      exact (Dg.int (i64_digits hF.2.2.1 hF.2.2.2) (by omega)).mul (hq k (by omega)))
    refine h.mono ?_
    have : t.rows.length * (219 + 1) ≤ 6 * (219 + 1) := Nat.mul_le_mul_right _ (by omega)
    omega
  have HSG := Lib.hid (fun (w' : World) (h : Below w.heap.size w w') => rsign_any _ (hdg.mono (by omega)) w' (ht.below h))
  have hsg := sgnQ_pos.2 hpos
  obtain ⟨n, hn⟩ : ∃ n, t.cost.length = n := ⟨_, rfl⟩
  have hok : ∀ r ∈ t.rows, r.coef.length = n := fun r hr => by rw [← hn]; exact (h0 r hr).1
  obtain ⟨l, hl'⟩ : ∃ l, t.rows = l := ⟨_, rfl⟩
  rw [hn] at hn8 hle ⊢
  rw [hl'] at hok hl hm6 hr hq hs hle ⊢
  have HS := Lib.hid (fun (w' : World) (h : Below w.heap.size w w') => signs_any C0 c0 C1 c1 n l hm6 A' c' q hq hs w' B B' (Nat.le_trans hB h.size) (Nat.le_trans hB' h.size) (hl.below (h.mono hB)) (hr.below (h.mono hB')) (ht.below h))
  have HBO := Lib.hid (fun (w' : World) (h : Below w.heap.size w w') => bound_any C0 c0 C1 c1 n l hm6 A' c' q hq w' B B' (Nat.le_trans hB h.size) (Nat.le_trans hB' h.size) (hl.below (h.mono hB)) (hr.below (h.mono hB')) (ht.below h))
  rw [hl'] at HSG hsg
  have HBE := Lib.hid (fun (w' : World) (h : Below w.heap.size w w') => below2_any 0 (fun _ => 0) C0 c0 C1 c1 n l hn8 hm6 hok A' c' q hq hle (fun i hi => ⟨by decide, by decide⟩) w' B B' (Nat.le_trans hB h.size) (Nat.le_trans hB' h.size) (hl.below (h.mono hB)) (hr.below (h.mono hB')) (ht.below h) (fun i hi w2 h2 => zero_any i w2))
  unfold LnV at HS HBO HBE ⊢
  generalize sgnQ (dot (rightL l) q l.length) = s at HSG hsg
  generalize ratS (dot (rightL l) q l.length) = R at HBO HSG
  obtain ⟨m, hm⟩ : ∃ m, l.length = m := ⟨_, rfl⟩
  rw [hm] at HS HBO HBE ⊢
  clear hm hl hr hq hs hle hok ht hn hl' h0 hm6 hn8 hdg hpos
  go_enter Tryz.func12, Tryz.ntmps12
  go_wp2_with (first | (go_at_call 38; (with_reducible refine (HS.out _ (by exact by repeat (first | assumption | exact Below.refl _ _ | refine Below.drew ?_ | refine Below.alloc ?_ (by first | omega | (simp <;> omega)) _ | refine Below.setCell ?_ (by first | omega | (simp <;> omega)) _))).mono ?_); rintro e w2 ⟨rfl, hb2⟩; have hbl2 : Below w.heap.size w w2 := Below.trans (by repeat (first | assumption | exact Below.refl _ _ | refine Below.drew ?_ | refine Below.alloc ?_ (by first | omega | (simp <;> omega)) _ | refine Below.setCell ?_ (by first | omega | (simp <;> omega)) _)) (hb2.mono (by simp)); have hz2 : w.heap.size < w2.heap.size := (by have := hb2.size; simp at this; omega); have hx2 : PBox w2 w.heap.size n m C0 c0 C1 c1 := PBox.new hb2; have HPX := Lib.hid hx2; obtain ⟨p0, p1⟩ := hx2) | (go_at_call 39; (with_reducible refine (HBE.out _ hbl2).mono ?_); rintro e w3 ⟨rfl, hb3⟩; have hbl3 := hbl2.trans (hb3.mono hbl2.size); have hx3 := PBox.below (B := w2.heap.size) ⟨p0, p1⟩ hb3 hz2; obtain ⟨q0, q1⟩ := hx3) | (go_at_call 41; (with_reducible refine (HBO.out _ hbl3).mono ?_); rintro e w4 ⟨rfl, hb4⟩; have hbl4 := hbl3.trans (hb4.mono hbl3.size)) | (go_at_call 42; (with_reducible refine (HSG.out _ hbl4).mono ?_); rintro e w5 ⟨rfl, hb5⟩; have hbl5 := hbl4.trans (hb5.mono hbl4.size)))
  go_ret
  exact ⟨rfl, hbl5⟩
end Go.Proofs.YthcmopgdjibojaaGreatDoor.lnr

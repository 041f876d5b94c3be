import Derived.Test.YthcmopgdjibojaaGreatDoorLnrX
import Derived.RegionTactic
import Derived.BigRegion
import Derived.Deep.DeepCutAuto
/- linear: signs, bound, the closures. -/
namespace Go.Proofs.YthcmopgdjibojaaGreatDoor.lnr
open Go.RowKit
open Go.Proofs.YthcmopgdjibojaaGreatDoor.lib Go.Proofs.YthcmopgdjibojaaGreatDoor.app Go.Proofs.YthcmopgdjibojaaGreatDoor.nt Go.Proofs.YthcmopgdjibojaaGreatDoor.rd Go.Proofs.YthcmopgdjibojaaGreatDoor.wh Go.Proofs.YthcmopgdjibojaaGreatDoor.smx Go.Proofs.YthcmopgdjibojaaGreatDoor.rat Go.Proofs.YthcmopgdjibojaaGreatDoor.typ
set_option linter.unusedVariables false
set_option linter.unusedSimpArgs false

set_option maxRecDepth 20000 in
set_option maxHeartbeats 4000000 in
theorem signs_any (C0 : Option Addr) (c0 : Nat) (C1 : Option Addr) (c1 n : Nat) (l : List Lrw) (hm6 : l.length ≤ 6) (A' : Option Addr) (c' : Nat) (q : Nat → Rat)
    (hq : ∀ i, i < l.length → Dg 200 (q i)) (hs : ∀ i r, l[i]? = some r → (r.kind = 1 → q i ≤ 0) ∧ (r.kind = 3 → 0 ≤ q i))
    (w : World) (B B' : Nat) (hB : B ≤ w.heap.size) (hB' : B' ≤ w.heap.size) (hl : RowAt rLrw w B C1 l) (hr : Rats w B' A' l.length q) (ht : TabT w) :
    Calls Tryz.prog 38 #[LnV n l.length C0 c0 C1 c1, .slice A' l.length c'] w fun e w' => e = .returned (.bool true) ∧ Below w.heap.size w w' := by
  have hlen := hl.len
  unfold LnV
  obtain ⟨m, hm⟩ : ∃ m, l.length = m := ⟨_, rfl⟩
  have HM := Lib.hid hm
  rw [hm] at hm6 hlen hq hr ⊢
  have HRI : Hid (∀ i, i < m → ∀ w', Below w.heap.size w w' → Calls Tryz.prog 34 #[.string (ratS (q i))] w' fun e w2 => e = .returned (.bool true) ∧ Below w'.heap.size w' w2) := Lib.hid (fun i hi w' h => rright_any (q i) ((hq i hi).mono (by omega)) w' (ht.below h))
  have HSI : Hid (∀ i, i < m → ∀ w', Below w.heap.size w w' → Calls Tryz.prog 42 #[.string (ratS (q i))] w' fun e w2 => e = .returned (.int .i64 (sgnQ (q i))) ∧ Below w'.heap.size w' w2) := Lib.hid (fun i hi w' h => rsign_any (q i) ((hq i hi).mono (by omega)) w' (ht.below h))
  have HS0 : Hid (∀ i r, l[i]? = some r → (r.kind = 1 → ¬ 0 < sgnQ (q i)) ∧ (r.kind = 3 → ¬ sgnQ (q i) < 0)) := Lib.hid (fun i r hx => ⟨fun h h1 => Rat.not_le.2 (sgnQ_pos.1 h1) ((hs i r hx).1 h), fun h h1 => Rat.not_le.2 (sgnQ_neg.1 h1) ((hs i r hx).2 h)⟩)
  have hbelr : ∀ w', Below w.heap.size w w' → RowAt rLrw w' B C1 l := fun w' h => hl.below (h.mono hB)
  have hbelx : ∀ w', Below w.heap.size w w' → Rats w' B' A' m q := fun w' h => hr.below (h.mono hB')
  clear hm hq hs ht hl hr
  go_enter Tryz.func38, Tryz.ntmps38
  go_wp2
  go_loopw [17] (fun i wr => ∃ k : Nat, k ≤ m ∧ i = .int .i64 k ∧ Below w.heap.size w wr) (fun i _ => m - (intOf i).toNat)
  case atStart => exact ⟨0, by omega, rfl, by repeat (first | assumption | exact Below.refl _ _ | refine Below.drew ?_ | refine Below.alloc ?_ (by first | omega | (simp <;> omega)) _ | refine Below.setCell ?_ (by first | omega | (simp <;> omega)) _)⟩
  case round =>
    obtain ⟨k, hk, rfl, hbel⟩ := hrel
    have hsz := hbel.size
    by_cases hlt : k < m
    · obtain ⟨ad, rfl, hadb, hcx⟩ := (hbelx _ hbel).at_ hlt
      obtain ⟨r, ad2, D0, d0, hx, rfl, hadb2, ⟨k0, k1, k2⟩, hI, hF⟩ := row_at (hbelr _ hbel) (k := k) (by rw [HM.out]; exact hlt)
      have hb' : (ad2.add (k * 3)).block < wr.heap.size := by rw [block_of_add]; omega
      have hb2 : (ad.add k).block < wr.heap.size := by rw [block_of_add]; omega
      have HR := Lib.hid (fun (w' : World) (h : Below w.heap.size w w') => HRI.out k hlt w' h)
      have HS := Lib.hid (fun (w' : World) (h : Below w.heap.size w w') => HSI.out k hlt w' h)
      obtain ⟨hs1, hs3⟩ := HS0.out k r hx
      generalize sgnQ (q k) = s at HS hs1 hs3
      generalize ratS (q k) = S at HR HS hcx
      generalize r.kind = kd at k1 hs1 hs3
      generalize r.right = rg at k2
      clear hx hI hF
      have hk0 : (0 : Int) ≤ k := by omega
      have hkm : (k : Int) < m := by omega
      go_wp2_with (first | (go_at_call 42; (with_reducible refine (HS.out _ (by exact by repeat (first | assumption | exact Below.refl _ _ | refine Below.drew ?_ | refine Below.alloc ?_ (by first | omega | (simp <;> omega)) _ | refine Below.setCell ?_ (by first | omega | (simp <;> omega)) _))).mono ?_); rintro e w2 ⟨rfl, hb2⟩; have hbl2 : Below w.heap.size w w2 := Below.trans (by repeat (first | assumption | exact Below.refl _ _ | refine Below.drew ?_ | refine Below.alloc ?_ (by first | omega | (simp <;> omega)) _ | refine Below.setCell ?_ (by first | omega | (simp <;> omega)) _)) (hb2.mono (by simp; omega)); have hbr2 : Below wr.heap.size wr w2 := Below.trans (by repeat (first | assumption | exact Below.refl _ _ | refine Below.drew ?_ | refine Below.alloc ?_ (by first | omega | (simp <;> omega)) _ | refine Below.setCell ?_ (by first | omega | (simp <;> omega)) _)) (hb2.mono (by simp)); have r1 := hb2.cell (p := ⟨wr.heap.size, 1, none⟩) (by simp); simp at r1; have hcx2 := (hbr2.cell (p := ad.add k) (by assumption)).trans hcx; have hsz2 : wr.heap.size < w2.heap.size := (by have := hb2.size; simp at this; omega)) | (go_at_call 34; (with_reducible refine (HR.out _ hbl2).mono ?_); rintro e w3 ⟨rfl, hb3⟩; have hbl3 := hbl2.trans (hb3.mono hbl2.size); have s1 := (hb3.cell (p := ⟨wr.heap.size, 1, none⟩) hsz2).trans r1))
      all_goals go_roundw
      all_goals first | exact ⟨k + 1, by omega, by go_num, hbl3⟩ | (simp [intOf]; omega)
    · obtain rfl : k = m := by omega
      clear hlt
      go_wp2
      go_ret
      exact ⟨rfl, hbel⟩
end Go.Proofs.YthcmopgdjibojaaGreatDoor.lnr

/- linear: bound, below. -/
namespace Go.Proofs.YthcmopgdjibojaaGreatDoor.lnr
open Go.RowKit
open Go.Proofs.YthcmopgdjibojaaGreatDoor.lib Go.Proofs.YthcmopgdjibojaaGreatDoor.app Go.Proofs.YthcmopgdjibojaaGreatDoor.nt Go.Proofs.YthcmopgdjibojaaGreatDoor.rd Go.Proofs.YthcmopgdjibojaaGreatDoor.wh Go.Proofs.YthcmopgdjibojaaGreatDoor.smx Go.Proofs.YthcmopgdjibojaaGreatDoor.rat Go.Proofs.YthcmopgdjibojaaGreatDoor.typ
set_option linter.unusedVariables false
set_option linter.unusedSimpArgs false

/-- The right sides, and a column. -/
def rightL (l : List Lrw) : List Int := l.map (·.right)
def colL (l : List Lrw) (i : Nat) : List Int := l.map fun r => r.coef[i]?.getD 0
theorem rightL_next {l : List Lrw} {k : Nat} {r : Lrw} (h : l[k]? = some r) : (rightL l).take (k + 1) = (rightL l).take k ++ [r.right] := by
  rw [List.take_add_one]
  unfold rightL
  rw [List.getElem?_map, h]; rfl
theorem colL_next {l : List Lrw} {k i : Nat} {r : Lrw} (h : l[k]? = some r) {x : Int} (hx : r.coef[i]? = some x) : (colL l i).take (k + 1) = (colL l i).take k ++ [x] := by
  rw [List.take_add_one]
  unfold colL
  rw [List.getElem?_map, h]
  simp [hx]
/-- make([]int, 0, n). -/
theorem make_col {ops : Array Oper} {rest : List Oper} {o : Oper} {a : Act} {Q : Exit → Act → World → Prop} {w : World} (hg : o.guard = none) (l c : Operand) (hop : o.op = Op.makeSlice 22 l c)
    (n : Nat) (hl : a.eval l = .int .i64 0) (hc : a.eval c = .int .i64 n) (hn : n < 17592186044416)
    (h : ∀ c w', w'.ownsRow w.heap.size 3 1 (.slice (some ⟨w.heap.size, 0, none⟩) 0 c) 0 (([] : List Int).map (.int .i64)) → Below w.heap.size w w' → wpList Tryz.prog ops Q rest (a.put o.dst (.slice (some ⟨w.heap.size, 0, none⟩) 0 c)) w') :
    wpList Tryz.prog ops Q (o :: rest) a w := by
  obtain ⟨i0, hi, hz0, hz1, hz2⟩ := info_parts int_info
  refine wpList_make_own w hg l c 22 hop w.heap.size 3 i0 (.int .i64 0) 1 Tryz.underlying22 hi hz0 hz1 .i64 .i64 n n hl hc rfl (by rw [hz2]; omega) (by unfold maxLen; omega) (Nat.le_refl _) ?_
  intro w' hown hg'
  exact h n w' hown ((Below.refl _ _).grown hg' (Nat.le_refl _) (by intro k hk; cases hk))

set_option maxRecDepth 20000 in
set_option maxHeartbeats 4000000 in
theorem bound_any (C0 : Option Addr) (c0 : Nat) (C1 : Option Addr) (c1 n : Nat) (l : List Lrw) (hm6 : l.length ≤ 6) (A' : Option Addr) (c' : Nat) (q : Nat → Rat)
    (hq : ∀ i, i < l.length → Dg 200 (q i))
    (w : World) (B B' : Nat) (hB : B ≤ w.heap.size) (hB' : B' ≤ w.heap.size) (hl : RowAt rLrw w B C1 l) (hr : Rats w B' A' l.length q) (ht : TabT w) :
    Calls Tryz.prog 41 #[LnV n l.length C0 c0 C1 c1, .slice A' l.length c'] w fun e w' => e = .returned (.tuple #[.string (ratS (dot (rightL l) q l.length)), .bool true]) ∧ Below w.heap.size w w' := by
  have hlen := hl.len
  unfold LnV
  obtain ⟨m, hm⟩ : ∃ m, l.length = m := ⟨_, rfl⟩
  have HM := Lib.hid hm
  have hL : (rightL l).length = m := by rw [← hm]; exact List.length_map ..
  have h64 : ∀ x ∈ rightL l, i64Q x := fun x hx => by
    obtain ⟨r, hr, rfl⟩ := List.mem_map.1 hx
    obtain ⟨k, hk⟩ := List.getElem?_of_mem hr
    obtain ⟨_, _, _, _, _, _, _, hF⟩ := row_Lrw hl hk
    exact hF.2.2
  have HN := Lib.hid (fun (k : Nat) (r : Lrw) (h : l[k]? = some r) => rightL_next h)
  have HT : Hid (∀ w', Below w.heap.size w w' → ∀ A c, Ints w' w'.heap.size A (rightL l) → Calls Tryz.prog 37 #[.slice A m c, .slice A' m c'] w' (RatOut w' (dot (rightL l) q m))) := Lib.hid (fun w' h A c hA => by
    have e := times_any A c (rightL l) A' c' q (by omega) h64 (fun i hi => hq i (by omega)) w' w'.heap.size B' (Nat.le_refl _) (Nat.le_trans hB' h.size) hA (by rw [hL, ← hm]; exact hr.below (h.mono hB')) (ht.below h)
    rw [hL] at e
    exact e)
  have hbelr : ∀ w', Below w.heap.size w w' → RowAt rLrw w' B C1 l := fun w' h => hl.below (h.mono hB)
  rw [hm] at hm6 hlen ⊢
  unfold RatOut at HT
  generalize ratS (dot (rightL l) q m) = R at HT ⊢
  generalize rightL l = L at HT HN hL
  have HL := Lib.hid hL
  clear hm hq ht hl hr h64 hL
  go_enter Tryz.func41, Tryz.ntmps41
  go_wp2
  go_loopw [6, 14] (fun v i wr => ∃ (k : Nat) (A : Option Addr) (c : Nat), k ≤ m ∧ i = .int .i64 k ∧ v = .slice A k c ∧ wr.ownsRow (w.heap.size + 1) 3 1 (.slice A k c) k ((L.take k).map (.int .i64)) ∧ Below w.heap.size w wr ∧ w.heap.size < wr.heap.size ∧ PBox wr w.heap.size n m C0 c0 C1 c1) (fun _ i _ => m - (intOf i).toNat)
  case atStart => exact ⟨0, none, 0, by omega, rfl, rfl, by simpa using World.ownsRow_nil _ _ _ _, by repeat (first | assumption | exact Below.refl _ _ | refine Below.drew ?_ | refine Below.alloc ?_ (by first | omega | (simp <;> omega)) _ | refine Below.setCell ?_ (by first | omega | (simp <;> omega)) _), by simp, by simp [PBox]⟩
  case round =>
    obtain ⟨k, A1, cA, hk, rfl, rfl, hown, hbel, hsz, ⟨b0, b1⟩⟩ := hrel
    by_cases hlt : k < m
    · obtain ⟨r, ad2, D0, d0, hx, rfl, hadb2, ⟨k0, k1, k2⟩, hI, hF⟩ := row_at (hbelr _ hbel) (k := k) (by rw [HM.out]; exact hlt)
      have hb' : (ad2.add (k * 3)).block < wr.heap.size := by rw [block_of_add]; omega
      have HNx := Lib.hid (HN.out k r hx)
      generalize r.right = rg at k2 HNx
      generalize r.kind = kd at k1
      clear hx hI hF
      have hownW : (wr.alloc (.cells #[.slice D0 r.coef.length d0, .int .i64 kd, .int .i64 rg] 30)).ownsRow (w.heap.size + 1) 3 1 (.slice A1 k cA) k ((L.take k).map (.int .i64)) := hown.alloc _
      go_wp2_with (at_builtin; go_loud (refine push_int rfl _ _ rfl (w.heap.size + 1) _ k (L.take k) rfl hownW rg (by simp [go_sem]) (by omega) (by simp; omega) ?_; intro A2 c2 w2 hown2 hb2 hz2))
      simp at hz2
      go_roundw
      case rel => exact ⟨k + 1, A2, c2, by omega, by go_num, rfl, by rw [HNx.out]; exact hown2, Below.trans (by repeat (first | assumption | exact Below.refl _ _ | refine Below.drew ?_ | refine Below.alloc ?_ (by first | omega | (simp <;> omega)) _ | refine Below.setCell ?_ (by first | omega | (simp <;> omega)) _)) (hb2.mono (by simp)), by omega, PBox.below (B := w.heap.size + 1) (PBox.below (B := wr.heap.size) (w' := wr.alloc _) ⟨b0, b1⟩ (by repeat (first | assumption | exact Below.refl _ _ | refine Below.drew ?_ | refine Below.alloc ?_ (by first | omega | (simp <;> omega)) _ | refine Below.setCell ?_ (by first | omega | (simp <;> omega)) _)) hsz) hb2 (by omega)⟩
      case measure => simp [intOf]; omega
    · obtain rfl : k = m := by omega
      clear hlt
      have hT : L.take k = L := List.take_of_length_le (by rw [HL.out]; exact Nat.le_refl _)
      rw [hT] at hown
      have hint : Ints wr wr.heap.size A1 L := Ints.of_own (c := cA) (by rw [HL.out]; exact hown) (by rw [HL.out]; omega)
      go_wp2_with (go_at_call 37; (with_reducible refine (HT.out _ hbel A1 cA hint).mono ?_); rintro e w2 ⟨rfl, hb2⟩; have hbl2 := hbel.trans (hb2.mono hbel.size))
      go_ret2
      exact ⟨rfl, hbl2⟩
end Go.Proofs.YthcmopgdjibojaaGreatDoor.lnr

import Derived.Test.YthcmopgdjibojaaGreatDoorRatF
import Derived.Test.YthcmopgdjibojaaGreatDoorSmxY
import Derived.RegionTactic
import Derived.BigRegion
import Derived.Deep.DeepCutAuto
/- simplex: memory of a tableau; note, mul, sub, div, signed. -/
namespace Go.Proofs.YthcmopgdjibojaaGreatDoor.smp
open Go.RowKit
open Go.Lib (decDigits nDigits itoa decDigits_length nDigits_pos)
open Go.Proofs.YthcmopgdjibojaaGreatDoor.lib Go.Proofs.YthcmopgdjibojaaGreatDoor.app Go.Proofs.YthcmopgdjibojaaGreatDoor.nt Go.Proofs.YthcmopgdjibojaaGreatDoor.rd Go.Proofs.YthcmopgdjibojaaGreatDoor.wh Go.Proofs.YthcmopgdjibojaaGreatDoor.smx Go.Proofs.YthcmopgdjibojaaGreatDoor.rat
set_option linter.unusedVariables false
set_option linter.unusedSimpArgs false

/-! Blocks. -/
/-- Block k holds these cells first. -/
def Arr (w : World) (k n : Nat) (f : Nat → Value) : Prop := ∃ cur ty, w.heap[k]? = some (.cells cur ty (0, 0)) ∧ ∀ i, i < n → cur[i]? = some (f i)
section
variable {w w' : World} {k n : Nat} {f : Nat → Value}
theorem Arr.lt (h : Arr w k n f) : k < w.heap.size := by
  obtain ⟨cur, ty, h1, _⟩ := h
  exact (Array.getElem?_eq_some_iff.1 h1).1
theorem Arr.cell (h : Arr w k n f) {i : Nat} (hi : i < n) : w.cell? ⟨k, i, none⟩ = some (f i) := by
  obtain ⟨cur, ty, h1, h2⟩ := h
  unfold World.cell?
  rw [h1]
  simpa using h2 i hi
theorem Arr.frozen (h : Arr w k n f) (i : Nat) : w.frozen? ⟨k, i, none⟩ = false := by
  obtain ⟨cur, ty, h1, _⟩ := h
  simp [World.frozen?, h1]
theorem Arr.keep (h : Arr w k n f) (e : w'.heap[k]? = w.heap[k]?) : Arr w' k n f := by
  obtain ⟨cur, ty, h1, h2⟩ := h
  exact ⟨cur, ty, e.trans h1, h2⟩
theorem Arr.below (h : Arr w k n f) (hb : Below w.heap.size w w') : Arr w' k n f := h.keep (hb.block k h.lt)
theorem Arr.far (h : Arr w k n f) {q i : Nat} (hne : k ≠ q) (v : Value) : Arr (w.setCell ⟨q, i, none⟩ v) k n f := h.keep (Below.heap_setCell w ⟨q, i, none⟩ v k hne)
theorem Arr.set (h : Arr w k n f) (i : Nat) (v : Value) : Arr (w.setCell ⟨k, i, none⟩ v) k n (fun j => if j = i then v else f j) := by
  obtain ⟨cur, ty, h1, h2⟩ := h
  refine ⟨cur.setIfInBounds i v, ty, heap_setCell_same w k i cur ty v h1, fun j hj => ?_⟩
  have h3 := h2 j hj
  have hlt := (Array.getElem?_eq_some_iff.1 h3).1
  show _ = some (if j = i then v else f j)
  by_cases e : j = i
  · subst e
    rw [if_pos rfl, Array.getElem?_setIfInBounds_self_of_lt hlt]
  · rw [if_neg e, Array.getElem?_setIfInBounds_ne (Ne.symm e), h3]
theorem Arr.congr {g : Nat → Value} (h : Arr w k n f) (e : ∀ i, i < n → f i = g i) : Arr w k n g := by
  obtain ⟨cur, ty, h1, h2⟩ := h
  exact ⟨cur, ty, h1, fun i hi => (h2 i hi).trans (by rw [e i hi])⟩
theorem Arr.less {m : Nat} (h : Arr w k n f) (hm : m ≤ n) : Arr w k m f := by
  obtain ⟨cur, ty, h1, h2⟩ := h
  exact ⟨cur, ty, h1, fun i hi => h2 i (by omega)⟩
end
/-- Numbers, as the cells hold them. -/
def vec (q : Nat → Rat) (i : Nat) : Value := .string (ratS (q i))
/-- The blocks of which K holds stay. -/
structure Kp (K : Nat → Prop) (w w' : World) : Prop where
  os : w'.os = w.os
  tape : w'.tape = w.tape
  output : w'.output = w.output
  size : w.heap.size ≤ w'.heap.size
  block : ∀ k, k < w.heap.size → K k → w'.heap[k]? = w.heap[k]?
section
variable {K K' : Nat → Prop} {a w w' : World}
theorem Kp.refl (w : World) : Kp K w w := ⟨rfl, rfl, rfl, Nat.le_refl _, fun _ _ _ => rfl⟩
theorem Kp.trans (h : Kp K a w) (k : Kp K w w') : Kp K a w' :=
  ⟨k.os.trans h.os, k.tape.trans h.tape, k.output.trans h.output, Nat.le_trans h.size k.size, fun i hi hK => (k.block i (Nat.lt_of_lt_of_le hi h.size) hK).trans (h.block i hi hK)⟩
theorem Kp.below (h : Below w.heap.size w w') : Kp K w w' := ⟨h.os, h.tape, h.output, h.size, fun k hk _ => h.block k hk⟩
theorem Kp.weak (h : Kp K w w') (e : ∀ k, k < w.heap.size → K' k → K k) : Kp K' w w' := ⟨h.os, h.tape, h.output, h.size, fun k hk hK => h.block k hk (e k hk hK)⟩
theorem Kp.set {q i : Nat} (h : Kp K a w) (hn : ∀ k, k < a.heap.size → K k → k ≠ q) (v : Value) : Kp K a (w.setCell ⟨q, i, none⟩ v) :=
  ⟨h.os, h.tape, h.output, by simpa [World.setCell] using h.size, fun k hk hK => (Below.heap_setCell w ⟨q, i, none⟩ v k (hn k hk hK)).trans (h.block k hk hK)⟩
theorem Kp.below_of {B : Nat} (h : Kp K w w') (hB : B ≤ w.heap.size) (hK : ∀ k, k < B → K k) : Below B w w' := ⟨h.os, h.tape, h.output, h.size, fun k hk => h.block k (Nat.lt_of_lt_of_le hk hB) (hK k hk)⟩
theorem Kp.drew (h : Kp K a w) : Kp K a w.drew := ⟨h.os, h.tape, h.output, h.size, h.block⟩
theorem Arr.kp {k n : Nat} {f : Nat → Value} (h : Arr w k n f) (hk : Kp K w w') (hK : K k) : Arr w' k n f := h.keep (hk.block k h.lt hK)
end

/-! Storing what is there already. -/
theorem setCell_id {w : World} {k i : Nat} {v : Value} (h : w.cell? ⟨k, i, none⟩ = some v) (hf : w.frozen? ⟨k, i, none⟩ = false) : w.setCell ⟨k, i, none⟩ v = w := by
  unfold World.cell? at h
  cases hk : w.heap[k]? with
  | none => rw [hk] at h; simp at h
  | some o =>
    have hlt := (Array.getElem?_eq_some_iff.1 hk).1
    have e : (w.setCell ⟨k, i, none⟩ v).heap = w.heap := by
      refine Array.ext_getElem? fun j => ?_
      by_cases ej : j = k
      · subst ej
        rw [hk] at h
        cases o with
        | cells c el fr =>
          simp at h
          simp only [World.setCell, Array.getElem?_modify, if_pos, hk, Option.map_some]
          congr 1
          simp
          refine Array.ext_getElem? fun l => ?_
          by_cases el' : i = l
          · subst el'
            rw [h, Array.getElem?_setIfInBounds_self_of_lt (Array.getElem?_eq_some_iff.1 h).1]
          · rw [Array.getElem?_setIfInBounds_ne el']
        | _ => simp at h
      · exact Below.heap_setCell w ⟨k, i, none⟩ v j ej
    cases w
    simp only [World.setCell] at e ⊢
    rw [e]
/-- No error has been noted in the tableau at block b. -/
def ErrAt (w : World) (b : Nat) : Prop := w.cell? ⟨b, 7, none⟩ = some (.int .i64 0) ∧ w.frozen? ⟨b, 7, none⟩ = false
theorem ErrAt.lt {w : World} {b : Nat} (h : ErrAt w b) : b < w.heap.size := World.block_lt_of_cell? w ⟨b, 7, none⟩ h.1
theorem ErrAt.below {w w' : World} {b : Nat} (h : ErrAt w b) (hb : Below w.heap.size w w') : ErrAt w' b :=
  ⟨(hb.cell (p := ⟨b, 7, none⟩) h.lt).trans h.1, (hb.frozen (p := ⟨b, 7, none⟩) h.lt).trans h.2⟩
theorem ErrAt.kp {K : Nat → Prop} {w w' : World} {b : Nat} (h : ErrAt w b) (hk : Kp K w w') (hK : K b) : ErrAt w' b := by
  have e := hk.block b h.lt hK
  exact ⟨(World.cell?_of_block e).trans h.1, (World.frozen?_of_block (w := w) e).trans h.2⟩
theorem note_any (b : Nat) (w : World) (h : ErrAt w b) : Calls Tryz.prog 31 #[.pointer (some ⟨b, 0, none⟩), .int .i64 0] w fun e w' => e = .returned (.tuple #[]) ∧ w = w' := by
  obtain ⟨h1, h2⟩ := h
  have h3 := setCell_id h1 h2
  go_enter Tryz.func31, Tryz.ntmps31
  go_wp2
  go_end0
  exact ⟨rfl, rfl⟩

theorem ratS_is0 (q : Rat) : ((ratS q).toList == [48]) = decide (q = 0) := by
  rw [toList_data, Bool.eq_iff_iff, beq_iff_eq, decide_eq_true_eq, show (ratS q).data.toList = ratL q from rfl]
  constructor
  · intro h
    unfold ratL at h
    by_cases hd : q.den = 1
    · rw [if_pos hd] at h
      by_cases hn : q.num < 0
      · rw [itoa_neg hn] at h
        injection h with h _
        exact absurd h (by decide)
      · rw [itoa_nn hn, show ([48] : List UInt8) = decDigits 0 by rw [dec_small (by decide)]; rfl] at h
        have := dec_inj h
        exact Rat.num_eq_zero.1 (by omega)
    · rw [if_neg hd] at h
      have hl := congrArg List.length h
      have : 0 < (decDigits q.den).length := by rw [decDigits_length]; exact nDigits_pos _
      simp at hl
      omega
  · rintro rfl
    have := congrArg (fun s => s.data.toList) rat_zero
    exact this
theorem one_S : ratS (1 : Rat) = ⟨#[49]⟩ := by
  rw [show (1 : Rat) = ((1 : Int) : Rat) from rfl, int_rat, show (1 : Int) = ((1 : Nat) : Int) from rfl, intS_nat, natS_one]

section
variable (b : Nat) (x y : Rat) (w : World)
theorem mul_any (hx : Dg 2000 x) (hy : Dg 2000 y) (he : ErrAt w b) (ht : TabT w) :
    Calls Tryz.prog 65 #[.pointer (some ⟨b, 0, none⟩), .string (ratS x), .string (ratS y)] w fun e w' => e = .returned (.string (ratS (x * y))) ∧ Below w.heap.size w w' := by
  have HM := Lib.hid (rmul_any x y hx hy w ht)
  have HN := Lib.hid (fun w' (h : Below w.heap.size w w') => note_any b w' (he.below h))
  have hx0 := ratS_is0 x
  have hy0 := ratS_is0 y
  unfold RatOut at HM
  by_cases h0 : x = 0 ∨ y = 0
  · have HZ : Hid (ratS (x * y) = ⟨#[48]⟩) := Lib.hid (by
      rcases h0 with rfl | rfl
      · rw [Rat.zero_mul, rat_zero]
      · rw [Rat.mul_zero, rat_zero])
    obtain ⟨bx, hbx⟩ : ∃ bx, decide (x = 0) = bx := ⟨_, rfl⟩
    obtain ⟨bY, hbY⟩ : ∃ bY, decide (y = 0) = bY := ⟨_, rfl⟩
    have hor : (bx || bY) = true := by
      rw [← hbx, ← hbY]
      rcases h0 with h | h <;> simp [h]
    rw [hbx] at hx0
    rw [hbY] at hy0
    generalize ratS (x * y) = M at HM HZ ⊢
    generalize ratS x = X at HM hx0 ⊢
    generalize ratS y = Y at HM hy0 ⊢
    clear h0 hx hy ht he hbx hbY
    go_enter Tryz.func65, Tryz.ntmps65
    cases bx
    · obtain rfl : bY = true := by simpa using hor
      clear hor
      go_wp2
      go_ret
      exact ⟨by rw [HZ.out]; rfl, by repeat (first | assumption | exact Below.refl _ _ | refine Below.drew ?_ | refine Below.alloc ?_ (by first | omega | (simp <;> omega)) _ | refine Below.setCell ?_ (by first | omega | (simp <;> omega)) _)⟩
    · clear hor
      go_wp2
      go_ret
      exact ⟨by rw [HZ.out]; rfl, by repeat (first | assumption | exact Below.refl _ _ | refine Below.drew ?_ | refine Below.alloc ?_ (by first | omega | (simp <;> omega)) _ | refine Below.setCell ?_ (by first | omega | (simp <;> omega)) _)⟩
  · rw [decide_eq_false (fun h => h0 (.inl h))] at hx0
    rw [decide_eq_false (fun h => h0 (.inr h))] at hy0
    generalize ratS (x * y) = M at HM ⊢
    generalize ratS x = X at HM hx0 ⊢
    generalize ratS y = Y at HM hy0 ⊢
    clear h0 hx hy ht he
    go_enter Tryz.func65, Tryz.ntmps65
    go_wp2_with (first | (go_at_call 75; (with_reducible refine HM.out.mono ?_); rintro e w2 ⟨rfl, hb2⟩) | (go_at_call 31; (with_reducible refine (HN.out _ hb2).mono ?_); rintro e w3 ⟨rfl, rfl⟩))
    go_ret
    exact ⟨rfl, hb2⟩
theorem sub_any (hx : Dg 2000 x) (hy : Dg 2000 y) (he : ErrAt w b) (ht : TabT w) :
    Calls Tryz.prog 64 #[.pointer (some ⟨b, 0, none⟩), .string (ratS x), .string (ratS y)] w fun e w' => e = .returned (.string (ratS (x - y))) ∧ Below w.heap.size w w' := by
  have HM := Lib.hid (rsub_any x y hx hy w ht)
  have HN := Lib.hid (fun w' (h : Below w.heap.size w w') => note_any b w' (he.below h))
  have hy0 := ratS_is0 y
  unfold RatOut at HM
  by_cases h0 : y = 0
  · rw [decide_eq_true h0] at hy0
    have HZ : Hid (ratS (x - y) = ratS x) := Lib.hid (by rw [h0, Rat.sub_eq_add_neg, Rat.neg_zero, Rat.add_zero])
    generalize ratS (x - y) = M at HM HZ ⊢
    generalize ratS x = X at HM HZ ⊢
    generalize ratS y = Y at HM hy0 ⊢
    clear h0 hx hy ht he
    go_enter Tryz.func64, Tryz.ntmps64
    go_wp2
    go_ret
    exact ⟨by rw [HZ.out]; rfl, by repeat (first | assumption | exact Below.refl _ _ | refine Below.drew ?_ | refine Below.alloc ?_ (by first | omega | (simp <;> omega)) _ | refine Below.setCell ?_ (by first | omega | (simp <;> omega)) _)⟩
  · rw [decide_eq_false h0] at hy0
    generalize ratS (x - y) = M at HM ⊢
    generalize ratS x = X at HM ⊢
    generalize ratS y = Y at HM hy0 ⊢
    clear h0 hx hy ht he
    go_enter Tryz.func64, Tryz.ntmps64
    go_wp2_with (first | (go_at_call 109; (with_reducible refine HM.out.mono ?_); rintro e w2 ⟨rfl, hb2⟩) | (go_at_call 31; (with_reducible refine (HN.out _ hb2).mono ?_); rintro e w3 ⟨rfl, rfl⟩))
    go_ret
    exact ⟨rfl, hb2⟩
theorem div_any (hx : Dg 2000 x) (hy : Dg 2000 y) (h0 : y ≠ 0) (he : ErrAt w b) (ht : TabT w) :
    Calls Tryz.prog 110 #[.pointer (some ⟨b, 0, none⟩), .string (ratS x), .string (ratS y)] w fun e w' => e = .returned (.string (ratS (x / y))) ∧ Below w.heap.size w w' := by
  have HM := Lib.hid (rdiv_any x y h0 hx hy w ht)
  have HN := Lib.hid (fun w' (h : Below w.heap.size w w') => note_any b w' (he.below h))
  unfold RatOut at HM
  generalize ratS (x / y) = M at HM ⊢
  generalize ratS x = X at HM ⊢
  generalize ratS y = Y at HM ⊢
  clear h0 hx hy ht he
  go_enter Tryz.func110, Tryz.ntmps110
  go_wp2_with (first | (go_at_call 157; (with_reducible refine HM.out.mono ?_); rintro e w2 ⟨rfl, hb2⟩) | (go_at_call 31; (with_reducible refine (HN.out _ hb2).mono ?_); rintro e w3 ⟨rfl, rfl⟩))
  go_ret
  exact ⟨rfl, hb2⟩
/-- A number with the sign of its row. -/
theorem signed_any (sg z : Int) (hsg : sg = 1 ∨ sg = -1) (h0 : -9223372036854775808 ≤ z) (h1 : z ≤ 9223372036854775807) (he : ErrAt w b) (ht : TabT w) :
    Calls Tryz.prog 63 #[.pointer (some ⟨b, 0, none⟩), .int .i64 sg, .int .i64 z] w fun e w' => e = .returned (.string (ratS ((sg * z : Int) : Rat))) ∧ Below w.heap.size w w' := by
  have HO := Lib.hid (rof_any z h0 h1 w ht)
  have hd : Dg 2000 (z : Rat) := (Dg.int (i64_digits h0 h1) (by omega)).mono (by omega)
  have HS := Lib.hid (fun w' (h : Below w.heap.size w w') => sub_any b 0 (z : Rat) w' (Dg.zero.mono (by omega)) hd (he.below h) (ht.below h))
  rw [rat_zero] at HS
  rcases hsg with rfl | rfl
  · rw [Int.one_mul]
    generalize ratS (z : Rat) = Z at HO ⊢
    clear HS hd ht he h0 h1
    go_enter Tryz.func63, Tryz.ntmps63
    go_wp2_with (go_at_call 45; (with_reducible refine HO.out.mono ?_); rintro e w2 ⟨rfl, hb2⟩)
    go_ret
    exact ⟨rfl, hb2⟩
  · rw [show (((-1 * z : Int)) : Rat) = 0 - (z : Rat) by rw [Int.neg_mul, Int.one_mul, Rat.intCast_neg, Rat.sub_eq_add_neg, Rat.zero_add]]
    generalize ratS (0 - (z : Rat)) = R at HS ⊢
    generalize ratS (z : Rat) = Z at HO HS
    clear hd ht he h0 h1
    go_enter Tryz.func63, Tryz.ntmps63
    go_wp2_with (first | (go_at_call 45; (with_reducible refine HO.out.mono ?_); rintro e w2 ⟨rfl, hb2⟩) | (go_at_call 64; (with_reducible refine (HS.out _ hb2).mono ?_); rintro e w3 ⟨rfl, hb3⟩; have hbl := hb2.trans (hb3.mono hb2.size)))
    go_ret
    exact ⟨rfl, hbl⟩
end
end Go.Proofs.YthcmopgdjibojaaGreatDoor.smp

/- simplex: clear. -/
namespace Go.Proofs.YthcmopgdjibojaaGreatDoor.smp
open Go.RowKit
open Go.Proofs.YthcmopgdjibojaaGreatDoor.lib Go.Proofs.YthcmopgdjibojaaGreatDoor.app Go.Proofs.YthcmopgdjibojaaGreatDoor.nt Go.Proofs.YthcmopgdjibojaaGreatDoor.rd Go.Proofs.YthcmopgdjibojaaGreatDoor.wh Go.Proofs.YthcmopgdjibojaaGreatDoor.smx Go.Proofs.YthcmopgdjibojaaGreatDoor.rat
set_option linter.unusedVariables false
set_option linter.unusedSimpArgs false

/-- The library's tables, in every world that keeps the blocks below lo. -/
def TabL (lo : Nat) (w : World) : Prop := lo ≤ w.heap.size ∧ ∀ w', Below lo w w' → TabT w'
theorem TabL.of {w : World} (h : TabT w) : TabL w.heap.size w := ⟨Nat.le_refl _, fun w' hb => h.below hb⟩
theorem TabL.step {lo : Nat} {w w' : World} (h : TabL lo w) (hb : Below lo w w') : TabL lo w' := ⟨Nat.le_trans h.1 hb.size, fun w2 h2 => h.2 w2 (hb.trans h2)⟩
theorem TabL.tab {lo : Nat} {w : World} (h : TabL lo w) : TabT w := h.2 w (Below.refl _ _)
theorem Kp.lo {q lo : Nat} {w w' : World} (h : Kp (fun k => k ≠ q) w w') (hq : lo ≤ q) (hw : lo ≤ w.heap.size) : Below lo w w' := h.below_of hw (fun k hk => by omega)
theorem vec_step {f g : Nat → Rat} {k : Nat} (j : Nat) : (if j = k then vec g k else (if j < k then vec g j else vec f j)) = (if j < k + 1 then vec g j else vec f j) := by
  by_cases e : j = k
  · subst e; rw [if_pos rfl, if_pos (by omega)]
  · rw [if_neg e]
    by_cases h : j < k
    · rw [if_pos h, if_pos (by omega)]
    · rw [if_neg h, if_neg (by omega)]
theorem vec_skip {f g : Nat → Rat} {k : Nat} (e : f k = g k) (j : Nat) : (if j < k then vec g j else vec f j) = (if j < k + 1 then vec g j else vec f j) := by
  by_cases h : j < k
  · rw [if_pos h, if_pos (by omega)]
  · rw [if_neg h]
    by_cases h2 : j < k + 1
    · obtain rfl : j = k := by omega
      rw [if_pos h2]; unfold vec; rw [e]
    · rw [if_neg h2]

set_option maxRecDepth 20000 in
set_option maxHeartbeats 4000000 in
theorem clear_any (lo b R rr q cR m r c wd cq : Nat) (f T : Nat → Rat) (hr : r < m) (hm : m ≤ 6) (hc : c < wd) (hwd : wd ≤ 30) (hqb : q ≠ b) (hqR : q ≠ R) (hqr : q ≠ rr) (hlq : lo ≤ q)
    (hf : ∀ k, k < wd → Dg 200 (f k)) (hT : ∀ k, k < wd → Dg 600 (T k)) (w : World) (ht : TabL lo w)
    (hc0 : w.cell? ⟨b, 0, none⟩ = some (.slice (some ⟨R, 0, none⟩) m cR)) (he : ErrAt w b) (hcr : w.cell? ⟨R, r, none⟩ = some (.slice (some ⟨rr, 0, none⟩) wd wd))
    (hAT : Arr w rr wd (vec T)) (hAf : Arr w q wd (vec f)) :
    Calls Tryz.prog 111 #[.pointer (some ⟨b, 0, none⟩), .slice (some ⟨q, 0, none⟩) wd cq, .int .i64 r, .int .i64 c] w fun e w' => e = .returned (.tuple #[]) ∧ Kp (fun k => k ≠ q) w w' ∧ Arr w' q wd (vec fun k => f k - f c * T k) := by
  have hcc := hAf.cell hc
  have hr0 : (0 : Int) ≤ r := by omega
  have hrm : (r : Int) < m := by omega
  have hc00 : (0 : Int) ≤ c := by omega
  have hcw : (c : Int) < wd := by omega
  have z0 := ratS_is0 (f c)
  have HG : Hid (∀ k, (T k = 0 ∨ f c = 0) → f k = f k - f c * T k) := Lib.hid (fun k h => by
    rcases h with h | h
    · rw [h, Rat.mul_zero, Rat.sub_eq_add_neg, Rat.neg_zero, Rat.add_zero]
    · rw [h, Rat.zero_mul, Rat.sub_eq_add_neg, Rat.neg_zero, Rat.add_zero])
  by_cases hz : f c = 0
  · rw [decide_eq_true hz] at z0
    have HE : Hid (Arr w q wd (vec fun k => f k - f c * T k)) := Lib.hid (hAf.congr fun i hi => by
      show Value.string (ratS (f i)) = Value.string (ratS (f i - f c * T i))
      rw [← HG.out i (.inr hz)])
    unfold vec at hcc
    generalize ratS (f c) = FC at hcc z0
    clear hz hf hT hAf hAT HG ht
    go_enter Tryz.func111, Tryz.ntmps111
    go_wp2
    refine bodyPost_ret (v := .tuple #[]) (by simp [results, Tryz.results111, go_sem]) rfl ⟨rfl, Kp.refl _, HE.out⟩
  · rw [decide_eq_false hz] at z0
    obtain ⟨g, hg⟩ : ∃ g : Nat → Rat, (fun k => f k - f c * T k) = g := ⟨_, rfl⟩
    have HMU : Hid (∀ k, k < wd → ∀ w', TabT w' → ErrAt w' b → Calls Tryz.prog 65 #[.pointer (some ⟨b, 0, none⟩), .string (ratS (f c)), .string (ratS (T k))] w' fun e w2 => e = .returned (.string (ratS (f c * T k))) ∧ Below w'.heap.size w' w2) := Lib.hid (fun k hk w' ht he => mul_any b _ _ w' ((hf c hc).mono (by omega)) ((hT k hk).mono (by omega)) he ht)
    have HSU : Hid (∀ k, k < wd → ∀ w', TabT w' → ErrAt w' b → Calls Tryz.prog 64 #[.pointer (some ⟨b, 0, none⟩), .string (ratS (f k)), .string (ratS (f c * T k))] w' fun e w2 => e = .returned (.string (ratS (g k))) ∧ Below w'.heap.size w' w2) := Lib.hid (fun k hk w' ht he => by
      rw [← hg]
      exact sub_any b _ _ w' ((hf k hk).mono (by omega)) (((hf c hc).mul (hT k hk)).mono (by omega)) he ht)
    have HGG : Hid (∀ k, T k = 0 → f k = g k) := Lib.hid (fun k h => by rw [← hg]; exact HG.out k (.inl h))
    rw [hg]
    have HZ : Hid (∀ k, ((ratS (T k)).toList == [48]) = decide (T k = 0)) := Lib.hid (fun k => ratS_is0 (T k))
    unfold vec at hcc
    generalize ratS (f c) = FC at hcc z0 HMU
    clear hg HG hf hT
    go_enter Tryz.func111, Tryz.ntmps111
    go_wp2
    go_loopw [25] (fun i wr => ∃ k : Nat, k ≤ wd ∧ i = .int .i64 k ∧ Kp (fun j => j ≠ q) w wr ∧ Arr wr q wd (fun j => if j < k then vec g j else vec f j)) (fun i _ => wd - (intOf i).toNat)
    case atStart => exact ⟨0, by omega, rfl, Kp.refl _, hAf.congr fun i hi => by rw [if_neg (by omega)]⟩
    case round =>
      obtain ⟨k, hk, rfl, hkp, harr⟩ := hrel
      by_cases hlt : k < wd
      · have hat := hAT.kp hkp (by exact Ne.symm hqr)
        have hvc := hat.cell hlt
        have hk0 : (0 : Int) ≤ k := by omega
        have hkw : (k : Int) < wd := by omega
        have hz := HZ.out k
        have hM := HMU.out k hlt
        have hS := HSU.out k hlt
        unfold vec at hvc
        by_cases hT0 : T k = 0
        · rw [decide_eq_true hT0] at hz
          have HA : Hid (Arr wr q wd (fun j => if j < k + 1 then vec g j else vec f j)) := Lib.hid (harr.congr fun i hi => vec_skip (HGG.out k hT0) i)
          generalize ratS (T k) = V at hvc hz
          clear hT0 hM hS harr
          go_wp2
          go_roundw
          case rel => exact ⟨k + 1, by omega, by go_num, hkp, HA.out⟩
          case measure => simp [intOf]; omega
        · rw [decide_eq_false hT0] at hz
          have HM := Lib.hid hM
          have HS := Lib.hid hS
          clear hT0 hM hS
          generalize ratS (T k) = V at hvc hz HM
          generalize ratS (f c * T k) = X at HM HS
          go_upto_region 6 with fail
          obtain ⟨W, hW⟩ : ∃ W, wr.drew = W := ⟨_, rfl⟩
          have hkpW : Kp (fun j => j ≠ q) w W := by rw [← hW]; exact hkp.drew
          have harrW : Arr W q wd (fun j => if j < k then vec g j else vec f j) := by rw [← hW]; exact harr
          have KP := Lib.hid hkpW
          have AR := Lib.hid harrW
          have HB : Hid (∀ x, Below W.heap.size W x → Kp (fun j => j ≠ q) w x ∧ Arr x q wd (fun j => if j < k then vec g j else vec f j) ∧ TabT x ∧ ErrAt x b ∧ x.cell? ⟨q, k, none⟩ = some (.string (ratS (f k))) ∧ x.frozen? ⟨q, k, none⟩ = false) := Lib.hid (fun x hx => by
            have h1 := KP.out.trans (Kp.below hx)
            have h2 := AR.out.below hx
            have h3 := h2.cell hlt
            rw [if_neg (Nat.lt_irrefl k)] at h3
            exact ⟨h1, h2, ht.2 x (h1.lo hlq ht.1), he.kp h1 (fun h => hqb h.symm), h3, h2.frozen k⟩)
          obtain ⟨_, _, htW, heW, hcW, hfW⟩ := HB.out W (Below.refl _ _)
          (refine wp_region_held_drew (S := (fun _ => True)) (by kernel_rfl) ?_ (fun hHeld => ?_))
          · trivial
          rw [hW]
          clear hW hkpW harrW hkp harr hat hvc
          (refine wpAnyH_take (i := 0) (v := ?_) rfl (by kernel_rfl) (by kernel_rfl) (by kernel_rfl) (fun _ _ _ h => h) (Or.inl ⟨by kernel_rfl, ?_⟩) (by assumption) ?_; rotate_left; (focus (intro w hSw; (try dsimp only at hSw); go_simp; all_goals with_reducible rfl)); (try simp only [Act.put, List.getElem_toArray, List.getElem_cons_succ, List.getElem_cons_zero, List.setIfInBounds_toArray, List.set_cons_zero, List.set_cons_succ]))
          (refine wpAnyH_take (i := 1) (v := ?_) rfl (by kernel_rfl) (by kernel_rfl) (by kernel_rfl) (fun _ _ _ h => h) (Or.inl ⟨by kernel_rfl, ?_⟩) (by assumption) ?_; rotate_left; (focus (intro w hSw; (try dsimp only at hSw); go_simp; all_goals with_reducible rfl)); (try simp only [Act.put, List.getElem_toArray, List.getElem_cons_succ, List.getElem_cons_zero, List.setIfInBounds_toArray, List.set_cons_zero, List.set_cons_succ]))
          (refine wpAnyH_take (i := 2) (v := ?_) rfl (by kernel_rfl) (by kernel_rfl) (by kernel_rfl) (fun _ _ _ h => h) (Or.inl ⟨by kernel_rfl, ?_⟩) (by assumption) ?_; rotate_left; (focus (intro w hSw; (try dsimp only at hSw); go_simp; all_goals with_reducible rfl)); (try simp only [Act.put, List.getElem_toArray, List.getElem_cons_succ, List.getElem_cons_zero, List.setIfInBounds_toArray, List.set_cons_zero, List.set_cons_succ]))
          (refine wpAnyH_take (i := 3) (v := ?_) rfl (by kernel_rfl) (by kernel_rfl) (by kernel_rfl) (fun _ _ _ h => h) (Or.inl ⟨by kernel_rfl, ?_⟩) (by assumption) ?_; rotate_left; (focus (intro w hSw; (try dsimp only at hSw); go_simp; all_goals with_reducible rfl)); (try simp only [Act.put, List.getElem_toArray, List.getElem_cons_succ, List.getElem_cons_zero, List.setIfInBounds_toArray, List.set_cons_zero, List.set_cons_succ]))
          (refine wpAnyH_take (i := 4) (v := ?_) rfl (by kernel_rfl) (by kernel_rfl) (by kernel_rfl) (fun _ _ _ h => h) (Or.inl ⟨by kernel_rfl, ?_⟩) (by assumption) ?_; rotate_left; (focus (intro w hSw; (try dsimp only at hSw); go_simp; all_goals with_reducible rfl)); (try simp only [Act.put, List.getElem_toArray, List.getElem_cons_succ, List.getElem_cons_zero, List.setIfInBounds_toArray, List.set_cons_zero, List.set_cons_succ]))
          (refine wpAnyH_take (i := 5) (v := ?_) rfl (by kernel_rfl) (by kernel_rfl) (by kernel_rfl) (fun _ _ _ h => h) (Or.inl ⟨by kernel_rfl, ?_⟩) (by assumption) ?_; rotate_left; (focus (intro w hSw; (try dsimp only at hSw); go_simp; all_goals with_reducible rfl)); (try simp only [Act.put, List.getElem_toArray, List.getElem_cons_succ, List.getElem_cons_zero, List.setIfInBounds_toArray, List.set_cons_zero, List.set_cons_succ]))
          (refine wpAnyH_take (i := 7) (v := ?_) rfl (by kernel_rfl) (by kernel_rfl) (by kernel_rfl) (fun _ _ _ h => h) (Or.inl ⟨by kernel_rfl, ?_⟩) (by assumption) ?_; rotate_left; (focus (intro w hSw; (try dsimp only at hSw); go_simp; all_goals with_reducible rfl)); (try simp only [Act.put, List.getElem_toArray, List.getElem_cons_succ, List.getElem_cons_zero, List.setIfInBounds_toArray, List.set_cons_zero, List.set_cons_succ]))
          (refine wpAnyH_take (i := 8) (v := ?_) rfl (by kernel_rfl) (by kernel_rfl) (by kernel_rfl) (fun _ _ _ h => h) (Or.inl ⟨by kernel_rfl, ?_⟩) (by assumption) ?_; rotate_left; (focus (intro w hSw; (try dsimp only at hSw); go_simp; all_goals with_reducible rfl)); (try simp only [Act.put, List.getElem_toArray, List.getElem_cons_succ, List.getElem_cons_zero, List.setIfInBounds_toArray, List.set_cons_zero, List.set_cons_succ]))
          (refine wpAnyH_take (i := 9) (v := ?_) rfl (by kernel_rfl) (by kernel_rfl) (by kernel_rfl) (fun _ _ _ h => h) (Or.inl ⟨by kernel_rfl, ?_⟩) (by assumption) ?_; rotate_left; (focus (intro w hSw; (try dsimp only at hSw); go_simp; all_goals with_reducible rfl)); (try simp only [Act.put, List.getElem_toArray, List.getElem_cons_succ, List.getElem_cons_zero, List.setIfInBounds_toArray, List.set_cons_zero, List.set_cons_succ]))
          (refine wpAnyH_ready (rs := [6, 10]) (by kernel_rfl) (by simp) ?_; refine AllReadyH.cons rfl (fun K hK => ?_) (AllReadyH.cons rfl (fun K hK => ?_) AllReadyH.nil))
          · go_simp
            (refine hK.out _ _ trivial (fun hHeld => ?_); clear hK K; (try simp only [Act.put, List.getElem_toArray, List.getElem_cons_succ, List.getElem_cons_zero, List.setIfInBounds_toArray, List.set_cons_zero, List.set_cons_succ]))
            (refine wpAnyH_ready (rs := [10]) (by kernel_rfl) (by simp) ?_; refine AllReadyH.cons rfl (fun K hK => ?_) AllReadyH.nil)
            go_simp
            go_at_call 65
            (with_reducible refine (HM.out W htW heW).mono ?_)
            rintro e V1 ⟨rfl, hb1⟩
            obtain ⟨_, _, ht1, he1, hc1, hf1⟩ := HB.out V1 hb1
            (refine hK.out _ _ trivial (fun hHeld => ?_); clear hK K; (try simp only [Act.put, List.getElem_toArray, List.getElem_cons_succ, List.getElem_cons_zero, List.setIfInBounds_toArray, List.set_cons_zero, List.set_cons_succ]))
            (refine wpAnyH_ready (rs := [11]) (by kernel_rfl) (by simp) ?_; refine AllReadyH.cons rfl (fun K hK => ?_) AllReadyH.nil)
            go_simp
            go_at_call 64
            (with_reducible refine (HS.out V1 ht1 he1).mono ?_)
            rintro e V2 ⟨rfl, hb2⟩
            obtain ⟨kp2, ar2, ht2, he2, hc2, hf2⟩ := HB.out V2 (Below.trans hb1 (hb2.mono hb1.size))
            (refine hK.out _ _ trivial (fun hHeld => ?_); clear hK K; (try simp only [Act.put, List.getElem_toArray, List.getElem_cons_succ, List.getElem_cons_zero, List.setIfInBounds_toArray, List.set_cons_zero, List.set_cons_succ]))
            have HF : Hid (Kp (fun j => j ≠ q) w (V2.setCell ⟨q, k, none⟩ (.string (ratS (g k)))) ∧ Arr (V2.setCell ⟨q, k, none⟩ (.string (ratS (g k)))) q wd (fun j => if j < k + 1 then vec g j else vec f j)) := Lib.hid ⟨kp2.set (fun j _ h => h) _, (ar2.set k (vec g k)).congr fun j _ => vec_step j⟩
            clear kp2 ar2
            (refine wpAnyH_take (i := 12) (v := ?_) rfl (by kernel_rfl) (by kernel_rfl) (by kernel_rfl) (fun _ _ _ h => h) (Or.inl ⟨by kernel_rfl, ?_⟩) (by assumption) ?_; rotate_left; (focus (intro w hSw; (try dsimp only at hSw); go_simp; all_goals with_reducible rfl)); (try simp only [Act.put, List.getElem_toArray, List.getElem_cons_succ, List.getElem_cons_zero, List.setIfInBounds_toArray, List.set_cons_zero, List.set_cons_succ]))
            (refine wpAnyH_ready (rs := [13]) (by kernel_rfl) (by simp) ?_; refine AllReadyH.cons rfl (fun K hK => ?_) AllReadyH.nil)
            go_simp
            (refine hK.out _ _ trivial (fun hHeld => ?_); clear hK K; (try simp only [Act.put, List.getElem_toArray, List.getElem_cons_succ, List.getElem_cons_zero, List.setIfInBounds_toArray, List.set_cons_zero, List.set_cons_succ]))
            (refine wpAnyH_done (by kernel_rfl) ?_ _)
            clear hHeld
            go_wp2
            go_roundw
            case rel => exact ⟨k + 1, by omega, by go_num, HF.out⟩
            case measure => simp [intOf]; omega
          · go_simp
            go_at_call 65
            (with_reducible refine (HM.out W htW heW).mono ?_)
            rintro e V1 ⟨rfl, hb1⟩
            obtain ⟨_, _, ht1, he1, hc1, hf1⟩ := HB.out V1 hb1
            (refine hK.out _ _ trivial (fun hHeld => ?_); clear hK K; (try simp only [Act.put, List.getElem_toArray, List.getElem_cons_succ, List.getElem_cons_zero, List.setIfInBounds_toArray, List.set_cons_zero, List.set_cons_succ]))
            (refine wpAnyH_ready (rs := [6]) (by kernel_rfl) (by simp) ?_; refine AllReadyH.cons rfl (fun K hK => ?_) AllReadyH.nil)
            go_simp
            (refine hK.out _ _ trivial (fun hHeld => ?_); clear hK K; (try simp only [Act.put, List.getElem_toArray, List.getElem_cons_succ, List.getElem_cons_zero, List.setIfInBounds_toArray, List.set_cons_zero, List.set_cons_succ]))
            (refine wpAnyH_ready (rs := [11]) (by kernel_rfl) (by simp) ?_; refine AllReadyH.cons rfl (fun K hK => ?_) AllReadyH.nil)
            go_simp
            go_at_call 64
            (with_reducible refine (HS.out V1 ht1 he1).mono ?_)
            rintro e V2 ⟨rfl, hb2⟩
            obtain ⟨kp2, ar2, ht2, he2, hc2, hf2⟩ := HB.out V2 (Below.trans hb1 (hb2.mono hb1.size))
            (refine hK.out _ _ trivial (fun hHeld => ?_); clear hK K; (try simp only [Act.put, List.getElem_toArray, List.getElem_cons_succ, List.getElem_cons_zero, List.setIfInBounds_toArray, List.set_cons_zero, List.set_cons_succ]))
            have HF : Hid (Kp (fun j => j ≠ q) w (V2.setCell ⟨q, k, none⟩ (.string (ratS (g k)))) ∧ Arr (V2.setCell ⟨q, k, none⟩ (.string (ratS (g k)))) q wd (fun j => if j < k + 1 then vec g j else vec f j)) := Lib.hid ⟨kp2.set (fun j _ h => h) _, (ar2.set k (vec g k)).congr fun j _ => vec_step j⟩
            clear kp2 ar2
            (refine wpAnyH_take (i := 12) (v := ?_) rfl (by kernel_rfl) (by kernel_rfl) (by kernel_rfl) (fun _ _ _ h => h) (Or.inl ⟨by kernel_rfl, ?_⟩) (by assumption) ?_; rotate_left; (focus (intro w hSw; (try dsimp only at hSw); go_simp; all_goals with_reducible rfl)); (try simp only [Act.put, List.getElem_toArray, List.getElem_cons_succ, List.getElem_cons_zero, List.setIfInBounds_toArray, List.set_cons_zero, List.set_cons_succ]))
            (refine wpAnyH_ready (rs := [13]) (by kernel_rfl) (by simp) ?_; refine AllReadyH.cons rfl (fun K hK => ?_) AllReadyH.nil)
            go_simp
            (refine hK.out _ _ trivial (fun hHeld => ?_); clear hK K; (try simp only [Act.put, List.getElem_toArray, List.getElem_cons_succ, List.getElem_cons_zero, List.setIfInBounds_toArray, List.set_cons_zero, List.set_cons_succ]))
            (refine wpAnyH_done (by kernel_rfl) ?_ _)
            clear hHeld
            go_wp2
            go_roundw
            case rel => exact ⟨k + 1, by omega, by go_num, HF.out⟩
            case measure => simp [intOf]; omega
      · obtain rfl : k = wd := by omega
        clear hlt
        go_wp2
        go_end0
        exact ⟨rfl, hkp, harr.congr fun i hi => if_pos hi⟩
end Go.Proofs.YthcmopgdjibojaaGreatDoor.smp

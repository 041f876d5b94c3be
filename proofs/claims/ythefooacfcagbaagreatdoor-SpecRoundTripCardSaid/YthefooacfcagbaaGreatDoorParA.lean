/- Texts of instances, read: plain. -/
import Derived.Test.YthefooacfcagbaaGreatDoorLinA
namespace Go.Proofs.YthefooacfcagbaaGreatDoor.spc
open Go.RowKit
open lib rd app els typ big gen off
open ins (InP InAt InV)
open txt (in64 By strV strV_of)
set_option linter.unusedVariables false
set_option linter.unusedSimpArgs false
theorem cut_splt : ∀ s : By, (∃ l r, Lib.cut s [10] = (l, r, true) ∧ s.length = l.length + r.length + 1 ∧ splt 10 s = l :: splt 10 r) ∨ (Lib.cut s [10] = (s, [], false) ∧ splt 10 s = [s])
 | [] => .inr ⟨by unfold Lib.cut; rw [ix_none (by simp)]; rfl, rfl⟩
 | x :: s => by
  by_cases hx : x = 10
  ·subst hx
   left
   refine ⟨[], s, ?_, by simp, by rw [splt, if_pos rfl]⟩
   unfold Lib.cut
   rw [ix_eq, if_pos (by decide)]
   rfl
  ·have hge := Lib.index_ge s [10]
   have hne := ix_ne hx s
   rcases cut_splt s with ⟨l, r, h1, h2, h3⟩ | ⟨h1, h2⟩
   ·left
    have h0 : 0 ≤ Lib.index s [10] := by
     unfold Lib.cut at h1
     split at h1
     ·assumption
     ·simp at h1
    rw [if_neg (by omega)] at hne
    refine ⟨x :: l, r, ?_, by simp; omega, by rw [splt, if_neg hx, h3]⟩
    unfold Lib.cut at h1 ⊢
    rw [if_pos h0] at h1
    rw [hne, if_pos (by omega)]
    obtain ⟨i, hi⟩ : ∃ i : Nat, Lib.index s [10] = i := ⟨(Lib.index s [10]).toNat, by omega⟩
    rw [hi] at h1 ⊢
    rw [show ((i : Int) + 1).toNat = i + 1 by omega]
    rw [show ((i : Int)).toNat = i by omega] at h1
    simp only [Prod.mk.injEq] at h1
    obtain ⟨k1, k2, -⟩ := h1
    rw [← k1, ← k2]
    simp
   ·right
    have h0 : ¬ 0 ≤ Lib.index s [10] := by
     intro h0
     unfold Lib.cut at h1
     rw [if_pos h0] at h1
     simp at h1
    rw [if_pos (by omega)] at hne
    refine ⟨?_, by rw [splt, if_neg hx, h2]⟩
    unfold Lib.cut
    rw [hne, if_neg (by decide)]
theorem splt_nil_iff {r : By} : splt 10 r = [[]] ↔ r = [] := by
 refine ⟨fun h => ?_, fun h => by rw [h]; rfl⟩
 have := (join_splt 10 r).1
 rw [h, Lib.join_one] at this
 exact this.symm
theorem prsP_step (l r : By) (n last : Nat) (x : Ins) : prsP (l :: splt 10 r) n last x = match rowO l with
  | none => (none, n)
  | some q => if q.rank < last then (none, n) else if q.rank = 7 then (if r = [] then (some x, 0) else (none, n + 1)) else prsP (splt 10 r) (n + 1) q.rank (q.add x) := by
 have hne := splt_ne 10 r
 have hi := @splt_nil_iff r
 cases hs : splt 10 r with
 | nil => exact absurd hs hne
 | cons m ls =>
  rw [hs] at hi
  rw [prsP]
  cases rowO l with
  | none => rfl
  | some q =>
   dsimp only
   by_cases hr : r = []
   ·rw [if_pos (hi.2 hr), if_pos hr]
   ·rw [if_neg (fun h => hr (hi.1 h)), if_neg hr]
theorem rows_add (x : Ins) (r : Lin) : (rowsI (r.add x)).length ≤ (rowsI x).length + 1 := by
 cases r <;> simp [rowsI, Lin.add] <;> omega
theorem sm_of {x : Ins} (h : (rowsI x).length ≤ 1000000) : Sm x := by
 simp only [rowsI, List.length_append, List.length_map] at h
 unfold Sm
 omega
theorem fin_rank {r : Lin} (h : r.rank = 7) : r = .fin := by cases r <;> first | rfl | (simp [Lin.rank] at h)
noncomputable def parF (F : Ins → List Flt) (s : By) : Ins × Int × Int := if 65536 < s.length then (nilX, 0, 4) else match prsP (splt 10 s) 1 0 nilX with
 | (none, n) => (nilX, (n : Int), 3)
 | (some x, _) => match F x with
  | [] => (x, 0, 0)
  | f :: _ => (nilX, 0, f.err)
theorem parF_big {F : Ins → List Flt} {s : By} (h : 65536 < s.length) : parF F s = (nilX, 0, 4) := by unfold parF; rw [if_pos h]
theorem parF_none {F : Ins → List Flt} {s : By} {n : Nat} (h : ¬ 65536 < s.length) (h1 : prsP (splt 10 s) 1 0 nilX = (none, n)) : parF F s = (nilX, (n : Int), 3) := by unfold parF; rw [if_neg h, h1]
theorem parF_ok {F : Ins → List Flt} {s : By} {x : Ins} {j : Nat} (h : ¬ 65536 < s.length) (h1 : prsP (splt 10 s) 1 0 nilX = (some x, j)) (h2 : F x = []) : parF F s = (x, 0, 0) := by unfold parF; rw [if_neg h, h1]; simp [h2]
theorem parF_bad {F : Ins → List Flt} {s : By} {x : Ins} {j : Nat} {f : Flt} {fs : List Flt} (h : ¬ 65536 < s.length) (h1 : prsP (splt 10 s) 1 0 nilX = (some x, j)) (h2 : F x = f :: fs) : parF F s = (nilX, 0, f.err) := by unfold parF; rw [if_neg h, h1]; simp [h2]
theorem nilX_at (w : World) : InAt w w.heap.size nilX nilP := ⟨RowAt.nil, RowAt.nil, RowAt.nil, RowAt.nil, RowAt.nil, RowAt.nil, Nat.le_refl _, Nat.le_refl _, Nat.le_refl _, Nat.le_refl _⟩
def ParOut (w : World) (r : Ins × Int × Int) (e : Ending) (w' : World) : Prop := ∃ P, e = .returned (.tuple #[InV r.1 P, .int .i64 r.2.1, .int .i64 r.2.2]) ∧ InAt w' w'.heap.size r.1 P ∧ Below w.heap.size w w'
theorem res_cell_two {t : TypeId} {n a b c : Nat} (T : StructOf t n) {fn : Func} (h : fn.results = #[.cell a t, .tmp b, .tmp c]) {tmps : Array Value} {ad : Addr} {v u : Value} {w : World} {cs : List Value} (ha : tmps.getD a undef = .pointer (some ad)) (hb : tmps.getD b undef = v) (hc' : tmps.getD c undef = u) (hc : CellsAt w ad cs) (hn : cs.length = n) :
  (results fn tmps).run Tryz.prog w = .ok (.tuple #[.agg cs.toArray, v, u]) w := by
 have hl := run_loadVarS T hc hn
 rw [Array.getD_eq_getD_getElem?] at ha hb hc'
 unfold results
 rw [h]
 simp [ha, hb, hc', asAddr, hl]
end Go.Proofs.YthefooacfcagbaaGreatDoor.spc

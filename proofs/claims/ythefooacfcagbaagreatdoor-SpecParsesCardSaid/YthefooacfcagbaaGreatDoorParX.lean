import Derived.Test.YthefooacfcagbaaGreatDoorLinA
import Derived.Test.YthefooacfcagbaaGreatDoorStrX
import Derived.Shelf.Strings.Builder1
import Derived.Test.YthefooacfcagbaaGreatDoorBase
import Derived.Test.YthefooacfcagbaaGreatDoorSpcY
/- Texts of instances, read: plain. -/
namespace Go.Proofs.YthefooacfcagbaaGreatDoor.spc
open Go.RowKit
open lib rd app els typ big gen off
open ins (InP InAt InV)
open txt (in64 By strV strV_of)
set_option linter.unusedVariables false
set_option linter.unusedSimpArgs false
theorem cut_splt : ∀ s : By, (∃ l r, Lib.cut s [10] = (l, r, true) ∧ s.length = l.length + r.length + 1 ∧ splt 10 s = l :: splt 10 r) ∨ (Lib.cut s [10] = (s, [], false) ∧ splt 10 s = [s])
 | [] => .inr ⟨by unfold Lib.cut; rw [ix_none (by simp)]; rfl, rfl⟩
 | x :: s => by
  by_cases hx : x = 10
  ·subst hx
   left
   refine ⟨[], s, ?_, by simp, by rw [splt, if_pos rfl]⟩
   unfold Lib.cut
   rw [ix_eq, if_pos (by decide)]
   rfl
  ·have hge := Lib.index_ge s [10]
   have hne := ix_ne hx s
   rcases cut_splt s with ⟨l, r, h1, h2, h3⟩ | ⟨h1, h2⟩
   ·left
    have h0 : 0 ≤ Lib.index s [10] := by
     unfold Lib.cut at h1
     split at h1
     ·assumption
     ·simp at h1
    rw [if_neg (by omega)] at hne
    refine ⟨x :: l, r, ?_, by simp; omega, by rw [splt, if_neg hx, h3]⟩
    unfold Lib.cut at h1 ⊢
    rw [if_pos h0] at h1
    rw [hne, if_pos (by omega)]
    obtain ⟨i, hi⟩ : ∃ i : Nat, Lib.index s [10] = i := ⟨(Lib.index s [10]).toNat, by omega⟩
    rw [hi] at h1 ⊢
    rw [show ((i : Int) + 1).toNat = i + 1 by omega]
    rw [show ((i : Int)).toNat = i by omega] at h1
    simp only [Prod.mk.injEq] at h1
    obtain ⟨k1, k2, -⟩ := h1
    rw [← k1, ← k2]
    simp
   ·right
    have h0 : ¬ 0 ≤ Lib.index s [10] := by
     intro h0
     unfold Lib.cut at h1
     rw [if_pos h0] at h1
     simp at h1
    rw [if_pos (by omega)] at hne
    refine ⟨?_, by rw [splt, if_neg hx, h2]⟩
    unfold Lib.cut
    rw [hne, if_neg (by decide)]
theorem splt_nil_iff {r : By} : splt 10 r = [[]] ↔ r = [] := by
 refine ⟨fun h => ?_, fun h => by rw [h]; rfl⟩
 have := (join_splt 10 r).1
 rw [h, Lib.join_one] at this
 exact this.symm
theorem prsP_step (l r : By) (n last : Nat) (x : Ins) : prsP (l :: splt 10 r) n last x = match rowO l with
  | none => (none, n)
  | some q => if q.rank < last then (none, n) else if q.rank = 7 then (if r = [] then (some x, 0) else (none, n + 1)) else prsP (splt 10 r) (n + 1) q.rank (q.add x) := by
 have hne := splt_ne 10 r
 have hi := @splt_nil_iff r
 cases hs : splt 10 r with
 | nil => exact absurd hs hne
 | cons m ls =>
  rw [hs] at hi
  rw [prsP]
  cases rowO l with
  | none => rfl
  | some q =>
   dsimp only
   by_cases hr : r = []
   ·rw [if_pos (hi.2 hr), if_pos hr]
   ·rw [if_neg (fun h => hr (hi.1 h)), if_neg hr]
theorem rows_add (x : Ins) (r : Lin) : (rowsI (r.add x)).length ≤ (rowsI x).length + 1 := by
 cases r <;> simp [rowsI, Lin.add] <;> omega
theorem sm_of {x : Ins} (h : (rowsI x).length ≤ 1000000) : Sm x := by
 simp only [rowsI, List.length_append, List.length_map] at h
 unfold Sm
 omega
theorem fin_rank {r : Lin} (h : r.rank = 7) : r = .fin := by cases r <;> first | rfl | (simp [Lin.rank] at h)
noncomputable def parF (F : Ins → List Flt) (s : By) : Ins × Int × Int := if 65536 < s.length then (nilX, 0, 4) else match prsP (splt 10 s) 1 0 nilX with
 | (none, n) => (nilX, (n : Int), 3)
 | (some x, _) => match F x with
  | [] => (x, 0, 0)
  | f :: _ => (nilX, 0, f.err)
theorem parF_big {F : Ins → List Flt} {s : By} (h : 65536 < s.length) : parF F s = (nilX, 0, 4) := by unfold parF; rw [if_pos h]
theorem parF_none {F : Ins → List Flt} {s : By} {n : Nat} (h : ¬ 65536 < s.length) (h1 : prsP (splt 10 s) 1 0 nilX = (none, n)) : parF F s = (nilX, (n : Int), 3) := by unfold parF; rw [if_neg h, h1]
theorem parF_ok {F : Ins → List Flt} {s : By} {x : Ins} {j : Nat} (h : ¬ 65536 < s.length) (h1 : prsP (splt 10 s) 1 0 nilX = (some x, j)) (h2 : F x = []) : parF F s = (x, 0, 0) := by unfold parF; rw [if_neg h, h1]; simp [h2]
theorem parF_bad {F : Ins → List Flt} {s : By} {x : Ins} {j : Nat} {f : Flt} {fs : List Flt} (h : ¬ 65536 < s.length) (h1 : prsP (splt 10 s) 1 0 nilX = (some x, j)) (h2 : F x = f :: fs) : parF F s = (nilX, 0, f.err) := by unfold parF; rw [if_neg h, h1]; simp [h2]
theorem nilX_at (w : World) : InAt w w.heap.size nilX nilP := ⟨RowAt.nil, RowAt.nil, RowAt.nil, RowAt.nil, RowAt.nil, RowAt.nil, Nat.le_refl _, Nat.le_refl _, Nat.le_refl _, Nat.le_refl _⟩
def ParOut (w : World) (r : Ins × Int × Int) (e : Ending) (w' : World) : Prop := ∃ P, e = .returned (.tuple #[InV r.1 P, .int .i64 r.2.1, .int .i64 r.2.2]) ∧ InAt w' w'.heap.size r.1 P ∧ Below w.heap.size w w'
theorem res_cell_two {t : TypeId} {n a b c : Nat} (T : StructOf t n) {fn : Func} (h : fn.results = #[.cell a t, .tmp b, .tmp c]) {tmps : Array Value} {ad : Addr} {v u : Value} {w : World} {cs : List Value} (ha : tmps.getD a undef = .pointer (some ad)) (hb : tmps.getD b undef = v) (hc' : tmps.getD c undef = u) (hc : CellsAt w ad cs) (hn : cs.length = n) :
  (results fn tmps).run Tryz.prog w = .ok (.tuple #[.agg cs.toArray, v, u]) w := by
 have hl := run_loadVarS T hc hn
 rw [Array.getD_eq_getD_getElem?] at ha hb hc'
 unfold results
 rw [h]
 simp [ha, hb, hc', asAddr, hl]
end Go.Proofs.YthefooacfcagbaaGreatDoor.spc

/- A strings.Builder that is the field of a writer of package spec: Len, WriteString, String. -/
namespace Go.Proofs.YthefooacfcagbaaGreatDoor.spc
open Go.RowKit
open lib
set_option linter.unusedVariables false
set_option linter.unusedSimpArgs false
abbrev WrtAt := Lib.BuilderAt 59 5
abbrev IsWrt := Lib.IsBuilder 59 5
theorem wrt_size : ((Tryz.prog).info? 57).map (·.size) = some 2 := by kernel_rfl
theorem wrt_lies : liesAt Tryz.prog (Tryz.prog).depth 59 (2 / (Tryz.prog).cellsOf 59) 0 57 1 = true := by kernel_rfl
theorem wrt_byte : ((Tryz.prog).info? 5).map (fun i => (i.zero, i.size, i.bytes)) = some (some (.int .u8 0), 1, 1) := by kernel_rfl
theorem wrt_ne : 59 ≠ 5 := by decide
set_option maxHeartbeats 1000000 in
set_option maxRecDepth 100000 in
theorem copyCheck_used (b : Nat) (w : World) (h0 : w.cell? ⟨b, 0, none⟩ = some (.pointer (some ⟨b, 0, none⟩))) :
  Calls Tryz.prog 89 #[.pointer (some ⟨b, 0, none⟩)] w fun e w' => e = .returned (.tuple #[]) ∧ w' = w := by
 obtain ⟨j, hj, _⟩ := Option.map_eq_some_iff.1 wrt_size
 go_enter Tryz.func89, Tryz.ntmps89
 go_wp2
 rw [Lib.run_neq_ptr_same w _ Tryz.underlying54 hj]
 go_wp2
 go_end0
 exact ⟨rfl, rfl⟩
set_option maxHeartbeats 1000000 in
set_option maxRecDepth 100000 in
theorem copyCheck_fresh (b : Nat) (w : World) (h0 : w.cell? ⟨b, 0, none⟩ = some (.pointer none)) (hsh : w.shape? b = some (59, 2)) (hfz : w.frozen? ⟨b, 0, none⟩ = false) :
  Calls Tryz.prog 89 #[.pointer (some ⟨b, 0, none⟩)] w fun e w' => e = .returned (.tuple #[]) ∧ w' = w.setCell ⟨b, 0, none⟩ (.pointer (some ⟨b, 0, none⟩)) := by
 obtain ⟨j, hj, hjs⟩ := Option.map_eq_some_iff.1 wrt_size
 go_enter Tryz.func89, Tryz.ntmps89
 go_wp2
 rw [Lib.run_to_unsafe w ⟨b, 0, none⟩ Tryz.underlying54 Tryz.underlying169 hj (by rw [hjs]; decide) hsh (Nat.zero_lt_succ 1)]
 simp only [Result.andThen]
 rw [Oper.upon_value]
 go_wp2
 rw [run_callFunc_extern Tryz.func132 (by kernel_rfl) (by kernel_rfl) (by kernel_rfl) (e := Extern.AbiNoEscape.same) (by kernel_rfl)]
 rw [Lib.run_noEscape]
 simp only [Result.andThen]
 rw [Oper.upon_value]
 go_wp2
 rw [Lib.run_from_unsafe w ⟨b, 0, none⟩ Tryz.underlying169 Tryz.underlying54 hj hsh wrt_lies]
 simp only [Result.andThen]
 rw [Oper.upon_value]
 go_wp2
 go_end0
 exact ⟨rfl, rfl⟩
theorem copyCheck_any (B b : Nat) (bs : List Value) (w : World) (h : IsWrt B b bs w) :
  Calls Tryz.prog 89 #[.pointer (some ⟨b, 0, none⟩)] w fun e w' => e = .returned (.tuple #[]) ∧ WrtAt B b (.pointer (some ⟨b, 0, none⟩)) bs w' ∧ Below B w w' ∧ w'.cell? ⟨b, 1, none⟩ = w.cell? ⟨b, 1, none⟩ ∧ w'.heap.size = w.heap.size ∧ ∀ j, j ≠ b → w'.heap[j]? = w.heap[j]? := by
 rcases h with h | h
 ·refine (copyCheck_fresh b w h.cell0 h.shape h.frozen0).mono ?_
  rintro e w' ⟨rfl, rfl⟩
  refine ⟨rfl, h.used _, (Below.refl B w).setCell (p := ⟨b, 0, none⟩) h.1 _, ?_, by simp [World.setCell], fun j hj => Below.heap_setCell w ⟨b, 0, none⟩ _ j hj⟩
  obtain ⟨-, v, hk, -⟩ := h.used (.pointer (some ⟨b, 0, none⟩))
  obtain ⟨-, v', hk', -⟩ := h
  have e1 := heap_setCell_same w b 0 _ _ (.pointer (some ⟨b, 0, none⟩)) hk'
  rw [e1] at hk
  have e2 : v = v' := by
   have := Option.some.inj hk
   simpa using this.symm
  rw [Lib.cell_of_heap e1, Lib.cell_of_heap hk']
  rfl
 ·refine (copyCheck_used b w h.cell0).mono ?_
  rintro e w' ⟨rfl, rfl⟩
  exact ⟨rfl, h, Below.refl B _, rfl, rfl, fun _ _ => rfl⟩
def Keeps (b : Nat) (w w' : World) : Prop := ∀ j, j < w.heap.size → j ≠ b → (∀ v, w.cell? ⟨b, 1, none⟩ = some v → v.ownBlock ≠ some j) → w'.heap[j]? = w.heap[j]?
set_option maxHeartbeats 1000000 in
set_option maxRecDepth 100000 in
theorem wlen_any (B b : Nat) (bs : List Value) (w : World) (h : IsWrt B b bs w) :
  Calls Tryz.prog 22 #[.pointer (some ⟨b, 0, none⟩)] w fun e w' => e = .returned (.int .i64 bs.length) ∧ w' = w := by
 obtain ⟨p, hB, v, hbk, hown, hne⟩ : ∃ p, WrtAt B b p bs w := by
  rcases h with h | h
  ·exact ⟨_, h⟩
  ·exact ⟨_, h⟩
 obtain ⟨ao, cap, rfl⟩ : ∃ ao cap, v = .slice ao bs.length cap := by
  rcases hown.2 with ⟨hv, h0⟩ | ⟨g, cap, cur, hv, _⟩
  ·exact ⟨none, 0, by rw [hv, h0]⟩
  ·exact ⟨_, _, hv⟩
 have c1 : w.cell? ⟨b, 1, none⟩ = some (.slice ao bs.length cap) := by rw [Lib.cell_of_heap hbk]; rfl
 go_enter Tryz.func22, Tryz.ntmps22
 go_wp2
 go_ret
 exact ⟨rfl, rfl⟩
set_option maxHeartbeats 2000000 in
set_option maxRecDepth 100000 in
theorem wstr_any (B b : Nat) (bs : List Value) (s : ByteArray) (w : World) (h : IsWrt B b bs w) (hlen : bs.length + s.size ≤ 140737488355328) (hBw : B ≤ w.heap.size) :
  Calls Tryz.prog 50 #[.pointer (some ⟨b, 0, none⟩), .string s] w fun e w' => e = .returned (.tuple #[.int .i64 s.size, .nilIface]) ∧ WrtAt B b (.pointer (some ⟨b, 0, none⟩)) (bs ++ Lib.strCells s) w' ∧ Below B w w' ∧ Keeps b w w' := by
 obtain ⟨i0, hi, hz0, hz1, hz2⟩ := info_parts wrt_byte
 go_enter Tryz.func50, Tryz.ntmps50
 go_wp2_with (go_at_call 89; refine (copyCheck_any B b bs _ h).mono ?_)
 rintro e w1 ⟨rfl, h1, hb1, hc1, hs1, hk1⟩
 have HK1 := Lib.hid (And.intro hc1 (And.intro hs1 hk1))
 clear hc1 hs1 hk1
 obtain ⟨hB, v, hbk, hown, hne⟩ := h1
 have c0 : w1.cell? ⟨b, 0, none⟩ = some (.pointer (some ⟨b, 0, none⟩)) := by rw [Lib.cell_of_heap hbk]; rfl
 have c1 : w1.cell? ⟨b, 1, none⟩ = some v := by rw [Lib.cell_of_heap hbk]; rfl
 go_wp2_with (at_builtin; refine Lib.wpList_append_own_string _ rfl _ _ 55 9 rfl B 5 i0 Tryz.underlying55 Tryz.underlying9 hi hz0 hz1 hz2 _ _ _ rfl hown s rfl ?c3 ?c4 ?c5 ?_)
 case c3 => unfold maxLen; omega
 case c4 => omega
 case c5 => have := hb1.size; omega
 intro v' w2 hown' hgrow _
 have hlt : b < w1.heap.size := by
  rcases Nat.lt_or_ge b w1.heap.size with h' | h'
  ·exact h'
  ·simp [Array.getElem?_eq_none h'] at hbk
 have hb2 : w2.heap[b]? = some (.cells #[.pointer (some ⟨b, 0, none⟩), v] 59 (0, 0)) := by
  rw [hgrow.block b hlt (fun e => hne e.symm)]
  exact hbk
 have d0 : w2.cell? ⟨b, 0, none⟩ = some (.pointer (some ⟨b, 0, none⟩)) := by rw [Lib.cell_of_heap hb2]; rfl
 have d1 : w2.cell? ⟨b, 1, none⟩ = some v := by rw [Lib.cell_of_heap hb2]; rfl
 have f1 : w2.frozen? ⟨b, 1, none⟩ = false := Lib.frozen_of_heap hb2 1
 obtain ⟨ao, n', cap, rfl⟩ : ∃ ao n' cap, v' = .slice ao n' cap := by
  rcases hown'.2 with ⟨hv, _⟩ | ⟨g, cap, cur, hv, _⟩
  ·exact ⟨_, _, _, hv⟩
  ·exact ⟨_, _, _, hv⟩
 go_wp2
 go_ret2
 refine ⟨rfl, ?_, ?_, ?_⟩
 rotate_left 2
 ·intro j hj hjb hjv
  obtain ⟨e1, e2, e3⟩ := HK1.out
  have e4 := hgrow.block j (by omega) (fun e => hjv v (by rw [← e1]; exact c1) e.symm)
  exact (Below.heap_setCell w2 ⟨b, 1, none⟩ _ j hjb).trans (e4.trans (e3 j hjb))
 ·exact Lib.BuilderAt.put (T := 59) (e := 5) hB hb2 (bs' := bs ++ Lib.strCells s) (by simpa [Lib.strCells_length] using hown') wrt_ne
 ·exact (hb1.grown hgrow (by have := hb1.size; omega) (fun k hk => (hown.lt k hk).1)).setCell (p := ⟨b, 1, none⟩) hB _
set_option maxHeartbeats 1000000 in
set_option maxRecDepth 100000 in
theorem wtext_any (B b : Nat) (l : List UInt8) (w : World) (h : IsWrt B b (Lib.byteCells l) w) (h0 : l ≠ []) :
  Calls Tryz.prog 23 #[.pointer (some ⟨b, 0, none⟩)] w fun e w' => e = .returned (.string ⟨l.toArray⟩) ∧ Below B w w' := by
 obtain ⟨p, hB, v, hbk, hown, hne⟩ : ∃ p, WrtAt B b p (Lib.byteCells l) w := by
  rcases h with h | h
  ·exact ⟨_, h⟩
  ·exact ⟨_, h⟩
 have hl0 : l.length ≠ 0 := by simpa using h0
 rw [Lib.byteCells_length] at hown
 obtain ⟨g, cap, cur, rfl, hbg, hg, hnc, hcm, hcs, htake⟩ : ∃ g cap cur, v = .slice (some ⟨g, 0, none⟩) l.length cap ∧ B ≤ g ∧ w.heap[g]? = some (.cells cur 5 (0, 0)) ∧ l.length ≤ cap ∧ cap ≤ maxLen ∧ cur.size = cap * 1 ∧ cur.toList.take (l.length * 1) = Lib.byteCells l := by
  rcases hown.2 with ⟨_, hz⟩ | ⟨g, cap, cur, hv, r⟩
  ·exact absurd hz hl0
  ·exact ⟨g, cap, cur, hv, r⟩
 have c1 : w.drew.cell? ⟨b, 1, none⟩ = some (.slice (some ⟨g, 0, none⟩) l.length cap) := by
  have : w.drew.heap[b]? = some (.cells #[p, .slice (some ⟨g, 0, none⟩) l.length cap] 59 (0, 0)) := hbk
  rw [Lib.cell_of_heap this]; rfl
 have hSD : (Builtin.unsafeSliceData_ #[55] 105 #[.slice (some ⟨g, 0, none⟩) l.length cap]).run Tryz.prog w.drew = .ok (.pointer (some ⟨g, 0, none⟩)) w.drew :=
  Lib.run_unsafeSliceData_row _ _ _ _ _ _ (by omega)
 have hUS : (Builtin.unsafeString_ #[105, 3] 9 #[.pointer (some ⟨g, 0, none⟩), .int .i64 l.length]).run Tryz.prog w.drew = .ok (.string ⟨l.toArray⟩) (w.drew.freeze ⟨g, 0, none⟩ l.length) := by
  refine Lib.run_unsafeString_row w.drew 105 3 9 5 Tryz.underlying105 (by kernel_rfl) g cur.size (by have hg' : w.drew.heap[g]? = some (.cells cur 5 (0, 0)) := hg; simp [World.shape?, hg']) l h0 (by omega) (by unfold maxLen at hcm; omega) ?_
  intro j x hx
  have := hown.cells (g := g) rfl j (.int .u8 x.toNat) (by simp [Lib.byteCells, hx])
  exact this
 go_enter Tryz.func23, Tryz.ntmps23
 go_wp2
 go_region
 all_goals (go_wp2; go_ret; exact ⟨rfl, Lib.below_freeze (Below.drew (Below.refl B w)) (p := ⟨g, 0, none⟩) hbg _⟩)
end Go.Proofs.YthefooacfcagbaaGreatDoor.spc

/- spec's writer: a line of words and numbers. -/
namespace Go.Proofs.YthefooacfcagbaaGreatDoor.spc
open Go.RowKit
open lib rd app els typ big gen
open txt (in64 By strV strV_of joinS decW decW_any Tabs elem_str toList_data push_one)
set_option linter.unusedVariables false
set_option linter.unusedSimpArgs false
theorem tjoin_any (L : List By) (g n c base : Nat) (w : World) (hn : n = L.length) (hown : w.ownsRow base 9 1 (.slice (some ⟨g, 0, none⟩) n c) n (L.map strV)) (h0 : 0 < n) (hn1 : n ≤ 100000) (hlen : (joinS L).length ≤ 140737488355328) :
  Calls Tryz.prog 51 #[.slice (some ⟨g, 0, none⟩) n c] w fun e w' => e = .returned (.string ⟨(joinS L).toArray⟩) ∧ Below w.heap.size w w' := by
 obtain ⟨xs, hxs⟩ : ∃ xs : List ByteArray, xs = L.map fun l => ⟨l.toArray⟩ := ⟨_, rfl⟩
 have hxl : xs.length = n := by rw [hxs, hn]; simp
 have hxm : xs.map (·.data.toList) = L := by rw [hxs, List.map_map]; exact List.map_id L
 have hcap : xs.length ≤ c := by
  rw [hxl]
  rcases hown.2 with ⟨h, hz⟩ | ⟨g0, cap0, cur, h, _, hg, hnc, _⟩
  ·cases h
  ·injection h with e1 e2 e3
   omega
 have hbk : g < w.heap.size := by
  obtain ⟨g1, c1, hv, _, hlt⟩ := hown.form h0
  injection hv with e1 e2 e3
  have e4 : g = g1 := congrArg Addr.block (Option.some.inj e1)
  omega
 have hcells : ∀ (j : Nat) x, xs[j]? = some x → w.cell? ⟨g, 0 + j, none⟩ = some (.string x) := by
  intro j x hx
  have hj : j < n := by rw [← hxl]; exact (List.getElem?_eq_some_iff.1 hx).1
  have h := hown.cellAt j (by omega)
  rw [Nat.zero_add, h, List.getElem?_map]
  rw [hxs, List.getElem?_map] at hx
  cases hL : L[j]? with
  | none => rw [hL] at hx; cases hx
  | some l =>
   rw [hL] at hx
   have hx2 := Option.some.inj hx
   show some (strV l) = some (Value.string x)
   rw [← hx2]; rfl
 have hc := Tryz.strings_Join g 0 c xs ⟨#[32]⟩ w hcells hbk (by omega) hcap (by rw [hxm]; exact hlen)
 rw [hxl, hxm] at hc
 have hc2 : Calls Tryz.prog 42 #[.slice (some ⟨g, 0, none⟩) n c, .string ⟨#[32]⟩] w fun e w' => e = .returned (.string ⟨(joinS L).toArray⟩) ∧ Below w.heap.size w w' := hc
 clear hc hcells hbk hcap hxm hxl hown hxs hlen hn
 go_enter Tryz.func51, Tryz.ntmps51
 go_wp2_with (go_at_call 42; refine hc2.mono ?_; rintro e w1 ⟨rfl, hb1⟩)
 go_ret
 exact ⟨rfl, hb1⟩
inductive Wd where
 | n (x : Int)
 | s (b : ByteArray)
def Wd.val : Wd → Value
 | .n x => .iface 3 (.int .i64 x)
 | .s b => .iface 9 (.string b)
def Wd.by : Wd → By
 | .n x => Lib.itoa x
 | .s b => b.data.toList
def Wd.ok : Wd → Prop
 | .n x => in64 x
 | .s b => b.size ≤ 10000000
theorem as_ii (w : World) (n : Int) : (Instr.typeAssert (.iface 3 (.int .i64 n)) 20 3 true).run Tryz.prog w = .ok (.tuple #[.int .i64 n, .bool true]) w := by kernel_rfl
theorem as_si (w : World) (s : ByteArray) : (Instr.typeAssert (.iface 9 (.string s)) 20 3 true).run Tryz.prog w = .ok (.tuple #[.int .i64 0, .bool false]) w := by kernel_rfl
theorem as_ss (w : World) (s : ByteArray) : (Instr.typeAssert (.iface 9 (.string s)) 20 9 true).run Tryz.prog w = .ok (.tuple #[.string s, .bool true]) w := by kernel_rfl
theorem wrt_below {B b : Nat} {bs : List Value} {p : Value} {w w' : World} (h : WrtAt B b p bs w) (hb : Below w.heap.size w w') : WrtAt B b p bs w' := by
 have hlt := h.lt
 obtain ⟨hB, v, hk, hown, hne⟩ := h
 exact ⟨hB, v, (hb.block b hlt).trans hk, own_below hown hb, hne⟩
theorem isWrt_below {B b : Nat} {bs : List Value} {w w' : World} (h : IsWrt B b bs w) (hb : Below w.heap.size w w') : IsWrt B b bs w' := by
 rcases h with h | h
 ·exact .inl (wrt_below h hb)
 ·exact .inr (wrt_below h hb)
theorem byteCells_app (a b : By) : Lib.byteCells (a ++ b) = Lib.byteCells a ++ Lib.byteCells b := by simp [Lib.byteCells]
theorem strCells_of (s : ByteArray) : Lib.strCells s = Lib.byteCells s.data.toList := rfl
def wdB (ws : List Wd) : By := joinS (ws.map Wd.by) ++ [10]
theorem wd_len {x : Wd} (h : x.ok) : x.by.length ≤ 10000000 := by
 cases x with
 | n z =>
  have := itoa_len h
  show (Lib.itoa z).length ≤ _
  omega
 | s b =>
  have h' : b.size ≤ 10000000 := h
  show b.data.toList.length ≤ _
  simpa using h'
theorem join_lens {L : List By} (h : ∀ x ∈ L, x.length ≤ 10000000) : (joinS L).length ≤ 10000001 * L.length := by
 induction L with
 | nil => simp [joinS, Lib.join_nil]
 | cons x r ih =>
  have h1 := h x (List.mem_cons_self ..)
  have h2 := ih fun y hy => h y (List.mem_cons_of_mem _ hy)
  cases r with
  | nil => rw [txt.joinS_one]; simp; omega
  | cons y r =>
   rw [txt.joinS_cons, List.length_append, List.length_cons, List.length_cons]
   omega
set_option maxRecDepth 20000 in
set_option maxHeartbeats 2000000 in
theorem wline_any (ws : List Wd) (A : Option Addr) (n c : Nat) (hn : n = ws.length) (B b : Nat) (bs : By) (w : World) (ht : Tabs w) (hI : Reads w w.heap.size 1 A n (ws.map Wd.val)) (hok : ∀ x ∈ ws, x.ok) (h0 : 0 < n) (hlen : n ≤ 100) (hsz : bs.length ≤ 1000000000000) (hW : IsWrt B b (Lib.byteCells bs) w) (hB : B ≤ w.heap.size) :
  Calls Tryz.prog 20 #[.pointer (some ⟨b, 0, none⟩), .slice A n c] w fun e w' => e = .returned (.tuple #[]) ∧ WrtAt B b (.pointer (some ⟨b, 0, none⟩)) (Lib.byteCells (bs ++ wdB ws)) w' ∧ Below B w w' ∧ Keeps b w w' := by
 have HI := Lib.hid (fun w' (h' : Below w.heap.size w w') => hI.below h')
 have HTb : Hid (∀ w', Below w.heap.size w w' → Tabs w') := Lib.hid (fun w' h => ht.below h)
 have HOK := Lib.hid hok
 have HN := Lib.hid hn
 have HWb := Lib.hid (fun w' (h' : Below w.heap.size w w') => isWrt_below hW h')
 have HJL : Hid ((joinS (ws.map Wd.by)).length ≤ 1000000100) := Lib.hid (by
  have := join_lens (L := ws.map Wd.by) (fun x hx => by
   obtain ⟨y, hy, rfl⟩ := List.mem_map.1 hx
   exact wd_len (hok y hy))
  rw [List.length_map] at this
  omega)
 have HWL : Hid (b < w.heap.size) := Lib.hid (by rcases hW with h | h <;> exact h.lt)
 obtain ⟨r, hr⟩ : ∃ r, bs ++ wdB ws = r := ⟨_, rfl⟩
 have HR := Lib.hid hr
 rw [hr]
 clear hI ht hok hr hW
 have hii := as_ii
 have hsi := as_si
 have hss := as_ss
 go_enter Tryz.func20, Tryz.ntmps20
 clear hn
 go_upto_region 2 with fail
 go_loopw [4, 11] (SRel w (ws.map Wd.by) n) (fun _ i _ => n - (intOf i).toNat)
 case atStart => exact ⟨Below.refl _ _, 0, 0, none, by omega, rfl, rfl, Lib.hid (World.ownsRow_nil _ _ _ _)⟩
 case round =>
  obtain ⟨hb, k, c1, A1, hk, rfl, rfl, hrow⟩ := hrel
  have HBV := Lib.hid hb
  have hbz := hb.size
  clear hb
  by_cases hlt : k < n
  ·obtain ⟨ad, u, hA, hadb, hu, hcell⟩ := (HI.out _ HBV.out).at_ (k := k) hlt
   obtain ⟨x, hx⟩ : ∃ x, ws[k]? = some x := ⟨_, List.getElem?_eq_getElem (by rw [← HN.out]; exact hlt)⟩
   have hxo := HOK.out _ (List.mem_of_getElem? hx)
   have HX := Lib.hid (show (ws.map Wd.by)[k]? = some x.by by rw [List.getElem?_map, hx]; rfl)
   rw [List.getElem?_map, hx] at hu
   have hu := Option.some.inj hu
   have hk0 : (0 : Int) ≤ (k : Int) := by omega
   have hkn : (k : Int) < (n : Int) := by omega
   have hT := HTb.out _ HBV.out
   subst hA
   clear hx
   cases x with
   | n z =>
    change Value.iface 3 (.int .i64 z) = u at hu
    subst hu
    have hz64 : in64 z := hxo
    have HZ := Lib.hid (show (ws.map Wd.by)[k]? = some (Lib.itoa z) from HX.out)
    clear hxo HX
    go_wp2_with (first
     | (go_at_call 41; refine (decW_any z hz64 _ hT).mono ?_; rintro e2 w2 ⟨rfl, hb2⟩; have hbz2 := hb2.size; have hrow2 := own_below hrow.out hb2)
     | (at_builtin; refine push_one elem_str rfl _ _ rfl w.heap.size _ k ((List.take k (ws.map Wd.by)).map strV) rfl hrow2 _ rfl rfl (by omega) (by omega) ?_; intro g' c' w3 hown3 hb4))
    go_roundw
    case rel => exact ⟨(HBV.out.trans (hb2.mono hbz)).trans hb4, k + 1, c', _, by omega, by go_num, rfl, Lib.hid (SRel.step HZ.out (by unfold decW; simp) hown3)⟩
    case measure => simp [intOf]; omega
   | s y =>
    change Value.iface 9 (.string y) = u at hu
    subst hu
    have HZ := Lib.hid (show (ws.map Wd.by)[k]? = some y.data.toList from HX.out)
    clear hxo HX
    have hrow2 := hrow.out
    go_wp2_with (at_builtin; refine push_one elem_str rfl _ _ rfl w.heap.size _ k ((List.take k (ws.map Wd.by)).map strV) rfl hrow2 _ rfl rfl (by omega) (by omega) ?_; intro g' c' w3 hown3 hb4)
    go_roundw
    case rel => exact ⟨HBV.out.trans hb4, k + 1, c', _, by omega, by go_num, rfl, Lib.hid (SRel.step HZ.out rfl hown3)⟩
    case measure => simp [intOf]; omega
  ·have hkn : ¬ (k : Int) < (n : Int) := by omega
   have hke : k = n := by omega
   subst hke
   obtain ⟨g, c2, hv, _, _⟩ := hrow.out.form (by omega)
   injection hv with e1 e2 e3
   subst e1
   have hall : (ws.map Wd.by).take k = ws.map Wd.by := List.take_of_length_le (by rw [List.length_map, ← HN.out]; exact Nat.le_refl _)
   have hjl := HJL.out
   have HJ : Hid (∀ w', Below wr.heap.size wr w' → Calls Tryz.prog 51 #[.slice (some ⟨g, 0, none⟩) k c1] w' fun e w'' => e = .returned (.string ⟨(joinS (ws.map Wd.by)).toArray⟩) ∧ Below w'.heap.size w' w'') := Lib.hid (fun w' h' => tjoin_any (ws.map Wd.by) g k c1 w.heap.size w' (by rw [List.length_map]; exact HN.out) (by rw [← hall]; exact own_below hrow.out h') h0 (by omega) (by omega))
   obtain ⟨J, hJ⟩ : ∃ J : ByteArray, ⟨(joinS (ws.map Wd.by)).toArray⟩ = J := ⟨_, rfl⟩
   have hJz : J.size ≤ 1000000100 := by rw [← hJ]; simpa [ByteArray.size] using hjl
   have HRJ : Hid (Lib.byteCells bs ++ Lib.strCells (J ++ ⟨#[10]⟩) = Lib.byteCells r) := Lib.hid (by
    rw [← HR.out, byteCells_app, strCells_of, wdB, ← hJ]
    simp [Lib.byteCells])
   rw [hJ] at HJ
   clear hall hjl e2 e3 hrow hJ
   go_upto_region 12 with fail
   (refine wp_region_held_drew (S := (fun w' => True)) (by kernel_rfl) ?_ (fun hHeld => ?_))
   ·trivial
   (refine lib.tk 0 rfl ?_; (try simp only [lib.hly]))
   (refine lib.tk 1 rfl ?_; (try simp only [lib.hly]))
   (refine lib.tk 2 rfl ?_; (try simp only [lib.hly]))
   (refine lib.tk 3 rfl ?_; (try simp only [lib.hly]))
   (refine lib.rk 4 rfl fun K hK => ?_)
   go_simp
   refine (HJ.out _ ((Below.refl _ _).drew)).mono ?_
   rintro e4 v4 ⟨rfl, b4⟩
   have HB4 := Lib.hid (HBV.out.trans ((((Below.refl wr.heap.size wr).drew).trans b4).mono hbz))
   clear b4
   refine hK.out _ _ (trivial) (fun hHeld => ?_)
   clear hK K
   (try simp only [lib.hly])
   (refine lib.tk (v := ?_) 5 rfl ?_ ?_; rotate_left 2; (focus (intro w hSw; (try dsimp only at hSw); go_simp; rw [if_neg (show ¬ 9223372036854775807 < J.size + 1 by omega)]; try with_reducible rfl)); (try simp only [lib.hly]))
   (refine lib.rk 6 rfl fun K hK => ?_)
   go_simp
   refine (wstr_any B b (Lib.byteCells bs) _ _ (HWb.out _ HB4.out) (by rw [Lib.byteCells_length, ByteArray.size_append]; show _ + (_ + 1) ≤ _; omega) (Nat.le_trans hB HB4.out.size)).mono ?_
   rintro e5 v5 ⟨rfl, h5, b5, k5⟩
   have HK5 : Hid (Keeps b w v5) := Lib.hid fun j hj hjb hjv => (k5 j (Nat.lt_of_lt_of_le hj HB4.out.size) hjb fun v hv => hjv v (by rw [← hv]; exact (HB4.out.cell (p := ⟨b, 1, none⟩) HWL.out).symm)).trans (HB4.out.block j hj)
   clear k5
   have HB5 := Lib.hid ((HB4.out.mono hB).trans b5)
   have HW5 : Hid (WrtAt B b (.pointer (some ⟨b, 0, none⟩)) (Lib.byteCells r) v5) := Lib.hid (by rw [← HRJ.out]; exact h5)
   clear b5 h5
   refine hK.out _ _ (trivial) (fun hHeld => ?_)
   clear hK K
   (try simp only [lib.hly])
   (refine wpAnyH_done (by kernel_rfl) ?_ _)
   go_wp2
   go_end0
   exact ⟨rfl, HW5.out, HB5.out, HK5.out⟩
end Go.Proofs.YthefooacfcagbaaGreatDoor.spc

/- spec.Print: what it writes; a line of the writer. -/
namespace Go.Proofs.YthefooacfcagbaaGreatDoor.spc
open Go.RowKit
open lib rd app els typ big gen off
open ins (InP InAt InV)
open txt (in64 By strV strV_of joinS Tabs)
set_option linter.unusedVariables false
set_option linter.unusedSimpArgs false
noncomputable def prnF (F : Ins → List Flt) (x : Ins) : By × Int := match F x with
 | f :: _ => ([], f.err)
 | [] => if 65536 < (textI x).length then ([], 4) else (textI x, 0)
theorem prnF_bad {F : Ins → List Flt} {x : Ins} {f : Flt} {fs : List Flt} (h : F x = f :: fs) : prnF F x = ([], f.err) := by unfold prnF; rw [h]
theorem prnF_big {F : Ins → List Flt} {x : Ins} (h : F x = []) (h1 : 65536 < (textI x).length) : prnF F x = ([], 4) := by unfold prnF; rw [h]; simp [h1]
theorem prnF_ok {F : Ins → List Flt} {x : Ins} (h : F x = []) (h1 : ¬ 65536 < (textI x).length) : prnF F x = (textI x, 0) := by unfold prnF; rw [h]; simp [h1]
structure PrOk (x : Ins) : Prop where
 ok : insOk x
 arcs : ∀ a ∈ x.net.arcs, a.travel.length ≤ 100000 ∧ a.slow.length ≤ 100000
 types : ∀ t ∈ x.types, t.cap.length ≤ 100000
 orders : ∀ o ∈ x.orders, o.load.length ≤ 100000
 big : (textI x).length ≤ 10000000
def allR (x : Ins) : List Lin := rowsI x ++ [.fin]
theorem linesB_app (L M : List Lin) : linesB (L ++ M) = linesB L ++ linesB M := by simp [linesB]
theorem linesB_take {L : List Lin} {m : Nat} {r : Lin} (h : L[m]? = some r) : linesB (L.take (m + 1)) = linesB (L.take m) ++ lineB r := by
 rw [List.take_add_one, h, Option.toList_some, linesB_app]
 simp [linesB]
theorem linesB_le (L : List Lin) (m : Nat) : (linesB (L.take m)).length ≤ (linesB L).length := by
 have h := congrArg List.length (congrArg linesB (List.take_append_drop m L))
 rw [linesB_app, List.length_append] at h
 omega
theorem word_len : ∀ {L : List By} {u : By}, u ∈ L → u.length ≤ (joinS L).length
 | [], _, h => by cases h
 | [x], u, h => by
  rw [List.mem_singleton] at h
  rw [h, txt.joinS_one]
  exact Nat.le_refl _
 | x :: y :: L, u, h => by
  rw [txt.joinS_cons, List.length_append, List.length_cons]
  rcases List.mem_cons.1 h with rfl | h
  ·omega
  ·have := word_len h
   omega
theorem word_text {x : Ins} {m : Nat} {r : Lin} (h : (allR x)[m]? = some r) {u : By} (hu : u ∈ r.words) : u.length ≤ (textI x).length := by
 have h1 := word_len hu
 have h2 := linesB_take h
 have h3 := linesB_le (allR x) (m + 1)
 rw [h2, List.length_append, lineB, List.length_append] at h3
 have : (textI x).length = (linesB (allR x)).length := rfl
 omega
theorem at0 {x : Ins} {k : Nat} {s : ByteArray} (h : x.net.places[k]? = some s) : (allR x)[0 + k]? = some (.place s) := by
 have hk := (List.getElem?_eq_some_iff.1 h).1
 unfold allR rowsI
 rw [Nat.zero_add, List.append_assoc, List.getElem?_append_left (by simpa using hk), List.getElem?_map, h]
 rfl
def o1 (x : Ins) : Nat := x.net.places.length
def o2 (x : Ins) : Nat := o1 x + x.net.arcs.length
def o3 (x : Ins) : Nat := o2 x + x.types.length
def o4 (x : Ins) : Nat := o3 x + x.orders.length
def o5 (x : Ins) : Nat := o4 x + x.apart.length
def o6 (x : Ins) : Nat := o5 x + x.before.length
theorem app_r {α : Type} {A B : List α} {n k : Nat} (h : A.length = n) : (A ++ B)[n + k]? = B[k]? := by
 subst h
 rw [List.getElem?_append_right (by omega)]
 congr 1
 omega
theorem app_l {α : Type} {A B : List α} {k : Nat} {u : α} (h : A[k]? = some u) : (A ++ B)[k]? = some u := by
 rw [List.getElem?_append_left (List.getElem?_eq_some_iff.1 h).1]
 exact h
theorem map_at {α β : Type} {f : α → β} {l : List α} {k : Nat} {u : α} (h : l[k]? = some u) : (l.map f)[k]? = some (f u) := by rw [List.getElem?_map, h]; rfl
theorem allR_eq (x : Ins) : allR x = x.net.places.map .place ++ (x.net.arcs.map .arc ++ (x.types.map .type ++ (x.orders.map .order ++ (x.apart.map .apart ++ (x.before.map .before ++ [.fin]))))) := by
 unfold allR rowsI
 simp only [List.append_assoc]
theorem at1 {x : Ins} {k : Nat} {s : Arc} (h : x.net.arcs[k]? = some s) : (allR x)[o1 x + k]? = some (.arc s) := by
 rw [allR_eq, app_r (by simp [o1])]
 exact app_l (map_at h)
theorem at2 {x : Ins} {k : Nat} {s : Ty} (h : x.types[k]? = some s) : (allR x)[o2 x + k]? = some (.type s) := by
 rw [allR_eq, o2, Nat.add_assoc, app_r (by simp [o1]), app_r (by simp)]
 exact app_l (map_at h)
theorem at3 {x : Ins} {k : Nat} {s : Ord} (h : x.orders[k]? = some s) : (allR x)[o3 x + k]? = some (.order s) := by
 rw [allR_eq, o3, o2, Nat.add_assoc, Nat.add_assoc, app_r (by simp [o1]), app_r (by simp), app_r (by simp)]
 exact app_l (map_at h)
theorem at4 {x : Ins} {k : Nat} {s : Int × Int} (h : x.apart[k]? = some s) : (allR x)[o4 x + k]? = some (.apart s) := by
 rw [allR_eq, o4, o3, o2, Nat.add_assoc, Nat.add_assoc, Nat.add_assoc, app_r (by simp [o1]), app_r (by simp), app_r (by simp), app_r (by simp)]
 exact app_l (map_at h)
theorem at5 {x : Ins} {k : Nat} {s : Int × Int} (h : x.before[k]? = some s) : (allR x)[o5 x + k]? = some (.before s) := by
 rw [allR_eq, o5, o4, o3, o2, Nat.add_assoc, Nat.add_assoc, Nat.add_assoc, Nat.add_assoc, app_r (by simp [o1]), app_r (by simp), app_r (by simp), app_r (by simp), app_r (by simp)]
 exact app_l (map_at h)
theorem at6 (x : Ins) : (allR x)[o6 x]? = some .fin := by
 have e : o6 x = o6 x + 0 := rfl
 rw [e, allR_eq, o6, o5, o4, o3, o2, Nat.add_assoc, Nat.add_assoc, Nat.add_assoc, Nat.add_assoc, Nat.add_assoc, app_r (by simp [o1]), app_r (by simp), app_r (by simp), app_r (by simp), app_r (by simp), app_r (by simp)]
 rfl
theorem len_all (x : Ins) : (allR x).length = o6 x + 1 := by
 rw [allR_eq]
 simp only [List.length_append, List.length_map, List.length_cons, List.length_nil, o6, o5, o4, o3, o2, o1]
 omega
theorem take_all (x : Ins) : linesB ((allR x).take (o6 x + 1)) = textI x := by
 rw [← len_all, List.take_length]
 rfl
def wrB (x : Ins) (m : Nat) : By := linesB ((allR x).take m)
theorem wrB_zero (x : Ins) : wrB x 0 = [] := by simp [wrB, linesB]
theorem wrB_all (x : Ins) : wrB x (o6 x + 1) = textI x := take_all x
def Wd.fit : Wd → Prop
 | .n z => in64 z
 | .s _ => True
theorem toList_len (y : ByteArray) : y.data.toList.length = y.size := Array.length_toList
set_option maxRecDepth 20000 in
theorem pline_any {x : Ins} (hx : PrOk x) (ws : List Wd) {r : Lin} {m b : Nat} (hr : (allR x)[m]? = some r) (hws : ws.map Wd.by = r.words) (hfit : ∀ u ∈ ws, u.fit) (n : Nat) (hn : n = ws.length) (h0 : 0 < n) (hn1 : n ≤ 100) (w : World) (ht : Tabs w) (hB : b ≤ w.heap.size) (hW : IsWrt b b (Lib.byteCells (wrB x m)) w) :
  Calls Tryz.prog 20 #[.pointer (some ⟨b, 0, none⟩), .slice (some ⟨w.heap.size, 0, none⟩) n n] (w.alloc (.cells (ws.map Wd.val).toArray 20)) fun e w' => e = .returned (.tuple #[]) ∧ IsWrt b b (Lib.byteCells (wrB x (m + 1))) w' ∧ Below b w w' ∧ ∀ (v0 : World), IsWrt b b (Lib.byteCells (wrB x m)) v0 → Below v0.heap.size v0 w → ∀ q, v0.heap.size ≤ q → q < w.heap.size → w'.heap[q]? = w.heap[q]? := by
 have hb0 : Below w.heap.size w (w.alloc (.cells (ws.map Wd.val).toArray 20)) := (Below.refl _ _).alloc (Nat.le_refl _) _
 have hI : Reads (w.alloc (.cells (ws.map Wd.val).toArray 20)) (w.alloc (.cells (ws.map Wd.val).toArray 20)).heap.size 1 (some ⟨w.heap.size, 0, none⟩) n (ws.map Wd.val) := by
  have hbk := Blk.new w 20 (ws.map Wd.val)
  refine ⟨by rw [List.length_map]; omega, fun _ => ⟨_, rfl, by simp, fun j u hu => hbk.cells j u hu⟩⟩
 have hok : ∀ u ∈ ws, u.ok := fun u hu => by
  have h1 := hfit u hu
  cases u with
  | n z => exact h1
  | s y =>
   have h2 : y.data.toList ∈ r.words := by rw [← hws]; exact List.mem_map.2 ⟨_, hu, rfl⟩
   have h3 := word_text hr h2
   have h4 := hx.big
   show y.size ≤ 10000000
   rw [toList_len] at h3
   omega
 have hle := linesB_le (allR x) m
 have hbig := hx.big
 have e : wrB x m ++ wdB ws = wrB x (m + 1) := by
  unfold wrB wdB
  rw [linesB_take hr, hws]
  rfl
 refine (wline_any ws (some ⟨w.heap.size, 0, none⟩) n n hn b b (wrB x m) _ (ht.below hb0) hI hok h0 hn1 (by have : (textI x).length = (linesB (allR x)).length := rfl; unfold wrB; omega) (isWrt_below hW hb0) (by rw [World.size_alloc]; omega)).mono ?_
 rintro en w' ⟨rfl, h1, h2, h3⟩
 rw [e] at h1
 refine ⟨rfl, .inr h1, (hb0.mono hB).trans h2, fun v0 hv0 hb q hq hqw => ?_⟩
 have hq0 : q ≠ b := by
  have : b < v0.heap.size := by rcases hv0 with h | h <;> exact h.lt
  omega
 obtain ⟨p, -, v, hk, hown, -⟩ : ∃ p, WrtAt b b p (Lib.byteCells (wrB x m)) v0 := by
  rcases hv0 with h | h
  ·exact ⟨_, h⟩
  ·exact ⟨_, h⟩
 have hc : v0.cell? ⟨b, 1, none⟩ = some v := by rw [Lib.cell_of_heap hk]; rfl
 have hbl : b < v0.heap.size := by rcases hv0 with h | h <;> exact h.lt
 refine (h3 q (by rw [World.size_alloc]; omega) hq0 fun u hu hg => ?_).trans (hb0.block q hqw)
 have e1 : (w.alloc (.cells (ws.map Wd.val).toArray 20)).cell? ⟨b, 1, none⟩ = some v := ((hb0.cell (p := ⟨b, 1, none⟩) (show b < _ by have := hb.size; omega)).trans (hb.cell (p := ⟨b, 1, none⟩) hbl)).trans hc
 rw [e1] at hu
 have e2 := Option.some.inj hu
 subst e2
 have := (hown.lt q hg).2
 omega
theorem Blk.sub {w : World} {b i : Nat} {t : TypeId} {cs ds : List Value} (h : Blk w b t cs) (hs : ∀ j u, ds[j]? = some u → cs[i + j]? = some u) : CellsAt w ⟨b, i, none⟩ ds := fun j u hu => by
 have := h.cell (hs j u hu)
 unfold Addr.add
 split
 ·next h0 => subst h0; exact this
 ·exact this
theorem exec_ld_int {ρ : Operand → Value} {o : Oper} {n : Nat} {ad : Addr} {w : World} {u : Value} (ho : o.op = .load 3 (.tmp n)) (hρ : ρ (.tmp n) = .pointer (some ad)) (hc : w.cell? ad = some u) :
  Sem.run Tryz.prog (execOp ρ o) w = .ok (.value u) w := by
 unfold execOp
 simp only [ho, hρ, Sem.run_bind]
 go_simp
theorem exec_ld_str {ρ : Operand → Value} {o : Oper} {n : Nat} {ad : Addr} {w : World} {u : Value} (ho : o.op = .load 9 (.tmp n)) (hρ : ρ (.tmp n) = .pointer (some ad)) (hc : w.cell? ad = some u) :
  Sem.run Tryz.prog (execOp ρ o) w = .ok (.value u) w := by
 unfold execOp
 simp only [ho, hρ, Sem.run_bind]
 go_simp
theorem exec_ld_ints {ρ : Operand → Value} {o : Oper} {n : Nat} {ad : Addr} {w : World} {u : Value} (ho : o.op = .load 61 (.tmp n)) (hρ : ρ (.tmp n) = .pointer (some ad)) (hc : w.cell? ad = some u) :
  Sem.run Tryz.prog (execOp ρ o) w = .ok (.value u) w := by
 unfold execOp
 simp only [ho, hρ, Sem.run_bind]
 go_simp
theorem exec_ld_pts {ρ : Operand → Value} {o : Oper} {n : Nat} {ad : Addr} {w : World} {u : Value} (ho : o.op = .load 42 (.tmp n)) (hρ : ρ (.tmp n) = .pointer (some ad)) (hc : w.cell? ad = some u) :
  Sem.run Tryz.prog (execOp ρ o) w = .ok (.value u) w := by
 unfold execOp
 simp only [ho, hρ, Sem.run_bind]
 go_simp
theorem fresh_wrt (w : World) : IsWrt w.heap.size w.heap.size (Lib.byteCells []) (w.alloc (.cells #[.pointer none, .slice none 0 0] 59)) := by
 refine .inl ⟨Nat.le_refl _, .slice none 0 0, World.alloc_heap_new w _, World.ownsRow_nil _ _ _ _, fun h => ?_⟩
 cases h
def PRel (x : Ins) (b : Nat) (W4 : World) (o n : Nat) (iv : Value) (wr : World) : Prop := ∃ k : Nat, k ≤ n ∧ iv = .int .i64 k ∧ Below b W4 wr ∧ Hid (IsWrt b b (Lib.byteCells (wrB x (o + k))) wr)
end Go.Proofs.YthefooacfcagbaaGreatDoor.spc

/- The subsets of a set, one after another: the iterator's contract. -/
import Derived.Test.YtdmedphpddhjcaaDoorSubP
import Derived.Test.YtdmedphpddhjcaaDoorLib
import Derived.RangeFuncBox
import Derived.RangeFuncLeaves
import Derived.Shelf.Abstract
import Derived.OwnWalkIn
import Derived.TacticsInMore
import Derived.LoopNIn
import Derived.LoopIn
namespace Go.Proofs.YtdmedphpddhjcaaDoor.sets
open Go.RowKit Go.Shelf
open Go.Proofs.YtdmedphpddhjcaaDoor.lib
set_option linter.unusedVariables false

attribute [local go_sem] Oper.semAt_some

/-- Block b lies as it lay. -/
def Keep (b : Nat) (W W' : World) : Prop := W'.heap[b]? = W.heap[b]?
theorem keep_t {b : Nat} {A B C : World} (h : Keep b A B) (k : Keep b B C) : Keep b A C := Eq.trans k h
theorem keep_b {b : Nat} {w : World} (hb : b < w.heap.size) (W : World) (l : Nat) (o o' : Obj) (hl : w.heap.size ≤ l) (_ : W.heap[l]? = some o) (_ : o.isCells = false) (_ : o.isWalk = false) : Keep b W (W.putObj l o') :=
  World.putObj_heap_other (by omega)

/-- The subsets of the set s, ascending, as Go's numbers. -/
def subL (s : Nat) : List Int := (subW 64 s).map (fun t : Nat => (t : Int))

set_option maxRecDepth 100000 in
set_option maxHeartbeats 1000000 in
theorem subs1_in (F : Fence) (n : Nat) (h6 : F.fn 36) (hro : F.round = none) (hn : 1 ≤ n) (l Bn : Nat) (s : Nat) (hs : s < 9223372036854775808) (J Jx : List Int → World → Prop)
    (hY : ∀ pre x W, J pre W → pre.length < (subL s).length → YieldAt F (n - 1) Tryd.prog l #[.int .i64 x] W fun e W' =>
      (e = .returned (.bool true) ∧ J (pre ++ [x]) W' ∧ Keep Bn W W') ∨ (e = .returned (.bool false) ∧ Jx (pre ++ [x]) W'))
    (W : World) (hBn : W.cell? ⟨Bn, 0, none⟩ = some (.int .i64 s)) (h0 : J [] W) :
    CallsIn F n Tryd.prog 36 #[.func (.yield l) #[] #[], .pointer (some ⟨Bn, 0, none⟩)] W fun e W' => (∃ v, e = .returned v) ∧
      ((∃ ys, ys = subL s ∧ J ys W') ∨ (∃ pre, pre <+: subL s ∧ Jx pre W')) := by
  refine callsIn_of_wp Tryd.func36 rfl h6 ?_ hro
  simp only [Tryd.ntmps36, List.size_toArray, List.length_cons, List.length_nil, Nat.reduceAdd, Nat.reduceSub, Array.replicate_succ, Array.replicate_zero, List.push_toArray, List.append_toArray, List.nil_append, List.cons_append]
  gi_wp2
  gi_loopw [3] (fun p wr => ∃ (k t : Nat), (subW 64 s)[k]? = some t ∧ p = .int .i64 t ∧ J ((subL s).take k) wr ∧ wr.cell? ⟨Bn, 0, none⟩ = some (.int .i64 s))
    (fun p wr => s + 1 - (intOf p).toNat)
  case atStart =>
    exact ⟨0, 0, subW_zero 64 s, rfl, h0, hBn⟩
  case round =>
    obtain ⟨k, t, hk, rfl, hJ, hc⟩ := hrel
    have hs64 : s < 2 ^ 64 := by omega
    have hts := subW_le 64 s t (List.mem_of_getElem? hk) hs64
    obtain ⟨hkl, hkt⟩ := List.getElem?_eq_some_iff.1 hk
    have hlen : (subL s).length = (subW 64 s).length := by simp [subL]
    have htk : (subL s).take (k + 1) = (subL s).take k ++ [(t : Int)] := by
      rw [List.take_succ_eq_append_getElem (by omega)]
      congr 2
      simp [subL, hkt]
    obtain ⟨fn, tmps, assign, body, hy, hR⟩ := hY ((subL s).take k) t wr hJ (by rw [List.length_take]; omega)
    rw [← htk] at hR
    have HTK := Lib.hid htk
    have HLEN := Lib.hid hlen
    have HK := Lib.hid hk
    clear hk htk hlen hkt hs64
    by_cases hlast : t = s
    · have hend : Hid (k + 1 = (subW 64 s).length) := Lib.hid (by
        rcases Nat.lt_or_ge (k + 1) (subW 64 s).length with h | h
        · have h1 := subW_next 64 s (by omega) k t _ HK.out (List.getElem?_eq_getElem h)
          have h2 := subW_le 64 s _ (List.getElem_mem h) (by omega)
          omega
        · omega)
      subst hlast
      gi_wp2
      refine hR.mono ?_
      rintro e W3 (⟨rfl, hJ3, hk3⟩ | ⟨rfl, hJx3⟩)
      · have hc3 : W3.cell? ⟨Bn, 0, none⟩ = some (.int .i64 t) := (World.cell?_of_block (a := ⟨Bn, 0, none⟩) hk3).trans hc
        gi_wp2
        go_end0
        refine ⟨⟨_, rfl⟩, .inl ⟨_, ?_, hJ3⟩⟩
        exact List.take_of_length_le (by rw [HLEN.out, hend.out]; exact Nat.le_refl _)
      · gi_wp2
        go_end0
        exact ⟨⟨_, rfl⟩, .inr ⟨_, List.take_prefix _ _, hJx3⟩⟩
    · have hlt : k + 1 < (subW 64 s).length := by
        rcases Nat.lt_or_ge (k + 1) (subW 64 s).length with h | h
        · exact h
        · have h1 := subW_last 64 s (by omega)
          have h2 := HK.out
          rw [show (subW 64 s).length - 1 = k by omega, h2] at h1
          injection h1 with h1
          exact absurd h1 hlast
      have hnx := subW_next 64 s (by omega) k t _ HK.out (List.getElem?_eq_getElem hlt)
      obtain ⟨t', ht'⟩ : ∃ t', (subW 64 s)[k + 1]? = some t' := ⟨_, List.getElem?_eq_getElem hlt⟩
      obtain ⟨hn1, hn2⟩ := subW_next 64 s (by omega) k t t' HK.out ht'
      have hle' := subW_le 64 s t' (List.mem_of_getElem? ht') (by omega)
      have hbits : bits .and .i64 ((t : Int) - (s : Int)) (s : Int) = (t' : Int) := by rw [go_next hs (by omega), hn1]
      have hne : ((t : Int) != (s : Int)) = true := by simp; omega
      have hne2 : ((t : Int) == (s : Int)) = false := by simp; omega
      have hi1 : -9223372036854775807 ≤ (t : Int) - (s : Int) := by omega
      have HT := Lib.hid ht'
      clear hlast hnx hn1 ht'
      gi_wp2
      refine hR.mono ?_
      rintro e W3 (⟨rfl, hJ3, hk3⟩ | ⟨rfl, hJx3⟩)
      · have hc3 : W3.cell? ⟨Bn, 0, none⟩ = some (.int .i64 s) := (World.cell?_of_block (a := ⟨Bn, 0, none⟩) hk3).trans hc
        gi_wp2
        go_roundw
        case rel => exact ⟨k + 1, t', HT.out, rfl, hJ3, hc3⟩
        case measure => simp [intOf]; omega
      · gi_wp2
        go_end0
        exact ⟨⟨_, rfl⟩, .inr ⟨_, List.take_prefix _ _, hJx3⟩⟩

set_option maxHeartbeats 1000000 in
/-- subsets(set): the set is boxed; the function value captures the box. -/
theorem subsets_in (F : Fence) (n : Nat) (h5 : F.fn 33) (hro : F.round = none) (s : Int) (w : World) :
    CallsIn F n Tryd.prog 33 #[.int .i64 s] w fun e w' => e = .returned (.func (.func 36) #[] #[.pointer (some ⟨w.heap.size, 0, none⟩)]) ∧ w' = w.alloc (.cells #[.int .i64 s] 3) := by
  refine callsIn_of_wp Tryd.func33 rfl h5 ?_ hro
  simp only [Tryd.ntmps33, List.size_toArray, List.length_cons, List.length_nil, Nat.reduceAdd, Nat.reduceSub, Array.replicate_succ, Array.replicate_zero, List.push_toArray, List.append_toArray, List.nil_append, List.cons_append]
  gi_wp2
  go_ret
  exact ⟨rfl, rfl⟩

theorem subs_stops (F : Fence) (n : Nat) (h6 : F.fn 36) (hro : F.round = none) (hn : 1 ≤ n) (Bn : Nat) (s : Nat) (hs : s < 9223372036854775808) (w : World) (hBn : Bn < w.heap.size)
    (hc : w.cell? ⟨Bn, 0, none⟩ = some (.int .i64 s)) :
    SeqStopsK F n Tryd.prog 36 #[.pointer (some ⟨Bn, 0, none⟩)] (fun x : Int => #[Value.int .i64 x]) (Keep Bn) (fun ys => ys = subL s) (fun pre => pre <+: subL s) (subL s).length w := fun l J Jx W hW _ _ hY h0 =>
  subs1_in F n h6 hro hn l Bn s hs J Jx hY W ((hW.cell (p := ⟨Bn, 0, none⟩) (by simp; omega)).trans hc) h0

/-- func(int) bool { return true }. -/
theorem always_in (F : Fence) (n : Nat) (h5 : F.fn 28) (hro : F.round = none) (x : Int) (w : World) :
    CallsIn F n Tryd.prog 28 #[.int .i64 x] w fun e w' => e = .returned (.bool true) ∧ w' = w := by
  refine callsIn_of_wp Tryd.func28 rfl h5 ?_ hro
  simp only [Tryd.ntmps28, List.size_toArray, List.length_cons, List.length_nil, Nat.reduceAdd, Nat.reduceSub, Array.replicate_succ, Array.replicate_zero, List.push_toArray, List.append_toArray, List.nil_append, List.cons_append]
  gi_wp2
  go_ret
  exact ⟨rfl, rfl⟩
end Go.Proofs.YtdmedphpddhjcaaDoor.sets

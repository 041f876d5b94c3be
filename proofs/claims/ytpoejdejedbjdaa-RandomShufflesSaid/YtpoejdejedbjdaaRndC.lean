/- The law of shuffles: each number once, in the order of the specification. -/
import Derived.Test.YtpoejdejedbjdaaRndB
import Derived.Laws.MakeOwn
import Derived.Deep.QuietTactic
import Derived.BigQuiet
namespace Go.Proofs.Ytpoejdejedbjdaa.rnd
open Go.RowKit
open Go.Proofs.Ytpoejdejedbjdaa.lib
set_option linter.unusedVariables false

theorem bool_info : (Try.prog.info? 4).map (fun i => (i.zero, i.size, i.bytes)) = some (some (.bool false), 1, 1) := by kernel_rfl
/-- make([]bool, n). -/
theorem make_bools {ops : Array Oper} {rest : List Oper} {o : Oper} {a : Act} {Q : Exit → Act → World → Prop} {w : World} (hg : o.guard = none) (l c : Operand) (hop : o.op = Op.makeSlice 46 l c)
    (base : Nat) (n : Nat) (hl : a.eval l = .int .i64 n) (hc : a.eval c = .int .i64 n) (hn : n < 1000000000000) (hbase : base ≤ w.heap.size)
    (h : ∀ w', w'.ownsRow base 4 1 (.slice (some ⟨w.heap.size, 0, none⟩) n n) n (List.replicate n (.bool false)) → Below w.heap.size w w' → w.heap.size < w'.heap.size → wpList Try.prog ops Q rest (a.put o.dst (.slice (some ⟨w.heap.size, 0, none⟩) n n)) w') :
    wpList Try.prog ops Q (o :: rest) a w := by
  obtain ⟨i0, hi, hz0, hz1, hz2⟩ := info_parts bool_info
  refine wpList_make_full w hg l c 46 hop base 4 i0 (.bool false) 1 Try.underlying46 hi hz0 hz1 .i64 .i64 n n n hl hc rfl rfl (by rw [hz2]; omega) (by unfold maxLen; omega) hbase ?_
  intro w' hown hg'
  refine h w' ?_ ((Below.refl _ _).grown hg' (Nat.le_refl _) (by intro k hk; cases hk)) ?_
  · have e : (madeCells (Value.bool false).cells (n * 1)).toList = List.replicate n (Value.bool false) := by
      rw [Nat.mul_one]
      exact toList_madeCells_one (.bool false) n
    rwa [e] at hown
  · obtain ⟨cur, hh⟩ : ∃ o, w'.heap[w.heap.size]? = some o := by
      rcases hown.2 with ⟨h1, _⟩ | ⟨g, cap, cur, h1, _, h2, _⟩
      · cases h1
      · injection h1 with h1 _ _
        injection h1 with h1
        injection h1 with h1
        subst h1
        exact ⟨_, h2⟩
    rcases Nat.lt_or_ge w.heap.size w'.heap.size with h | h
    · exact h
    · rw [Array.getElem?_eq_none h] at hh; cases hh

/-- Which numbers have been seen. -/
def seenL (l : List Int) (n k : Nat) : List Bool := (List.range n).map (fun j : Nat => decide ((j : Int) ∈ l.take k))
theorem seenL_zero (l : List Int) (n : Nat) : seenL l n 0 = List.replicate n false := by
  unfold seenL
  apply List.ext_getElem <;> simp
theorem seenL_new {l : List Int} {n k : Nat} (hk : k < l.length) (hd : l.Nodup) (x : Int) (hx : l[k]? = some x) (h0 : 0 ≤ x) (h1 : x < n) : (seenL l n k)[x.toNat]? = some false := by
  unfold seenL
  rw [List.getElem?_map, List.getElem?_range (by omega)]
  simp only [Option.map_some, Option.some.injEq, decide_eq_false_iff_not]
  rw [show ((x.toNat : Nat) : Int) = x by omega]
  intro hm
  rw [List.mem_take_iff_getElem] at hm
  obtain ⟨j, hj, e⟩ := hm
  rw [List.getElem?_eq_getElem hk] at hx
  injection hx with hx
  exact (List.pairwise_iff_getElem.1 hd) j k (by omega) hk (by omega) (e.trans hx.symm)
theorem seenL_set {l : List Int} {n k : Nat} (hk : k < l.length) (x : Int) (hx : l[k]? = some x) (h0 : 0 ≤ x) : (seenL l n k).set x.toNat true = seenL l n (k + 1) := by
  unfold seenL
  apply List.ext_getElem
  · simp
  · intro j h1 h2
    rw [List.getElem_set, List.getElem_map, List.getElem_range, List.getElem_map, List.getElem_range]
    rw [List.getElem?_eq_getElem hk] at hx
    injection hx with hx
    rw [List.take_succ_eq_append_getElem hk]
    split
    · rename_i e
      simp only [List.mem_append, List.mem_singleton]
      symm
      simp
      right
      omega
    · rename_i e
      simp only [List.mem_append, List.mem_singleton]
      congr 1
      simp
      intro e2
      exact absurd (by omega) e

theorem bel_drewN {B : Nat} {a w : World} (h : Below B a w) (n : Nat) : Below B a (w.drewN n) := ⟨h.os, h.tape, h.output, h.size, h.block⟩

theorem shuffle_none (a n : Int) (hn : n < 0 ∨ 8192 < n) (w : World) : Calls Try.prog 31 #[.int .i64 a, .int .i64 n] w fun e w' => e = .returned (.tuple #[.slice none 0 0, .int .i64 (good a)]) ∧ w = w' := by
  rcases hn with hn | hn
  all_goals
    go_enter Try.func31, Try.ntmps31
    go_wp2_with (go_at_call 37; refine (good_any _ _).mono ?_; rintro e w' ⟨rfl, rfl⟩)
    go_ret2
    exact ⟨rfl, rfl⟩
theorem rshuffle_none (a n : Int) (hn : n < 0 ∨ 8192 < n) (w : World) : Calls Try.prog 32 #[.int .i64 a, .int .i64 n] w fun e w' => e = .returned (.tuple #[.slice none 0 0, .int .i64 (good a)]) ∧ w = w' := by
  rcases hn with hn | hn
  all_goals
    go_enter Try.func32, Try.ntmps32
    go_wp2_with (go_at_call 29; refine (rgood_any _ _).mono ?_; rintro e w' ⟨rfl, rfl⟩)
    go_ret2
    exact ⟨rfl, rfl⟩

set_option maxHeartbeats 1000000 in
theorem law_shuffles_none (a n : Int) (hn : n < 0 ∨ 8192 < n) (w : World) : Calls Try.prog 9 #[.int .i64 a, .int .i64 n] w fun e w' => e = .returned (.bool true) ∧ Below w.heap.size w w' := by
  have hN := Lib.hid hn
  rcases hn with hn | hn
  all_goals
    go_enter Try.func9, Try.ntmps9
    go_wp2_with (first
      | (go_at_call 31; refine (shuffle_none _ _ hN.out _).mono ?_; rintro e w' ⟨rfl, rfl⟩)
      | (go_at_call 32; refine (rshuffle_none _ _ hN.out _).mono ?_; rintro e w' ⟨rfl, rfl⟩)
      | (at_make; refine make_bools rfl _ _ rfl w.heap.size 0 rfl rfl (by omega) (Nat.le_refl _) ?_; intro w1 hown1 hb1 hz1))
    refine wp_loop_rounds 1 ?_
    rw [rounds_succ]
    go_wp2_with (go_at_call 30; refine (awake_any _).mono ?_; rintro e w2 ⟨rfl, hb⟩)
    go_ret
    exact ⟨rfl, hb1.trans (hb.mono (by omega))⟩

set_option maxHeartbeats 1000000 in
theorem law_shuffles_some (a : Int) (n : Nat) (hn : n ≤ 600) (w : World) : Calls Try.prog 9 #[.int .i64 a, .int .i64 n] w fun e w' => e = .returned (.bool true) ∧ Below w.heap.size w w' := by
  have hd := Lib.hid (shufL_nodup a n)
  have hbd := Lib.hid (shufL_bd a n)
  have hl := Lib.hid (shufL_length a n)
  go_enter Try.func9, Try.ntmps9
  go_wp2_with fail
  refine (shuffle_any a n (by omega) _).mono ?_
  rintro e w1 ⟨A, c, rfl, hown, hb⟩
  go_wp2_with fail
  refine (rshuffle_any a n (by omega) _).mono ?_
  rintro e w2 ⟨A', c', rfl, hown', hb'⟩
  have hR := (Reads.of_own hown).below hb'
  have hR' := Reads.of_own hown'
  have hz := hb'.size
  have hR := hR.more hz
  have hB : Below w.heap.size w w2 := hb.trans (hb'.mono hb.size)
  clear hown hown'
  generalize shufL a n = l at *
  generalize shufS a n = s at *
  go_wp2_with (at_make; refine make_bools rfl _ _ rfl w2.heap.size n rfl rfl (by omega) (Nat.le_refl _) ?_; intro w3 hown3 hb3 hz3)
  go_loopw [10] (fun i wr => ∃ k : Nat, k ≤ n ∧ i = .int .i64 k ∧ wr.ownsRow w2.heap.size 4 1 (.slice (some ⟨w2.heap.size, 0, none⟩) n n) n ((seenL l n k).map .bool) ∧ Below w2.heap.size w2 wr) (fun i _ => n - (intOf i).toNat)
  case atStart => exact ⟨0, by omega, rfl, by rw [seenL_zero, List.map_replicate]; exact hown3, hb3⟩
  case round =>
    obtain ⟨k, hk, rfl, hown4, hb4⟩ := hrel
    have hz4 := hb4.size
    by_cases hlt : k < n
    · obtain ⟨ad, u, rfl, hadb, hx, hcx⟩ := (hR.below hb4).at_ hlt
      obtain ⟨ad', u', rfl, hadb', hx', hcx'⟩ := (hR'.below hb4).at_ hlt
      obtain rfl : u = u' := by rw [hx] at hx'; injection hx'
      have hl0 := hl.out
      have hkl : k < l.length := by omega
      obtain ⟨x, hlx⟩ : ∃ x, l[k]? = some x := ⟨_, List.getElem?_eq_getElem hkl⟩
      obtain rfl : u = .int .i64 x := by rw [List.getElem?_map, hlx] at hx; injection hx with hx; exact hx.symm
      obtain ⟨x0, x1⟩ := hbd.out x (List.mem_of_getElem? hlx)
      have hs := seenL_new hkl hd.out x hlx x0 x1
      have hset := seenL_set (n := n) hkl x hlx x0
      have hcs : wr.cell? ⟨w2.heap.size, x.toNat, none⟩ = some (.bool false) := by
        rw [hown4.cellAt x.toNat (by omega), List.getElem?_map, hs]; rfl
      have hst := (hown4.stored x.toNat (.bool true)).1
      rw [← List.map_set, hset] at hst
      have HST := Lib.hid hst
      have hfz := hown4.frozenAt x.toNat
      clear hx hx' hs hset hlx hst
      go_wp2
      go_quiet (fail)
      go_wp2
      go_roundw
      case rel => exact ⟨k + 1, by omega, by go_num, HST.out, (bel_drewN hb4 _).setCell (p := ⟨w2.heap.size, _, none⟩) (Nat.le_refl _) _⟩
      case measure => simp [intOf]; omega
    · have hkn : k = n := by omega
      subst hkn
      clear hlt
      go_wp2_with (go_at_call 30; refine (awake_any _).mono ?_; rintro e w5 ⟨rfl, hb5⟩)
      go_ret
      exact ⟨rfl, (hB.trans (hb4.mono hB.size)).trans (hb5.mono (by have := hB.size; omega))⟩

theorem law_shuffles (a n : Int) (w : World) : Calls Try.prog 9 #[.int .i64 a, .int .i64 n] w fun e w' => e = .returned (.bool true) ∧ Below w.heap.size w w' := by
  by_cases h : n < 0 ∨ 8192 < n
  · exact law_shuffles_none a n h w
  by_cases h2 : n ≤ 600
  · obtain ⟨m, rfl⟩ := Int.eq_ofNat_of_zero_le (show 0 ≤ n by omega)
    exact law_shuffles_some a m (by omega) w
  · have h3 : 600 < n := by omega
    have h4 : n ≤ 8192 := by omega
    clear h h2
    go_enter Try.func9, Try.ntmps9
    go_wp2_with (go_at_call 30; refine (awake_any _).mono ?_; rintro e w2 ⟨rfl, hb⟩)
    go_ret
    exact ⟨rfl, hb⟩
end Go.Proofs.Ytpoejdejedbjdaa.rnd

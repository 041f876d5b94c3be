/- such(set, has), at has = always: the subsets, unless they are too many. -/
import Derived.Test.YtdmedphpddhjcaaDoorSubA
import Derived.RangeFuncNested
import Derived.Maps.AppendAt
namespace Go.Proofs.YtdmedphpddhjcaaDoor.sets
open Go.RowKit Go.Shelf
open Go.Proofs.YtdmedphpddhjcaaDoor.lib
set_option linter.unusedVariables false

attribute [local go_sem] Oper.semAt_some

theorem infoInt : (Tryd.prog.info? 3).map (fun i => (i.zero, i.size, i.bytes)) = some (some (.int .i64 0), 1, 8) := by kernel_rfl

theorem box_kept {L : Nat} {X Y : World} {row : Option Nat} {B : Nat} {t : TypeId} {v : Value} (h : Boxed X B t v) (hg : X.grownBy Y row) (hr : ∀ r, row = some r → L ≤ r ∧ ∃ o : Obj, X.heap[r]? = some o ∧ o.isCells = false) : Boxed Y B t v :=
  h.kept hg (fun e' => by obtain ⟨_, o, ho, hc⟩ := hr B e'.symm; rw [show X.heap[B]? = _ from h] at ho; cases ho; cases hc)

/-- Behind an append into a box whose row lies at or beyond n₁, all but the box and the row lies as it lay. -/
theorem appended5 {W w1 : World} {n₁ B : Nat} {t e : TypeId} {size : Nat} {v v' : Value} {k m : Nat} {xs ys : List Value} {tmp : Obj}
    (hv : Boxed W B t v) (hte : t ≠ e) (hrow : W.ownsRow n₁ e size v k xs) (hn : n₁ ≤ W.heap.size)
    (hown' : w1.ownsRow n₁ e size v' m ys) (hgrow : (W.alloc tmp).grownBy w1 v.ownBlock) :
    Boxed w1 B t v ∧ Boxed (w1.setCell ⟨B, 0, none⟩ v') B t v' ∧ (w1.setCell ⟨B, 0, none⟩ v').ownsRow n₁ e size v' m ys ∧ KeepsOthers W (w1.setCell ⟨B, 0, none⟩ v') ∧ Below n₁ W w1 := by
  have hv1 : Boxed w1 B t v := (hv.alloc tmp).kept hgrow (hv.not_row hte hrow)
  refine ⟨hv1, hv1.set v', hown'.kept (grownBy_setCell' w1 B v') (.inr (hv1.not_row hte hown').symm), ?_, ?_⟩
  · refine ((KeepsOthers.alloc W tmp).trans (KeepsOthers.of_grownBy hgrow fun j o ej hj => ?_)).trans (KeepsOthers.setCell _ _ _)
    rcases (hrow.alloc tmp).2 with ⟨rfl, _⟩ | ⟨g, cap, cur, rfl, _, hgb, _⟩
    · simp [Value.ownBlock] at ej
    · obtain rfl : g = j := by simpa [Value.ownBlock] using ej
      rw [hgb] at hj; cases hj; rfl
  · refine ((Below.refl n₁ W).alloc hn tmp).grown hgrow (by simp; omega) fun j ej => ?_
    rcases hrow.2 with ⟨rfl, _⟩ | ⟨g, cap, cur, rfl, hb, _, _⟩
    · simp [Value.ownBlock] at ej
    · obtain rfl : g = j := by simpa [Value.ownBlock] using ej
      exact hb

/-- Another block's heap entry behind a store into a box. -/
theorem set_other (W : World) (b k : Nat) (v : Value) (h : k ≠ b) : (W.setCell ⟨b, 0, none⟩ v).heap[k]? = W.heap[k]? := Below.heap_setCell _ _ _ k h

theorem subL_len (s : Nat) : (subL s).length = (subW 64 s).length := by simp [subL]

set_option maxRecDepth 100000 in
set_option maxHeartbeats 4000000 in
theorem such_in (F : Fence) (n : Nat) (h3 : F.fn 27) (h4 : F.fn 33) (h5 : F.fn 36) (h6 : F.fn 28) (hro : F.round = none) (hn : 3 ≤ n) (s : Nat) (hs : s < 9223372036854775808) (w : World) :
    CallsIn F n Tryd.prog 27 #[.int .i64 s, .func (.func 28) #[] #[]] w fun e W' => Below w.heap.size w W' ∧
      ((∃ v, e = .returned (.tuple #[v, .int .i64 0]) ∧ (subL s).length ≤ 8192 ∧ W'.ownsRow (w.heap.size + 5) 3 1 v (subL s).length ((subL s).map (Value.int .i64))) ∨
       (e = .returned (.tuple #[.slice none 0 0, .int .i64 4]) ∧ 8192 < (subL s).length)) := by
  have h1 : 1 ≤ n := by omega
  have h1' : 1 ≤ n - 1 - 1 := by omega
  obtain ⟨i0, hi, hz0, hz1, hz2⟩ := info_parts infoInt
  refine callsIn_of_wp_marks Tryd.func27 rfl h3 ?_ hro
  simp only [Tryd.ntmps27, List.size_toArray, List.length_cons, List.length_nil, Nat.reduceAdd, Nat.reduceSub, Array.replicate_succ, Array.replicate_zero, List.push_toArray, List.append_toArray, List.nil_append, List.cons_append]
  gi_wp2_with (gi_at_call 33; refine (subsets_in F (n - 1) h4 hro _ _).mono ?_; rintro e w' ⟨rfl, rfl⟩)
  obtain ⟨W0, hW0⟩ : ∃ W0, (((((w.alloc (.cells #[.func (.func 28) #[] #[]] 34)).alloc (.cells #[.slice none 0 0] 22)).alloc (.cells #[.int .i64 0] 25)).alloc (.cells #[.slice none 0 0] 22)).alloc (.cells #[.int .i64 s] 3)) = W0 := ⟨_, rfl⟩
  have hs0 : W0.heap.size = w.heap.size + 5 := by rw [← hW0]; simp
  have e0 : Boxed W0 w.heap.size 34 (.func (.func 28) #[] #[]) := by rw [← hW0]; exact ((((Boxed.new w _ _).alloc _).alloc _).alloc _).alloc _
  have e1 : Boxed W0 (w.heap.size + 1) 22 (.slice none 0 0) := by
    rw [← hW0]; have := (((Boxed.new (w.alloc (.cells #[.func (.func 28) #[] #[]] 34)) 22 (.slice none 0 0)).alloc (.cells #[.int .i64 0] 25)).alloc (.cells #[.slice none 0 0] 22)).alloc (.cells #[.int .i64 s] 3); simpa using this
  have e2 : Boxed W0 (w.heap.size + 1 + 1) 25 (.int .i64 0) := by
    rw [← hW0]; have := ((Boxed.new ((w.alloc (.cells #[.func (.func 28) #[] #[]] 34)).alloc (.cells #[.slice none 0 0] 22)) 25 (.int .i64 0)).alloc (.cells #[.slice none 0 0] 22)).alloc (.cells #[.int .i64 s] 3); simpa using this
  have e3 : Boxed W0 (w.heap.size + 1 + 1 + 1) 22 (.slice none 0 0) := by
    rw [← hW0]; have := (Boxed.new (((w.alloc (.cells #[.func (.func 28) #[] #[]] 34)).alloc (.cells #[.slice none 0 0] 22)).alloc (.cells #[.int .i64 0] 25)) 22 (.slice none 0 0)).alloc (.cells #[.int .i64 s] 3); simpa using this
  have e4 : W0.cell? ⟨w.heap.size + 1 + 1 + 1 + 1, 0, none⟩ = some (.int .i64 s) := by
    have h : Boxed W0 (w.heap.size + 1 + 1 + 1 + 1) 3 (.int .i64 s) := by
      rw [← hW0]; have := Boxed.new ((((w.alloc (.cells #[.func (.func 28) #[] #[]] 34)).alloc (.cells #[.slice none 0 0] 22)).alloc (.cells #[.int .i64 0] 25)).alloc (.cells #[.slice none 0 0] 22)) 3 (.int .i64 s); simpa using this
    exact h.cell
  have hB0 : Below w.heap.size w W0 := by
    rw [← hW0]; exact (((((Below.refl _ w).alloc (Nat.le_refl _) _).alloc (by simp) _).alloc (by simp; omega) _).alloc (by simp; omega) _).alloc (by simp; omega) _
  rw [hW0]
  clear hW0
  refine wpIn_rangeFunc_ownG hro h1 (gf := 36) (lb := #[.pointer (some ⟨w.heap.size + 1 + 1 + 1 + 1, 0, none⟩)]) rfl h5 (enters_of Tryd.func36 (by kernel_rfl) rfl)
    (subs_stops F (n - 1) h5 hro (by omega) (w.heap.size + 1 + 1 + 1 + 1) s hs W0 (by omega) e4) keep_t (keep_b (by omega)) (Below.refl _ _) (fun _ => rfl)
    (fun pre W => (∃ v, Boxed W (w.heap.size + 1 + 1 + 1) 22 v ∧ W.ownsRow (w.heap.size + 5) 3 1 v pre.length (pre.map (Value.int .i64)) ∧ pre.length ≤ 8192) ∧
      (Boxed W w.heap.size 34 (.func (.func 28) #[] #[]) ∧ Boxed W (w.heap.size + 1) 22 (.slice none 0 0) ∧ Boxed W (w.heap.size + 1 + 1) 25 (.int .i64 0)) ∧ Below w.heap.size W0 W)
    (fun c pre W => (c = .ret ∧ 8192 < pre.length ∧ Boxed W (w.heap.size + 1) 22 (.slice none 0 0) ∧ Boxed W (w.heap.size + 1 + 1) 25 (.int .i64 4)) ∧ Below w.heap.size W0 W)
    (OwnFrom.and (Own.from (holdsRow_own (w.heap.size + 5) (w.heap.size + 1 + 1 + 1) 22 3 1 (fun pre : List Int => pre.length) (fun pre : List Int => pre.map (Value.int .i64)) (fun pre _ => pre.length ≤ 8192)) _)
      (OwnFrom.and (fun _ X Y row hs hg hr => ⟨box_kept hs.1 hg hr, box_kept hs.2.1 hg hr, box_kept hs.2.2 hg hr⟩) (ownFrom_below (by omega) (by omega))))
    (fun c => OwnFrom.and (fun _ X Y row hs hg hr => ⟨hs.1, hs.2.1, box_kept hs.2.2.1 hg hr, box_kept hs.2.2.2 hg hr⟩) (ownFrom_below (by omega) (by omega)))
    ⟨⟨_, e3, World.ownsRow_nil _ _ _ _, Nat.zero_le _⟩, ⟨e0, e1, e2⟩, Below.refl _ _⟩
    (fun x => { tmps := #[.int .i64 s, .func (.func 28) #[] #[], undef, .pointer (some ⟨w.heap.size, 0, none⟩), .pointer (some ⟨w.heap.size + 1, 0, none⟩), .pointer (some ⟨w.heap.size + 1 + 1, 0, none⟩), .pointer (some ⟨w.heap.size + 1 + 1 + 1, 0, none⟩), .int .i64 x, .int .i64 s, .func (.func 36) #[] #[.pointer (some ⟨w.heap.size + 1 + 1 + 1 + 1, 0, none⟩)], .int .i64 x, undef, undef, undef, undef, undef, undef, undef, undef, undef, undef, undef, undef], defers := [] }) ?assign ?body ?done ?stop
  case assign =>
    intro l x W K hK
    gi_wp2
    exact hK
  case body =>
    rintro l pre x W ⟨⟨v, hv, hrow, hle⟩, ⟨b0, b1, b2⟩, hB⟩ hlt
    have hWs : w.heap.size + 5 ≤ W.heap.size := by have := hB.size; omega
    have hc := hv.cell
    have hc0 := b0.cell
    have hc1 := b1.cell
    have hc2 := b2.cell
    have hf1 := b1.frozen
    have hf2 := b2.frozen
    have hf := hv.frozen
    have hslice : ∃ (g : Option Addr) (cp : Nat), v = .slice g pre.length cp := by
      rcases hrow.2 with ⟨h', h⟩ | ⟨g, cap, _, rfl, _⟩
      · exact ⟨none, 0, by rw [h', h]⟩
      · exact ⟨_, _, rfl⟩
    obtain ⟨g, cp, rfl⟩ := hslice
    by_cases hfull : pre.length = 8192
    · have hbeq : ((pre.length : Int) == 8192) = true := by simp; omega
      have HF := Lib.hid hfull
      clear hfull
      gi_wp2_with (gi_at_call 28; refine (CallsIn.inRound l (always_in F _ h6 hro x _)).mono ?_; rintro e w' ⟨rfl, rfl⟩)
      refine ⟨((KeepsOthers.setCell _ _ _).trans (KeepsOthers.setCell _ _ _)).from _, ⟨rfl, ?_, ?_, ?_⟩, ?_⟩
      · have := HF.out; simp; omega
      · exact (b1.set _).other (by omega) _
      · exact (b2.other (by omega) _).set _
      · exact (hB.setCell (p := ⟨w.heap.size + 1, 0, none⟩) (by simp) _).setCell (p := ⟨w.heap.size + 1 + 1, 0, none⟩) (by simp; omega) _
    · have hbeq : ((pre.length : Int) == 8192) = false := by simp; omega
      gi_wp2_with first
        | (gi_at_call 28; refine (CallsIn.inRound l (always_in F _ h6 hro x _)).mono ?_; rintro e w' ⟨rfl, rfl⟩)
        | (gi_at_builtin; refine wpListIn_append_own _ rfl _ _ 22 rfl (w.heap.size + 5) 3 i0 (.int .i64 0) 1 8 Tryd.underlying22 hi hz0 hz1 hz2 rfl (by decide) _ _ _ rfl (hrow.alloc _) ⟨w'.heap.size, 0, none⟩ 1 1 [.int .i64 x] rfl rfl (cell_one_new _ _ _) (by simp [Value.oneCell']) (by simp only [maxLen]; omega) (by omega) (by simp; omega) ?_; intro v' w1 hown' hgrow _; obtain ⟨g', cap', rfl⟩ := ownsRow_succ hown'; obtain ⟨hv1, hv2, hr2, hk2, hb2⟩ := appended5 hv (by decide) hrow hWs hown' hgrow; have hc1 := hv1.cell; have hf1 := hv1.frozen)
      have hq : ∀ k, k < w.heap.size + 5 → k ≠ w.heap.size + 1 + 1 + 1 → (w1.setCell ⟨w.heap.size + 1 + 1 + 1, 0, none⟩ (.slice (some ⟨g', 0, none⟩) (pre.length + 1) cap')).heap[k]? = w'.heap[k]? := fun k hk hne => (set_other _ _ _ _ hne).trans (hb2.block k hk)
      refine ⟨hk2.from _, hq _ (by omega) (by omega), ⟨_, hv2, by simpa using hr2, by simp; omega⟩, ⟨(hq _ (by omega) (by omega)).trans b0, (hq _ (by omega) (by omega)).trans b1, (hq _ (by omega) (by omega)).trans b2⟩, ?_⟩
      exact hB.trans ((hb2.mono (by omega)).setCell (p := ⟨w.heap.size + 1 + 1 + 1, 0, none⟩) (by simp; omega) _)
  case done =>
    rintro D ys W hD rfl ⟨⟨v, hv, hrow, hle⟩, ⟨b0, b1, b2⟩, hB⟩ hK
    have hslice : ∃ (g : Option Addr) (cp : Nat), v = .slice g (subL s).length cp := by
      rcases hrow.2 with ⟨h', h⟩ | ⟨g, cap, _, rfl, _⟩
      · exact ⟨none, 0, by rw [h', h]⟩
      · exact ⟨_, _, rfl⟩
    obtain ⟨g, cp, rfl⟩ := hslice
    have hc := hv.cell
    have hc1 := b1.cell
    have hc2 := b2.cell
    have hf1 := b1.frozen
    have hf2 := b2.frozen
    have hf := hv.frozen
    have hne : ∀ k, k < w.heap.size + 5 → (Value.slice g (subL s).length cp).ownBlock ≠ some k := by
      intro k hk
      rcases hrow.2 with ⟨h', _⟩ | ⟨g', cap, _, h', hg', _⟩
      · rw [h']; simp [Value.ownBlock]
      · rw [h']; simp only [Value.ownBlock]; intro e; injection e with e; omega
    gi_wp2
    obtain ⟨W2, hW2⟩ : ∃ W2, (W.setCell ⟨w.heap.size + 1, 0, none⟩ (.slice g (subL s).length cp)).setCell ⟨w.heap.size + 1 + 1, 0, none⟩ (.int .i64 0) = W2 := ⟨_, rfl⟩
    have k1 : Boxed W2 (w.heap.size + 1) 22 (.slice g (subL s).length cp) := by rw [← hW2]; exact (b1.set _).other (by omega) _
    have k2 : Boxed W2 (w.heap.size + 1 + 1) 25 (.int .i64 0) := by rw [← hW2]; exact (b2.other (by omega) _).set _
    have kr : W2.ownsRow (w.heap.size + 5) 3 1 (.slice g (subL s).length cp) (subL s).length ((subL s).map (Value.int .i64)) := by
      rw [← hW2]; exact (hrow.kept (grownBy_setCell' W (w.heap.size + 1) _) (.inr (hne _ (by omega)))).kept (grownBy_setCell' _ (w.heap.size + 1 + 1) _) (.inr (hne _ (by omega)))
    have kB : Below w.heap.size w W2 := by rw [← hW2]; exact hB0.trans ((hB.setCell (p := ⟨w.heap.size + 1, 0, none⟩) (by simp) _).setCell (p := ⟨w.heap.size + 1 + 1, 0, none⟩) (by simp; omega) _)
    have hK2 : W2.heap[D]? = some (.deferred (some [])) := by rw [← hW2]; exact ((KeepsOthers.setCell _ _ _).trans (KeepsOthers.setCell _ _ _)).same D _ hK rfl
    rw [hW2]
    refine ⟨by simp, .inl ⟨_, _, rfl, run_takeDeferred hK2, ?_⟩⟩
    have hc5 := (k1.kept (grownBy_putObj' _ D (.deferred none)) (by intro e; injection e with e; omega)).cell
    have hc6 := (k2.kept (grownBy_putObj' _ D (.deferred none)) (by intro e; injection e with e; omega)).cell
    refine ⟨.tuple #[.slice g (subL s).length cp, .int .i64 0], by rw [results]; simp [Tryd.f27, go_sem, hc5, hc6], kB.trans (belowK_b (w := w) (Nat.le_refl _) W2 D _ _ (by omega) hK2 rfl rfl), .inl ⟨_, rfl, hle, ownsRow_putObj kr _ hK2 rfl⟩⟩
  case stop =>
    rintro D c pre W hD hpre ⟨⟨rfl, hlt, b1, b2⟩, hB⟩ hK
    have hlen := hpre.length_le
    gi_wp2
    refine ⟨by simp, .inl ⟨_, _, rfl, run_takeDeferred hK, ?_⟩⟩
    have hc5 := (b1.kept (grownBy_putObj' _ D (.deferred none)) (by intro e; injection e with e; omega)).cell
    have hc6 := (b2.kept (grownBy_putObj' _ D (.deferred none)) (by intro e; injection e with e; omega)).cell
    refine ⟨.tuple #[.slice none 0 0, .int .i64 4], by simp [results, Tryd.f27, go_sem, hc5, hc6], (hB0.trans hB).trans (belowK_b (w := w) (Nat.le_refl _) W D _ _ (by omega) hK rfl rfl), .inr ⟨rfl, by omega⟩⟩
end Go.Proofs.YtdmedphpddhjcaaDoor.sets

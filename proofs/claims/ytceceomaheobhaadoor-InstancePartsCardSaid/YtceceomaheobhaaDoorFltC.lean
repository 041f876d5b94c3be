/- The closure that notes an error. -/
import Derived.Test.YtceceomaheobhaaDoorFltB
import Derived.RangeFuncBox
namespace Go.Proofs.YtceceomaheobhaaDoor.flt
open Go.RowKit
open Go.Proofs.YtceceomaheobhaaDoor.lib Go.Proofs.YtceceomaheobhaaDoor.rd Go.Proofs.YtceceomaheobhaaDoor.typ
set_option linter.unusedVariables false

theorem errno_info : (Tryd.prog.info? 38).map (fun i => (i.zero, i.size, i.bytes)) = some (some (.int .i64 0), 1, 8) := by kernel_rfl
/-- 'out = append(out, e)' of one error. -/
theorem push_errno {ops : Array Oper} {rest : List Oper} {o : Oper} {a : Act} {Q : Exit → Act → World → Prop} {w : World} (hgd : o.guard = none) (s x : Operand)
    (ho : o.op = .call { callee := .builtin .append, args := #[s, x], argTypes := #[87, 87] })
    (base : Nat) (v : Value) (n : Nat) (xs : List Int) (hs : a.eval s = v) (hown : w.ownsRow base 38 1 v n (xs.map (.int .i64)))
    (u : Int) (hx : a.eval x = .slice (some ⟨w.heap.size, 0, none⟩) 1 1) (hn : n < 17592186044416) (hbase : base ≤ w.heap.size)
    (h : ∀ A c w', w'.ownsRow base 38 1 (.slice A (n + 1) c) (n + 1) ((xs ++ [u]).map (.int .i64)) → Below base w w' → w.heap.size < w'.heap.size → wpList Tryd.prog ops Q rest (a.put o.dst (.slice A (n + 1) c)) w') :
    wpList Tryd.prog ops Q (o :: rest) a (w.alloc (.cells #[.int .i64 u] 38)) := by
  obtain ⟨i0, hi, hz0, hz1, hz2⟩ := info_parts errno_info
  refine wpList_append_own _ hgd s x _ ho base 38 i0 (.int .i64 0) 1 8 Tryd.underlying87 hi hz0 hz1 hz2 rfl (by decide) v n (xs.map (.int .i64)) hs (hown.alloc _) ⟨w.heap.size, 0, none⟩ 1 1 [.int .i64 u] hx rfl (cell_one_new _ _ _) ?_ (by unfold maxLen; omega) (by omega) (by simp; omega) ?_
  · intro u hu
    simp at hu
    subst hu
    rfl
  intro v' w1 hown' hg _
  obtain ⟨A, c, rfl⟩ := own_form hown'
  refine h A c w1 (by simpa using hown') ?_ ?_
  · exact ((Below.refl base w).alloc hbase _).grown hg (by simp; omega) (own_base hown)
  · have := hg.size; simp at this; omega

/-- Block b is a box that holds a row of errors; the row lies at or beyond base. -/
def BoxRow (w : World) (b base : Nat) (xs : List Int) : Prop :=
  ∃ A c, Boxed w b 87 (.slice A xs.length c) ∧ w.ownsRow base 38 1 (.slice A xs.length c) xs.length (xs.map (.int .i64)) ∧ b < base ∧ base ≤ w.heap.size ∧ xs.length ≤ 100
theorem BoxRow.below {w w' : World} {b base : Nat} {xs : List Int} (h : BoxRow w b base xs) (hb : Below w.heap.size w w') : BoxRow w' b base xs := by
  obtain ⟨A, c, h1, h2, h3, h4, h5⟩ := h
  refine ⟨A, c, (hb.block b (by omega)).trans h1, ?_, h3, Nat.le_trans h4 hb.size, h5⟩
  rcases h2.2 with ⟨h6, h7⟩ | ⟨g, cap, cur, h6, h7, h8, h9⟩
  · exact ⟨h2.1, .inl ⟨h6, h7⟩⟩
  · exact ⟨h2.1, .inr ⟨g, cap, cur, h6, h7, (hb.block g (Array.getElem?_eq_some_iff.1 h8).1).trans h8, h9⟩⟩
/-- What a call of the closure has done. -/
def AddOut (w : World) (b base : Nat) (xs : List Int) (e : Ending) (w' : World) : Prop :=
  e = .returned (.tuple #[]) ∧ BoxRow w' b base xs ∧ Below b w w' ∧ (∀ k, b < k → k < base → w'.heap[k]? = w.heap[k]?) ∧ w.heap.size ≤ w'.heap.size

theorem add_yes (b base : Nat) (xs : List Int) (u : Int) (w : World) (h : BoxRow w b base xs) :
    Calls Tryd.prog 62 #[.bool true, .int .i64 u, .pointer (some ⟨b, 0, none⟩)] w (AddOut w b base xs) := by
  go_enter Tryd.func62, Tryd.ntmps62
  go_wp2
  refine bodyPost_ret (v := .tuple #[]) (by simp [results, Tryd.results62, go_sem]) rfl ⟨rfl, h, Below.refl _ _, fun _ _ _ => rfl, Nat.le_refl _⟩
theorem add_no (b base : Nat) (xs : List Int) (u : Int) (w : World) (h : BoxRow w b base xs) (hx : xs.length < 100) :
    Calls Tryd.prog 62 #[.bool false, .int .i64 u, .pointer (some ⟨b, 0, none⟩)] w (AddOut w b base (xs ++ [u])) := by
  obtain ⟨A, c, h1, h2, h3, h4, h5⟩ := h
  have hc := h1.cell
  have hf := h1.frozen
  go_enter Tryd.func62, Tryd.ntmps62
  go_wp2_with (at_builtin; refine push_errno rfl _ _ rfl base _ xs.length xs rfl h2 u rfl (by omega) h4 ?_; intro A1 c1 w1 hown1 hb1 hz1; have hbx : Boxed w1 b 87 (.slice A xs.length c) := (hb1.block b h3).trans h1; have hc1 := hbx.cell; have hf1 := hbx.frozen)
  go_end0
  refine ⟨rfl, ⟨A1, c1, by rw [List.length_append]; exact hbx.set _, ?_, h3, ?_, by simp; omega⟩, ?_, ?_, ?_⟩
  · rw [List.length_append]
    exact ownsRow_setCell_below (a := ⟨b, 0, none⟩) hown1 h3 _
  · simp; omega
  · have hb2 : Below b w w1 := hb1.mono (by omega)
    exact hb2.setCell (p := ⟨b, 0, none⟩) (Nat.le_refl _) _
  · intro k hk1 hk2
    exact (Below.heap_setCell w1 ⟨b, 0, none⟩ _ k (show k ≠ b by omega)).trans (hb1.block k hk2)
  · simp; omega
end Go.Proofs.YtceceomaheobhaaDoor.flt

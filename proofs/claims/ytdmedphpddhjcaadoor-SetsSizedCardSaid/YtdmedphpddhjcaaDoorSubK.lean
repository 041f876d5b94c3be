/- Appending one number: the new row lies in the old block or in a fresh one. -/
import Derived.Test.YtdmedphpddhjcaaDoorSubJ
import Derived.ArgAppend
namespace Go.Proofs.YtdmedphpddhjcaaDoor.sets
open Go.RowKit Go.Shelf
open Go.Proofs.YtdmedphpddhjcaaDoor.lib
set_option linter.unusedVariables false

theorem run_push (w : World) (base : Nat) (g n cap : Nat) (xs : List Int) (hown : w.ownsRow base 3 1 (.slice (some ⟨g, 0, none⟩) n cap) n (xs.map (.int .i64)))
    (b : Nat) (u : Int) (hc : w.cell? ⟨b, 0, none⟩ = some (.int .i64 u)) (hn : n < 17592186044415) (hbase : base ≤ w.heap.size) (ty : TypeId) :
    ∃ g' c' w', (Builtin.append_ #[22, 22] ty #[.slice (some ⟨g, 0, none⟩) n cap, .slice (some ⟨b, 0, none⟩) 1 1]).run Tryd.prog w = .ok (.slice (some ⟨g', 0, none⟩) (n + 1) c') w' ∧
      w'.ownsRow base 3 1 (.slice (some ⟨g', 0, none⟩) (n + 1) c') (n + 1) ((xs ++ [u]).map (.int .i64)) ∧ w.grownBy w' (some g) ∧ (g' = g ∨ (w.heap.size ≤ g' ∧ w.grownBy w' none)) := by
  obtain ⟨i0, hi, hz0, hz1, hz2⟩ := info_parts int_info
  have hnew : ∀ (j : Nat) (v : Value), [Value.int .i64 u][j]? = some v → w.cell? ((⟨b, 0, none⟩ : Addr).add j) = some v := by
    intro j v hj
    rcases j with _ | j
    · simp at hj
      subst hj
      exact hc
    · simp at hj
  have h1 : ∀ v ∈ [Value.int .i64 u], v.oneCell' = true := by
    intro v hv
    simp at hv
    subst hv
    rfl
  obtain ⟨v', w', hr, h2, h3, _⟩ := run_append_own (P := Tryd.prog) w base 22 ty 3 i0 (.int .i64 0) 1 8 Tryd.underlying22 hi hz0 hz1 hz2 rfl (by decide) _ n _ hown ⟨b, 0, none⟩ 1 1 [.int .i64 u] rfl hnew h1 (by unfold maxLen; omega) (by omega) hbase
  obtain ⟨g', c', rfl⟩ := ownsRow_succ h2
  refine ⟨g', c', w', hr, by simpa using h2, h3, ?_⟩
  by_cases hroom : n + 1 ≤ cap
  · left
    rcases hown.2 with ⟨h, _⟩ | ⟨g0, cap0, cur, h, _, hg, hnc, _, hcs, _⟩
    · cases h
    · injection h with h e1 e2
      injection h with h
      injection h with h
      subst h
      subst e2
      have hr2 := run_append_room (P := Tryd.prog) w 22 ty 3 i0 Tryd.underlying22 hi g n cap cur hg ⟨b, 0, none⟩ 1 1 [.int .i64 u] (by rw [hz1]; rfl) hnew h1 hroom (by rw [hz1, hcs]; simp; omega)
      rw [hr] at hr2
      injection hr2 with hv _
      injection hv with hv _ _
      injection hv with hv
      injection hv
  · right
    obtain ⟨v2, w2, hr2, r1, r2⟩ := run_append_arg_grows (P := Tryd.prog) w 22 ty 3 i0 (.int .i64 0) 1 8 Tryd.underlying22 hi hz0 hz1 hz2 rfl (by decide) ⟨g, 0, none⟩ n cap (xs.map (.int .i64)) hown.1 (hown.cells (g := g) rfl) ⟨b, 0, none⟩ 1 1 [.int .i64 u] rfl hnew (by omega) (by unfold maxLen; omega) (by omega)
    rw [hr] at hr2
    injection hr2 with hv hw
    subst hv
    subst hw
    exact ⟨own_base r1 g' rfl, r2⟩

theorem step_push_apart {ops : Array Oper} {o : Oper} {a : Act} {K : Act → World → Prop} {Q : Exit → Act → World → Prop} {E : Prop} {w : World} (hgd : o.guard = none) (s x : Operand)
    (ho : o.op = .call { callee := .builtin .append, args := #[s, x], argTypes := #[22, 22] })
    (base g n cap : Nat) (xs : List Int) (hs : a.eval s = .slice (some ⟨g, 0, none⟩) n cap) (hown : w.ownsRow base 3 1 (.slice (some ⟨g, 0, none⟩) n cap) n (xs.map (.int .i64)))
    (b : Nat) (u : Int) (hx : a.eval x = .slice (some ⟨b, 0, none⟩) 1 1) (hc : w.cell? ⟨b, 0, none⟩ = some (.int .i64 u)) (hn : n < 17592186044415) (hbase : base ≤ w.heap.size)
    (h : ∀ g' c w', w'.ownsRow base 3 1 (.slice (some ⟨g', 0, none⟩) (n + 1) c) (n + 1) ((xs ++ [u]).map (.int .i64)) → w.grownBy w' (some g) → (g' = g ∨ (w.heap.size ≤ g' ∧ w.grownBy w' none)) → K (a.put o.dst (.slice (some ⟨g', 0, none⟩) (n + 1) c)) w') :
    if Region.wanted o (yielded ops a.tmps) = true then Oper.wp Tryd.prog o a w K Q else E := by
  have hw : Region.wanted o (yielded ops a.tmps) = true := by simp [Region.wanted, hgd]
  rw [if_pos hw]
  obtain ⟨g', c, w', hr, h2, h3, h4⟩ := run_push w base g n cap xs hown b u hc hn hbase o.type
  unfold Oper.wp execOp
  simp only [ho, resolve, invoke, builtin, Sem.run_bind, Sem.run_pure, Result.andThen_ok, List.map_toArray, List.map_cons, List.map_nil, hs, hx, hr]
  exact h g' c w' h2 h3 h4
end Go.Proofs.YtdmedphpddhjcaaDoor.sets

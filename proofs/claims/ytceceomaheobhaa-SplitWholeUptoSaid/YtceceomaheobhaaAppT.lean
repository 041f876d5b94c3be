/- Two elements appended to a row of the call's own. -/
import Derived.Test.YtceceomaheobhaaBase
namespace Go.Proofs.Ytceceomaheobhaa.app
open Go.RowKit
open Go.Proofs.Ytceceomaheobhaa.lib
set_option linter.unusedVariables false

theorem run_app2 {t e : TypeId} {z : Value} {size bytes : Nat} (E : ElemOf t e z size bytes) (w : World) (base : Nat) (A : Option Addr) (n cap : Nat) (xs : List Value) (hown : w.ownsRow base e size (.slice A n cap) n xs)
    (ad : Addr) (c : Nat) (news : List Value) (hl : news.length = 2 * size) (hnews : ∀ j u, news[j]? = some u → w.cell? (ad.add j) = some u) (h1 : ∀ u ∈ news, u.oneCell' = true) (hn : (n + 2) * bytes ≤ 140737488355328) (hm : n + 2 ≤ maxLen) (hbase : base ≤ w.heap.size) (ty : TypeId) :
    ∃ g' c' w', (Builtin.append_ #[t, t] ty #[.slice A n cap, .slice (some ad) 2 c]).run Try.prog w = .ok (.slice (some ⟨g', 0, none⟩) (n + 2) c') w' ∧
      w'.ownsRow base e size (.slice (some ⟨g', 0, none⟩) (n + 2) c') (n + 2) (xs ++ news) ∧ w.grownBy w' (Value.slice A n cap).ownBlock ∧ ((Value.slice A n cap).ownBlock = some g' ∨ w.heap.size ≤ g') := by
  obtain ⟨i0, hi, hz0, hz1, hz2⟩ := info_parts E.info
  have hl' : news.length = 2 * size := hl
  obtain ⟨v', w', hr, h2, h3, _⟩ := run_append_own (P := Try.prog) w base t ty e i0 z size bytes E.sl hi hz0 hz1 hz2 E.zs E.pos _ n _ hown ad 2 c news hl' hnews h1 hm hn hbase
  obtain ⟨g', c', rfl⟩ := ownsRow_succ h2
  refine ⟨g', c', w', hr, h2, h3, ?_⟩
  by_cases hroom : n + 2 ≤ cap
  · rcases hown.2 with ⟨h, hz⟩ | ⟨g0, cap0, cur, h, _, hg, hnc, _, hcs, _⟩
    · injection h with _ _ e3
      omega
    · injection h with e1 e2 e3
      subst e1
      subst e3
      left
      have hsp := E.pos
      have hr2 := run_append_room (P := Try.prog) w t ty e i0 E.sl hi g0 n cap cur hg ad 2 c news (by rw [hz1]; exact hl') hnews h1 hroom (by
        rw [hz1, hcs, hl', ← Nat.add_mul]
        exact Nat.mul_le_mul_right _ hroom)
      rw [hr] at hr2
      simp only [Result.ok.injEq, Value.slice.injEq, Option.some.injEq, Addr.mk.injEq] at hr2
      show some g0 = some g'
      rw [hr2.1.1.1]
  · right
    rcases hown.2 with ⟨h, hz⟩ | ⟨g0, cap0, cur, h, _, hg, hnc, _, hcs, _⟩
    · injection h with e1 e2 e3
      subst e1; subst e3; subst hz
      have hx0 : xs = [] := by have := hown.1; simpa using this
      subst hx0
      obtain ⟨v2, w2, hr2, s2, s3, _⟩ := run_append_own (P := Try.prog) w w.heap.size t ty e i0 z size bytes E.sl hi hz0 hz1 hz2 E.zs E.pos _ 0 _ (World.ownsRow_nil w w.heap.size e size) ad 2 c news hl' hnews h1 hm hn (Nat.le_refl _)
      rw [hr] at hr2
      injection hr2 with hv hw
      subst hv
      subst hw
      exact own_base s2 g' rfl
    · injection h with e1 e2 e3
      subst e1
      obtain ⟨v2, w2, hr2, r1, r2⟩ := run_append_arg_grows (P := Try.prog) w t ty e i0 z size bytes E.sl hi hz0 hz1 hz2 E.zs E.pos ⟨g0, 0, none⟩ n cap xs hown.1 (hown.cells (g := g0) rfl) ad 2 c news hl' hnews (by omega) hm hn
      rw [hr] at hr2
      injection hr2 with hv hw
      subst hv
      subst hw
      exact own_base r1 g' rfl

section
variable {t e : TypeId} {z : Value} {size bytes : Nat} (E : ElemOf t e z size bytes) {o : Oper} {a : Act} {w : World} (s x : Operand)
  (ho : o.op = .call { callee := .builtin .append, args := #[s, x], argTypes := #[t, t] })
  (base : Nat) (A : Option Addr) (n cap : Nat) (xs : List Value) (hs : a.eval s = .slice A n cap) (hown : w.ownsRow base e size (.slice A n cap) n xs)
  (ad : Addr) (c : Nat) (news : List Value) (hx : a.eval x = .slice (some ad) 2 c) (hl : news.length = 2 * size) (hnews : ∀ j u, news[j]? = some u → w.cell? (ad.add j) = some u) (h1 : ∀ u ∈ news, u.oneCell' = true) (hn : n ≤ 1000000000) (hbase : base ≤ w.heap.size)
include E ho hs hown hx hl hnews h1 hn hbase

theorem wp_app2 {K : Act → World → Prop} {Q : Exit → Act → World → Prop}
    (h : ∀ g' c' w', w'.ownsRow base e size (.slice (some ⟨g', 0, none⟩) (n + 2) c') (n + 2) (xs ++ news) → w.grownBy w' (Value.slice A n cap).ownBlock → ((Value.slice A n cap).ownBlock = some g' ∨ w.heap.size ≤ g') → K (a.put o.dst (.slice (some ⟨g', 0, none⟩) (n + 2) c')) w') :
    o.wp Try.prog a w K Q := by
  have hb := E.by_
  have hmul : (n + 2) * bytes ≤ (n + 2) * 100000 := Nat.mul_le_mul_left _ hb
  obtain ⟨g', c', w', hr, h2, h3, h4⟩ := run_app2 E w base A n cap xs hown ad c news hl hnews h1 (by omega) (by unfold maxLen; omega) hbase o.type
  unfold Oper.wp execOp
  simp only [ho, resolve, invoke, builtin, Sem.run_bind, Sem.run_pure, Result.andThen_ok, List.map_toArray, List.map_cons, List.map_nil, hs, hx, hr]
  exact h g' c' w' h2 h3 h4
/-- Plain. -/
theorem wpList_app2 {ops : Array Oper} {rest : List Oper} {Q : Exit → Act → World → Prop} (hgd : o.guard = none)
    (h : ∀ g' c' w', w'.ownsRow base e size (.slice (some ⟨g', 0, none⟩) (n + 2) c') (n + 2) (xs ++ news) → w.grownBy w' (Value.slice A n cap).ownBlock → ((Value.slice A n cap).ownBlock = some g' ∨ w.heap.size ≤ g') → wpList Try.prog ops Q rest (a.put o.dst (.slice (some ⟨g', 0, none⟩) (n + 2) c')) w') :
    wpList Try.prog ops Q (o :: rest) a w :=
  wpList_plain hgd fun _ hK => wp_app2 E s x ho base A n cap xs hs hown ad c news hx hl hnews h1 hn hbase fun g' c' w' h2 h3 h4 => hK _ _ (h g' c' w' h2 h3 h4)
/-- In a region that draws its order. -/
theorem step_app2 {ops : Array Oper} {K : Act → World → Prop} {Q : Exit → Act → World → Prop} {E' : Prop} (hgd : o.guard = none)
    (h : ∀ g' c' w', w'.ownsRow base e size (.slice (some ⟨g', 0, none⟩) (n + 2) c') (n + 2) (xs ++ news) → w.grownBy w' (Value.slice A n cap).ownBlock → ((Value.slice A n cap).ownBlock = some g' ∨ w.heap.size ≤ g') → K (a.put o.dst (.slice (some ⟨g', 0, none⟩) (n + 2) c')) w') :
    if Region.wanted o (yielded ops a.tmps) = true then Oper.wp Try.prog o a w K Q else E' := by
  have hw : Region.wanted o (yielded ops a.tmps) = true := by simp [Region.wanted, hgd]
  rw [if_pos hw]
  exact wp_app2 E s x ho base A n cap xs hs hown ad c news hx hl hnews h1 hn hbase h
end
end Go.Proofs.Ytceceomaheobhaa.app

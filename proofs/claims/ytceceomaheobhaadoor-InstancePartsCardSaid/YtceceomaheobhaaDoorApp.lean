/- Appending to a row of the call's own, whatever its elements: the new row lies in the old block or in a fresh one. -/
import Derived.Test.YtceceomaheobhaaDoorLib
import Derived.ArgAppend
import Derived.RangeFuncBox
namespace Go.Proofs.YtceceomaheobhaaDoor.app
open Go.RowKit
open Go.Proofs.YtceceomaheobhaaDoor.lib
set_option linter.unusedVariables false

/-- What is known of an element type and the slices of it. -/
structure ElemOf (t e : TypeId) (z : Value) (size bytes : Nat) : Prop where
  sl : Tryd.prog.underlying t = some (.slice e)
  info : (Tryd.prog.info? e).map (fun i => (i.zero, i.size, i.bytes)) = some (some z, size, bytes)
  zs : z.cells.size = size
  pos : 0 < size
  by_ : bytes ≤ 100000

theorem run_app {t e : TypeId} {z : Value} {size bytes : Nat} (E : ElemOf t e z size bytes) (w : World) (base : Nat) (A : Option Addr) (n cap : Nat) (xs : List Value) (hown : w.ownsRow base e size (.slice A n cap) n xs)
    (ad : Addr) (c : Nat) (news : List Value) (hl : news.length = size) (hnews : ∀ j u, news[j]? = some u → w.cell? (ad.add j) = some u) (h1 : ∀ u ∈ news, u.oneCell' = true) (hn : (n + 1) * bytes ≤ 140737488355328) (hm : n + 1 ≤ maxLen) (hbase : base ≤ w.heap.size) (ty : TypeId) :
    ∃ g' c' w', (Builtin.append_ #[t, t] ty #[.slice A n cap, .slice (some ad) 1 c]).run Tryd.prog w = .ok (.slice (some ⟨g', 0, none⟩) (n + 1) c') w' ∧
      w'.ownsRow base e size (.slice (some ⟨g', 0, none⟩) (n + 1) c') (n + 1) (xs ++ news) ∧ w.grownBy w' (Value.slice A n cap).ownBlock ∧ ((Value.slice A n cap).ownBlock = some g' ∨ w.heap.size ≤ g') := by
  obtain ⟨i0, hi, hz0, hz1, hz2⟩ := info_parts E.info
  have hl' : news.length = 1 * size := by omega
  obtain ⟨v', w', hr, h2, h3, _⟩ := run_append_own (P := Tryd.prog) w base t ty e i0 z size bytes E.sl hi hz0 hz1 hz2 E.zs E.pos _ n _ hown ad 1 c news hl' hnews h1 hm hn hbase
  obtain ⟨g', c', rfl⟩ := ownsRow_succ h2
  refine ⟨g', c', w', hr, h2, h3, ?_⟩
  by_cases hroom : n + 1 ≤ cap
  · rcases hown.2 with ⟨h, hz⟩ | ⟨g0, cap0, cur, h, _, hg, hnc, _, hcs, _⟩
    · injection h with _ _ e3
      omega
    · injection h with e1 e2 e3
      subst e1
      subst e3
      left
      have hsp := E.pos
      have hr2 := run_append_room (P := Tryd.prog) w t ty e i0 E.sl hi g0 n cap cur hg ad 1 c news (by rw [hz1]; exact hl') hnews h1 hroom (by
        rw [hz1, hcs, hl', ← Nat.add_mul]
        exact Nat.mul_le_mul_right _ hroom)
      rw [hr] at hr2
      simp only [Result.ok.injEq, Value.slice.injEq, Option.some.injEq, Addr.mk.injEq] at hr2
      show some g0 = some g'
      rw [hr2.1.1.1]
  · right
    rcases hown.2 with ⟨h, hz⟩ | ⟨g0, cap0, cur, h, _, hg, hnc, _, hcs, _⟩
    · injection h with e1 e2 e3
      subst e1; subst e3; subst hz
      have hx0 : xs = [] := by have := hown.1; simpa using this
      subst hx0
      obtain ⟨v2, w2, hr2, s2, s3, _⟩ := run_append_own (P := Tryd.prog) w w.heap.size t ty e i0 z size bytes E.sl hi hz0 hz1 hz2 E.zs E.pos _ 0 _ (World.ownsRow_nil w w.heap.size e size) ad 1 c news hl' hnews h1 hm hn (Nat.le_refl _)
      rw [hr] at hr2
      injection hr2 with hv hw
      subst hv
      subst hw
      exact own_base s2 g' rfl
    · injection h with e1 e2 e3
      subst e1
      obtain ⟨v2, w2, hr2, r1, r2⟩ := run_append_arg_grows (P := Tryd.prog) w t ty e i0 z size bytes E.sl hi hz0 hz1 hz2 E.zs E.pos ⟨g0, 0, none⟩ n cap xs hown.1 (hown.cells (g := g0) rfl) ad 1 c news hl' hnews (by omega) hm hn
      rw [hr] at hr2
      injection hr2 with hv hw
      subst hv
      subst hw
      exact own_base r1 g' rfl

section
variable {t e : TypeId} {z : Value} {size bytes : Nat} (E : ElemOf t e z size bytes) {o : Oper} {a : Act} {w : World} (s x : Operand)
  (ho : o.op = .call { callee := .builtin .append, args := #[s, x], argTypes := #[t, t] })
  (base : Nat) (A : Option Addr) (n cap : Nat) (xs : List Value) (hs : a.eval s = .slice A n cap) (hown : w.ownsRow base e size (.slice A n cap) n xs)
  (ad : Addr) (c : Nat) (news : List Value) (hx : a.eval x = .slice (some ad) 1 c) (hl : news.length = size) (hnews : ∀ j u, news[j]? = some u → w.cell? (ad.add j) = some u) (h1 : ∀ u ∈ news, u.oneCell' = true) (hn : n ≤ 1000000000) (hbase : base ≤ w.heap.size)
include E ho hs hown hx hl hnews h1 hn hbase

theorem wp_app {K : Act → World → Prop} {Q : Exit → Act → World → Prop}
    (h : ∀ g' c' w', w'.ownsRow base e size (.slice (some ⟨g', 0, none⟩) (n + 1) c') (n + 1) (xs ++ news) → w.grownBy w' (Value.slice A n cap).ownBlock → ((Value.slice A n cap).ownBlock = some g' ∨ w.heap.size ≤ g') → K (a.put o.dst (.slice (some ⟨g', 0, none⟩) (n + 1) c')) w') :
    o.wp Tryd.prog a w K Q := by
  have hb := E.by_
  have hmul : (n + 1) * bytes ≤ (n + 1) * 100000 := Nat.mul_le_mul_left _ hb
  obtain ⟨g', c', w', hr, h2, h3, h4⟩ := run_app E w base A n cap xs hown ad c news hl hnews h1 (by omega) (by unfold maxLen; omega) hbase o.type
  unfold Oper.wp execOp
  simp only [ho, resolve, invoke, builtin, Sem.run_bind, Sem.run_pure, Result.andThen_ok, List.map_toArray, List.map_cons, List.map_nil, hs, hx, hr]
  exact h g' c' w' h2 h3 h4
/-- Plain. -/
theorem wpList_app {ops : Array Oper} {rest : List Oper} {Q : Exit → Act → World → Prop} (hgd : o.guard = none)
    (h : ∀ g' c' w', w'.ownsRow base e size (.slice (some ⟨g', 0, none⟩) (n + 1) c') (n + 1) (xs ++ news) → w.grownBy w' (Value.slice A n cap).ownBlock → ((Value.slice A n cap).ownBlock = some g' ∨ w.heap.size ≤ g') → wpList Tryd.prog ops Q rest (a.put o.dst (.slice (some ⟨g', 0, none⟩) (n + 1) c')) w') :
    wpList Tryd.prog ops Q (o :: rest) a w :=
  wpList_plain hgd fun _ hK => wp_app E s x ho base A n cap xs hs hown ad c news hx hl hnews h1 hn hbase fun g' c' w' h2 h3 h4 => hK _ _ (h g' c' w' h2 h3 h4)
/-- In a region that draws its order. -/
theorem step_app {ops : Array Oper} {K : Act → World → Prop} {Q : Exit → Act → World → Prop} {E' : Prop} (hgd : o.guard = none)
    (h : ∀ g' c' w', w'.ownsRow base e size (.slice (some ⟨g', 0, none⟩) (n + 1) c') (n + 1) (xs ++ news) → w.grownBy w' (Value.slice A n cap).ownBlock → ((Value.slice A n cap).ownBlock = some g' ∨ w.heap.size ≤ g') → K (a.put o.dst (.slice (some ⟨g', 0, none⟩) (n + 1) c')) w') :
    if Region.wanted o (yielded ops a.tmps) = true then Oper.wp Tryd.prog o a w K Q else E' := by
  have hw : Region.wanted o (yielded ops a.tmps) = true := by simp [Region.wanted, hgd]
  rw [if_pos hw]
  exact wp_app E s x ho base A n cap xs hs hown ad c news hx hl hnews h1 hn hbase h
end

/-- A row of the call's own stays, where another block is written and blocks are added. -/
theorem own_grown {w w' : World} {base : Nat} {e : TypeId} {size n : Nat} {v : Value} {xs : List Value} (h : w.ownsRow base e size v n xs) {row : Option Nat} (hg : w.grownBy w' row) (hne : v.ownBlock = none ∨ v.ownBlock ≠ row) : w'.ownsRow base e size v n xs := h.kept hg hne
theorem own_below {w w' : World} {base : Nat} {e : TypeId} {size n : Nat} {v : Value} {xs : List Value} (h : w.ownsRow base e size v n xs) (hb : Below w.heap.size w w') : w'.ownsRow base e size v n xs := by
  rcases h.2 with ⟨h6, h7⟩ | ⟨g, cap, cur, h6, h7, h8, h9⟩
  · exact ⟨h.1, .inl ⟨h6, h7⟩⟩
  · exact ⟨h.1, .inr ⟨g, cap, cur, h6, h7, (hb.block g (Array.getElem?_eq_some_iff.1 h8).1).trans h8, h9⟩⟩
theorem own_less {w : World} {base base' : Nat} {e : TypeId} {size n : Nat} {v : Value} {xs : List Value} (h : w.ownsRow base e size v n xs) (hb : base' ≤ base) : w.ownsRow base' e size v n xs := by
  rcases h.2 with ⟨h1, h2⟩ | ⟨g, cap, cur, h1, h2, h3⟩
  · exact ⟨h.1, .inl ⟨h1, h2⟩⟩
  · exact ⟨h.1, .inr ⟨g, cap, cur, h1, Nat.le_trans hb h2, h3⟩⟩
end Go.Proofs.YtceceomaheobhaaDoor.app

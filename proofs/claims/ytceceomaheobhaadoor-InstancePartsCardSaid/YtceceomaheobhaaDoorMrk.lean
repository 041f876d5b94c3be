/- Marks: a map to truths that the call makes, read as a list of keys. Portable. -/
import Derived.Test.YtceceomaheobhaaDoorLib
import Derived.Maps.OwnSet
import Derived.Maps.OwnOps
import Derived.Maps.Views
import Derived.DeepKeys4
namespace Go.Proofs.YtceceomaheobhaaDoor.mrk
open Go.RowKit Go.Maps
open Go.Proofs.YtceceomaheobhaaDoor.lib
set_option linter.unusedVariables false

def hasB {X : Type} [DecidableEq X] (l : List X) (x : X) : Bool := decide (x ∈ l)
/-- Keys: the values, which of them can be keys, and the types. -/
structure KeyEnc (X : Type) (k t : TypeId) where
  val : X → Value
  ok : X → Prop
  law : Keyed Tryd.prog k
  ht : Tryd.prog.underlying t = some (.map k 4)
  key : ∀ x, ok x → ∃ kl, keyOf Tryd.prog k (val x) = some kl
  inj : ∀ x y, val x = val y → x = y
/-- Block b is a map whose true keys are those of l. -/
def Marks {X : Type} [DecidableEq X] {k t : TypeId} (E : KeyEnc X k t) (w : World) (b n : Nat) (l : List X) : Prop :=
  ∃ D : DataW Unit, w.ownsMap Tryd.prog k (plainElem Tryd.prog 4) b n D ∧ ∀ x kl, keyOf Tryd.prog k (E.val x) = some kl → D.atKey kl (.lit (.bool false)) = .lit (.bool (hasB l x))
theorem zero_bool (w : World) : (zeroValue 4).run Tryd.prog w = .ok (.bool false) w := by kernel_rfl
section
variable {X : Type} [DecidableEq X] {k t : TypeId} {E : KeyEnc X k t} {w w' : World} {b n : Nat} {l : List X}
theorem Marks.made (E : KeyEnc X k t) (w : World) : Marks E (w.alloc (.map #[] 0)) w.heap.size 0 [] :=
  ⟨.map [], World.ownsMap_made _ _ _ _, fun x kl h => rfl⟩
theorem Marks.lt (h : Marks E w b n l) : b < w.heap.size := by
  obtain ⟨D, h1, _⟩ := h
  exact h1.lt
theorem Marks.kept (h : Marks E w b n l) {row : Option Nat} (hg : w.grownBy w' row) (hne : some b ≠ row) : Marks E w' b n l := by
  obtain ⟨D, h1, h2⟩ := h
  exact ⟨D, h1.kept hg hne, h2⟩
theorem Marks.below (h : Marks E w b n l) (hb : Below w.heap.size w w') : Marks E w' b n l := by
  have hlt := h.lt
  obtain ⟨D, ⟨es, clock, hbl, F, hs, hD⟩, h2⟩ := h
  exact ⟨D, ⟨es, clock, (hb.block b hlt).trans hbl, F, hs, hD⟩, h2⟩
theorem Marks.look (h : Marks E w b n l) (x : X) (hok : E.ok x) : (Instr.lookup t (.map (some b)) (E.val x) false).run Tryd.prog w = .ok (.bool (hasB l x)) w := by
  obtain ⟨D, h1, h2⟩ := h
  obtain ⟨kl, hkl⟩ := E.key x hok
  obtain ⟨v, ps, hrun, hv⟩ := h1.lookup E.law E.ht (zero_bool w) (plainElem_bool Tryd.underlying4 false) hkl
  rw [h2 x kl hkl] at hv
  rw [hrun]
  unfold plainElem at hv
  cases v <;> simp [Tryd.underlying4] at hv
  all_goals (try (obtain ⟨hv, _⟩ := hv))
  all_goals (try rw [hv])
theorem Marks.set (h : Marks E w b n l) (x : X) (hok : E.ok x) (hn : n < maxLen) : ∃ w', (Instr.mapUpdate t (.map (some b)) (E.val x) (.bool true)).run Tryd.prog w = .ok () w' ∧ Marks E w' b (n + 1) (l ++ [x]) ∧ w.grownBy w' (some b) := by
  obtain ⟨D, h1, h2⟩ := h
  obtain ⟨kl, hkl⟩ := E.key x hok
  have hD := h1.isMap
  obtain ⟨w', hrun, h3, h4⟩ := h1.update E.law E.ht hn hkl (plainElem_bool Tryd.underlying4 true)
  refine ⟨w', hrun, ⟨_, h3, fun y ky hky => ?_⟩, h4⟩
  by_cases hyx : y = x
  · subst hyx
    rw [hkl] at hky
    cases hky
    rw [atKey_put_same hD (E.law.key hkl)]
    simp [hasB]
  · have hne : ky ≠ kl := fun e => hyx (E.inj _ _ (E.law.inj hky (by rw [e]; exact hkl)))
    rw [atKey_put_other hne, h2 y ky hky]
    simp [hasB, hyx]
end
/-- At the operation: a look-up. -/
theorem wpList_mark_look {X : Type} [DecidableEq X] {k t : TypeId} (E : KeyEnc X k t) {w : World} {ops : Array Oper} {rest : List Oper} {o : Oper} {a : Act} {Q : Exit → Act → World → Prop} (hg : o.guard = none) (m x : Operand) (hop : o.op = Op.lookup t m x false)
    (b n : Nat) (l : List X) (hm : a.eval m = .map (some b)) (h : Marks E w b n l) (y : X) (hx : a.eval x = E.val y) (hok : E.ok y) (hK : wpList Tryd.prog ops Q rest (a.put o.dst (.bool (hasB l y))) w) : wpList Tryd.prog ops Q (o :: rest) a w := by
  refine wpList_plain hg fun K' hK' => ?_
  have hrun := h.look y hok
  unfold Oper.wp
  simp [execOp, hop, hm, hx, hrun, Result.andThen]
  exact hK' _ _ hK
/-- At the operation: a mark is set. -/
theorem wpList_mark_set {X : Type} [DecidableEq X] {k t : TypeId} (E : KeyEnc X k t) {w : World} {ops : Array Oper} {rest : List Oper} {o : Oper} {a : Act} {Q : Exit → Act → World → Prop} (hg : o.guard = none) (m x v : Operand) (hop : o.op = Op.mapUpdate t m x v)
    (b n : Nat) (l : List X) (hm : a.eval m = .map (some b)) (h : Marks E w b n l) (y : X) (hx : a.eval x = E.val y) (hv : a.eval v = .bool true) (hok : E.ok y) (hn : n < maxLen) (hK : ∀ w', Marks E w' b (n + 1) (l ++ [y]) → w.grownBy w' (some b) → wpList Tryd.prog ops Q rest (a.put o.dst undef) w') : wpList Tryd.prog ops Q (o :: rest) a w := by
  refine wpList_plain hg fun K' hK' => ?_
  obtain ⟨w', hrun, h1, h2⟩ := h.set y hok hn
  unfold Oper.wp
  simp [execOp, hop, hm, hx, hv, hrun, Result.andThen]
  exact hK' _ _ (hK w' h1 h2)
end Go.Proofs.YtceceomaheobhaaDoor.mrk

/- A struct stored anywhere in a row of the call's own; rows copied from others, of which an element is replaced. Portable. -/
import Derived.Test.YtofabhenmplkoaaGreatDoorOff
import Derived.Test.YtofabhenmplkoaaGreatDoorZ4
import Derived.Deep.MidRow
import Derived.Laws.OwnMore
namespace Go.Proofs.YtofabhenmplkoaaGreatDoor.off
open Go.RowKit
open Go.Proofs.YtofabhenmplkoaaGreatDoor.lib Go.Proofs.YtofabhenmplkoaaGreatDoor.rd Go.Proofs.YtofabhenmplkoaaGreatDoor.app Go.Proofs.YtofabhenmplkoaaGreatDoor.els Go.Proofs.YtofabhenmplkoaaGreatDoor.big Go.Proofs.YtofabhenmplkoaaGreatDoor.ins
set_option linter.unusedVariables false

/-- The list with the values vs from o on. -/
def setM : List Value → Nat → List Value → List Value
  | xs, _, [] => xs
  | xs, o, v :: r => setM (xs.set o v) (o + 1) r
theorem setM_len : ∀ (vs xs : List Value) (o : Nat), (setM xs o vs).length = xs.length
  | [], xs, o => rfl
  | v :: r, xs, o => by rw [setM, setM_len r, List.length_set]
theorem setM_at : ∀ (vs xs : List Value) (o : Nat), o + vs.length ≤ xs.length → ∀ n : Nat, (setM xs o vs)[n]? = if o ≤ n ∧ n < o + vs.length then vs[n - o]? else xs[n]?
  | [], xs, o, h, n => by
    rw [setM, if_neg (by simp)]
  | v :: r, xs, o, h, n => by
    rw [List.length_cons] at h
    rw [setM, setM_at r (xs.set o v) (o + 1) (by rw [List.length_set]; omega) n, List.length_cons]
    by_cases h1 : o + 1 ≤ n ∧ n < o + 1 + r.length
    · rw [if_pos h1, if_pos (by omega), show n - o = (n - (o + 1)) + 1 by omega, List.getElem?_cons_succ]
    · rw [if_neg h1]
      by_cases h2 : n = o
      · subst h2
        rw [if_pos (by omega), Nat.sub_self, List.getElem?_cons_zero, List.getElem?_set, if_pos rfl, if_pos (by omega)]
      · rw [if_neg (by omega), List.getElem?_set, if_neg (by omega)]
theorem own_setCells {base : Nat} {e : TypeId} {size g n cap : Nat} : ∀ (vs : List Value) (o : Nat) (w : World) (xs : List Value), w.ownsRow base e size (.slice (some ⟨g, 0, none⟩) n cap) n xs →
    (w.setCells g o vs).ownsRow base e size (.slice (some ⟨g, 0, none⟩) n cap) n (setM xs o vs) ∧ w.grownBy (w.setCells g o vs) (some g)
  | [], o, w, xs, h => ⟨h, World.grownBy.refl _ _⟩
  | v :: r, o, w, xs, h => by
    obtain ⟨h1, h2⟩ := h.stored o v
    obtain ⟨h3, h4⟩ := own_setCells r (o + 1) _ _ h1
    exact ⟨h3, h2.trans h4⟩
theorem own_there {w : World} {base : Nat} {e : TypeId} {size g n cap o k : Nat} {xs : List Value} (h : w.ownsRow base e size (.slice (some ⟨g, 0, none⟩) n cap) n xs) (hk : o + k ≤ xs.length) : w.there g o k := fun j hj => by
  have hl := h.1
  refine ⟨?_, h.frozenAt _⟩
  rw [h.cellAt (o + j) (by omega), List.getElem?_eq_getElem (by omega)]
  rfl
theorem wpList_storeM {t : TypeId} {n : Nat} (T : StructOf t n) {ops : Array Oper} {rest : List Oper} {o : Oper} {a : Act} {Q : Exit → Act → World → Prop} {w : World} (hgd : o.guard = none) (p v : Operand) (ho : o.op = Op.store t p v)
    (g k : Nat) (cs : List Value) (hp : a.eval p = .pointer (some ⟨g, k, none⟩)) (hv : a.eval v = .agg cs.toArray) (ht : w.there g k n) (hn : cs.length = n) (h1 : ∀ u ∈ cs, u.oneCell' = true)
    (h : wpList Tryz.prog ops Q rest (a.put o.dst undef) (w.setCells g k cs)) : wpList Tryz.prog ops Q (o :: rest) a w :=
  wpList_store_mid hgd t p v ho g k cs.toArray hp hv (by simpa [hn] using ht) (by rw [T.size]; simp [hn]) (all_oneCell_toArray h1) (by simpa using h)
theorem step_storeM {t : TypeId} {n : Nat} (T : StructOf t n) {o : Oper} {a : Act} {w : World} {ops : Array Oper} {K : Act → World → Prop} {Q : Exit → Act → World → Prop} {E' : Prop} (hgd : o.guard = none) (p v : Operand) (ho : o.op = Op.store t p v)
    (g k : Nat) (cs : List Value) (hp : a.eval p = .pointer (some ⟨g, k, none⟩)) (hv : a.eval v = .agg cs.toArray) (ht : w.there g k n) (hn : cs.length = n) (h1 : ∀ u ∈ cs, u.oneCell' = true)
    (h : K (a.put o.dst undef) (w.setCells g k cs)) : if Region.wanted o (yielded ops a.tmps) = true then Oper.wp Tryz.prog o a w K Q else E' := by
  have hw : Region.wanted o (yielded ops a.tmps) = true := by simp [Region.wanted, hgd]
  rw [if_pos hw]
  exact wp_store_mid t p v ho g k cs.toArray hp hv (by simpa [hn] using ht) (by rw [T.size]; simp [hn]) (all_oneCell_toArray h1) (by simpa using h)
section
variable {X : Type} {r : Off X} {w : World} {P : Nat → Prop} {cs : List Value} {xs : List X}
/-- An element is replaced as a whole. -/
theorem EG.put (h : EG r w P cs xs) {i : Nat} {x' : X} (hi : i < xs.length) {c : List Value} (hc : c.length = r.rd.size) (hx : r.at_ w P c x') : EG r w P (setM cs (i * r.rd.size) c) (xs.set i x') := by
  have hm := mul_lt_end (s := r.rd.size) hi
  have hl := h.1
  refine ⟨by rw [setM_len, List.length_set]; exact h.1, fun k y hk => ?_⟩
  rw [List.getElem?_set] at hk
  by_cases hik : i = k
  · subst hik
    rw [if_pos rfl, if_pos hi] at hk
    cases hk
    have e : (List.take r.rd.size (List.drop (i * r.rd.size) (setM cs (i * r.rd.size) c))) = c := by
      apply List.ext_getElem?
      intro n
      rw [List.getElem?_take, List.getElem?_drop]
      by_cases hn : n < r.rd.size
      · rw [if_pos hn, setM_at _ _ _ (by omega), if_pos (by omega), show i * r.rd.size + n - i * r.rd.size = n by omega]
      · rw [if_neg hn, List.getElem?_eq_none (by omega)]
    rw [e]
    exact hx
  · rw [if_neg hik] at hk
    have hkl := (List.getElem?_eq_some_iff.1 hk).1
    have e : (List.take r.rd.size (List.drop (k * r.rd.size) (setM cs (i * r.rd.size) c))) = (List.take r.rd.size (List.drop (k * r.rd.size) cs)) := by
      apply List.ext_getElem?
      intro n
      rw [List.getElem?_take, List.getElem?_drop, List.getElem?_take, List.getElem?_drop]
      by_cases hn : n < r.rd.size
      · rw [if_pos hn, if_pos hn, setM_at _ _ _ (by omega), if_neg]
        rcases Nat.lt_or_ge i k with hlt | hge
        · have := mul_lt_end (s := r.rd.size) hlt
          omega
        · have := mul_lt_end (s := r.rd.size) (show k < i by omega)
          omega
      · rw [if_neg hn, if_neg hn]
    rw [e]
    exact h.2 k y hk
/-- The cells of a row that is read, as those of a row under construction. -/
theorem EG.of_cells {B : Nat} (h : CellsOf r.rd w B xs cs) (hr : ∀ c x, r.rd.at_ w B c x → r.at_ w P c x) : EG r w P cs xs := ⟨h.1, fun i x hi => by
  obtain ⟨c, h1, h2⟩ := h.2 i x hi
  have hl := r.rd.len h1
  have hm := mul_lt_end (s := r.rd.size) (List.getElem?_eq_some_iff.1 hi).1
  have hc := h.1
  have e : (List.take r.rd.size (List.drop (i * r.rd.size) cs)) = c := by
    apply List.ext_getElem?
    intro n
    rw [List.getElem?_take, List.getElem?_drop]
    by_cases hn : n < r.rd.size
    · rw [if_pos hn, List.getElem?_eq_getElem (show n < c.length by omega)]
      exact h2 n _ (List.getElem?_eq_getElem _)
    · rw [if_neg hn, List.getElem?_eq_none (by omega)]
  rw [e]
  exact hr c x h1⟩
end
/-- A row that is read lies in old blocks. -/
theorem RowOff.of_row {X : Type} {r : Off X} {w : World} {P : Nat → Prop} {B : Nat} {A : Option Addr} {l : List X} (h : RowAt r.rd w B A l) (hB : B ≤ w.heap.size) (hP : ∀ b, b < B → P b) (hr : ∀ c x, r.rd.at_ w B c x → r.at_ w P c x) : RowOff r w P A l := ⟨h.1, fun i x hi => by
  obtain ⟨ad, cs, h1, h2, h3, h4⟩ := h.2 i x hi
  exact ⟨ad, cs, h1, hP _ h2, Nat.lt_of_lt_of_le h2 hB, hr cs x h3, h4⟩⟩
end Go.Proofs.YtofabhenmplkoaaGreatDoor.off

/- An order appended to an instance's orders: the program. -/
import Derived.Test.YtceceomaheobhaaFlat
import Derived.Test.YtceceomaheobhaaInsJ
import Derived.Test.YtceceomaheobhaaOnlA
import Derived.Test.YtceceomaheobhaaSamP
import Derived.Deep.DeepCutAuto
import Derived.Deep.RegionHeld3
import Derived.Great.BuildSlice
namespace Go.Proofs.Ytceceomaheobhaa.ins
open Go.RowKit
open Go.Proofs.Ytceceomaheobhaa.lib Go.Proofs.Ytceceomaheobhaa.rd Go.Proofs.Ytceceomaheobhaa.typ Go.Proofs.Ytceceomaheobhaa.app Go.Proofs.Ytceceomaheobhaa.big Go.Proofs.Ytceceomaheobhaa.flts Go.Proofs.Ytceceomaheobhaa.ord
set_option linter.unusedVariables false
set_option linter.unusedSimpArgs false

section
variable {t e : TypeId} {z : Value} {size bytes : Nat} (E : ElemOf t e z size bytes)
include E
/-- A slice without room is appended to: the row is new. -/
theorem run_appClip (w : World) (A : Option Addr) (n : Nat) (CS : List Value) (hl : CS.length = n * size) (hA : 0 < n → ∃ ad, A = some ad) (hC : ∀ ad, A = some ad → CellsAt w ad CS) (ad2 : Addr) (c2 : Nat) (news : List Value) (hn2 : news.length = size) (hC2 : CellsAt w ad2 news) (h1 : ∀ u ∈ news, u.oneCell' = true) (hn : n ≤ 1000000) (ty : TypeId) :
    ∃ A' c' w', (Builtin.append_ #[t, t] ty #[.slice A n n, .slice (some ad2) 1 c2]).run Try.prog w = .ok (.slice A' (n + 1) c') w' ∧ w'.ownsRow w.heap.size e size (.slice A' (n + 1) c') (n + 1) (CS ++ news) ∧ w.grownBy w' none := by
  obtain ⟨i0, hi, hz0, hz1, hz2⟩ := info_parts E.info
  have hb := E.by_
  have hmul : (n + 1) * bytes ≤ (n + 1) * 100000 := Nat.mul_le_mul_left _ hb
  rcases A with _ | ad
  · have h0 : n = 0 := by
      rcases Nat.eq_zero_or_pos n with h | h
      · exact h
      · obtain ⟨ad, h⟩ := hA h
        cases h
    subst h0
    obtain rfl : CS = [] := List.eq_nil_of_length_eq_zero (by simpa using hl)
    obtain ⟨g', c', w', h2, h3, h4, _⟩ := run_app E w w.heap.size none 0 0 [] (World.ownsRow_nil _ _ _ _) ad2 c2 news hn2 hC2 h1 (by omega) (by unfold maxLen; omega) (Nat.le_refl _) ty
    exact ⟨_, c', w', h2, h3, h4⟩
  · obtain ⟨v', w', h2, h3, h4⟩ := run_append_arg_grows (P := Try.prog) w t ty e i0 z size bytes E.sl hi hz0 hz1 hz2 E.zs E.pos ad n n CS hl (hC ad rfl) ad2 1 c2 news (by omega) hC2 (by omega) (by unfold maxLen; omega) (by omega)
    obtain ⟨A', c', rfl⟩ := own_form h3
    exact ⟨A', c', w', h2, h3, h4⟩
theorem step_appClip {o : Oper} {a : Act} {w : World} {ops : Array Oper} {K : Act → World → Prop} {Q : Exit → Act → World → Prop} {E' : Prop} (hgd : o.guard = none) (s x : Operand)
    (ho : o.op = .call { callee := .builtin .append, args := #[s, x], argTypes := #[t, t] }) (A : Option Addr) (n : Nat) (CS : List Value) (hs : a.eval s = .slice A n n) (hl : CS.length = n * size) (hA : 0 < n → ∃ ad, A = some ad) (hC : ∀ ad, A = some ad → CellsAt w ad CS)
    (ad2 : Addr) (c2 : Nat) (news : List Value) (hx : a.eval x = .slice (some ad2) 1 c2) (hn2 : news.length = size) (hC2 : CellsAt w ad2 news) (h1 : ∀ u ∈ news, u.oneCell' = true) (hn : n ≤ 1000000)
    (h : ∀ A' c' w', w'.ownsRow w.heap.size e size (.slice A' (n + 1) c') (n + 1) (CS ++ news) → w.grownBy w' none → K (a.put o.dst (.slice A' (n + 1) c')) w') :
    if Region.wanted o (yielded ops a.tmps) = true then Oper.wp Try.prog o a w K Q else E' := by
  have hw : Region.wanted o (yielded ops a.tmps) = true := by simp [Region.wanted, hgd]
  rw [if_pos hw]
  obtain ⟨A', c', w', hr, h2, h3⟩ := run_appClip E w A n CS hl hA hC ad2 c2 news hn2 hC2 h1 hn o.type
  unfold Oper.wp execOp
  simp only [ho, resolve, invoke, builtin, Sem.run_bind, Sem.run_pure, Result.andThen_ok, List.map_toArray, List.map_cons, List.map_nil, hs, hx, hr]
  exact h A' c' w' h2 h3
/-- A slice literal of one struct. -/
theorem step_lit1 {o : Oper} {a : Act} {w : World} {ops : Array Oper} {K : Act → World → Prop} {Q : Exit → Act → World → Prop} {E' : Prop} (hgd : o.guard = none) (x : Operand) (ho : o.op = .buildSlice t 1 #[(0, x)])
    (cs : List Value) (zs : List Value) (hx : a.eval x = .agg cs.toArray) (hs : size ≤ 1000) (hz : (List.range (1 * size)).map (fun i => z.cells[i % z.cells.size]!) = zs) (hf : Instr.fill (fun i => some (i * size, size)) zs.toArray [(0, .agg cs.toArray)] = some cs.toArray)
    (h : K (a.put o.dst (.slice (some ⟨w.heap.size, 0, none⟩) 1 1)) (w.alloc (.cells cs.toArray e))) :
    if Region.wanted o (yielded ops a.tmps) = true then Oper.wp Try.prog o a w K Q else E' := by
  have hw : Region.wanted o (yielded ops a.tmps) = true := by simp [Region.wanted, hgd]
  rw [if_pos hw]
  obtain ⟨i0, hi, hz0, hz1, hz2⟩ := info_parts E.info
  have hp := E.pos
  refine wp_buildSlice t e 1 #[(0, x)] ho cs.toArray i0 z E.sl hi hz0 (by rw [hz1]; omega) (by rw [hz1]; omega) ?_ h
  have e1 : (Array.range (1 * i0.size)).map (fun i => z.cells[i % z.cells.size]!) = zs.toArray := by
    rw [hz1, ← hz]
    apply Array.ext'
    simp
  rw [e1, hz1]
  have e2 : (Array.map (fun x => match x with | (i, x) => (i, a.eval x)) #[(0, x)]).toList = [(0, .agg cs.toArray)] := by simp [hx]
  rw [e2]
  exact hf
end
def ordZs : List Value := [.string ⟨#[]⟩, .slice none 0 0, .int .i64 0, .int .i64 0, .int .i64 0, .int .i64 0, .int .i64 0, .int .i64 0, .int .i64 0, .int .i64 0, .int .i64 0, .int .i64 0, .int .i64 0, .int .i64 0, .int .i64 0, .bool false]
theorem ord_zs : (List.range (1 * 16)).map (fun i => (Value.agg #[.string ⟨#[]⟩, .slice none 0 0, .int .i64 0, .int .i64 0, .int .i64 0, .int .i64 0, .int .i64 0, .int .i64 0, .int .i64 0, .int .i64 0, .int .i64 0, .int .i64 0, .int .i64 0, .int .i64 0, .int .i64 0, .bool false]).cells[i % (Value.agg #[.string ⟨#[]⟩, .slice none 0 0, .int .i64 0, .int .i64 0, .int .i64 0, .int .i64 0, .int .i64 0, .int .i64 0, .int .i64 0, .int .i64 0, .int .i64 0, .int .i64 0, .int .i64 0, .int .i64 0, .int .i64 0, .bool false]).cells.size]!) = ordZs := by kernel_rfl
theorem ord_fill1 (o : Ord) (C : Option Addr) (c : Nat) : Instr.fill (fun i => some (i * 16, 16)) ordZs.toArray [(0, .agg (OrdCells o C c).toArray)] = some (OrdCells o C c).toArray := by kernel_rfl
/-- An instance with one more order. -/
def addI (x : Ins) (o : Ord) : Ins := ⟨x.net, x.types, x.orders ++ [o], x.apart, x.before⟩
def addR (x : Ins) (o : Ord) : Ins × Int := if 10 ≤ x.orders.length then (nilI, 4) else match insF (addI x o) with
  | [] => (addI x o, 0)
  | f :: _ => (nilI, f.err)
theorem addR_full {x : Ins} {o : Ord} (h : 10 ≤ x.orders.length) : addR x o = (nilI, 4) := by unfold addR; rw [if_pos h]
theorem addR_good {x : Ins} {o : Ord} (h : ¬ 10 ≤ x.orders.length) (hf : insF (addI x o) = []) : addR x o = (addI x o, 0) := by unfold addR; rw [if_neg h, hf]
theorem addR_bad {x : Ins} {o : Ord} {f : Flt} {fs : List Flt} (h : ¬ 10 ≤ x.orders.length) (hf : insF (addI x o) = f :: fs) : addR x o = (nilI, f.err) := by unfold addR; rw [if_neg h, hf]
/-- What Add hands back. -/
def AddOutI (x : Ins) (o : Ord) (w : World) (e : Ending) (w' : World) : Prop := ∃ P, e = .returned (.tuple #[InV (addR x o).1 P, .int .i64 (addR x o).2]) ∧ InAt w' w'.heap.size (addR x o).1 P ∧ Below w.heap.size w w'
theorem nil_at (w : World) : InAt w w.heap.size nilI nilP := ⟨RowAt.nil, RowAt.nil, RowAt.nil, RowAt.nil, RowAt.nil, RowAt.nil, Nat.le_refl _, Nat.le_refl _, Nat.le_refl _, Nat.le_refl _⟩
end Go.Proofs.Ytceceomaheobhaa.ins

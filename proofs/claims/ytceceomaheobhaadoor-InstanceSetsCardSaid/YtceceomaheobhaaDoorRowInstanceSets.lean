import Derived.Test.YtceceomaheobhaaDoorInsA
import Derived.Test.YtceceomaheobhaaDoorOnlA
import Derived.RangeFuncBox
import Derived.Deep.DeepCutAuto
import Derived.Outline
import Derived.Test.YtceceomaheobhaaDoorLib
import Derived.Test.YtceceomaheobhaaDoorApp
import Derived.Laws.Tables
import Derived.Great.BuildSlice
import Derived.Laws.Rows
import Derived.Test.YtceceomaheobhaaDoorInsJ
import Derived.Test.YtceceomaheobhaaDoorMgA
import Derived.Test.YtceceomaheobhaaDoorOnlB
import Derived.BigRegion
import Derived.Test.YtceceomaheobhaaDoorCards
import Derived.Test.YtceceomaheobhaaDoorTie
import Derived.WalkKit
import Derived.ProofKit
import Derived.OpenShut
import Derived.Deep.DeepHandedRow
import Derived.Lib.LaidTab
import Derived.Shelf.Spec.TrailingZeros
import Derived.Test.YtceceomaheobhaaDoorRd
import Derived.SizedLaws
import Derived.ShutString
import Derived.ChangeOld
import Derived.Below
import Derived.Lib.SmallJoins
import Derived.Deep.Slices
import Derived.Carry
/- The examples of layer 13: little. -/
namespace Go.Proofs.YtceceomaheobhaaDoor.ins
open Go.RowKit
open Go.Proofs.YtceceomaheobhaaDoor.lib Go.Proofs.YtceceomaheobhaaDoor.rd Go.Proofs.YtceceomaheobhaaDoor.typ
set_option linter.unusedVariables false
set_option linter.unusedSimpArgs false

/-- Elements in a block that is written out. -/
theorem row_blk {X : Type} {r : Rd X} {w : World} {B g : Nat} {cs : List Value} {x : X} {t : TypeId} {fr : Nat × Nat} (h : w.heap[g]? = some (.cells cs.toArray t fr)) (hg : g < B) (hr : r.at_ w B cs x) : RowAt r w B (some ⟨g, 0, none⟩) [x] := by
  refine ⟨by simp, fun i y hi => ?_⟩
  rcases i with _ | i
  · simp at hi
    subst hi
    refine ⟨_, cs, rfl, hg, hr, fun j u hu => ?_⟩
    rw [Nat.zero_mul, Nat.zero_add]
    exact World.news_of_block (w := w) (B := g) h j u (by simpa using hu)
  · simp at hi
theorem row_blk2 {X : Type} {r : Rd X} {w : World} {B g : Nat} {cs cs' : List Value} {x x' : X} {t : TypeId} {fr : Nat × Nat} (h : w.heap[g]? = some (.cells (cs ++ cs').toArray t fr)) (hg : g < B) (hr : r.at_ w B cs x) (hr' : r.at_ w B cs' x') : RowAt r w B (some ⟨g, 0, none⟩) [x, x'] := by
  have hl := r.len hr
  have hl' := r.len hr'
  have hnew := fun j u hu => World.news_of_block (w := w) (B := g) h j u hu
  refine ⟨by simp, fun i y hi => ?_⟩
  rcases i with _ | _ | i
  · simp at hi
    subst hi
    refine ⟨_, cs, rfl, hg, hr, fun j u hu => ?_⟩
    rw [Nat.zero_mul, Nat.zero_add]
    exact hnew j u (by rw [List.getElem?_append_left (List.getElem?_eq_some_iff.1 hu).1]; exact hu)
  · simp at hi
    subst hi
    refine ⟨_, cs', rfl, hg, hr', fun j u hu => ?_⟩
    rw [Nat.zero_add, Nat.one_mul]
    exact hnew (r.size + j) u (by rw [List.getElem?_append_right (by omega), hl, Nat.add_sub_cancel_left]; exact hu)
  · simp at hi
theorem ints_blk {w : World} {B g : Nat} {l : List Int} {t : TypeId} {fr : Nat × Nat} (h : w.heap[g]? = some (.cells (l.map (.int .i64)).toArray t fr)) (hg : g < B) (hl : l.length ≤ 17592186043904) : Ints w B (some ⟨g, 0, none⟩) l :=
  ⟨⟨by simp, fun _ => ⟨_, rfl, hg, fun j u hu => World.news_of_block (w := w) (B := g) h j u (by simpa using hu)⟩⟩, hl⟩

def oaO : Ord := ⟨⟨#[111, 97]⟩, [1], ⟨-1, 0, 0, 0⟩, ⟨0, 0, 50, 0⟩, 0, -1, 1, -1, -1, false⟩
def obO : Ord := ⟨⟨#[111, 98]⟩, [1], ⟨-1, 0, 0, 0⟩, ⟨0, 0, 50, 0⟩, 0, 0, 1, -1, -1, false⟩
def vanI : Ty := ⟨⟨#[118, 97, 110]⟩, 1, 0, 0, [5], 0, 0, 0, 100, 50, 0, 0, 0, 0⟩
def hubS : ByteArray := ⟨#[104, 117, 98]⟩
def littleI : Ins := ⟨⟨[hubS], []⟩, [vanI], [oaO, obO], [(0, 1)], []⟩
theorem oa_fits : OrdFits oaO := by unfold OrdFits StpFits oaO; decide
theorem ob_fits : OrdFits obO := by unfold OrdFits StpFits obO; decide
theorem van_fits : TyFits vanI := by unfold TyFits vanI; decide
def littleP (k : Nat) : InP := ⟨some ⟨k + 1 + 1 + 1 + 1 + 1 + 1, 0, none⟩, 1, none, 0, some ⟨k + 1 + 1 + 1 + 1 + 1 + 1 + 1, 0, none⟩, 1, some ⟨k + 1 + 1 + 1 + 1 + 1 + 1 + 1 + 1, 0, none⟩, 2, some ⟨k + 1 + 1 + 1 + 1 + 1 + 1 + 1 + 1 + 1, 0, none⟩, 1, none, 0⟩
def littleCells (k : Nat) : List Value := [.slice (some ⟨k + 1 + 1 + 1 + 1 + 1 + 1, 0, none⟩) 1 1, .slice none 0 0, .slice (some ⟨k + 1 + 1 + 1 + 1 + 1 + 1 + 1, 0, none⟩) 1 1, .slice (some ⟨k + 1 + 1 + 1 + 1 + 1 + 1 + 1 + 1, 0, none⟩) 2 2, .slice (some ⟨k + 1 + 1 + 1 + 1 + 1 + 1 + 1 + 1 + 1, 0, none⟩) 1 1, .slice none 0 0]
def LittleOut (w : World) (e : Ending) (w' : World) : Prop := ∃ P : InP, e = .returned (InV littleI P) ∧ InAt w' w'.heap.size littleI P ∧ Below w.heap.size w w'
end Go.Proofs.YtceceomaheobhaaDoor.ins

/- Loads and stores of whole structs in one step: the cells are not unrolled. Portable. -/
namespace Go.Proofs.YtceceomaheobhaaDoor.big
open Go.RowKit
open Go.Proofs.YtceceomaheobhaaDoor.lib Go.Proofs.YtceceomaheobhaaDoor.app
set_option linter.unusedVariables false

/-- What is known of a struct's type. -/
structure StructOf (t : TypeId) (n : Nat) : Prop where
  un : ∃ fs, Tryd.prog.underlying t = some (.struct fs)
  size : (Tryd.prog.info? t).map (·.size) = some n
theorem run_loadB {t : TypeId} {n : Nat} (T : StructOf t n) {w : World} {g : Nat} {cs : Array Value} {fr : Nat × Nat} (hb : w.heap[g]? = some (.cells cs t fr)) (hn : cs.size = n) : (Instr.loadAt t (.pointer (some ⟨g, 0, none⟩))).run Tryd.prog w = .ok (.agg cs) w := by
  obtain ⟨fs, hu⟩ := T.un
  simp only [Instr.loadAt, Instr.sureAddr, Sem.run_bind, Sem.run_pure, Result.andThen]
  exact run_loadVar_row w g t t cs fr _ hb hu rfl (by rw [T.size, hn])
theorem wpList_loadB {t : TypeId} {n : Nat} (T : StructOf t n) {ops : Array Oper} {rest : List Oper} {o : Oper} {a : Act} {Q : Exit → Act → World → Prop} {w : World} (hgd : o.guard = none) (p : Operand) (ho : o.op = Op.load t p)
    (g : Nat) (cs : Array Value) (fr : Nat × Nat) (hp : a.eval p = .pointer (some ⟨g, 0, none⟩)) (hb : w.heap[g]? = some (.cells cs t fr)) (hn : cs.size = n) (h : wpList Tryd.prog ops Q rest (a.put o.dst (.agg cs)) w) : wpList Tryd.prog ops Q (o :: rest) a w := by
  refine wpList_plain hgd fun _ hK => ?_
  have hr := run_loadB T hb hn
  unfold Oper.wp execOp
  simp only [ho, hp, Sem.run_bind, hr, Result.andThen_ok, Sem.run_pure]
  exact hK _ _ h
theorem wpList_storeB {t : TypeId} {n : Nat} (T : StructOf t n) {ops : Array Oper} {rest : List Oper} {o : Oper} {a : Act} {Q : Exit → Act → World → Prop} {w : World} (hgd : o.guard = none) (p v : Operand) (ho : o.op = Op.store t p v)
    (g : Nat) (old cs : Array Value) (hp : a.eval p = .pointer (some ⟨g, 0, none⟩)) (hv : a.eval v = .agg cs) (hb : w.heap[g]? = some (.cells old t (0, 0))) (hold : old.size = n) (hn : cs.size = n) (h1 : cs.all (·.oneCell') = true)
    (h : ∀ w', w'.heap[g]? = some (.cells cs t (0, 0)) → (∀ k, k ≠ g → w'.heap[k]? = w.heap[k]?) → w'.heap.size = w.heap.size → Below g w w' → wpList Tryd.prog ops Q rest (a.put o.dst undef) w') : wpList Tryd.prog ops Q (o :: rest) a w := by
  refine wpList_plain hgd fun _ hK => ?_
  have hr := run_storeVar_row (P := Tryd.prog) w g t t old cs hb (by rw [T.size, hn]) (by rw [hold, hn]) h1
  have hr2 : (Instr.storeAt t (.pointer (some ⟨g, 0, none⟩)) (.agg cs)).run Tryd.prog w = .ok () (w.setRow g cs) := by
    simp only [Instr.storeAt, Instr.sureAddr, Sem.run_bind, Sem.run_pure, Result.andThen]
    exact hr
  unfold Oper.wp execOp
  simp only [ho, hp, hv, Sem.run_bind, hr2, Result.andThen_ok, Sem.run_pure]
  have hot : ∀ k, k ≠ g → (w.setRow g cs).heap[k]? = w.heap[k]? := fun k hk => by
    simp only [World.setRow, Array.getElem?_modify]
    rw [if_neg (fun e => hk e.symm)]
  have hsz : (w.setRow g cs).heap.size = w.heap.size := by simp [World.setRow]
  exact hK _ _ (h _ (setRow_heap w g old cs t (0, 0) hb) hot hsz ⟨rfl, rfl, rfl, Nat.le_of_eq hsz.symm, fun k hk => hot k (by omega)⟩)
/-- The same, by lists. -/
theorem wpList_storeL {t : TypeId} {n : Nat} (T : StructOf t n) {ops : Array Oper} {rest : List Oper} {o : Oper} {a : Act} {Q : Exit → Act → World → Prop} {w : World} (hgd : o.guard = none) (p v : Operand) (ho : o.op = Op.store t p v)
    (g : Nat) (old cs : List Value) (hp : a.eval p = .pointer (some ⟨g, 0, none⟩)) (hv : a.eval v = .agg cs.toArray) (hb : w.heap[g]? = some (.cells old.toArray t (0, 0))) (hold : old.length = n) (hn : cs.length = n) (h1 : ∀ u ∈ cs, u.oneCell' = true)
    (h : ∀ w', w'.heap[g]? = some (.cells cs.toArray t (0, 0)) → (∀ k, k ≠ g → w'.heap[k]? = w.heap[k]?) → w'.heap.size = w.heap.size → Below g w w' → wpList Tryd.prog ops Q rest (a.put o.dst undef) w') : wpList Tryd.prog ops Q (o :: rest) a w :=
  wpList_storeB T hgd p v ho g old.toArray cs.toArray hp hv hb (by simpa using hold) (by simpa using hn) (Array.all_eq_true_iff_forall_mem.2 fun u hu => h1 u (by simpa using hu)) h
/-- A struct built in one step: what the build yields is shown by the kernel. -/
theorem wpList_buildB {t : TypeId} {ops : Array Oper} {rest : List Oper} {o : Oper} {a : Act} {Q : Exit → Act → World → Prop} {w : World} (hgd : o.guard = none) (parts : Array (Nat × Operand)) (ho : o.op = Op.build t parts) (v : Value)
    (hr : ∀ w : World, (Instr.build t (parts.map fun p => (p.1, a.eval p.2))).run Tryd.prog w = .ok v w) (h : wpList Tryd.prog ops Q rest (a.put o.dst v) w) : wpList Tryd.prog ops Q (o :: rest) a w := by
  refine wpList_plain hgd fun _ hK => ?_
  unfold Oper.wp execOp
  simp only [ho, Sem.run_bind, hr, Result.andThen_ok, Sem.run_pure]
  exact hK _ _ h
/-- What a build asks of a struct's type. -/
structure BuildOf (t : TypeId) (z : Value) (places : Array (Nat × Nat)) : Prop where
  un : ∃ fs, Tryd.prog.underlying t = some (.struct fs) ∧ ∀ w, (fs.mapM fun f => do pure (f.offset, ← sizeOf f.type) : Sem (Array (Nat × Nat))).run Tryd.prog w = .ok places w
  zero : ∀ w, (zeroValue t).run Tryd.prog w = .ok z w
theorem run_buildF {t : TypeId} {z : Value} {places : Array (Nat × Nat)} (T : BuildOf t z places) {parts : Array (Nat × Value)} {cells : Array Value} (hf : Instr.fill (places[·]?) z.cells parts.toList = some cells) (w : World) : (Instr.build t parts).run Tryd.prog w = .ok (.agg cells) w := by
  obtain ⟨fs, hu, hp⟩ := T.un
  unfold Instr.build
  simp only [Sem.run_bind, T.zero, Result.andThen_ok, run_underlying hu, hp, hf, Sem.run_pure]
/-- A struct built in one step; the parts, evaluated, as a list. -/
theorem wpList_buildL {t : TypeId} {z : Value} {places : Array (Nat × Nat)} (T : BuildOf t z places) {ops : Array Oper} {rest : List Oper} {o : Oper} {a : Act} {Q : Exit → Act → World → Prop} {w : World} (hgd : o.guard = none) (parts : List (Nat × Operand)) (ho : o.op = Op.build t parts.toArray) (vals : List (Nat × Value)) (cells : List Value)
    (hv : parts.map (fun p => (p.1, a.eval p.2)) = vals) (hf : Instr.fill (places[·]?) z.cells vals = some cells.toArray) (h : wpList Tryd.prog ops Q rest (a.put o.dst (.agg cells.toArray)) w) : wpList Tryd.prog ops Q (o :: rest) a w :=
  wpList_buildB hgd parts.toArray ho (.agg cells.toArray) (fun w => run_buildF T (by rw [List.map_toArray, hv]; exact hf) w) h
/-- A slice literal of structs in one step. -/
theorem wpList_bsliceL {t e : TypeId} {z : Value} {size bytes : Nat} (E : ElemOf t e z size bytes) {ops : Array Oper} {rest : List Oper} {o : Oper} {a : Act} {Q : Exit → Act → World → Prop} {w : World} (hgd : o.guard = none) (len : Nat) (parts : List (Nat × Operand)) (ho : o.op = Op.buildSlice t len parts.toArray)
    (vals : List (Nat × Value)) (cells zs : List Value) (hv : parts.map (fun p => (p.1, a.eval p.2)) = vals) (hl : 0 < len) (hs : len * size ≤ 1000) (hz : (List.range (len * size)).map (fun i => z.cells[i % z.cells.size]!) = zs)
    (hf : Instr.fill (fun i => some (i * size, size)) zs.toArray vals = some cells.toArray) (h : wpList Tryd.prog ops Q rest (a.put o.dst (.slice (some ⟨w.heap.size, 0, none⟩) len len)) (w.alloc (.cells cells.toArray e))) : wpList Tryd.prog ops Q (o :: rest) a w := by
  obtain ⟨i0, hi, hz0, hz1, hz2⟩ := info_parts E.info
  have hp := E.pos
  have hpos : 0 < len * size := Nat.mul_pos hl hp
  refine wpList_buildSlice hgd t e len parts.toArray ho cells.toArray i0 z E.sl hi hz0 (by rw [hz1]; omega) (by rw [hz1]; omega) ?_ h
  have e1 : (Array.range (len * i0.size)).map (fun i => z.cells[i % z.cells.size]!) = zs.toArray := by
    rw [hz1, ← hz]
    apply Array.ext'
    simp
  rw [e1, List.map_toArray, hz1]
  have e2 : (parts.map fun x => match x with | (i, x) => (i, a.eval x)) = vals := by rw [← hv]
  rw [e2]
  exact hf
end Go.Proofs.YtceceomaheobhaaDoor.big

/- The examples of layer 13: little. -/
namespace Go.Proofs.YtceceomaheobhaaDoor.ins
open Go.RowKit
open Go.Proofs.YtceceomaheobhaaDoor.lib Go.Proofs.YtceceomaheobhaaDoor.rd Go.Proofs.YtceceomaheobhaaDoor.typ Go.Proofs.YtceceomaheobhaaDoor.big Go.Proofs.YtceceomaheobhaaDoor.app
set_option linter.unusedVariables false
set_option linter.unusedSimpArgs false

theorem sOrd : StructOf 51 16 := ⟨⟨_, Tryd.underlying51⟩, by kernel_rfl⟩
theorem sTy : StructOf 47 14 := ⟨⟨_, Tryd.underlying47⟩, by kernel_rfl⟩
theorem sIns : StructOf 30 6 := ⟨⟨_, Tryd.underlying30⟩, by kernel_rfl⟩
def zOrd : List Value := [.string ⟨#[]⟩, .slice none 0 0, .int .i64 0, .int .i64 0, .int .i64 0, .int .i64 0, .int .i64 0, .int .i64 0, .int .i64 0, .int .i64 0, .int .i64 0, .int .i64 0, .int .i64 0, .int .i64 0, .int .i64 0, .bool false]
def zTy : List Value := [.string ⟨#[]⟩, .int .i64 0, .int .i64 0, .int .i64 0, .slice none 0 0, .int .i64 0, .int .i64 0, .int .i64 0, .int .i64 0, .int .i64 0, .int .i64 0, .int .i64 0, .int .i64 0, .int .i64 0]
theorem bOrd : BuildOf 51 (.agg zOrd.toArray) #[(0, 1), (1, 1), (2, 4), (6, 4), (10, 1), (11, 1), (12, 1), (13, 1), (14, 1), (15, 1)] := ⟨⟨_, Tryd.underlying51, fun w => by kernel_rfl⟩, fun w => by kernel_rfl⟩
theorem bTy : BuildOf 47 (.agg zTy.toArray) #[(0, 1), (1, 1), (2, 1), (3, 1), (4, 1), (5, 1), (6, 1), (7, 1), (8, 1), (9, 1), (10, 1), (11, 1), (12, 1), (13, 1)] := ⟨⟨_, Tryd.underlying47, fun w => by kernel_rfl⟩, fun w => by kernel_rfl⟩
theorem heap_old (W : World) (o : Obj) (k : Nat) (hk : k < W.heap.size) : (W.alloc o).heap[k]? = W.heap[k]? := Below.heap_alloc _ _ _ hk
def TBlk (w : World) (k : Nat) (t : Ty) (C : Option Addr) (c : Nat) : Prop := w.heap[k]? = some (.cells (TyCells t C c).toArray 47 (0, 0))
def IBlk (w : World) (k : Nat) (x : Int) : Prop := w.heap[k]? = some (.cells #[.int .i64 x] 3 (0, 0))
/-- Where little stands: the blocks that lie. -/
structure LtlA (w wx : World) : Prop where
  res : SixAt wx w.heap.size nilCs
  ld : IBlk wx (w.heap.size + 1) 1
  oa : ord.OrBlk wx (w.heap.size + 1 + 1) oaO (some ⟨w.heap.size + 1, 0, none⟩) 1
  bel : Below w.heap.size w wx
structure LtlB (o : Ord) (w wx : World) : Prop where
  a : LtlA w wx
  ob : ord.OrBlk wx (w.heap.size + 1 + 1 + 1) o (some ⟨w.heap.size + 1, 0, none⟩) 1
structure LtlC (w wx : World) : Prop where
  b : LtlB obO w wx
  cp : IBlk wx (w.heap.size + 1 + 1 + 1 + 1) 5
  ty : TBlk wx (w.heap.size + 1 + 1 + 1 + 1 + 1) vanI (some ⟨w.heap.size + 1 + 1 + 1 + 1, 0, none⟩) 1
theorem LtlA.keep {w wx wy : World} (h : LtlA w wx) (hk : ∀ k, k < w.heap.size + 1 + 1 + 1 → wy.heap[k]? = wx.heap[k]?) (hb : Below w.heap.size w wy) : LtlA w wy :=
  ⟨(hk _ (by omega)).trans h.res, (hk _ (by omega)).trans h.ld, (hk _ (by omega)).trans h.oa, hb⟩
def ob1O : Ord := { oaO with name := ⟨#[111, 98]⟩ }
theorem ordBlk_frozen {w : World} {k : Nat} {o : Ord} {C : Option Addr} {c : Nat} (h : ord.OrBlk w k o C c) (i : Nat) : w.frozen? ⟨k, i, none⟩ = false := by simp [World.frozen?, show w.heap[k]? = _ from h]
theorem tyCells_one (o : Ty) (C : Option Addr) (c : Nat) : ∀ u ∈ TyCells o C c, u.oneCell' = true := fun u hu => by
  simp only [TyCells, List.mem_cons, List.not_mem_nil, or_false] at hu
  rcases hu with rfl | rfl | rfl | rfl | rfl | rfl | rfl | rfl | rfl | rfl | rfl | rfl | rfl | rfl <;> rfl
theorem LtlB.set {w wx : World} {o o' : Ord} (h : LtlB o w wx) (i : Nat) (u : Value) (hs : wx.heap.size = w.heap.size + 1 + 1 + 1 + 1) (e : ((OrdCells o (some ⟨w.heap.size + 1, 0, none⟩) 1).toArray.setIfInBounds i u) = (OrdCells o' (some ⟨w.heap.size + 1, 0, none⟩) 1).toArray) : LtlB o' w (wx.setCell ⟨w.heap.size + 1 + 1 + 1, i, none⟩ u) := by
  refine ⟨h.a.keep (fun k hk => Below.heap_setCell _ _ _ _ (show k ≠ w.heap.size + 1 + 1 + 1 by omega)) (h.a.bel.setCell (p := ⟨w.heap.size + 1 + 1 + 1, i, none⟩) (show w.heap.size ≤ w.heap.size + 1 + 1 + 1 by omega) u), ?_⟩
  have h1 := heap_setCell_same wx (w.heap.size + 1 + 1 + 1) i _ _ u h.ob
  rw [e] at h1
  exact h1
theorem oa_fill (ad : Addr) : Instr.fill ((#[(0, 1), (1, 1), (2, 4), (6, 4), (10, 1), (11, 1), (12, 1), (13, 1), (14, 1), (15, 1)] : Array (Nat × Nat))[·]?) (Value.agg zOrd.toArray).cells [(0, .string ⟨#[111, 97]⟩), (1, .slice (some ad) 1 1), (2, .agg #[.int .i64 (-1), .int .i64 0, .int .i64 0, .int .i64 0]), (3, .agg #[.int .i64 0, .int .i64 0, .int .i64 50, .int .i64 0]), (5, .int .i64 (-1)), (6, .int .i64 1), (7, .int .i64 (-1)), (8, .int .i64 (-1))] = some (OrdCells oaO (some ad) 1).toArray := by kernel_rfl
theorem van_fill (ad : Addr) : Instr.fill ((#[(0, 1), (1, 1), (2, 1), (3, 1), (4, 1), (5, 1), (6, 1), (7, 1), (8, 1), (9, 1), (10, 1), (11, 1), (12, 1), (13, 1)] : Array (Nat × Nat))[·]?) (Value.agg zTy.toArray).cells [(0, .string ⟨#[118, 97, 110]⟩), (1, .int .i64 1), (4, .slice (some ad) 1 1), (8, .int .i64 100), (9, .int .i64 50)] = some (TyCells vanI (some ad) 1).toArray := by kernel_rfl
def ltlCs (k : Nat) : List Value := [.slice (some ⟨k, 0, none⟩) 1 1, .slice none 0 0, .slice (some ⟨k + 1, 0, none⟩) 1 1, .slice (some ⟨k + 1 + 1, 0, none⟩) 2 2, .slice (some ⟨k + 1 + 1 + 1, 0, none⟩) 1 1, .slice none 0 0]
theorem ltlCs_one (k : Nat) : ∀ u ∈ ltlCs k, u.oneCell' = true := fun u hu => by
  simp only [ltlCs, List.mem_cons, List.not_mem_nil, or_false] at hu
  rcases hu with rfl | rfl | rfl | rfl | rfl | rfl <;> rfl
def ltlP (k : Nat) : InP := ⟨some ⟨k, 0, none⟩, 1, none, 0, some ⟨k + 1, 0, none⟩, 1, some ⟨k + 1 + 1, 0, none⟩, 2, some ⟨k + 1 + 1 + 1, 0, none⟩, 1, none, 0⟩
theorem ty_elem : ElemOf 26 47 (.agg zTy.toArray) 14 136 := ⟨Tryd.underlying26, by kernel_rfl, rfl, by decide, by decide⟩
theorem ord_elem' : ElemOf 27 51 (.agg zOrd.toArray) 16 152 := ⟨Tryd.underlying27, by kernel_rfl, rfl, by decide, by decide⟩
theorem ty_range : (List.range (1 * 14)).map (fun i => (Value.agg zTy.toArray).cells[i % (Value.agg zTy.toArray).cells.size]!) = zTy := by kernel_rfl
theorem ord_range : (List.range (2 * 16)).map (fun i => (Value.agg zOrd.toArray).cells[i % (Value.agg zOrd.toArray).cells.size]!) = zOrd ++ zOrd := by kernel_rfl
theorem ty_fill (ad : Addr) : Instr.fill (fun i => some (i * 14, 14)) zTy.toArray [(0, .agg (TyCells vanI (some ad) 1).toArray)] = some (TyCells vanI (some ad) 1).toArray := by kernel_rfl
theorem ord_fill (ad : Addr) : Instr.fill (fun i => some (i * 16, 16)) (zOrd ++ zOrd).toArray [(0, .agg (OrdCells oaO (some ad) 1).toArray), (1, .agg (OrdCells obO (some ad) 1).toArray)] = some (OrdCells oaO (some ad) 1 ++ OrdCells obO (some ad) 1).toArray := by kernel_rfl
set_option maxRecDepth 20000 in
set_option maxHeartbeats 2000000 in
theorem little_any (w : World) : Calls Tryd.prog 16 #[] w (LittleOut w) := by
  go_enter Tryd.func16, Tryd.ntmps16
  go_upto_region 1 with fail
  go_cut [1] (fun p wx => p = .pointer (some ⟨w.heap.size + 1 + 1, 0, none⟩) ∧ LtlA w wx ∧ wx.heap.size = w.heap.size + 1 + 1 + 1)
  case first => as_aux_lemma =>
    have hb : (((w.alloc (.cells nilCs.toArray 30)).alloc (.cells #[.int .i64 1] 3)).alloc (.cells zOrd.toArray 51)).heap[w.heap.size + 1 + 1]? = some (.cells zOrd.toArray 51 (0, 0)) := by
      have h := World.alloc_heap_new ((w.alloc (.cells nilCs.toArray 30)).alloc (.cells #[.int .i64 1] 3)) (.cells zOrd.toArray 51)
      rw [World.size_alloc, World.size_alloc] at h
      exact h
    have hb0 : (((w.alloc (.cells nilCs.toArray 30)).alloc (.cells #[.int .i64 1] 3)).alloc (.cells zOrd.toArray 51)).heap[w.heap.size]? = some (.cells nilCs.toArray 30 (0, 0)) := by
      rw [heap_old _ _ _ (by simp <;> omega), heap_old _ _ _ (by simp)]
      exact World.alloc_heap_new w _
    have hb1 : (((w.alloc (.cells nilCs.toArray 30)).alloc (.cells #[.int .i64 1] 3)).alloc (.cells zOrd.toArray 51)).heap[w.heap.size + 1]? = some (.cells #[.int .i64 1] 3 (0, 0)) := by
      rw [heap_old _ _ _ (by simp)]
      have h := World.alloc_heap_new (w.alloc (.cells nilCs.toArray 30)) (.cells #[.int .i64 1] 3)
      rw [World.size_alloc] at h
      exact h
    have hB : Below w.heap.size w (((w.alloc (.cells nilCs.toArray 30)).alloc (.cells #[.int .i64 1] 3)).alloc (.cells zOrd.toArray 51)) := (((Below.refl _ _).alloc (Nat.le_refl _) _).alloc (by simp) _).alloc (by simp <;> omega) _
    have hS : (((w.alloc (.cells nilCs.toArray 30)).alloc (.cells #[.int .i64 1] 3)).alloc (.cells zOrd.toArray 51)).heap.size = w.heap.size + 1 + 1 + 1 := by simp
    have H := Lib.hid (And.intro hb (And.intro hb0 (And.intro hb1 (And.intro hB hS))))
    clear hb hb0 hb1 hB hS
    go_wp2_with (first
      | ((with_reducible refine wpList_buildL bOrd rfl _ rfl _ (OrdCells oaO (some ⟨w.heap.size + 1, 0, none⟩) 1) ?_ (oa_fill _) ?_); exact rfl)
      | ((with_reducible refine wpList_storeL (t := 51) sOrd rfl _ _ rfl (w.heap.size + 1 + 1) zOrd (OrdCells oaO (some ⟨w.heap.size + 1, 0, none⟩) 1) ?_ ?_ ?_ ?_ ?_ (ordCells_one _ _ _) ?_); exact rfl; exact rfl; exact H.out.1; exact rfl; exact rfl; intro w1 k1 k2 k3 k4; have K := Lib.hid (And.intro k1 (And.intro k2 (And.intro k3 k4))); clear k1 k2 k3 k4))
    go_meet
    obtain ⟨k1, k2, k3, k4⟩ := K.out
    refine ⟨rfl, ⟨(k2 _ (by omega)).trans H.out.2.1, (k2 _ (by omega)).trans H.out.2.2.1, k1, H.out.2.2.2.1.trans (k4.mono (by omega))⟩, k3.trans H.out.2.2.2.2⟩
  obtain ⟨h1, hA, hs⟩ := hcut
  subst h1
  have HA := Lib.hid hA
  have HS := Lib.hid hs
  clear hA hs
  go_upto_region 2 with fail
  go_cut [2] (fun p wx => p = .pointer (some ⟨w.heap.size + 1 + 1 + 1, 0, none⟩) ∧ LtlB oaO w wx ∧ wx.heap.size = w.heap.size + 1 + 1 + 1 + 1)
  case first => as_aux_lemma =>
    go_wp2_with (first
      | ((with_reducible refine wpList_loadB sOrd rfl _ rfl (w.heap.size + 1 + 1) (OrdCells oaO (some ⟨w.heap.size + 1, 0, none⟩) 1).toArray (0, 0) ?_ ?_ ?_ ?_); exact rfl; exact HA.out.oa; exact rfl)
      | ((with_reducible refine wpList_storeL (t := 51) sOrd rfl _ _ rfl wc.heap.size zOrd (OrdCells oaO (some ⟨w.heap.size + 1, 0, none⟩) 1) ?_ ?_ ?_ ?_ ?_ (ordCells_one _ _ _) ?_); exact rfl; exact rfl; exact World.alloc_heap_new wc _; exact rfl; exact rfl; intro w1 k1 k2 k3 k4; have K := Lib.hid (And.intro k1 (And.intro k2 (And.intro k3 k4))); clear k1 k2 k3 k4))
    go_meet
    obtain ⟨k1, k2, k3, k4⟩ := K.out
    have e := HS.out
    refine ⟨by rw [e], ⟨HA.out.keep (fun k hk => (k2 k (by omega)).trans (heap_old _ _ _ (by omega))) (((HA.out.bel.alloc (by omega) _).trans (k4.mono (by omega)))), ?_⟩, by rw [k3, World.size_alloc, e]⟩
    rw [e] at k1
    exact k1
  obtain ⟨h2, hB, hs⟩ := hcut
  subst h2
  clear HA HS
  have HB := Lib.hid hB
  have HS := Lib.hid hs
  obtain ⟨m0, -⟩ := hB.ob.cells
  have f0 := ordBlk_frozen hB.ob 0
  clear hB hs
  go_upto_region 3 with fail
  go_cut [] (fun wx => LtlB ob1O w wx ∧ wx.heap.size = w.heap.size + 1 + 1 + 1 + 1)
  case first => as_aux_lemma =>
    go_wp2
    go_meet
    exact ⟨HB.out.set 0 _ HS.out rfl, by simp [World.setCell, HS.out]⟩
  clear m0 f0 HB HS
  obtain ⟨hB, hs⟩ := hcut
  have HB := Lib.hid hB
  have HS := Lib.hid hs
  obtain ⟨-, -, -, -, -, -, -, -, -, -, -, m11, -⟩ := hB.ob.cells
  have f11 := ordBlk_frozen hB.ob 11
  clear hB hs
  go_upto_region 4 with fail
  go_cut [] (fun wx => LtlB obO w wx ∧ wx.heap.size = w.heap.size + 1 + 1 + 1 + 1)
  case first => as_aux_lemma =>
    go_wp2
    go_meet
    exact ⟨HB.out.set 11 _ HS.out rfl, by simp [World.setCell, HS.out]⟩
  clear m11 f11 HB HS
  obtain ⟨hB, hs⟩ := hcut
  have HB := Lib.hid hB
  have HS := Lib.hid hs
  clear hB hs
  go_upto_region 5 with fail
  go_cut [3] (fun p wx => p = .pointer (some ⟨w.heap.size + 1 + 1 + 1 + 1 + 1, 0, none⟩) ∧ LtlC w wx ∧ wx.heap.size = w.heap.size + 1 + 1 + 1 + 1 + 1 + 1)
  case first => as_aux_lemma =>
    go_wp2_with (first
      | ((with_reducible refine wpList_buildL bTy rfl _ rfl _ (TyCells vanI (some ⟨wc.heap.size, 0, none⟩) 1) ?_ (van_fill _) ?_); exact rfl)
      | ((with_reducible refine wpList_storeL (t := 47) sTy rfl _ _ rfl (wc.heap.size + 1) zTy (TyCells vanI (some ⟨wc.heap.size, 0, none⟩) 1) ?_ ?_ ?_ ?_ ?_ (tyCells_one _ _ _) ?_); exact rfl; exact rfl; (have h := World.alloc_heap_new (wc.alloc (.cells #[.int .i64 5] 3)) (.cells zTy.toArray 47); rw [World.size_alloc] at h; exact h); exact rfl; exact rfl; intro w1 k1 k2 k3 k4; have K := Lib.hid (And.intro k1 (And.intro k2 (And.intro k3 k4))); clear k1 k2 k3 k4))
    go_meet
    obtain ⟨k1, k2, k3, k4⟩ := K.out
    have e := HS.out
    have hk : ∀ k, k < wc.heap.size → w1.heap[k]? = wc.heap[k]? := fun k hk => (k2 k (by omega)).trans ((heap_old _ _ _ (by simp; omega)).trans (heap_old _ _ _ hk))
    have hcp : w1.heap[wc.heap.size]? = some (.cells #[.int .i64 5] 3 (0, 0)) := (k2 _ (by omega)).trans ((heap_old _ _ _ (by simp)).trans (World.alloc_heap_new wc _))
    have hbel : Below w.heap.size w w1 := ((HB.out.a.bel.alloc (by omega) _).alloc (by simp; omega) _).trans (k4.mono (by omega))
    refine ⟨by rw [e], ⟨⟨HB.out.a.keep (fun k hk' => hk k (by omega)) hbel, (hk _ (by omega)).trans HB.out.ob⟩, ?_, ?_⟩, by rw [k3, World.size_alloc, World.size_alloc, e]⟩
    · rw [e] at hcp
      exact hcp
    · rw [e] at k1
      exact k1
  obtain ⟨h3, hC, hs⟩ := hcut
  subst h3
  clear HB HS
  have HC := Lib.hid hC
  have HS := Lib.hid hs
  clear hC hs
  go_upto_region 6 with fail
  go_wp2_with (first
    | ((with_reducible refine wpList_loadB sTy rfl _ rfl (w.heap.size + 1 + 1 + 1 + 1 + 1) (TyCells vanI (some ⟨w.heap.size + 1 + 1 + 1 + 1, 0, none⟩) 1).toArray (0, 0) ?_ ?_ ?_ ?_); exact rfl; (rw [heap_old _ _ _ (by have := HS.out; omega)]; exact HC.out.ty); exact rfl)
    | ((with_reducible refine wpList_loadB sOrd rfl _ rfl (w.heap.size + 1 + 1) (OrdCells oaO (some ⟨w.heap.size + 1, 0, none⟩) 1).toArray (0, 0) ?_ ?_ ?_ ?_); exact rfl; (rw [heap_old _ _ _ (by have := HS.out; simp; omega), heap_old _ _ _ (by have := HS.out; omega)]; exact HC.out.b.a.oa); exact rfl)
    | ((with_reducible refine wpList_loadB sOrd rfl _ rfl (w.heap.size + 1 + 1 + 1) (OrdCells obO (some ⟨w.heap.size + 1, 0, none⟩) 1).toArray (0, 0) ?_ ?_ ?_ ?_); exact rfl; (rw [heap_old _ _ _ (by have := HS.out; simp; omega), heap_old _ _ _ (by have := HS.out; omega)]; exact HC.out.b.ob); exact rfl)
    | ((with_reducible refine wpList_bsliceL ty_elem rfl 1 _ rfl _ (TyCells vanI (some ⟨w.heap.size + 1 + 1 + 1 + 1, 0, none⟩) 1) zTy ?_ (by decide) (by decide) ty_range (ty_fill _) ?_); exact rfl)
    | ((with_reducible refine wpList_bsliceL ord_elem' rfl 2 _ rfl _ (OrdCells oaO (some ⟨w.heap.size + 1, 0, none⟩) 1 ++ OrdCells obO (some ⟨w.heap.size + 1, 0, none⟩) 1) (zOrd ++ zOrd) ?_ (by decide) (by decide) ord_range (ord_fill _) ?_); exact rfl)
    | ((with_reducible refine wpList_storeL sIns rfl _ _ rfl w.heap.size nilCs (ltlCs wc.heap.size) ?_ ?_ ?_ ?_ ?_ (ltlCs_one _) ?_); exact rfl; exact rfl; (rw [heap_old _ _ _ (by have := HS.out; simp; omega), heap_old _ _ _ (by have := HS.out; simp; omega), heap_old _ _ _ (by have := HS.out; simp; omega), heap_old _ _ _ (by have := HS.out; omega)]; exact HC.out.b.a.res); exact rfl; exact rfl; intro w1 k1 k2 k3 k4; have K := Lib.hid (And.intro k1 (And.intro k2 (And.intro k3 k4))); clear k1 k2 k3 k4))
  obtain ⟨k1, k2, k3, k4⟩ := K.out
  have e := HS.out
  have hsix : SixAt w1 w.heap.size (ltlCs wc.heap.size) := k1
  have c0 : w1.cell? ⟨w.heap.size, 0, none⟩ = some (.slice (some ⟨wc.heap.size, 0, none⟩) 1 1) := hsix.cell (j := 0) rfl
  have c1 : w1.cell? ⟨w.heap.size, 1, none⟩ = some (.slice none 0 0) := hsix.cell (j := 1) rfl
  have c2 : w1.cell? ⟨w.heap.size, 2, none⟩ = some (.slice (some ⟨wc.heap.size + 1, 0, none⟩) 1 1) := hsix.cell (j := 2) rfl
  have c3 : w1.cell? ⟨w.heap.size, 3, none⟩ = some (.slice (some ⟨wc.heap.size + 1 + 1, 0, none⟩) 2 2) := hsix.cell (j := 3) rfl
  have c4 : w1.cell? ⟨w.heap.size, 4, none⟩ = some (.slice (some ⟨wc.heap.size + 1 + 1 + 1, 0, none⟩) 1 1) := hsix.cell (j := 4) rfl
  have c5 : w1.cell? ⟨w.heap.size, 5, none⟩ = some (.slice none 0 0) := hsix.cell (j := 5) rfl
  refine bodyPost_ret (v := InV littleI (ltlP wc.heap.size)) (by simp [results, Tryd.results16, go_sem, InV, littleI, ltlP, c0, c1, c2, c3, c4, c5]) rfl ?_
  clear c0 c1 c2 c3 c4 c5 hsix
  have n9 := k2 (wc.heap.size + 1 + 1 + 1) (by omega)
  have n8 := k2 (wc.heap.size + 1 + 1) (by omega)
  have n7 := k2 (wc.heap.size + 1) (by omega)
  have n6 := k2 wc.heap.size (by omega)
  have n4 := k2 (w.heap.size + 1 + 1 + 1 + 1) (by omega)
  have n1 := k2 (w.heap.size + 1) (by omega)
  rw [heap_old _ _ _ (by simp; omega), heap_old _ _ _ (by simp; omega), heap_old _ _ _ (by simp; omega), heap_old _ _ _ (by omega), HC.out.cp] at n4
  rw [heap_old _ _ _ (by simp; omega), heap_old _ _ _ (by simp; omega), heap_old _ _ _ (by simp; omega), heap_old _ _ _ (by omega), HC.out.b.a.ld] at n1
  rw [heap_old _ _ _ (by simp; omega), heap_old _ _ _ (by simp; omega), heap_old _ _ _ (by simp), World.alloc_heap_new wc] at n6
  have q7 := fun (o o' : Obj) => World.alloc_heap_new (wc.alloc o) o'
  simp only [World.size_alloc] at q7
  rw [heap_old _ _ _ (by simp), heap_old _ _ _ (by simp), q7] at n7
  have q8 := fun (o o' o'' : Obj) => World.alloc_heap_new ((wc.alloc o).alloc o') o''
  simp only [World.size_alloc] at q8
  rw [heap_old _ _ _ (by simp), q8] at n8
  have q9 := fun (o o' o'' o3 : Obj) => World.alloc_heap_new (((wc.alloc o).alloc o').alloc o'') o3
  simp only [World.size_alloc] at q9
  rw [q9] at n9
  rw [World.size_alloc, World.size_alloc, World.size_alloc, World.size_alloc] at k3
  have i1 : Ints w1 w1.heap.size (some ⟨w.heap.size + 1, 0, none⟩) [1] := ints_blk n1 (by omega) (by decide)
  have i4 : Ints w1 w1.heap.size (some ⟨w.heap.size + 1 + 1 + 1 + 1, 0, none⟩) [5] := ints_blk n4 (by omega) (by decide)
  refine ⟨ltlP wc.heap.size, rfl, ⟨?_, RowAt.nil, ?_, ?_, ?_, RowAt.nil, Nat.le_refl 1, Nat.le_refl 2, Nat.le_refl 1, Nat.le_refl 0⟩, ?_⟩
  · exact row_blk (r := rStr) (cs := [.string hubS]) n6 (by omega) ⟨rfl, by decide⟩
  · exact row_blk (r := rTy) n7 (by omega) (rTy_mk i4 van_fits)
  · exact row_blk2 (r := rOrd) n8 (by omega) (rOrd_mk i1 oa_fits) (rOrd_mk i1 ob_fits)
  · exact row_blk (r := rPair rInt rInt) (cs := [.int .i64 0] ++ [.int .i64 1]) n9 (by omega) ⟨_, _, rfl, ⟨rfl, by decide⟩, ⟨rfl, by decide⟩⟩
  · exact ((((HC.out.b.a.bel.alloc (by omega) _).alloc (by simp; omega) _).alloc (by simp; omega) _).alloc (by simp; omega) _).trans k4
end Go.Proofs.YtceceomaheobhaaDoor.ins

/- The examples of layer 13: awake. -/
namespace Go.Proofs.YtceceomaheobhaaDoor.ins
open Go.RowKit
open Go.Proofs.YtceceomaheobhaaDoor.lib Go.Proofs.YtceceomaheobhaaDoor.rd Go.Proofs.YtceceomaheobhaaDoor.typ Go.Proofs.YtceceomaheobhaaDoor.big Go.Proofs.YtceceomaheobhaaDoor.app Go.Proofs.YtceceomaheobhaaDoor.flts
set_option linter.unusedVariables false
set_option linter.unusedSimpArgs false

def netI : Ins := ⟨littleI.net, [], [], [], []⟩
def onlyY : Ins := ⟨littleI.net, littleI.types, [obO], [], []⟩
theorem little_only : onlyI littleI 2 = onlyY := by rfl
theorem little_mem : sets.memTo 2 littleI.orders.length = [1] := by rfl
theorem little_check : insF littleI = [] := by kernel_rfl
theorem net_check : insF netI = [⟨4, ⟨#[116, 121, 112, 101, 115]⟩⟩] := by kernel_rfl
theorem little_all : sch.suchN allP littleI.orders littleI.orders.length = 3 := by kernel_rfl
theorem little_must : sch.suchN mustP littleI.orders littleI.orders.length = 1 := by kernel_rfl
theorem little_same : sameI littleI littleI = true := by kernel_rfl
theorem little_lim : Lim littleI := ⟨by decide, by decide, fun a h => (by cases h), fun j a h => (by simp [littleI] at h), by rw [show insN littleI = [] by kernel_rfl]; decide, by decide, by decide, by decide, by decide⟩
theorem net_lim : Lim netI := ⟨by decide, by decide, fun a h => (by cases h), fun j a h => (by simp [netI, littleI] at h), by rw [show insN netI = [] by kernel_rfl]; decide, by decide, by decide, by decide, by decide⟩
theorem awk_only (P : InP) (w : World) (h : InAt w w.heap.size littleI P) : Calls Tryd.prog 15 #[InV littleI P, .int .i64 2] w (OnlyGood onlyY [1] w) := by
  have h := onlyGood_any littleI P 2 w h (by decide) (by decide) (by decide) (by decide) (by decide)
  rw [little_only, little_mem] at h
  exact h
theorem awk_check (P : InP) (w : World) (h : InAt w w.heap.size littleI P) : Calls Tryd.prog 14 #[InV littleI P] w (FltsOut w []) := by
  have h := icheck_any littleI P w h little_lim
  rw [little_check] at h
  exact h
theorem awk_net (P : InP) (w : World) (h : InAt w w.heap.size netI P) : Calls Tryd.prog 14 #[InV netI P] w (FltsOut w [⟨4, ⟨#[116, 121, 112, 101, 115]⟩⟩]) := by
  have h := icheck_any netI P w h net_lim
  rw [net_check] at h
  exact h
theorem awk_all (P : InP) (w : World) (h : InAt w w.heap.size littleI P) : Calls Tryd.prog 8 #[InV littleI P] w fun e w' => e = .returned (.int .i64 3) ∧ Below w.heap.size w w' := by
  have h := all_any littleI P w h (by decide)
  rw [little_all] at h
  exact h
theorem awk_must (P : InP) (w : World) (h : InAt w w.heap.size littleI P) : Calls Tryd.prog 9 #[InV littleI P] w fun e w' => e = .returned (.int .i64 1) ∧ Below w.heap.size w w' := by
  have h := must_any littleI P w h (by decide)
  rw [little_must] at h
  exact h
theorem awk_same (P : InP) (w : World) (h : InAt w w.heap.size littleI P) : Calls Tryd.prog 12 #[InV littleI P, InV littleI P] w fun e w' => e = .returned (.bool true) ∧ Below w.heap.size w w' := by
  have h := same_any littleI littleI P P w h h
  rw [little_same] at h
  exact h
theorem insCs_one (x : Ins) (P : InP) : ∀ u ∈ insCs x P, u.oneCell' = true := fun u hu => by
  simp only [insCs, List.mem_cons, List.not_mem_nil, or_false] at hu
  rcases hu with rfl | rfl | rfl | rfl | rfl | rfl <;> rfl
set_option maxRecDepth 100000 in
set_option maxHeartbeats 4000000 in
theorem awake_any (w : World) : Calls Tryd.prog 7 #[] w fun e w' => e = .returned (.bool true) ∧ Below w.heap.size w w' := by
  go_enter Tryd.func7, Tryd.ntmps7
  go_upto_region 1 with fail
  go_cut [1] (fun p wx => ∃ P k, p = .pointer (some ⟨k, 0, none⟩) ∧ SixAt wx k (insCs littleI P) ∧ InAt wx wx.heap.size littleI P ∧ Below w.heap.size w wx)
  case first => as_aux_lemma =>
    go_wp2_with (first
      | (go_at_call 16; refine (little_any _).mono ?_; rintro e w1 ⟨P, rfl, hI, hb⟩; have HI := Lib.hid hI; clear hI)
      | ((with_reducible refine wpList_storeL sIns rfl _ _ rfl w1.heap.size nilCs (insCs littleI P) ?_ ?_ ?_ ?_ ?_ (insCs_one _ _) ?_); exact rfl; exact rfl; exact World.alloc_heap_new w1 _; exact rfl; exact rfl; intro w2 k1 k2 k3 k4; have K := Lib.hid (And.intro k1 (And.intro k2 (And.intro k3 k4))); clear k1 k2 k3 k4))
    go_meet
    obtain ⟨k1, k2, k3, k4⟩ := K.out
    have hb2 : Below w1.heap.size w1 w2 := ((Below.refl _ _).alloc (Nat.le_refl _) _).trans k4
    exact ⟨P, w1.heap.size, rfl, k1, HI.out.go hb2, hb.trans (hb2.mono hb.size)⟩
  obtain ⟨P, k, h1, hx, hI, hB⟩ := hcut
  subst h1
  have HX := Lib.hid hx
  have HI := Lib.hid hI
  have hkw : k < wc.heap.size := (Array.getElem?_eq_some_iff.1 hx).1
  clear hx hI
  go_upto_region 2 with fail
  go_cut [2, 3, 4] (fun p v e wx => ∃ P2 A c k2, p = .pointer (some ⟨k2, 0, none⟩) ∧ v = .slice A 1 c ∧ e = .int .i64 0 ∧ SixAt wx k (insCs littleI P) ∧ SixAt wx k2 (insCs onlyY P2) ∧ InAt wx wx.heap.size littleI P ∧ InAt wx wx.heap.size onlyY P2 ∧ wx.ownsRow wc.heap.size 3 1 (.slice A 1 c) 1 [.int .i64 1] ∧ Below w.heap.size w wx)
  case first => as_aux_lemma =>
    go_wp2_with (first
      | ((with_reducible refine wpList_loadB sIns rfl _ rfl k (insCs littleI P).toArray (0, 0) ?_ ?_ ?_ ?_); exact rfl; exact HX.out; exact rfl)
      | (go_at_call 15; refine (awk_only P _ HI.out).mono ?_; rintro e w1 ⟨P2, A, c, rfl, hI2, hown, hb⟩; have HI2 := Lib.hid (And.intro hI2 hown); clear hI2 hown)
      | ((with_reducible refine wpList_storeL sIns rfl _ _ rfl w1.heap.size nilCs (insCs onlyY P2) ?_ ?_ ?_ ?_ ?_ (insCs_one _ _) ?_); exact rfl; exact rfl; exact World.alloc_heap_new w1 _; exact rfl; exact rfl; intro w2 k1 k2 k3 k4; have K := Lib.hid (And.intro k1 (And.intro k2 (And.intro k3 k4))); clear k1 k2 k3 k4))
    go_meet
    obtain ⟨k1, k2, k3, k4⟩ := K.out
    have hb2 : Below w1.heap.size w1 w2 := ((Below.refl _ _).alloc (Nat.le_refl _) _).trans k4
    have hb3 : Below wc.heap.size wc w2 := hb.trans (hb2.mono hb.size)
    exact ⟨P2, A, c, w1.heap.size, rfl, rfl, rfl, HX.out.below hb3, k1, HI.out.go hb3, HI2.out.1.go hb2, own_below HI2.out.2 hb2, hB.trans (hb3.mono hB.size)⟩
  clear HX HI hkw hB
  obtain ⟨P2, A, c, k2, h2, h3, h4, hx, hy, hI, hI2, hown, hB⟩ := hcut
  subst h2
  subst h3
  subst h4
  have HX := Lib.hid hx
  have c0 : wc.cell? ⟨k, 0, none⟩ = some (.slice P.a0 1 P.c0) := hx.cell (j := 0) rfl
  have c1 : wc.cell? ⟨k, 1, none⟩ = some (.slice P.a1 0 P.c1) := hx.cell (j := 1) rfl
  have HI := Lib.hid (And.intro hI hI2)
  have HY := Lib.hid hy
  have HO := Lib.hid hown
  clear hx hI hI2 hown hy
  go_upto_region 3 with fail
  have hi := HI.out.1
  have hnet : InAt wc wc.heap.size netI ⟨P.a0, P.c0, P.a1, P.c1, none, 0, none, 0, none, 0, none, 0⟩ := ⟨hi.places, hi.arcs, RowAt.nil, RowAt.nil, RowAt.nil, RowAt.nil, Nat.le_refl 0, Nat.le_refl 0, Nat.le_refl 0, Nat.le_refl 0⟩
  have HNET := Lib.hid hnet
  clear hi hnet
  go_wp2_with fail
  refine (awk_net _ _ HNET.out).mono ?_
  rintro e w3 ⟨Af, cf, rfl, hownF, hb3⟩
  have HF := Lib.hid hownF
  have hx3 := HX.out.below hb3
  have hi3 := Lib.hid (HI.out.1.go hb3)
  have z3 := hb3.size
  obtain ⟨gf, rfl, hgf, f0, f1⟩ := flt_one hownF
  obtain ⟨gl, hgl1, hgl2, hgl3⟩ := row_place (l := [1]) HO.out
  obtain ⟨rfl, hgl⟩ := hgl2 (by decide)
  have l0 : w3.cell? ⟨gl, 0, none⟩ = some (.int .i64 1) := (hb3.cell (p := ⟨gl, 0, none⟩) hgl).trans (hgl3 0 (by decide))
  have hy3 := HY.out.below hb3
  obtain ⟨ad, C0, d0, hAd, hadb, hox, -, -⟩ := row_Ord (HI.out.2.orders.below hb3) (i := 0) (t := obO) rfl
  have o0 : w3.cell? ad = some (.string ⟨#[111, 98]⟩) := by have h := hox.1; rw [Nat.zero_mul] at h; simpa [Addr.add, obO] using h
  have y3 : w3.cell? ⟨k2, 3, none⟩ = some (.slice (some ad) 1 P2.c3) := by rw [← hAd]; exact hy3.cell (j := 3) rfl
  have hk3 : k < w3.heap.size := (Array.getElem?_eq_some_iff.1 hx3).1
  have hk23 : k2 < w3.heap.size := (Array.getElem?_eq_some_iff.1 hy3).1
  have hS : ∀ w', Below w3.heap.size w3 w' → (Below w3.heap.size w3 w' ∧ w'.cell? ⟨k, 0, none⟩ = some (.slice P.a0 1 P.c0) ∧ w'.cell? ⟨k, 1, none⟩ = some (.slice P.a1 0 P.c1) ∧ w'.cell? ⟨k, 2, none⟩ = some (.slice P.a2 1 P.c2) ∧ w'.cell? ⟨k, 3, none⟩ = some (.slice P.a3 2 P.c3) ∧ w'.cell? ⟨k, 4, none⟩ = some (.slice P.a4 1 P.c4) ∧ w'.cell? ⟨k, 5, none⟩ = some (.slice P.a5 0 P.c5) ∧ w'.cell? ⟨gl, 0, none⟩ = some (.int .i64 1) ∧ w'.cell? ⟨k2, 3, none⟩ = some (.slice (some ad) 1 P2.c3) ∧ w'.cell? ⟨k2, 4, none⟩ = some (.slice P2.a4 0 P2.c4) ∧ w'.cell? ad = some (.string ⟨#[111, 98]⟩) ∧ w'.cell? ⟨gf, 0, none⟩ = some (.int .i64 4) ∧ w'.cell? ⟨gf, 1, none⟩ = some (.string ⟨#[116, 121, 112, 101, 115]⟩)) := fun w' hb => by
    have q1 := fun o => hb.cell (p := ⟨k, o, none⟩) hk3
    have q2 := fun o => hb.cell (p := ⟨k2, o, none⟩) hk23
    have q3 := fun o => hb.cell (p := ⟨gf, o, none⟩) hgf
    exact ⟨hb, (q1 _).trans (hx3.cell (j := 0) rfl), (q1 _).trans (hx3.cell (j := 1) rfl), (q1 _).trans (hx3.cell (j := 2) rfl), (q1 _).trans (hx3.cell (j := 3) rfl), (q1 _).trans (hx3.cell (j := 4) rfl), (q1 _).trans (hx3.cell (j := 5) rfl), (hb.cell (p := ⟨gl, 0, none⟩) (by show gl < _; omega)).trans l0, (q2 _).trans y3, (q2 _).trans (hy3.cell (j := 4) rfl), (hb.cell (by omega)).trans o0, (q3 _).trans f0, (q3 _).trans f1⟩
  have B3 : Below w.heap.size w w3 := hB.trans (hb3.mono hB.size)
  have HXB : Hid (∀ w', Below w3.heap.size w3 w' → SixAt w' k (insCs littleI P)) := Lib.hid fun w' h => hx3.below h
  have HS := Lib.hid hS
  have HI3 : Hid (∀ w', Below w3.heap.size w3 w' → InAt w' w'.heap.size littleI P) := Lib.hid fun w' h => hi3.out.go h
  have B0 : Below w3.heap.size w3 w3 := Below.refl _ _
  have z0 := B3.size
  clear hS hownF hb3 c0 c1 hx3 hi3 hy3 f0 f1 l0 o0 y3 hox hAd hgl1 hgl2 hgl3 hB
  go_upto_region 4 with fail
  obtain ⟨-, x0, x1, x2, x3, x4, x5, -, -, -, -, -, -⟩ := HS.out _ B0
  go_wp2_with fail
  refine (awk_check P _ (HI3.out _ B0)).mono ?_
  rintro e w4 ⟨A4, c4, rfl, -, b4⟩
  have B4 : Below w3.heap.size w3 w4 := b4
  clear b4 x0 x1 x2 x3 x4 x5
  obtain ⟨-, x0, x1, x2, x3, x4, x5, -, -, -, -, -, -⟩ := HS.out _ B4
  go_wp2_with fail
  refine (awk_all P _ (HI3.out _ B4)).mono ?_
  rintro e w5 ⟨rfl, b5⟩
  have B5 : Below w3.heap.size w3 w5 := B4.trans (b5.mono B4.size)
  clear b5 x0 x1 x2 x3 x4 x5
  obtain ⟨-, x0, x1, x2, x3, x4, x5, -, -, -, -, -, -⟩ := HS.out _ B5
  go_wp2_with fail
  refine (awk_must P _ (HI3.out _ B5)).mono ?_
  rintro e w6 ⟨rfl, b6⟩
  have B6 : Below w3.heap.size w3 w6 := B5.trans (b6.mono B5.size)
  clear b6 x0 x1 x2 x3 x4 x5
  obtain ⟨-, x0, x1, x2, x3, x4, x5, l0, y3, y4, o0, f0, f1⟩ := HS.out _ B6
  go_wp2_with fail
  refine (awk_same P _ (HI3.out _ B6)).mono ?_
  rintro e w7 ⟨rfl, b7⟩
  have B7 : Below w3.heap.size w3 w7 := B6.trans (b7.mono B6.size)
  clear b7 x0 x1 x2 x3 x4 x5 l0 y3 y4 o0 f0 f1
  go_wp2_with fail
  go_ret
  exact ⟨rfl, B3.trans (B7.mono z0)⟩
end Go.Proofs.YtceceomaheobhaaDoor.ins

/- Instances: the sets of all orders and of those that must be served, by the reference. -/
namespace Go.Proofs.YtceceomaheobhaaDoor.ins
open Go.RowKit
open Go.Proofs.YtceceomaheobhaaDoor.lib Go.Proofs.YtceceomaheobhaaDoor.rd Go.Proofs.YtceceomaheobhaaDoor.typ Go.Proofs.YtceceomaheobhaaDoor.sch Go.Proofs.YtceceomaheobhaaDoor.sets
set_option linter.unusedVariables false
set_option linter.unusedSimpArgs false

set_option maxHeartbeats 2000000 in
theorem rall_any (x : Ins) (P : InP) (w : World) (h : InAt w w.heap.size x P) (hl : x.orders.length ≤ 60) :
    Calls Tryd.prog 10 #[InV x P] w fun e w' => e = .returned (.int .i64 (suchN allP x.orders x.orders.length)) ∧ Below w.heap.size w w' := by
  obtain ⟨a0, c0, a1, c1, a2, c2, a3, c3, a4, c4, a5, c5⟩ := P
  have hL := h.orders
  have hb0 : ∀ o, Below w.heap.size w (w.alloc o) := fun o => (Below.refl _ _).alloc (Nat.le_refl _) o
  obtain ⟨n, hn⟩ : ∃ n, x.orders.length = n := ⟨_, rfl⟩
  obtain ⟨l, hxl⟩ : ∃ l, x.orders = l := ⟨_, rfl⟩
  have HN : Hid (l.length = n) := Lib.hid (by rw [← hxl]; exact hn)
  rw [hn] at hl
  simp only [InV]
  rw [hn]
  rw [hxl] at hL ⊢
  clear hn hxl h
  go_enter Tryd.func10, Tryd.ntmps10
  go_wp2
  go_loop [3, 4, 5] (fun v b i => ∃ k : Nat, k ≤ n ∧ i = .int .i64 k ∧ v = .int .i64 (suchN allP l k) ∧ b = .int .i64 (p2 k)) (fun _ _ i => n - (intOf i).toNat)
  case atStart => exact ⟨0, by omega, rfl, by rw [such_zero]; rfl, by rw [p2_eq]; rfl⟩
  case round =>
    obtain ⟨k, hk, rfl, rfl, rfl⟩ := hrel
    by_cases hlt : k < n
    · obtain ⟨o, ho⟩ : ∃ o, l[k]? = some o := ⟨_, List.getElem?_eq_getElem (by rw [HN.out]; exact hlt)⟩
      obtain ⟨ad, C0, c0, rfl, hadb, ⟨m0, m1, m2, m3, m4, m5, m6, m7, m8, m9, m10, m11, m12, m13, m14, m15⟩, _, _⟩ := row_Ord hL ho
      have hbb : (ad.add (k * 16)).block < w.heap.size := by rw [block_of_add]; exact hadb
      have hk0 : (0 : Int) ≤ (k : Int) := by omega
      have hkn : (k : Int) < (n : Int) := by omega
      have HB := Lib.hid (such_lt allP l k)
      have HP2 := Lib.hid (p2_succ k)
      have HY : Hid (allP o = true → suchN allP l (k + 1) = suchN allP l k + p2 k) := Lib.hid (fun hp => by rw [such_yes ho hp, or_p2 HB.out])
      have HNO : Hid (allP o = false → suchN allP l (k + 1) = suchN allP l k) := Lib.hid (fun hp => such_no ho hp)
      obtain ⟨s, hs⟩ : ∃ s, suchN allP l k = s := ⟨_, rfl⟩
      have hpw := p2_le (k := k) (by omega)
      rw [hs] at HB HY HNO
      simp only [hs]
      have hsp : (s : Int) ≤ 2305843009213693952 := by have := HB.out; omega
      have hpp : (p2 k : Int) ≤ 2305843009213693952 := by omega
      clear ho hs m0 m1 m2 m3 m4 m5 m6 m7 m8 m9 m10 m12 m13 m14
      cases hoff : o.off
      case false =>
        have HF : Hid ((suchN allP l (k + 1) : Int) = ((s + p2 k : Nat) : Int)) := Lib.hid (by rw [HY.out (by unfold allP; rw [hoff]; rfl)])
        go_wp2
        go_round
        case rel => exact ⟨k + 1, by omega, by go_num, by first | (rw [HF.out]; done) | (congr 1; rw [HF.out]; omega), by congr 1; rw [HP2.out]; omega⟩
        case measure => simp [intOf]; omega
      case true =>
        have HF : Hid ((suchN allP l (k + 1) : Int) = s) := Lib.hid (by rw [HNO.out (by unfold allP; rw [hoff]; rfl)])
        go_wp2
        go_round
        case rel => exact ⟨k + 1, by omega, by go_num, by first | (rw [HF.out]; done) | (congr 1; rw [HF.out]; omega), by congr 1; rw [HP2.out]; omega⟩
        case measure => simp [intOf]; omega
    · have hkn : k = n := by omega
      subst hkn
      go_wp2
      go_ret
      exact ⟨rfl, hb0 _⟩
set_option maxHeartbeats 2000000 in
theorem rmust_any (x : Ins) (P : InP) (w : World) (h : InAt w w.heap.size x P) (hl : x.orders.length ≤ 60) :
    Calls Tryd.prog 11 #[InV x P] w fun e w' => e = .returned (.int .i64 (suchN mustP x.orders x.orders.length)) ∧ Below w.heap.size w w' := by
  obtain ⟨a0, c0, a1, c1, a2, c2, a3, c3, a4, c4, a5, c5⟩ := P
  have hL := h.orders
  have hb0 : ∀ o, Below w.heap.size w (w.alloc o) := fun o => (Below.refl _ _).alloc (Nat.le_refl _) o
  obtain ⟨n, hn⟩ : ∃ n, x.orders.length = n := ⟨_, rfl⟩
  obtain ⟨l, hxl⟩ : ∃ l, x.orders = l := ⟨_, rfl⟩
  have HN : Hid (l.length = n) := Lib.hid (by rw [← hxl]; exact hn)
  rw [hn] at hl
  simp only [InV]
  rw [hn]
  rw [hxl] at hL ⊢
  clear hn hxl h
  go_enter Tryd.func11, Tryd.ntmps11
  go_wp2
  go_loop [3, 4, 5] (fun v b i => ∃ k : Nat, k ≤ n ∧ i = .int .i64 k ∧ v = .int .i64 (suchN mustP l k) ∧ b = .int .i64 (p2 k)) (fun _ _ i => n - (intOf i).toNat)
  case atStart => exact ⟨0, by omega, rfl, by rw [such_zero]; rfl, by rw [p2_eq]; rfl⟩
  case round =>
    obtain ⟨k, hk, rfl, rfl, rfl⟩ := hrel
    by_cases hlt : k < n
    · obtain ⟨o, ho⟩ : ∃ o, l[k]? = some o := ⟨_, List.getElem?_eq_getElem (by rw [HN.out]; exact hlt)⟩
      obtain ⟨ad, C0, c0, rfl, hadb, ⟨m0, m1, m2, m3, m4, m5, m6, m7, m8, m9, m10, m11, m12, m13, m14, m15⟩, _, _⟩ := row_Ord hL ho
      have hbb : (ad.add (k * 16)).block < w.heap.size := by rw [block_of_add]; exact hadb
      have hk0 : (0 : Int) ≤ (k : Int) := by omega
      have hkn : (k : Int) < (n : Int) := by omega
      have HB := Lib.hid (such_lt mustP l k)
      have HP2 := Lib.hid (p2_succ k)
      have HY : Hid (mustP o = true → suchN mustP l (k + 1) = suchN mustP l k + p2 k) := Lib.hid (fun hp => by rw [such_yes ho hp, or_p2 HB.out])
      have HNO : Hid (mustP o = false → suchN mustP l (k + 1) = suchN mustP l k) := Lib.hid (fun hp => such_no ho hp)
      obtain ⟨s, hs⟩ : ∃ s, suchN mustP l k = s := ⟨_, rfl⟩
      have hpw := p2_le (k := k) (by omega)
      rw [hs] at HB HY HNO
      simp only [hs]
      have hsp : (s : Int) ≤ 2305843009213693952 := by have := HB.out; omega
      have hpp : (p2 k : Int) ≤ 2305843009213693952 := by omega
      clear ho hs m0 m1 m2 m3 m4 m5 m6 m7 m8 m9 m10 m12 m13 m14
      cases hoff : o.off
      case false =>
        by_cases hpen : o.penalty = -1
        case pos =>
          have hp' : (o.penalty == -1) = true := by simp [hpen]
          have HF : Hid ((suchN mustP l (k + 1) : Int) = ((s + p2 k : Nat) : Int)) := Lib.hid (by rw [HY.out (by unfold mustP; rw [hoff, hp']; rfl)])
          go_wp2
          go_round
          case rel => exact ⟨k + 1, by omega, by go_num, by first | (rw [HF.out]; done) | (congr 1; rw [HF.out]; omega), by congr 1; rw [HP2.out]; omega⟩
          case measure => simp [intOf]; omega
        case neg =>
          have hp' : (o.penalty == -1) = false := by simp [hpen]
          have HF : Hid ((suchN mustP l (k + 1) : Int) = s) := Lib.hid (by rw [HNO.out (by unfold mustP; rw [hoff, hp']; rfl)])
          go_wp2
          go_round
          case rel => exact ⟨k + 1, by omega, by go_num, by first | (rw [HF.out]; done) | (congr 1; rw [HF.out]; omega), by congr 1; rw [HP2.out]; omega⟩
          case measure => simp [intOf]; omega
      case true =>
        have HF : Hid ((suchN mustP l (k + 1) : Int) = s) := Lib.hid (by rw [HNO.out (by unfold mustP; rw [hoff]; rfl)])
        go_wp2
        go_round
        case rel => exact ⟨k + 1, by omega, by go_num, by first | (rw [HF.out]; done) | (congr 1; rw [HF.out]; omega), by congr 1; rw [HP2.out]; omega⟩
        case measure => simp [intOf]; omega
    · have hkn : k = n := by omega
      subst hkn
      go_wp2
      go_ret
      exact ⟨rfl, hb0 _⟩
end Go.Proofs.YtceceomaheobhaaDoor.ins

/- Small instances. -/
namespace Go.Proofs.YtceceomaheobhaaDoor.ins
open Go.RowKit
open Go.Proofs.YtceceomaheobhaaDoor.lib Go.Proofs.YtceceomaheobhaaDoor.rd Go.Proofs.YtceceomaheobhaaDoor.typ
set_option linter.unusedVariables false
set_option linter.unusedSimpArgs false

structure SmallI (x : Ins) : Prop where
  places : x.net.places.length ≤ 12
  arcs : x.net.arcs.length ≤ 60
  types : x.types.length ≤ 8
  orders : x.orders.length ≤ 12
  apart : x.apart.length ≤ 24
  before : x.before.length ≤ 24
  arc : ∀ a ∈ x.net.arcs, a.travel.length ≤ 20 ∧ a.slow.length ≤ 20
  type : ∀ t ∈ x.types, t.cap.length ≤ 6
  order : ∀ o ∈ x.orders, o.load.length ≤ 6
def SmallOut (x : Ins) (w : World) (e : Ending) (w' : World) : Prop := ∃ b : Bool, e = .returned (.bool b) ∧ (b = true → SmallI x) ∧ Below w.heap.size w w'
def allTo {X : Type} (p : X → Prop) (l : List X) (k : Nat) : Prop := ∀ (j : Nat) o, j < k → l[j]? = some o → p o
theorem allTo_zero {X : Type} {p : X → Prop} {l : List X} : allTo p l 0 := fun j o hj => absurd hj (by omega)
theorem allTo_step {X : Type} {p : X → Prop} {l : List X} {k : Nat} {o : X} (h : allTo p l k) (ho : l[k]? = some o) (hs : p o) : allTo p l (k + 1) := by
  intro j x hj hx
  rcases Nat.lt_or_ge j k with h1 | h1
  · exact h j x h1 hx
  · obtain rfl : j = k := by omega
    rw [ho] at hx
    cases hx
    exact hs
theorem allTo_all {X : Type} {p : X → Prop} {l : List X} {n : Nat} (hn : l.length = n) (h : allTo p l n) : ∀ x ∈ l, p x := fun x hx => by
  obtain ⟨j, hj, rfl⟩ := List.getElem_of_mem hx
  exact h j _ (by omega) (List.getElem?_eq_getElem hj)

set_option maxHeartbeats 4000000 in
theorem small_any (x : Ins) (P : InP) (w : World) (h : InAt w w.heap.size x P) :
    Calls Tryd.prog 6 #[InV x P] w (SmallOut x w) := by
  obtain ⟨a0, c0, a1, c1, a2, c2, a3, c3, a4, c4, a5, c5⟩ := P
  have hA := h.arcs
  have hT := h.types
  have hO := h.orders
  have hl0 := h.places.len
  have hl1 := hA.len
  have hl2 := hT.len
  have hl3 := hO.len
  have hl4 := h.apart.len
  have hl5 := h.before.len
  have hb0 : ∀ o, Below w.heap.size w (w.alloc o) := fun o => (Below.refl _ _).alloc (Nat.le_refl _) o
  have HF : Hid (∀ o, SmallOut x w (.returned (.bool false)) (w.alloc o)) := Lib.hid fun o => ⟨false, rfl, by simp, hb0 o⟩
  have HT : Hid (x.net.places.length ≤ 12 ∧ x.net.arcs.length ≤ 60 ∧ x.types.length ≤ 8 ∧ x.orders.length ≤ 12 ∧ x.apart.length ≤ 24 ∧ x.before.length ≤ 24 → (∀ a ∈ x.net.arcs, a.travel.length ≤ 20 ∧ a.slow.length ≤ 20) → (∀ t ∈ x.types, t.cap.length ≤ 6) → (∀ o ∈ x.orders, o.load.length ≤ 6) → ∀ o, SmallOut x w (.returned (.bool true)) (w.alloc o)) := Lib.hid fun ⟨h1, h2, h3, h4, h5, h6⟩ h7 h8 h9 o => ⟨true, rfl, fun _ => ⟨h1, h2, h3, h4, h5, h6, h7, h8, h9⟩, hb0 o⟩
  obtain ⟨n0, hn0⟩ : ∃ n, x.net.places.length = n := ⟨_, rfl⟩
  obtain ⟨n1, hn1⟩ : ∃ n, x.net.arcs.length = n := ⟨_, rfl⟩
  obtain ⟨n2, hn2⟩ : ∃ n, x.types.length = n := ⟨_, rfl⟩
  obtain ⟨n3, hn3⟩ : ∃ n, x.orders.length = n := ⟨_, rfl⟩
  obtain ⟨n4, hn4⟩ : ∃ n, x.apart.length = n := ⟨_, rfl⟩
  obtain ⟨n5, hn5⟩ : ∃ n, x.before.length = n := ⟨_, rfl⟩
  have HN1 := Lib.hid hn1
  have HN2 := Lib.hid hn2
  have HN3 := Lib.hid hn3
  simp only [InV]
  rw [hn0] at hl0 HT ⊢
  rw [hn1] at hl1 HT ⊢
  rw [hn2] at hl2 HT ⊢
  rw [hn3] at hl3 HT ⊢
  rw [hn4] at hl4 HT ⊢
  rw [hn5] at hl5 HT ⊢
  clear hn0 hn1 hn2 hn3 hn4 hn5 h
  by_cases hs : n0 ≤ 12 ∧ n1 ≤ 60 ∧ n2 ≤ 8 ∧ n3 ≤ 12 ∧ n4 ≤ 24 ∧ n5 ≤ 24
  · obtain ⟨s0, s1, s2, s3, s4, s5⟩ := hs
    have HS := Lib.hid (And.intro s0 (And.intro s1 (And.intro s2 (And.intro s3 (And.intro s4 s5)))))
    have t0 : ¬ (12 : Int) < (n0 : Int) := by omega
    have t1 : ¬ (60 : Int) < (n1 : Int) := by omega
    have t2 : ¬ (8 : Int) < (n2 : Int) := by omega
    have t3 : ¬ (12 : Int) < (n3 : Int) := by omega
    have t4 : ¬ (24 : Int) < (n4 : Int) := by omega
    have t5 : ¬ (24 : Int) < (n5 : Int) := by omega
    go_enter Tryd.func6, Tryd.ntmps6
    go_wp2
    go_loop [3] (fun i => ∃ k : Nat, k ≤ n1 ∧ i = .int .i64 k ∧ Hid (allTo (fun a : Arc => a.travel.length ≤ 20 ∧ a.slow.length ≤ 20) x.net.arcs k)) (fun i => n1 - (intOf i).toNat)
    case atStart => exact ⟨0, by omega, rfl, Lib.hid allTo_zero⟩
    case round =>
      obtain ⟨k, hk, rfl, hr⟩ := hrel
      by_cases hlt : k < n1
      · obtain ⟨t, ht⟩ : ∃ t, x.net.arcs[k]? = some t := ⟨_, List.getElem?_eq_getElem (by rw [HN1.out]; exact hlt)⟩
        obtain ⟨ad, C0, d0, C1, d1, rfl, hadb, ⟨m0, m1, m2, m3, m4, m5⟩, hp, hq, _⟩ := row_Arc hA ht
        have hbb : (ad.add (k * 6)).block < w.heap.size := by rw [block_of_add]; exact hadb
        have hk0 : (0 : Int) ≤ (k : Int) := by omega
        have hkn : (k : Int) < (n1 : Int) := by omega
        have hpl := hp.len
        have hql := hq.len
        have HX : Hid (t.travel.length ≤ 20 ∧ t.slow.length ≤ 20 → allTo (fun a : Arc => a.travel.length ≤ 20 ∧ a.slow.length ≤ 20) x.net.arcs (k + 1)) := Lib.hid (fun h => allTo_step hr.out ht h)
        clear ht m0 m1 m2 m3
        by_cases h1 : 20 < t.travel.length
        · have h1' : (20 : Int) < (t.travel.length : Int) := by omega
          clear h1
          go_wp2
          go_ret
          exact HF.out _
        · have h1' : ¬ (20 : Int) < (t.travel.length : Int) := by omega
          by_cases h2 : 20 < t.slow.length
          · have h2' : (20 : Int) < (t.slow.length : Int) := by omega
            clear h1 h2
            go_wp2
            go_ret
            exact HF.out _
          · have h2' : ¬ (20 : Int) < (t.slow.length : Int) := by omega
            have HY := Lib.hid (HX.out ⟨by omega, by omega⟩)
            clear h1 h2
            go_wp2
            go_round
            case rel => exact ⟨k + 1, by omega, by go_num, HY⟩
            case measure => simp [intOf]; omega
      · have hkn : k = n1 := by omega
        subst hkn
        have HA := Lib.hid (allTo_all HN1.out hr.out)
        clear hlt
        go_wp2
        go_loop [4] (fun i => ∃ k : Nat, k ≤ n2 ∧ i = .int .i64 k ∧ Hid (allTo (fun t : Ty => t.cap.length ≤ 6) x.types k)) (fun i => n2 - (intOf i).toNat)
        case atStart => exact ⟨0, by omega, rfl, Lib.hid allTo_zero⟩
        case round =>
          obtain ⟨k, hk, rfl, hr⟩ := hrel
          by_cases hlt : k < n2
          · obtain ⟨t, ht⟩ : ∃ t, x.types[k]? = some t := ⟨_, List.getElem?_eq_getElem (by rw [HN2.out]; exact hlt)⟩
            obtain ⟨ad, C0, d0, rfl, hadb, ⟨m0, m1, m2, m3, m4, m5, _⟩, hp, _⟩ := row_Ty hT ht
            have hbb : (ad.add (k * 14)).block < w.heap.size := by rw [block_of_add]; exact hadb
            have hk0 : (0 : Int) ≤ (k : Int) := by omega
            have hkn : (k : Int) < (n2 : Int) := by omega
            have hpl := hp.len
            have HX : Hid (t.cap.length ≤ 6 → allTo (fun t : Ty => t.cap.length ≤ 6) x.types (k + 1)) := Lib.hid (fun h => allTo_step hr.out ht h)
            clear ht m0 m1 m2 m3
            by_cases h1 : 6 < t.cap.length
            · have h1' : (6 : Int) < (t.cap.length : Int) := by omega
              clear h1
              go_wp2
              go_ret
              exact HF.out _
            · have h1' : ¬ (6 : Int) < (t.cap.length : Int) := by omega
              have HY := Lib.hid (HX.out (by omega))
              clear h1
              go_wp2
              go_round
              case rel => exact ⟨k + 1, by omega, by go_num, HY⟩
              case measure => simp [intOf]; omega
          · have hkn : k = n2 := by omega
            subst hkn
            have HB := Lib.hid (allTo_all HN2.out hr.out)
            clear hlt
            go_wp2
            go_loop [5] (fun i => ∃ k : Nat, k ≤ n3 ∧ i = .int .i64 k ∧ Hid (allTo (fun t : Ord => t.load.length ≤ 6) x.orders k)) (fun i => n3 - (intOf i).toNat)
            case atStart => exact ⟨0, by omega, rfl, Lib.hid allTo_zero⟩
            case round =>
              obtain ⟨k, hk, rfl, hr⟩ := hrel
              by_cases hlt : k < n3
              · obtain ⟨t, ht⟩ : ∃ t, x.orders[k]? = some t := ⟨_, List.getElem?_eq_getElem (by rw [HN3.out]; exact hlt)⟩
                obtain ⟨ad, C0, d0, rfl, hadb, ⟨m0, m1, _⟩, hp, _⟩ := row_Ord hO ht
                have hbb : (ad.add (k * 16)).block < w.heap.size := by rw [block_of_add]; exact hadb
                have hk0 : (0 : Int) ≤ (k : Int) := by omega
                have hkn : (k : Int) < (n3 : Int) := by omega
                have hpl := hp.len
                have HX : Hid (t.load.length ≤ 6 → allTo (fun t : Ord => t.load.length ≤ 6) x.orders (k + 1)) := Lib.hid (fun h => allTo_step hr.out ht h)
                clear ht m0
                by_cases h1 : 6 < t.load.length
                · have h1' : (6 : Int) < (t.load.length : Int) := by omega
                  clear h1
                  go_wp2
                  go_ret
                  exact HF.out _
                · have h1' : ¬ (6 : Int) < (t.load.length : Int) := by omega
                  have HY := Lib.hid (HX.out (by omega))
                  clear h1
                  go_wp2
                  go_round
                  case rel => exact ⟨k + 1, by omega, by go_num, HY⟩
                  case measure => simp [intOf]; omega
              · have hkn : k = n3 := by omega
                subst hkn
                have HC := Lib.hid (allTo_all HN3.out hr.out)
                clear hlt
                go_wp2
                go_ret
                exact HT.out HS.out HA.out HB.out HC.out _
  · go_enter Tryd.func6, Tryd.ntmps6
    go_wp2
    all_goals first | (exfalso; omega) | (go_ret; exact HF.out _)
end Go.Proofs.YtceceomaheobhaaDoor.ins

/- The law InstanceSets, walked. -/
namespace Go.Proofs.YtceceomaheobhaaDoor.ins
open Go.RowKit
open Go.Proofs.YtceceomaheobhaaDoor.lib Go.Proofs.YtceceomaheobhaaDoor.rd Go.Proofs.YtceceomaheobhaaDoor.typ Go.Proofs.YtceceomaheobhaaDoor.sch
set_option linter.unusedVariables false
set_option linter.unusedSimpArgs false

set_option maxRecDepth 100000 in
set_option maxHeartbeats 4000000 in
theorem lawSets_any (x : Ins) (Q : InP) (w : World) (h : InAt w w.heap.size x Q) : Calls Tryd.prog 3 #[InV x Q] w fun e w' => e = .returned (.bool true) ∧ Below w.heap.size w w' := by
  obtain ⟨A0, c0, A1, c1, A2, c2, A3, c3, A4, c4, A5, c5⟩ := Q
  obtain ⟨W0, hW0⟩ : ∃ W0, w.alloc (.cells #[.slice A0 x.net.places.length c0, .slice A1 x.net.arcs.length c1, .slice A2 x.types.length c2, .slice A3 x.orders.length c3, .slice A4 x.apart.length c4, .slice A5 x.before.length c5] 30) = W0 := ⟨_, rfl⟩
  have hB0 : Below w.heap.size w W0 := by rw [← hW0]; exact (Below.refl _ _).alloc (Nat.le_refl _) _
  have z0 := hB0.size
  have hs0 : w.heap.size < W0.heap.size := by rw [← hW0]; simp
  have HI : Hid (∀ w', Below W0.heap.size W0 w' → InAt w' w'.heap.size x ⟨A0, c0, A1, c1, A2, c2, A3, c3, A4, c4, A5, c5⟩) := Lib.hid fun w' hb => (h.go hB0).go hb
  have HS : Hid (∀ w', Below W0.heap.size W0 w' → (w'.cell? ⟨w.heap.size, 0, none⟩ = some (.slice A0 x.net.places.length c0) ∧ w'.cell? ⟨w.heap.size, 1, none⟩ = some (.slice A1 x.net.arcs.length c1) ∧ w'.cell? ⟨w.heap.size, 2, none⟩ = some (.slice A2 x.types.length c2) ∧ w'.cell? ⟨w.heap.size, 3, none⟩ = some (.slice A3 x.orders.length c3) ∧ w'.cell? ⟨w.heap.size, 4, none⟩ = some (.slice A4 x.apart.length c4) ∧ w'.cell? ⟨w.heap.size, 5, none⟩ = some (.slice A5 x.before.length c5))) := Lib.hid fun w' hb => by
    have hk := fun (o : Nat) => hb.cell (p := ⟨w.heap.size, o, none⟩) hs0
    refine ⟨(hk _).trans ?_, (hk _).trans ?_, (hk _).trans ?_, (hk _).trans ?_, (hk _).trans ?_, (hk _).trans ?_⟩
    all_goals (rw [← hW0]; simp)
  have B0 : Below W0.heap.size W0 W0 := Below.refl _ _
  have HW0 := Lib.hid hW0
  clear hW0 h
  simp only [InV]
  go_enter Tryd.func3, Tryd.ntmps3
  go_upto_region 1 with fail
  rw [HW0.out]
  obtain ⟨x0, x1, x2, x3, x4, x5⟩ := HS.out _ B0
  go_wp2_with fail
  refine (small_any x _ _ (HI.out _ B0)).mono ?_
  rintro e w1 ⟨b, rfl, hsm, b1⟩
  have HSM := Lib.hid hsm
  have z1 := b1.size
  clear hsm x0 x1 x2 x3 x4 x5
  cases b
  case false =>
    go_wp2_with fail
    refine (awake_any _).mono ?_
    rintro e w2 ⟨rfl, b2⟩
    have B2 : Below W0.heap.size W0 w2 := b1.trans (b2.mono z1)
    go_wp2_with fail
    go_ret
    exact ⟨rfl, hB0.trans (B2.mono z0)⟩
  case true =>
    have hl : x.orders.length ≤ 12 := (HSM.out rfl).orders
    obtain ⟨x0, x1, x2, x3, x4, x5⟩ := HS.out _ b1
    obtain ⟨a, ha⟩ : ∃ a, suchN allP x.orders x.orders.length = a := ⟨_, rfl⟩
    obtain ⟨m, hm⟩ : ∃ m, suchN mustP x.orders x.orders.length = m := ⟨_, rfl⟩
    have HA : Hid (∀ w', Below W0.heap.size W0 w' → Calls Tryd.prog 8 #[InV x ⟨A0, c0, A1, c1, A2, c2, A3, c3, A4, c4, A5, c5⟩] w' fun e w'' => e = .returned (.int .i64 a) ∧ Below w'.heap.size w' w'') := Lib.hid fun w' h => by rw [← ha]; exact all_any x _ w' (HI.out _ h) (by omega)
    have HM : Hid (∀ w', Below W0.heap.size W0 w' → Calls Tryd.prog 9 #[InV x ⟨A0, c0, A1, c1, A2, c2, A3, c3, A4, c4, A5, c5⟩] w' fun e w'' => e = .returned (.int .i64 m) ∧ Below w'.heap.size w' w'') := Lib.hid fun w' h => by rw [← hm]; exact must_any x _ w' (HI.out _ h) (by omega)
    have HRA : Hid (∀ w', Below W0.heap.size W0 w' → Calls Tryd.prog 10 #[InV x ⟨A0, c0, A1, c1, A2, c2, A3, c3, A4, c4, A5, c5⟩] w' fun e w'' => e = .returned (.int .i64 a) ∧ Below w'.heap.size w' w'') := Lib.hid fun w' h => by rw [← ha]; exact rall_any x _ w' (HI.out _ h) (by omega)
    have HRM : Hid (∀ w', Below W0.heap.size W0 w' → Calls Tryd.prog 11 #[InV x ⟨A0, c0, A1, c1, A2, c2, A3, c3, A4, c4, A5, c5⟩] w' fun e w'' => e = .returned (.int .i64 m) ∧ Below w'.heap.size w' w'') := Lib.hid fun w' h => by rw [← hm]; exact rmust_any x _ w' (HI.out _ h) (by omega)
    have hand : bits .and .i64 (m : Int) (a : Int) = (m : Int) := by
      rw [← ha, ← hm]
      have h1 := such_lt allP x.orders x.orders.length
      have h2 := such_lt mustP x.orders x.orders.length
      have h3 := p2_le (k := x.orders.length) (by omega)
      rw [sets.and_nat _ _ (by omega) (by omega), such_and mustP_all]
    clear ha hm
    go_wp2_with fail
    refine (HA.out _ b1).mono ?_
    rintro e w2 ⟨rfl, b2⟩
    have B2 : Below W0.heap.size W0 w2 := b1.trans (b2.mono z1)
    clear b2 x0 x1 x2 x3 x4 x5
    obtain ⟨x0, x1, x2, x3, x4, x5⟩ := HS.out _ B2
    go_wp2_with fail
    refine (HM.out _ B2).mono ?_
    rintro e w3 ⟨rfl, b3⟩
    have B3 : Below W0.heap.size W0 w3 := B2.trans (b3.mono B2.size)
    clear b3 x0 x1 x2 x3 x4 x5
    obtain ⟨x0, x1, x2, x3, x4, x5⟩ := HS.out _ B3
    go_wp2_with fail
    refine (HRA.out _ B3).mono ?_
    rintro e w4 ⟨rfl, b4⟩
    have B4 : Below W0.heap.size W0 w4 := B3.trans (b4.mono B3.size)
    clear b4 x0 x1 x2 x3 x4 x5
    obtain ⟨x0, x1, x2, x3, x4, x5⟩ := HS.out _ B4
    go_wp2_with fail
    refine (HRM.out _ B4).mono ?_
    rintro e w5 ⟨rfl, b5⟩
    have B5 : Below W0.heap.size W0 w5 := B4.trans (b5.mono B4.size)
    clear b5 x0 x1 x2 x3 x4 x5
    go_wp2_with fail
    refine (awake_any _).mono ?_
    rintro e w6 ⟨rfl, b6⟩
    have B6 : Below W0.heap.size W0 w6 := B5.trans (b6.mono B5.size)
    go_wp2_with fail
    go_ret
    exact ⟨rfl, hB0.trans (B6.mono z0)⟩
end Go.Proofs.YtceceomaheobhaaDoor.ins

/- A world in which the library's tables lie as the row lists them, for the witness. -/
namespace Go.Proofs.YtceceomaheobhaaDoor.laid
open Go.ChangeShapes Go.WideShapes Go.ChangeAt Go.RowKit

theorem own : ownKnob Tryd.prog.godebug = none := by kernel_rfl
/-- A variable's block with other cells. -/
def lay (xs : Array Value) : Obj → Obj
  | .cells _ t frozen => .cells xs t frozen
  | o => o
/-- The settled world with the tables laid. -/
noncomputable def laidWorld (os : Os) : World :=
  { World.holding Tryd.prog os ⟨#[], #[], []⟩ with heap := (((World.holding Tryd.prog os ⟨#[], #[], []⟩).heap.modify 0 (lay #[.int .u64 1, .int .u64 10, .int .u64 100, .int .u64 1000, .int .u64 10000, .int .u64 100000, .int .u64 1000000, .int .u64 10000000, .int .u64 100000000, .int .u64 1000000000, .int .u64 10000000000, .int .u64 100000000000, .int .u64 1000000000000, .int .u64 10000000000000, .int .u64 100000000000000, .int .u64 1000000000000000, .int .u64 10000000000000000, .int .u64 100000000000000000, .int .u64 1000000000000000000, .int .u64 10000000000000000000])).modify 1 (lay (Lib.deBruijn32tab.map (fun n : Nat => Value.int .u8 n)).toArray)).modify 2 (lay (Lib.deBruijn64tab.map (fun n : Nat => Value.int .u8 n)).toArray) }
end Go.Proofs.YtceceomaheobhaaDoor.laid

/- A call's arguments, read: slices with their capacity, structs by value. -/
namespace Go.Proofs.YtceceomaheobhaaDoor.rd
open Go.RowKit Go.ChangeShapes Go.WideShapes Go.ChangeAt Go.Deep
open Go.Proofs.YtceceomaheobhaaDoor.lib
set_option linter.unusedVariables false

set_option maxRecDepth 20000 in
theorem arg_slice {X : Type} {t e : TypeId} {r : Rd X} (ht : Tryd.prog.underlying t = some (.slice e)) (ho : Opens t (rSlice r)) {H : Type} {enc : TypeId × Value → H} {W : World} {base : Nat} {v : Value} {d : DataW H} {p : List MemPlace}
    (hv : Value.okWide Tryd.prog W .any base t v) (h : DataW.Trod enc Tryd.prog W 0 (fun _ => true) true t v d p) (hw : ∀ n ∈ d.weights Tryd.prog t, n ≤ reachBytes) :
    ∃ A c l, v = .slice A l.length c ∧ RowAt r W W.heap.size A l ∧ l.length ≤ c ∧ c ≤ maxLen := by
  obtain ⟨A, n, c, rfl⟩ := okWide_slice ht hv
  have hh := h
  obtain ⟨fuel, hf⟩ := hh
  obtain ⟨l, A', c', he, hr⟩ := ho H enc W fuel _ _ hf hw
  simp [Value.cells] at he
  obtain ⟨rfl, rfl, rfl⟩ := he
  refine ⟨A, c, l, rfl, hr, ?_⟩
  rcases open_slice ht hf with ⟨hcs, _⟩ | ⟨a, len, cap, m, k, D, Pl, hcs, _, hl, hm, _⟩
  · simp [Value.cells] at hcs
    obtain ⟨_, h2, h3⟩ := hcs
    rw [h2, h3]
    exact ⟨Nat.le_refl _, Nat.zero_le _⟩
  · simp [Value.cells] at hcs
    obtain ⟨_, h2, h3⟩ := hcs
    rw [h2, h3]
    exact ⟨hl, hm⟩
set_option maxRecDepth 20000 in
theorem arg_struct {X : Type} {t : TypeId} {fs : Array Field} {r : Rd X} (ht : Tryd.prog.underlying t = some (.struct fs)) (ho : Opens t r) {H : Type} {enc : TypeId × Value → H} {W : World} {base : Nat} {v : Value} {d : DataW H} {p : List MemPlace}
    (hv : Value.okWide Tryd.prog W .any base t v) (h : DataW.Trod enc Tryd.prog W 0 (fun _ => true) true t v d p) (hw : ∀ n ∈ d.weights Tryd.prog t, n ≤ reachBytes) :
    ∃ cs x, v = .agg (List.toArray cs) ∧ r.at_ W W.heap.size cs x := by
  obtain ⟨cs, rfl, _⟩ := okWide_struct ht hv
  obtain ⟨fuel, hf⟩ := h
  obtain ⟨x, hx⟩ := ho H enc W fuel _ _ hf hw
  exact ⟨cs.toList, x, by simp, by simpa [Value.cells] using hx⟩
end Go.Proofs.YtceceomaheobhaaDoor.rd

/- The statement InstanceSets: the call returns true whatever the input, and the input reads as it did. No conditions. -/
namespace Go.Proofs.YtceceomaheobhaaDoor.instanceSets
open Go.ChangeShapes Go.WideShapes Go.ChangeAt Go.RowKit Go.Joins
open Go.ChangeMaps (open_string shut_string)
set_option linter.unusedVariables false

theorem own : ownKnob Tryd.prog.godebug = none := laid.own
theorem laidOut : laidOutB Tryd.prog = true := by kernel_rfl
theorem bd {a : Int} (h : (Lit.int .i64 a).wf = true) : -9223372036854775808 ≤ a ∧ a ≤ 9223372036854775807 := by simpa [Lit.wf, IntKind.min, IntKind.max, IntKind.signed, IntKind.bits] using h
theorem laid_met (os : Os) : laidMet Tryd.prog Rows.instanceSetsRow.laid ((laid.laidWorld os).forCall (fun _ _ => 0) ⟨#[], #[Value.agg #[.slice none 0 0, .slice none 0 0, .slice none 0 0, .slice none 0 0, .slice none 0 0, .slice none 0 0]], []⟩).memory :=
  laidMet_of_run' 8 (by kernel_rfl) (by kernel_rfl)
theorem reads (os : Os) {H : Type} (enc : TypeId × Value → H) : ∃ places, DataW.whole enc Tryd.prog ((laid.laidWorld os).forCall (fun _ _ => 0) ⟨#[], #[Value.agg #[.slice none 0 0, .slice none 0 0, .slice none 0 0, .slice none 0 0, .slice none 0 0, .slice none 0 0]], []⟩).memory Tryd.f3.params.toList Rows.instanceSetsSpec.vars false #[Value.agg #[.slice none 0 0, .slice none 0 0, .slice none 0 0, .slice none 0 0, .slice none 0 0, .slice none 0 0]].toList 8 = some ([.agg [.agg [.nil, .nil], .nil, .nil, .nil, .nil]], [], places) :=
  ⟨[], by kernel_rfl⟩

set_option maxRecDepth 100000 in
theorem contract (H : Type) (enc : TypeId × Value → H) (W : World) (base : Nat) (args : Array Value) (ds gs : List (DataW H)) (before : List MemPlace)
    (hval0 : ∀ (j : Nat) t v, Tryd.f3.params[j]? = some t → args[j]? = some v → Value.okWide Tryd.prog W .any base t v)
    (hW : DataW.Whole enc Tryd.prog Tryd.f3.params.toList Rows.instanceSetsSpec.vars false W args.toList ds gs before)
    (hsz0 : (DataW.weightsEach Tryd.prog (Tryd.f3.params.toList ++ Rows.instanceSetsSpec.plain.varTypes Tryd.prog) (ds ++ gs)).all (· ≤ reachBytes) = true) :
    Calls Tryd.prog 3 args W fun e W' => ∃ v, e = .returned v ∧ Rows.instanceSetsSpec.post enc Tryd.prog Tryd.f3 false true false false W args v W' := by
  have hsz : (DataW.weightsEach Tryd.prog (Tryd.f3.params.toList ++ Rows.instanceSetsSpec.plain.varTypes Tryd.prog) (ds ++ gs)).all (· ≤ reachBytes) = true := hsz0
  clear hsz0
  have hval : ∀ (j : Nat) t v, Tryd.f3.params[j]? = some t → args[j]? = some v → Value.okWide Tryd.prog W .any base t v := hval0
  have hW' := hW
  obtain ⟨p, q, hA0, hV, rfl, hfz, hnd⟩ := hW
  have hA : DataW.TrodAll enc Tryd.prog W 0 (fun _ => true) true Tryd.f3.params.toList args.toList ds p := hA0
  rw [Tryd.params3] at hA hval hsz
  obtain ⟨v0, vs0, d0, ds0, p0, q0, hargs, rfl, rfl, h0, r0⟩ := trodAll_cons hA
  obtain ⟨rfl, rfl, rfl⟩ := trodAll_nil r0
  obtain rfl : args = #[v0] := by cases args; simp_all
  obtain ⟨rfl, rfl⟩ := trodVars_none hV
  have k0 := h0
  have lt0 : ∀ x ∈ p0, x.block < W.heap.size := by obtain ⟨m, hm⟩ := k0; exact DataW.trod_lt m _ _ _ hm
  obtain ⟨x_cs, x, rfl, at_x⟩ := rd.arg_struct Tryd.underlying30 typ.opens_Ins (hval 0 30 v0 rfl rfl) h0 (rd.weight_of hsz (j := 0) rfl rfl)
  obtain ⟨x_C0, x_c0, x_C1, x_c1, x_C2, x_c2, x_C3, x_c3, x_C4, x_c4, x_C5, x_c5, rfl, x_I0, x_I1, x_I2, x_I3, x_I4, x_I5, x_f⟩ := typ.rIns_at at_x
  clear hA0 hval0
  refine Calls.mono (ins.lawSets_any x ⟨x_C0, x_c0, x_C1, x_c1, x_C2, x_c2, x_C3, x_c3, x_C4, x_c4, x_C5, x_c5⟩ W ⟨x_I0, x_I1, x_I2.1, x_I3.1, x_I4.1, x_I5.1, x_I2.2, x_I3.2, x_I4.2, x_I5.2⟩) fun e W' ⟨he, bel⟩ => ?_
  subst he
  exact ⟨_, rfl, _, _, _, [], _, [], hW', trodAll_mk1 (shut_bool Tryd.underlying4 _), (trodAll_cons_mk (Below.trod laidOut (by kernel_rfl) (of_decide_eq_true (by kernel_rfl)) k0 bel lt0) trodAll_mk0), rfl, bel.frame _, fun h => by cases h⟩

set_option maxRecDepth 100000 in
theorem lifted (os : Os) (started : os.Started) (H : Type) (enc : TypeId × Value → H) (F : Stop.Interp) :
    ReturnsInHanded {} Tryd.checked os 3 .any ((OpenSpec.ofChange Rows.instanceSetsSpec).preRow enc Tryd.prog Tryd.f3 Rows.instanceSetsRow.domain false Rows.instanceSetsRow.laid) (((OpenSpec.ofChange Rows.instanceSetsSpec).at F).post enc Tryd.prog Tryd.f3 false true false false) := by
  obtain ⟨places, hx⟩ := reads os enc
  refine returnsInHanded_of_row (C := Tryd.checked) (s := OpenSpec.ofChange Rows.instanceSetsSpec) own started (by kernel_rfl) Tryd.func3
    (witness_row_at (enc := enc) (C := Tryd.checked) false (laid.laidWorld os) #[Value.agg #[.slice none 0 0, .slice none 0 0, .slice none 0 0, .slice none 0 0, .slice none 0 0, .slice none 0 0]] rfl (by kernel_rfl) (by kernel_rfl) (by kernel_rfl)
      (OpenSpec.preRow_of_cond 8 hx (by kernel_rfl) (fun k hk => by cases hk) (by kernel_rfl) (laid_met os))) ?_
  intro W base args ds gs before hval hW _ _ hsz hL _ _
  exact contract H enc W base args ds gs before hval hW hsz

theorem said : Rows.InstanceSetsSaid :=
  OpenClaim.holds_of_cond 3 Tryd.f3 rfl rfl rfl rfl rfl rfl rfl ⟨rfl, rfl, rfl, rfl, rfl⟩ rfl rfl rfl rfl rfl (by kernel_rfl) Tryd.func3 (by kernel_rfl)
    (of_decide_eq_true (by kernel_rfl)) (by unfold Func.isWrapper; first | (rw [if_pos (by decide +kernel)]; kernel_rfl) | (rw [if_neg (by decide +kernel)]; exact ⟨rfl, rfl⟩))
    (fun os started H enc _ F => by rw [OpenClaim.pre_eq_preRow]; exact lifted os started H enc F)

theorem plain (f : FuncId) (fn : Func) (hf : Tryd.pinned.checked.prog.funcNamed "lorry/lorrylaw13.InstanceSets" = some f) (hfn : Tryd.pinned.checked.prog.funcs[f]? = some fn) :
    false = Tryd.pinned.checked.prog.looks [] ∧ ∀ (j : Nat) t, fn.params[j]? = some t → Tryd.pinned.checked.prog.wantsStandIn t = false := by
  obtain rfl : f = 3 := Option.some.inj ((show Tryd.prog.funcNamed "lorry/lorrylaw13.InstanceSets" = some 3 by kernel_rfl).symm.trans hf) |>.symm
  obtain rfl : fn = Tryd.f3 := (Option.some.inj (Tryd.func3.symm.trans hfn)).symm
  refine ⟨by kernel_rfl, fun j t ht => ?_⟩
  rw [Tryd.params3] at ht
  have hm := Array.mem_of_getElem? ht
  simp only [List.mem_toArray, List.mem_cons, List.not_mem_nil, or_false] at hm
  subst hm
  · exact (show Tryd.prog.wantsStandIn 30 = false by kernel_rfl)

theorem proved : Rows.InstanceSetsCardSaid :=
  Claim7.holds_tied_plain_at .later [] _ _ _ _ said (fun _ h => by cases h) (by kernel_rfl) (fun _ h => by cases h) instanceSets_row_tie rfl ⟨rfl, rfl⟩ (by kernel_rfl) rfl plain (by kernel_rfl)
#print axioms proved
end Go.Proofs.YtceceomaheobhaaDoor.instanceSets

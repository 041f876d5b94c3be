import Derived.Test.YtceceomaheobhaaDoorLib
import Derived.Test.YtceceomaheobhaaDoorApp
import Derived.Laws.Tables
import Derived.Great.BuildSlice
import Derived.Laws.Rows
import Derived.Test.YtceceomaheobhaaDoorInsA
import Derived.Test.YtceceomaheobhaaDoorOnlA
import Derived.RangeFuncBox
import Derived.Deep.DeepCutAuto
import Derived.Outline
import Derived.Test.YtceceomaheobhaaDoorFltB
import Derived.Deep.QuietTactic
import Derived.BigQuiet
import Derived.Test.YtceceomaheobhaaDoorArr
import Derived.Test.YtceceomaheobhaaDoorRd
import Derived.Test.YtceceomaheobhaaDoorOrdW
import Derived.Test.YtceceomaheobhaaDoorNote
import Derived.Test.YtceceomaheobhaaDoorEqG
import Derived.Test.YtceceomaheobhaaDoorOrdG
import Derived.Test.YtceceomaheobhaaDoorInsJ
import Derived.Test.YtceceomaheobhaaDoorOnlB
import Derived.BigRegion
import Derived.Test.YtceceomaheobhaaDoorInsI
import Derived.Laws.Cells
import Derived.Test.YtceceomaheobhaaDoorInsC
import Derived.Test.YtceceomaheobhaaDoorCards
import Derived.Test.YtceceomaheobhaaDoorTie
import Derived.WalkKit
import Derived.ProofKit
import Derived.OpenShut
import Derived.Deep.DeepHandedRow
import Derived.Lib.LaidTab
import Derived.Shelf.Spec.TrailingZeros
import Derived.SizedLaws
import Derived.ShutString
import Derived.ChangeOld
import Derived.Below
import Derived.Lib.SmallJoins
import Derived.Deep.Slices
import Derived.Carry
/- Loads and stores of whole structs in one step: the cells are not unrolled. Portable. -/
namespace Go.Proofs.YtceceomaheobhaaDoor.big
open Go.RowKit
open Go.Proofs.YtceceomaheobhaaDoor.lib Go.Proofs.YtceceomaheobhaaDoor.app
set_option linter.unusedVariables false

/-- What is known of a struct's type. -/
structure StructOf (t : TypeId) (n : Nat) : Prop where
  un : ∃ fs, Tryd.prog.underlying t = some (.struct fs)
  size : (Tryd.prog.info? t).map (·.size) = some n
theorem run_loadB {t : TypeId} {n : Nat} (T : StructOf t n) {w : World} {g : Nat} {cs : Array Value} {fr : Nat × Nat} (hb : w.heap[g]? = some (.cells cs t fr)) (hn : cs.size = n) : (Instr.loadAt t (.pointer (some ⟨g, 0, none⟩))).run Tryd.prog w = .ok (.agg cs) w := by
  obtain ⟨fs, hu⟩ := T.un
  simp only [Instr.loadAt, Instr.sureAddr, Sem.run_bind, Sem.run_pure, Result.andThen]
  exact run_loadVar_row w g t t cs fr _ hb hu rfl (by rw [T.size, hn])
theorem wpList_loadB {t : TypeId} {n : Nat} (T : StructOf t n) {ops : Array Oper} {rest : List Oper} {o : Oper} {a : Act} {Q : Exit → Act → World → Prop} {w : World} (hgd : o.guard = none) (p : Operand) (ho : o.op = Op.load t p)
    (g : Nat) (cs : Array Value) (fr : Nat × Nat) (hp : a.eval p = .pointer (some ⟨g, 0, none⟩)) (hb : w.heap[g]? = some (.cells cs t fr)) (hn : cs.size = n) (h : wpList Tryd.prog ops Q rest (a.put o.dst (.agg cs)) w) : wpList Tryd.prog ops Q (o :: rest) a w := by
  refine wpList_plain hgd fun _ hK => ?_
  have hr := run_loadB T hb hn
  unfold Oper.wp execOp
  simp only [ho, hp, Sem.run_bind, hr, Result.andThen_ok, Sem.run_pure]
  exact hK _ _ h
theorem wpList_storeB {t : TypeId} {n : Nat} (T : StructOf t n) {ops : Array Oper} {rest : List Oper} {o : Oper} {a : Act} {Q : Exit → Act → World → Prop} {w : World} (hgd : o.guard = none) (p v : Operand) (ho : o.op = Op.store t p v)
    (g : Nat) (old cs : Array Value) (hp : a.eval p = .pointer (some ⟨g, 0, none⟩)) (hv : a.eval v = .agg cs) (hb : w.heap[g]? = some (.cells old t (0, 0))) (hold : old.size = n) (hn : cs.size = n) (h1 : cs.all (·.oneCell') = true)
    (h : ∀ w', w'.heap[g]? = some (.cells cs t (0, 0)) → (∀ k, k ≠ g → w'.heap[k]? = w.heap[k]?) → w'.heap.size = w.heap.size → Below g w w' → wpList Tryd.prog ops Q rest (a.put o.dst undef) w') : wpList Tryd.prog ops Q (o :: rest) a w := by
  refine wpList_plain hgd fun _ hK => ?_
  have hr := run_storeVar_row (P := Tryd.prog) w g t t old cs hb (by rw [T.size, hn]) (by rw [hold, hn]) h1
  have hr2 : (Instr.storeAt t (.pointer (some ⟨g, 0, none⟩)) (.agg cs)).run Tryd.prog w = .ok () (w.setRow g cs) := by
    simp only [Instr.storeAt, Instr.sureAddr, Sem.run_bind, Sem.run_pure, Result.andThen]
    exact hr
  unfold Oper.wp execOp
  simp only [ho, hp, hv, Sem.run_bind, hr2, Result.andThen_ok, Sem.run_pure]
  have hot : ∀ k, k ≠ g → (w.setRow g cs).heap[k]? = w.heap[k]? := fun k hk => by
    simp only [World.setRow, Array.getElem?_modify]
    rw [if_neg (fun e => hk e.symm)]
  have hsz : (w.setRow g cs).heap.size = w.heap.size := by simp [World.setRow]
  exact hK _ _ (h _ (setRow_heap w g old cs t (0, 0) hb) hot hsz ⟨rfl, rfl, rfl, Nat.le_of_eq hsz.symm, fun k hk => hot k (by omega)⟩)
/-- The same, by lists. -/
theorem wpList_storeL {t : TypeId} {n : Nat} (T : StructOf t n) {ops : Array Oper} {rest : List Oper} {o : Oper} {a : Act} {Q : Exit → Act → World → Prop} {w : World} (hgd : o.guard = none) (p v : Operand) (ho : o.op = Op.store t p v)
    (g : Nat) (old cs : List Value) (hp : a.eval p = .pointer (some ⟨g, 0, none⟩)) (hv : a.eval v = .agg cs.toArray) (hb : w.heap[g]? = some (.cells old.toArray t (0, 0))) (hold : old.length = n) (hn : cs.length = n) (h1 : ∀ u ∈ cs, u.oneCell' = true)
    (h : ∀ w', w'.heap[g]? = some (.cells cs.toArray t (0, 0)) → (∀ k, k ≠ g → w'.heap[k]? = w.heap[k]?) → w'.heap.size = w.heap.size → Below g w w' → wpList Tryd.prog ops Q rest (a.put o.dst undef) w') : wpList Tryd.prog ops Q (o :: rest) a w :=
  wpList_storeB T hgd p v ho g old.toArray cs.toArray hp hv hb (by simpa using hold) (by simpa using hn) (Array.all_eq_true_iff_forall_mem.2 fun u hu => h1 u (by simpa using hu)) h
/-- A struct built in one step: what the build yields is shown by the kernel. -/
theorem wpList_buildB {t : TypeId} {ops : Array Oper} {rest : List Oper} {o : Oper} {a : Act} {Q : Exit → Act → World → Prop} {w : World} (hgd : o.guard = none) (parts : Array (Nat × Operand)) (ho : o.op = Op.build t parts) (v : Value)
    (hr : ∀ w : World, (Instr.build t (parts.map fun p => (p.1, a.eval p.2))).run Tryd.prog w = .ok v w) (h : wpList Tryd.prog ops Q rest (a.put o.dst v) w) : wpList Tryd.prog ops Q (o :: rest) a w := by
  refine wpList_plain hgd fun _ hK => ?_
  unfold Oper.wp execOp
  simp only [ho, Sem.run_bind, hr, Result.andThen_ok, Sem.run_pure]
  exact hK _ _ h
/-- What a build asks of a struct's type. -/
structure BuildOf (t : TypeId) (z : Value) (places : Array (Nat × Nat)) : Prop where
  un : ∃ fs, Tryd.prog.underlying t = some (.struct fs) ∧ ∀ w, (fs.mapM fun f => do pure (f.offset, ← sizeOf f.type) : Sem (Array (Nat × Nat))).run Tryd.prog w = .ok places w
  zero : ∀ w, (zeroValue t).run Tryd.prog w = .ok z w
theorem run_buildF {t : TypeId} {z : Value} {places : Array (Nat × Nat)} (T : BuildOf t z places) {parts : Array (Nat × Value)} {cells : Array Value} (hf : Instr.fill (places[·]?) z.cells parts.toList = some cells) (w : World) : (Instr.build t parts).run Tryd.prog w = .ok (.agg cells) w := by
  obtain ⟨fs, hu, hp⟩ := T.un
  unfold Instr.build
  simp only [Sem.run_bind, T.zero, Result.andThen_ok, run_underlying hu, hp, hf, Sem.run_pure]
/-- A struct built in one step; the parts, evaluated, as a list. -/
theorem wpList_buildL {t : TypeId} {z : Value} {places : Array (Nat × Nat)} (T : BuildOf t z places) {ops : Array Oper} {rest : List Oper} {o : Oper} {a : Act} {Q : Exit → Act → World → Prop} {w : World} (hgd : o.guard = none) (parts : List (Nat × Operand)) (ho : o.op = Op.build t parts.toArray) (vals : List (Nat × Value)) (cells : List Value)
    (hv : parts.map (fun p => (p.1, a.eval p.2)) = vals) (hf : Instr.fill (places[·]?) z.cells vals = some cells.toArray) (h : wpList Tryd.prog ops Q rest (a.put o.dst (.agg cells.toArray)) w) : wpList Tryd.prog ops Q (o :: rest) a w :=
  wpList_buildB hgd parts.toArray ho (.agg cells.toArray) (fun w => run_buildF T (by rw [List.map_toArray, hv]; exact hf) w) h
/-- A slice literal of structs in one step. -/
theorem wpList_bsliceL {t e : TypeId} {z : Value} {size bytes : Nat} (E : ElemOf t e z size bytes) {ops : Array Oper} {rest : List Oper} {o : Oper} {a : Act} {Q : Exit → Act → World → Prop} {w : World} (hgd : o.guard = none) (len : Nat) (parts : List (Nat × Operand)) (ho : o.op = Op.buildSlice t len parts.toArray)
    (vals : List (Nat × Value)) (cells zs : List Value) (hv : parts.map (fun p => (p.1, a.eval p.2)) = vals) (hl : 0 < len) (hs : len * size ≤ 1000) (hz : (List.range (len * size)).map (fun i => z.cells[i % z.cells.size]!) = zs)
    (hf : Instr.fill (fun i => some (i * size, size)) zs.toArray vals = some cells.toArray) (h : wpList Tryd.prog ops Q rest (a.put o.dst (.slice (some ⟨w.heap.size, 0, none⟩) len len)) (w.alloc (.cells cells.toArray e))) : wpList Tryd.prog ops Q (o :: rest) a w := by
  obtain ⟨i0, hi, hz0, hz1, hz2⟩ := info_parts E.info
  have hp := E.pos
  have hpos : 0 < len * size := Nat.mul_pos hl hp
  refine wpList_buildSlice hgd t e len parts.toArray ho cells.toArray i0 z E.sl hi hz0 (by rw [hz1]; omega) (by rw [hz1]; omega) ?_ h
  have e1 : (Array.range (len * i0.size)).map (fun i => z.cells[i % z.cells.size]!) = zs.toArray := by
    rw [hz1, ← hz]
    apply Array.ext'
    simp
  rw [e1, List.map_toArray, hz1]
  have e2 : (parts.map fun x => match x with | (i, x) => (i, a.eval x)) = vals := by rw [← hv]
  rw [e2]
  exact hf
end Go.Proofs.YtceceomaheobhaaDoor.big

/- The examples of layer 13: little. -/
namespace Go.Proofs.YtceceomaheobhaaDoor.ins
open Go.RowKit
open Go.Proofs.YtceceomaheobhaaDoor.lib Go.Proofs.YtceceomaheobhaaDoor.rd Go.Proofs.YtceceomaheobhaaDoor.typ
set_option linter.unusedVariables false
set_option linter.unusedSimpArgs false

/-- Elements in a block that is written out. -/
theorem row_blk {X : Type} {r : Rd X} {w : World} {B g : Nat} {cs : List Value} {x : X} {t : TypeId} {fr : Nat × Nat} (h : w.heap[g]? = some (.cells cs.toArray t fr)) (hg : g < B) (hr : r.at_ w B cs x) : RowAt r w B (some ⟨g, 0, none⟩) [x] := by
  refine ⟨by simp, fun i y hi => ?_⟩
  rcases i with _ | i
  · simp at hi
    subst hi
    refine ⟨_, cs, rfl, hg, hr, fun j u hu => ?_⟩
    rw [Nat.zero_mul, Nat.zero_add]
    exact World.news_of_block (w := w) (B := g) h j u (by simpa using hu)
  · simp at hi
theorem row_blk2 {X : Type} {r : Rd X} {w : World} {B g : Nat} {cs cs' : List Value} {x x' : X} {t : TypeId} {fr : Nat × Nat} (h : w.heap[g]? = some (.cells (cs ++ cs').toArray t fr)) (hg : g < B) (hr : r.at_ w B cs x) (hr' : r.at_ w B cs' x') : RowAt r w B (some ⟨g, 0, none⟩) [x, x'] := by
  have hl := r.len hr
  have hl' := r.len hr'
  have hnew := fun j u hu => World.news_of_block (w := w) (B := g) h j u hu
  refine ⟨by simp, fun i y hi => ?_⟩
  rcases i with _ | _ | i
  · simp at hi
    subst hi
    refine ⟨_, cs, rfl, hg, hr, fun j u hu => ?_⟩
    rw [Nat.zero_mul, Nat.zero_add]
    exact hnew j u (by rw [List.getElem?_append_left (List.getElem?_eq_some_iff.1 hu).1]; exact hu)
  · simp at hi
    subst hi
    refine ⟨_, cs', rfl, hg, hr', fun j u hu => ?_⟩
    rw [Nat.zero_add, Nat.one_mul]
    exact hnew (r.size + j) u (by rw [List.getElem?_append_right (by omega), hl, Nat.add_sub_cancel_left]; exact hu)
  · simp at hi
theorem ints_blk {w : World} {B g : Nat} {l : List Int} {t : TypeId} {fr : Nat × Nat} (h : w.heap[g]? = some (.cells (l.map (.int .i64)).toArray t fr)) (hg : g < B) (hl : l.length ≤ 17592186043904) : Ints w B (some ⟨g, 0, none⟩) l :=
  ⟨⟨by simp, fun _ => ⟨_, rfl, hg, fun j u hu => World.news_of_block (w := w) (B := g) h j u (by simpa using hu)⟩⟩, hl⟩

def oaO : Ord := ⟨⟨#[111, 97]⟩, [1], ⟨-1, 0, 0, 0⟩, ⟨0, 0, 50, 0⟩, 0, -1, 1, -1, -1, false⟩
def obO : Ord := ⟨⟨#[111, 98]⟩, [1], ⟨-1, 0, 0, 0⟩, ⟨0, 0, 50, 0⟩, 0, 0, 1, -1, -1, false⟩
def vanI : Ty := ⟨⟨#[118, 97, 110]⟩, 1, 0, 0, [5], 0, 0, 0, 100, 50, 0, 0, 0, 0⟩
def hubS : ByteArray := ⟨#[104, 117, 98]⟩
def littleI : Ins := ⟨⟨[hubS], []⟩, [vanI], [oaO, obO], [(0, 1)], []⟩
theorem oa_fits : OrdFits oaO := by unfold OrdFits StpFits oaO; decide
theorem ob_fits : OrdFits obO := by unfold OrdFits StpFits obO; decide
theorem van_fits : TyFits vanI := by unfold TyFits vanI; decide
def littleP (k : Nat) : InP := ⟨some ⟨k + 1 + 1 + 1 + 1 + 1 + 1, 0, none⟩, 1, none, 0, some ⟨k + 1 + 1 + 1 + 1 + 1 + 1 + 1, 0, none⟩, 1, some ⟨k + 1 + 1 + 1 + 1 + 1 + 1 + 1 + 1, 0, none⟩, 2, some ⟨k + 1 + 1 + 1 + 1 + 1 + 1 + 1 + 1 + 1, 0, none⟩, 1, none, 0⟩
def littleCells (k : Nat) : List Value := [.slice (some ⟨k + 1 + 1 + 1 + 1 + 1 + 1, 0, none⟩) 1 1, .slice none 0 0, .slice (some ⟨k + 1 + 1 + 1 + 1 + 1 + 1 + 1, 0, none⟩) 1 1, .slice (some ⟨k + 1 + 1 + 1 + 1 + 1 + 1 + 1 + 1, 0, none⟩) 2 2, .slice (some ⟨k + 1 + 1 + 1 + 1 + 1 + 1 + 1 + 1 + 1, 0, none⟩) 1 1, .slice none 0 0]
def LittleOut (w : World) (e : Ending) (w' : World) : Prop := ∃ P : InP, e = .returned (InV littleI P) ∧ InAt w' w'.heap.size littleI P ∧ Below w.heap.size w w'
end Go.Proofs.YtceceomaheobhaaDoor.ins

/- The examples of layer 13: little. -/
namespace Go.Proofs.YtceceomaheobhaaDoor.ins
open Go.RowKit
open Go.Proofs.YtceceomaheobhaaDoor.lib Go.Proofs.YtceceomaheobhaaDoor.rd Go.Proofs.YtceceomaheobhaaDoor.typ Go.Proofs.YtceceomaheobhaaDoor.big Go.Proofs.YtceceomaheobhaaDoor.app
set_option linter.unusedVariables false
set_option linter.unusedSimpArgs false

theorem sOrd : StructOf 51 16 := ⟨⟨_, Tryd.underlying51⟩, by kernel_rfl⟩
theorem sTy : StructOf 47 14 := ⟨⟨_, Tryd.underlying47⟩, by kernel_rfl⟩
theorem sIns : StructOf 30 6 := ⟨⟨_, Tryd.underlying30⟩, by kernel_rfl⟩
def zOrd : List Value := [.string ⟨#[]⟩, .slice none 0 0, .int .i64 0, .int .i64 0, .int .i64 0, .int .i64 0, .int .i64 0, .int .i64 0, .int .i64 0, .int .i64 0, .int .i64 0, .int .i64 0, .int .i64 0, .int .i64 0, .int .i64 0, .bool false]
def zTy : List Value := [.string ⟨#[]⟩, .int .i64 0, .int .i64 0, .int .i64 0, .slice none 0 0, .int .i64 0, .int .i64 0, .int .i64 0, .int .i64 0, .int .i64 0, .int .i64 0, .int .i64 0, .int .i64 0, .int .i64 0]
theorem bOrd : BuildOf 51 (.agg zOrd.toArray) #[(0, 1), (1, 1), (2, 4), (6, 4), (10, 1), (11, 1), (12, 1), (13, 1), (14, 1), (15, 1)] := ⟨⟨_, Tryd.underlying51, fun w => by kernel_rfl⟩, fun w => by kernel_rfl⟩
theorem bTy : BuildOf 47 (.agg zTy.toArray) #[(0, 1), (1, 1), (2, 1), (3, 1), (4, 1), (5, 1), (6, 1), (7, 1), (8, 1), (9, 1), (10, 1), (11, 1), (12, 1), (13, 1)] := ⟨⟨_, Tryd.underlying47, fun w => by kernel_rfl⟩, fun w => by kernel_rfl⟩
theorem heap_old (W : World) (o : Obj) (k : Nat) (hk : k < W.heap.size) : (W.alloc o).heap[k]? = W.heap[k]? := Below.heap_alloc _ _ _ hk
def TBlk (w : World) (k : Nat) (t : Ty) (C : Option Addr) (c : Nat) : Prop := w.heap[k]? = some (.cells (TyCells t C c).toArray 47 (0, 0))
def IBlk (w : World) (k : Nat) (x : Int) : Prop := w.heap[k]? = some (.cells #[.int .i64 x] 3 (0, 0))
/-- Where little stands: the blocks that lie. -/
structure LtlA (w wx : World) : Prop where
  res : SixAt wx w.heap.size nilCs
  ld : IBlk wx (w.heap.size + 1) 1
  oa : ord.OrBlk wx (w.heap.size + 1 + 1) oaO (some ⟨w.heap.size + 1, 0, none⟩) 1
  bel : Below w.heap.size w wx
structure LtlB (o : Ord) (w wx : World) : Prop where
  a : LtlA w wx
  ob : ord.OrBlk wx (w.heap.size + 1 + 1 + 1) o (some ⟨w.heap.size + 1, 0, none⟩) 1
structure LtlC (w wx : World) : Prop where
  b : LtlB obO w wx
  cp : IBlk wx (w.heap.size + 1 + 1 + 1 + 1) 5
  ty : TBlk wx (w.heap.size + 1 + 1 + 1 + 1 + 1) vanI (some ⟨w.heap.size + 1 + 1 + 1 + 1, 0, none⟩) 1
theorem LtlA.keep {w wx wy : World} (h : LtlA w wx) (hk : ∀ k, k < w.heap.size + 1 + 1 + 1 → wy.heap[k]? = wx.heap[k]?) (hb : Below w.heap.size w wy) : LtlA w wy :=
  ⟨(hk _ (by omega)).trans h.res, (hk _ (by omega)).trans h.ld, (hk _ (by omega)).trans h.oa, hb⟩
def ob1O : Ord := { oaO with name := ⟨#[111, 98]⟩ }
theorem ordBlk_frozen {w : World} {k : Nat} {o : Ord} {C : Option Addr} {c : Nat} (h : ord.OrBlk w k o C c) (i : Nat) : w.frozen? ⟨k, i, none⟩ = false := by simp [World.frozen?, show w.heap[k]? = _ from h]
theorem tyCells_one (o : Ty) (C : Option Addr) (c : Nat) : ∀ u ∈ TyCells o C c, u.oneCell' = true := fun u hu => by
  simp only [TyCells, List.mem_cons, List.not_mem_nil, or_false] at hu
  rcases hu with rfl | rfl | rfl | rfl | rfl | rfl | rfl | rfl | rfl | rfl | rfl | rfl | rfl | rfl <;> rfl
theorem LtlB.set {w wx : World} {o o' : Ord} (h : LtlB o w wx) (i : Nat) (u : Value) (hs : wx.heap.size = w.heap.size + 1 + 1 + 1 + 1) (e : ((OrdCells o (some ⟨w.heap.size + 1, 0, none⟩) 1).toArray.setIfInBounds i u) = (OrdCells o' (some ⟨w.heap.size + 1, 0, none⟩) 1).toArray) : LtlB o' w (wx.setCell ⟨w.heap.size + 1 + 1 + 1, i, none⟩ u) := by
  refine ⟨h.a.keep (fun k hk => Below.heap_setCell _ _ _ _ (show k ≠ w.heap.size + 1 + 1 + 1 by omega)) (h.a.bel.setCell (p := ⟨w.heap.size + 1 + 1 + 1, i, none⟩) (show w.heap.size ≤ w.heap.size + 1 + 1 + 1 by omega) u), ?_⟩
  have h1 := heap_setCell_same wx (w.heap.size + 1 + 1 + 1) i _ _ u h.ob
  rw [e] at h1
  exact h1
theorem oa_fill (ad : Addr) : Instr.fill ((#[(0, 1), (1, 1), (2, 4), (6, 4), (10, 1), (11, 1), (12, 1), (13, 1), (14, 1), (15, 1)] : Array (Nat × Nat))[·]?) (Value.agg zOrd.toArray).cells [(0, .string ⟨#[111, 97]⟩), (1, .slice (some ad) 1 1), (2, .agg #[.int .i64 (-1), .int .i64 0, .int .i64 0, .int .i64 0]), (3, .agg #[.int .i64 0, .int .i64 0, .int .i64 50, .int .i64 0]), (5, .int .i64 (-1)), (6, .int .i64 1), (7, .int .i64 (-1)), (8, .int .i64 (-1))] = some (OrdCells oaO (some ad) 1).toArray := by kernel_rfl
theorem van_fill (ad : Addr) : Instr.fill ((#[(0, 1), (1, 1), (2, 1), (3, 1), (4, 1), (5, 1), (6, 1), (7, 1), (8, 1), (9, 1), (10, 1), (11, 1), (12, 1), (13, 1)] : Array (Nat × Nat))[·]?) (Value.agg zTy.toArray).cells [(0, .string ⟨#[118, 97, 110]⟩), (1, .int .i64 1), (4, .slice (some ad) 1 1), (8, .int .i64 100), (9, .int .i64 50)] = some (TyCells vanI (some ad) 1).toArray := by kernel_rfl
def ltlCs (k : Nat) : List Value := [.slice (some ⟨k, 0, none⟩) 1 1, .slice none 0 0, .slice (some ⟨k + 1, 0, none⟩) 1 1, .slice (some ⟨k + 1 + 1, 0, none⟩) 2 2, .slice (some ⟨k + 1 + 1 + 1, 0, none⟩) 1 1, .slice none 0 0]
theorem ltlCs_one (k : Nat) : ∀ u ∈ ltlCs k, u.oneCell' = true := fun u hu => by
  simp only [ltlCs, List.mem_cons, List.not_mem_nil, or_false] at hu
  rcases hu with rfl | rfl | rfl | rfl | rfl | rfl <;> rfl
def ltlP (k : Nat) : InP := ⟨some ⟨k, 0, none⟩, 1, none, 0, some ⟨k + 1, 0, none⟩, 1, some ⟨k + 1 + 1, 0, none⟩, 2, some ⟨k + 1 + 1 + 1, 0, none⟩, 1, none, 0⟩
theorem ty_elem : ElemOf 26 47 (.agg zTy.toArray) 14 136 := ⟨Tryd.underlying26, by kernel_rfl, rfl, by decide, by decide⟩
theorem ord_elem' : ElemOf 27 51 (.agg zOrd.toArray) 16 152 := ⟨Tryd.underlying27, by kernel_rfl, rfl, by decide, by decide⟩
theorem ty_range : (List.range (1 * 14)).map (fun i => (Value.agg zTy.toArray).cells[i % (Value.agg zTy.toArray).cells.size]!) = zTy := by kernel_rfl
theorem ord_range : (List.range (2 * 16)).map (fun i => (Value.agg zOrd.toArray).cells[i % (Value.agg zOrd.toArray).cells.size]!) = zOrd ++ zOrd := by kernel_rfl
theorem ty_fill (ad : Addr) : Instr.fill (fun i => some (i * 14, 14)) zTy.toArray [(0, .agg (TyCells vanI (some ad) 1).toArray)] = some (TyCells vanI (some ad) 1).toArray := by kernel_rfl
theorem ord_fill (ad : Addr) : Instr.fill (fun i => some (i * 16, 16)) (zOrd ++ zOrd).toArray [(0, .agg (OrdCells oaO (some ad) 1).toArray), (1, .agg (OrdCells obO (some ad) 1).toArray)] = some (OrdCells oaO (some ad) 1 ++ OrdCells obO (some ad) 1).toArray := by kernel_rfl
set_option maxRecDepth 20000 in
set_option maxHeartbeats 2000000 in
theorem little_any (w : World) : Calls Tryd.prog 16 #[] w (LittleOut w) := by
  go_enter Tryd.func16, Tryd.ntmps16
  go_upto_region 1 with fail
  go_cut [1] (fun p wx => p = .pointer (some ⟨w.heap.size + 1 + 1, 0, none⟩) ∧ LtlA w wx ∧ wx.heap.size = w.heap.size + 1 + 1 + 1)
  case first => as_aux_lemma =>
    have hb : (((w.alloc (.cells nilCs.toArray 30)).alloc (.cells #[.int .i64 1] 3)).alloc (.cells zOrd.toArray 51)).heap[w.heap.size + 1 + 1]? = some (.cells zOrd.toArray 51 (0, 0)) := by
      have h := World.alloc_heap_new ((w.alloc (.cells nilCs.toArray 30)).alloc (.cells #[.int .i64 1] 3)) (.cells zOrd.toArray 51)
      rw [World.size_alloc, World.size_alloc] at h
      exact h
    have hb0 : (((w.alloc (.cells nilCs.toArray 30)).alloc (.cells #[.int .i64 1] 3)).alloc (.cells zOrd.toArray 51)).heap[w.heap.size]? = some (.cells nilCs.toArray 30 (0, 0)) := by
      rw [heap_old _ _ _ (by simp <;> omega), heap_old _ _ _ (by simp)]
      exact World.alloc_heap_new w _
    have hb1 : (((w.alloc (.cells nilCs.toArray 30)).alloc (.cells #[.int .i64 1] 3)).alloc (.cells zOrd.toArray 51)).heap[w.heap.size + 1]? = some (.cells #[.int .i64 1] 3 (0, 0)) := by
      rw [heap_old _ _ _ (by simp)]
      have h := World.alloc_heap_new (w.alloc (.cells nilCs.toArray 30)) (.cells #[.int .i64 1] 3)
      rw [World.size_alloc] at h
      exact h
    have hB : Below w.heap.size w (((w.alloc (.cells nilCs.toArray 30)).alloc (.cells #[.int .i64 1] 3)).alloc (.cells zOrd.toArray 51)) := (((Below.refl _ _).alloc (Nat.le_refl _) _).alloc (by simp) _).alloc (by simp <;> omega) _
    have hS : (((w.alloc (.cells nilCs.toArray 30)).alloc (.cells #[.int .i64 1] 3)).alloc (.cells zOrd.toArray 51)).heap.size = w.heap.size + 1 + 1 + 1 := by simp
    have H := Lib.hid (And.intro hb (And.intro hb0 (And.intro hb1 (And.intro hB hS))))
    clear hb hb0 hb1 hB hS
    go_wp2_with (first
      | ((with_reducible refine wpList_buildL bOrd rfl _ rfl _ (OrdCells oaO (some ⟨w.heap.size + 1, 0, none⟩) 1) ?_ (oa_fill _) ?_); exact rfl)
      | ((with_reducible refine wpList_storeL (t := 51) sOrd rfl _ _ rfl (w.heap.size + 1 + 1) zOrd (OrdCells oaO (some ⟨w.heap.size + 1, 0, none⟩) 1) ?_ ?_ ?_ ?_ ?_ (ordCells_one _ _ _) ?_); exact rfl; exact rfl; exact H.out.1; exact rfl; exact rfl; intro w1 k1 k2 k3 k4; have K := Lib.hid (And.intro k1 (And.intro k2 (And.intro k3 k4))); clear k1 k2 k3 k4))
    go_meet
    obtain ⟨k1, k2, k3, k4⟩ := K.out
    refine ⟨rfl, ⟨(k2 _ (by omega)).trans H.out.2.1, (k2 _ (by omega)).trans H.out.2.2.1, k1, H.out.2.2.2.1.trans (k4.mono (by omega))⟩, k3.trans H.out.2.2.2.2⟩
  obtain ⟨h1, hA, hs⟩ := hcut
  subst h1
  have HA := Lib.hid hA
  have HS := Lib.hid hs
  clear hA hs
  go_upto_region 2 with fail
  go_cut [2] (fun p wx => p = .pointer (some ⟨w.heap.size + 1 + 1 + 1, 0, none⟩) ∧ LtlB oaO w wx ∧ wx.heap.size = w.heap.size + 1 + 1 + 1 + 1)
  case first => as_aux_lemma =>
    go_wp2_with (first
      | ((with_reducible refine wpList_loadB sOrd rfl _ rfl (w.heap.size + 1 + 1) (OrdCells oaO (some ⟨w.heap.size + 1, 0, none⟩) 1).toArray (0, 0) ?_ ?_ ?_ ?_); exact rfl; exact HA.out.oa; exact rfl)
      | ((with_reducible refine wpList_storeL (t := 51) sOrd rfl _ _ rfl wc.heap.size zOrd (OrdCells oaO (some ⟨w.heap.size + 1, 0, none⟩) 1) ?_ ?_ ?_ ?_ ?_ (ordCells_one _ _ _) ?_); exact rfl; exact rfl; exact World.alloc_heap_new wc _; exact rfl; exact rfl; intro w1 k1 k2 k3 k4; have K := Lib.hid (And.intro k1 (And.intro k2 (And.intro k3 k4))); clear k1 k2 k3 k4))
    go_meet
    obtain ⟨k1, k2, k3, k4⟩ := K.out
    have e := HS.out
    refine ⟨by rw [e], ⟨HA.out.keep (fun k hk => (k2 k (by omega)).trans (heap_old _ _ _ (by omega))) (((HA.out.bel.alloc (by omega) _).trans (k4.mono (by omega)))), ?_⟩, by rw [k3, World.size_alloc, e]⟩
    rw [e] at k1
    exact k1
  obtain ⟨h2, hB, hs⟩ := hcut
  subst h2
  clear HA HS
  have HB := Lib.hid hB
  have HS := Lib.hid hs
  obtain ⟨m0, -⟩ := hB.ob.cells
  have f0 := ordBlk_frozen hB.ob 0
  clear hB hs
  go_upto_region 3 with fail
  go_cut [] (fun wx => LtlB ob1O w wx ∧ wx.heap.size = w.heap.size + 1 + 1 + 1 + 1)
  case first => as_aux_lemma =>
    go_wp2
    go_meet
    exact ⟨HB.out.set 0 _ HS.out rfl, by simp [World.setCell, HS.out]⟩
  clear m0 f0 HB HS
  obtain ⟨hB, hs⟩ := hcut
  have HB := Lib.hid hB
  have HS := Lib.hid hs
  obtain ⟨-, -, -, -, -, -, -, -, -, -, -, m11, -⟩ := hB.ob.cells
  have f11 := ordBlk_frozen hB.ob 11
  clear hB hs
  go_upto_region 4 with fail
  go_cut [] (fun wx => LtlB obO w wx ∧ wx.heap.size = w.heap.size + 1 + 1 + 1 + 1)
  case first => as_aux_lemma =>
    go_wp2
    go_meet
    exact ⟨HB.out.set 11 _ HS.out rfl, by simp [World.setCell, HS.out]⟩
  clear m11 f11 HB HS
  obtain ⟨hB, hs⟩ := hcut
  have HB := Lib.hid hB
  have HS := Lib.hid hs
  clear hB hs
  go_upto_region 5 with fail
  go_cut [3] (fun p wx => p = .pointer (some ⟨w.heap.size + 1 + 1 + 1 + 1 + 1, 0, none⟩) ∧ LtlC w wx ∧ wx.heap.size = w.heap.size + 1 + 1 + 1 + 1 + 1 + 1)
  case first => as_aux_lemma =>
    go_wp2_with (first
      | ((with_reducible refine wpList_buildL bTy rfl _ rfl _ (TyCells vanI (some ⟨wc.heap.size, 0, none⟩) 1) ?_ (van_fill _) ?_); exact rfl)
      | ((with_reducible refine wpList_storeL (t := 47) sTy rfl _ _ rfl (wc.heap.size + 1) zTy (TyCells vanI (some ⟨wc.heap.size, 0, none⟩) 1) ?_ ?_ ?_ ?_ ?_ (tyCells_one _ _ _) ?_); exact rfl; exact rfl; (have h := World.alloc_heap_new (wc.alloc (.cells #[.int .i64 5] 3)) (.cells zTy.toArray 47); rw [World.size_alloc] at h; exact h); exact rfl; exact rfl; intro w1 k1 k2 k3 k4; have K := Lib.hid (And.intro k1 (And.intro k2 (And.intro k3 k4))); clear k1 k2 k3 k4))
    go_meet
    obtain ⟨k1, k2, k3, k4⟩ := K.out
    have e := HS.out
    have hk : ∀ k, k < wc.heap.size → w1.heap[k]? = wc.heap[k]? := fun k hk => (k2 k (by omega)).trans ((heap_old _ _ _ (by simp; omega)).trans (heap_old _ _ _ hk))
    have hcp : w1.heap[wc.heap.size]? = some (.cells #[.int .i64 5] 3 (0, 0)) := (k2 _ (by omega)).trans ((heap_old _ _ _ (by simp)).trans (World.alloc_heap_new wc _))
    have hbel : Below w.heap.size w w1 := ((HB.out.a.bel.alloc (by omega) _).alloc (by simp; omega) _).trans (k4.mono (by omega))
    refine ⟨by rw [e], ⟨⟨HB.out.a.keep (fun k hk' => hk k (by omega)) hbel, (hk _ (by omega)).trans HB.out.ob⟩, ?_, ?_⟩, by rw [k3, World.size_alloc, World.size_alloc, e]⟩
    · rw [e] at hcp
      exact hcp
    · rw [e] at k1
      exact k1
  obtain ⟨h3, hC, hs⟩ := hcut
  subst h3
  clear HB HS
  have HC := Lib.hid hC
  have HS := Lib.hid hs
  clear hC hs
  go_upto_region 6 with fail
  go_wp2_with (first
    | ((with_reducible refine wpList_loadB sTy rfl _ rfl (w.heap.size + 1 + 1 + 1 + 1 + 1) (TyCells vanI (some ⟨w.heap.size + 1 + 1 + 1 + 1, 0, none⟩) 1).toArray (0, 0) ?_ ?_ ?_ ?_); exact rfl; (rw [heap_old _ _ _ (by have := HS.out; omega)]; exact HC.out.ty); exact rfl)
    | ((with_reducible refine wpList_loadB sOrd rfl _ rfl (w.heap.size + 1 + 1) (OrdCells oaO (some ⟨w.heap.size + 1, 0, none⟩) 1).toArray (0, 0) ?_ ?_ ?_ ?_); exact rfl; (rw [heap_old _ _ _ (by have := HS.out; simp; omega), heap_old _ _ _ (by have := HS.out; omega)]; exact HC.out.b.a.oa); exact rfl)
    | ((with_reducible refine wpList_loadB sOrd rfl _ rfl (w.heap.size + 1 + 1 + 1) (OrdCells obO (some ⟨w.heap.size + 1, 0, none⟩) 1).toArray (0, 0) ?_ ?_ ?_ ?_); exact rfl; (rw [heap_old _ _ _ (by have := HS.out; simp; omega), heap_old _ _ _ (by have := HS.out; omega)]; exact HC.out.b.ob); exact rfl)
    | ((with_reducible refine wpList_bsliceL ty_elem rfl 1 _ rfl _ (TyCells vanI (some ⟨w.heap.size + 1 + 1 + 1 + 1, 0, none⟩) 1) zTy ?_ (by decide) (by decide) ty_range (ty_fill _) ?_); exact rfl)
    | ((with_reducible refine wpList_bsliceL ord_elem' rfl 2 _ rfl _ (OrdCells oaO (some ⟨w.heap.size + 1, 0, none⟩) 1 ++ OrdCells obO (some ⟨w.heap.size + 1, 0, none⟩) 1) (zOrd ++ zOrd) ?_ (by decide) (by decide) ord_range (ord_fill _) ?_); exact rfl)
    | ((with_reducible refine wpList_storeL sIns rfl _ _ rfl w.heap.size nilCs (ltlCs wc.heap.size) ?_ ?_ ?_ ?_ ?_ (ltlCs_one _) ?_); exact rfl; exact rfl; (rw [heap_old _ _ _ (by have := HS.out; simp; omega), heap_old _ _ _ (by have := HS.out; simp; omega), heap_old _ _ _ (by have := HS.out; simp; omega), heap_old _ _ _ (by have := HS.out; omega)]; exact HC.out.b.a.res); exact rfl; exact rfl; intro w1 k1 k2 k3 k4; have K := Lib.hid (And.intro k1 (And.intro k2 (And.intro k3 k4))); clear k1 k2 k3 k4))
  obtain ⟨k1, k2, k3, k4⟩ := K.out
  have e := HS.out
  have hsix : SixAt w1 w.heap.size (ltlCs wc.heap.size) := k1
  have c0 : w1.cell? ⟨w.heap.size, 0, none⟩ = some (.slice (some ⟨wc.heap.size, 0, none⟩) 1 1) := hsix.cell (j := 0) rfl
  have c1 : w1.cell? ⟨w.heap.size, 1, none⟩ = some (.slice none 0 0) := hsix.cell (j := 1) rfl
  have c2 : w1.cell? ⟨w.heap.size, 2, none⟩ = some (.slice (some ⟨wc.heap.size + 1, 0, none⟩) 1 1) := hsix.cell (j := 2) rfl
  have c3 : w1.cell? ⟨w.heap.size, 3, none⟩ = some (.slice (some ⟨wc.heap.size + 1 + 1, 0, none⟩) 2 2) := hsix.cell (j := 3) rfl
  have c4 : w1.cell? ⟨w.heap.size, 4, none⟩ = some (.slice (some ⟨wc.heap.size + 1 + 1 + 1, 0, none⟩) 1 1) := hsix.cell (j := 4) rfl
  have c5 : w1.cell? ⟨w.heap.size, 5, none⟩ = some (.slice none 0 0) := hsix.cell (j := 5) rfl
  refine bodyPost_ret (v := InV littleI (ltlP wc.heap.size)) (by simp [results, Tryd.results16, go_sem, InV, littleI, ltlP, c0, c1, c2, c3, c4, c5]) rfl ?_
  clear c0 c1 c2 c3 c4 c5 hsix
  have n9 := k2 (wc.heap.size + 1 + 1 + 1) (by omega)
  have n8 := k2 (wc.heap.size + 1 + 1) (by omega)
  have n7 := k2 (wc.heap.size + 1) (by omega)
  have n6 := k2 wc.heap.size (by omega)
  have n4 := k2 (w.heap.size + 1 + 1 + 1 + 1) (by omega)
  have n1 := k2 (w.heap.size + 1) (by omega)
  rw [heap_old _ _ _ (by simp; omega), heap_old _ _ _ (by simp; omega), heap_old _ _ _ (by simp; omega), heap_old _ _ _ (by omega), HC.out.cp] at n4
  rw [heap_old _ _ _ (by simp; omega), heap_old _ _ _ (by simp; omega), heap_old _ _ _ (by simp; omega), heap_old _ _ _ (by omega), HC.out.b.a.ld] at n1
  rw [heap_old _ _ _ (by simp; omega), heap_old _ _ _ (by simp; omega), heap_old _ _ _ (by simp), World.alloc_heap_new wc] at n6
  have q7 := fun (o o' : Obj) => World.alloc_heap_new (wc.alloc o) o'
  simp only [World.size_alloc] at q7
  rw [heap_old _ _ _ (by simp), heap_old _ _ _ (by simp), q7] at n7
  have q8 := fun (o o' o'' : Obj) => World.alloc_heap_new ((wc.alloc o).alloc o') o''
  simp only [World.size_alloc] at q8
  rw [heap_old _ _ _ (by simp), q8] at n8
  have q9 := fun (o o' o'' o3 : Obj) => World.alloc_heap_new (((wc.alloc o).alloc o').alloc o'') o3
  simp only [World.size_alloc] at q9
  rw [q9] at n9
  rw [World.size_alloc, World.size_alloc, World.size_alloc, World.size_alloc] at k3
  have i1 : Ints w1 w1.heap.size (some ⟨w.heap.size + 1, 0, none⟩) [1] := ints_blk n1 (by omega) (by decide)
  have i4 : Ints w1 w1.heap.size (some ⟨w.heap.size + 1 + 1 + 1 + 1, 0, none⟩) [5] := ints_blk n4 (by omega) (by decide)
  refine ⟨ltlP wc.heap.size, rfl, ⟨?_, RowAt.nil, ?_, ?_, ?_, RowAt.nil, Nat.le_refl 1, Nat.le_refl 2, Nat.le_refl 1, Nat.le_refl 0⟩, ?_⟩
  · exact row_blk (r := rStr) (cs := [.string hubS]) n6 (by omega) ⟨rfl, by decide⟩
  · exact row_blk (r := rTy) n7 (by omega) (rTy_mk i4 van_fits)
  · exact row_blk2 (r := rOrd) n8 (by omega) (rOrd_mk i1 oa_fits) (rOrd_mk i1 ob_fits)
  · exact row_blk (r := rPair rInt rInt) (cs := [.int .i64 0] ++ [.int .i64 1]) n9 (by omega) ⟨_, _, rfl, ⟨rfl, by decide⟩, ⟨rfl, by decide⟩⟩
  · exact ((((HC.out.b.a.bel.alloc (by omega) _).alloc (by simp; omega) _).alloc (by simp; omega) _).alloc (by simp; omega) _).trans k4
end Go.Proofs.YtceceomaheobhaaDoor.ins

/- Totals; equal lists of numbers; the same types. -/
namespace Go.Proofs.YtceceomaheobhaaDoor.flt
open Go.RowKit
open Go.Proofs.YtceceomaheobhaaDoor.lib Go.Proofs.YtceceomaheobhaaDoor.rd Go.Proofs.YtceceomaheobhaaDoor.typ
set_option linter.unusedVariables false

/-- The number of vehicles of the first k types. -/
def totTo (l : List Ty) (k : Nat) : Int := ((l.take k).map fun t => if inB t.count 0 10 then t.count else 0).sum
theorem totTo_succ {l : List Ty} {k : Nat} {t : Ty} (h : l[k]? = some t) : totTo l (k + 1) = totTo l k + (if inB t.count 0 10 then t.count else 0) := by
  obtain ⟨h1, h2⟩ := List.getElem?_eq_some_iff.1 h
  unfold totTo
  rw [List.take_succ_eq_append_getElem h1, h2, List.map_append, List.sum_append]
  simp
theorem inB_bd {n a b : Int} (h : inB n a b = true) : a ≤ n ∧ n ≤ b := by unfold inB at h; simpa using h

def sameB (a b : List Int) : Bool := decide (a = b)
theorem same_step {a b : List Int} {k : Nat} {x y : Int} (hx : a[k]? = some x) (hy : b[k]? = some y) : decide (a.drop k = b.drop k) = (decide (x = y) && decide (a.drop (k + 1) = b.drop (k + 1))) := by
  rw [drop_at hx, drop_at hy, Bool.eq_iff_iff]
  simp
set_option maxHeartbeats 1000000 in
theorem equal_any (A : Option Addr) (c : Nat) (a : List Int) (n : Nat) (hn : a.length = n) (A' : Option Addr) (c' : Nat) (b : List Int) (m : Nat) (hm : b.length = m) (w : World) (B B' : Nat) (hB : B ≤ w.heap.size) (hB' : B' ≤ w.heap.size) (ha : Ints w B A a) (hb : Ints w B' A' b) :
    Calls Tryd.prog 41 #[.slice A n c, .slice A' m c'] w fun e w' => e = .returned (.bool (sameB a b)) ∧ Below w.heap.size w w' := by
  have hlen := ha.len
  rw [hn] at hlen
  by_cases h : n = m
  · subst h
    have HN := Lib.hid hn
    have HM := Lib.hid hm
    clear hn hm
    go_enter Tryd.func41, Tryd.ntmps41
    go_wp2
    go_loopw [5, 13] (fun _ i wr => ∃ k : Nat, k ≤ n ∧ i = .int .i64 k ∧ Hid (sameB a b = decide (a.drop k = b.drop k)) ∧ Below w.heap.size w wr) (fun _ i _ => n - (intOf i).toNat)
    case atStart => exact ⟨0, by omega, rfl, Lib.hid rfl, Below.refl _ _⟩
    case round =>
      obtain ⟨k, hk, rfl, hr, hbel⟩ := hrel
      by_cases hlt : k < n
      · obtain ⟨ad, x, rfl, hadb, hx, hcx⟩ := (ha.below (hbel.mono hB)).at_ (k := k) (by rw [HN.out]; exact hlt)
        obtain ⟨ad', y, rfl, hadb', hy, hcy⟩ := (hb.below (hbel.mono hB')).at_ (k := k) (by rw [HM.out]; exact hlt)
        have HX := Lib.hid (same_step hx hy)
        have hk0 : (0 : Int) ≤ (k : Int) := by omega
        have hkn : (k : Int) < (n : Int) := by omega
        clear hx hy
        by_cases hxy : x = y
        · subst hxy
          go_wp2
          go_quiet (fail)
          go_wp2
          go_roundw
          case rel => exact ⟨k + 1, by omega, by go_num, Lib.hid (by rw [hr.out, HX.out]; simp), bel_drewN hbel _⟩
          case measure => simp [intOf]; omega
        · have h1 : (x == y) = false := by simp [hxy]
          have h2 : (x != y) = true := by simp [hxy]
          have HF := Lib.hid (decide_eq_false hxy)
          clear hxy
          go_wp2
          go_quiet (fail)
          go_wp2
          go_ret
          exact ⟨ret_bool (by rw [hr.out, HX.out, HF.out]; rfl), bel_drewN hbel _⟩
      · have hkn : k = n := by omega
        subst hkn
        clear hlt
        go_wp2
        go_ret
        exact ⟨ret_bool (by rw [hr.out, List.drop_of_length_le (by rw [HN.out]; exact Nat.le_refl _), List.drop_of_length_le (by rw [HM.out]; exact Nat.le_refl _)]; simp), hbel⟩
  · have hd2 : ((n : Int) == (m : Int)) = false := by simp; omega
    have hd3 : ((n : Int) != (m : Int)) = true := by simp; omega
    have HD : Hid (sameB a b = false) := Lib.hid (by unfold sameB; rw [decide_eq_false]; intro e; rw [e] at hn; omega)
    clear h hn hm
    go_enter Tryd.func41, Tryd.ntmps41
    go_wp2
    go_ret
    exact ⟨ret_bool (by rw [HD.out]), Below.refl _ _⟩
end Go.Proofs.YtceceomaheobhaaDoor.flt

/- The same types. -/
namespace Go.Proofs.YtceceomaheobhaaDoor.flt
open Go.RowKit
open Go.Proofs.YtceceomaheobhaaDoor.lib Go.Proofs.YtceceomaheobhaaDoor.rd Go.Proofs.YtceceomaheobhaaDoor.typ
set_option linter.unusedVariables false

/-- The numbers of two types are the same. -/
def numsB (a b : Ty) : Bool := decide (a.count = b.count ∧ a.frm = b.frm ∧ a.to = b.to ∧ a.skills = b.skills ∧ a.profile = b.profile ∧ a.opn = b.opn ∧ a.close = b.close ∧ a.drive = b.drive ∧ a.rest = b.rest ∧ a.fixed = b.fixed ∧ a.mile = b.mile ∧ a.tick = b.tick)
def sameT (a b : Ty) : Bool := sameB a.cap b.cap && (sameS a.name b.name && numsB a b)

theorem nums_eq (a b : Ty) (w : World) : (Op.equalIn 10000 79 (.agg #[.int .i64 a.count, .int .i64 a.frm, .int .i64 a.to, .int .i64 a.skills, .int .i64 a.profile, .int .i64 a.opn, .int .i64 a.close, .int .i64 a.drive, .int .i64 a.rest, .int .i64 a.fixed, .int .i64 a.mile, .int .i64 a.tick, .int .i64 0]) (.agg #[.int .i64 b.count, .int .i64 b.frm, .int .i64 b.to, .int .i64 b.skills, .int .i64 b.profile, .int .i64 b.opn, .int .i64 b.close, .int .i64 b.drive, .int .i64 b.rest, .int .i64 b.fixed, .int .i64 b.mile, .int .i64 b.tick, .int .i64 0])).run Tryd.prog w = .ok (numsB a b) w := by
  obtain ⟨i0, hi, _⟩ := info_parts int_info
  have h := arr.run_eq_ints (t := 79) w 9998 Tryd.underlying79 hi [a.count, a.frm, a.to, a.skills, a.profile, a.opn, a.close, a.drive, a.rest, a.fixed, a.mile, a.tick, 0] [b.count, b.frm, b.to, b.skills, b.profile, b.opn, b.close, b.drive, b.rest, b.fixed, b.mile, b.tick, 0] rfl rfl
  have e : decide ([a.count, a.frm, a.to, a.skills, a.profile, a.opn, a.close, a.drive, a.rest, a.fixed, a.mile, a.tick, 0] = [b.count, b.frm, b.to, b.skills, b.profile, b.opn, b.close, b.drive, b.rest, b.fixed, b.mile, b.tick, 0]) = numsB a b := by
    unfold numsB
    rw [Bool.eq_iff_iff]
    simp
  rw [e] at h
  exact h
set_option maxRecDepth 100000 in
set_option maxHeartbeats 4000000 in
theorem same_any (a b : Ty) (C : Option Addr) (c : Nat) (C' : Option Addr) (c' : Nat) (w : World) (hC : Ints w w.heap.size C a.cap) (hC' : Ints w w.heap.size C' b.cap) :
    Calls Tryd.prog 24 #[.agg #[.string a.name, .int .i64 a.count, .int .i64 a.frm, .int .i64 a.to, .slice C a.cap.length c, .int .i64 a.skills, .int .i64 a.profile, .int .i64 a.opn, .int .i64 a.close, .int .i64 a.drive, .int .i64 a.rest, .int .i64 a.fixed, .int .i64 a.mile, .int .i64 a.tick], .agg #[.string b.name, .int .i64 b.count, .int .i64 b.frm, .int .i64 b.to, .slice C' b.cap.length c', .int .i64 b.skills, .int .i64 b.profile, .int .i64 b.opn, .int .i64 b.close, .int .i64 b.drive, .int .i64 b.rest, .int .i64 b.fixed, .int .i64 b.mile, .int .i64 b.tick]] w fun e w' => e = .returned (.bool (sameT a b)) ∧ Below w.heap.size w w' := by
  obtain ⟨q, hq⟩ : ∃ q, numsB a b = q := ⟨_, rfl⟩
  have heq := nums_eq a b
  rw [hq] at heq
  obtain ⟨R, hR⟩ : ∃ R, sameT a b = R := ⟨_, rfl⟩
  have HR : Hid (R = (sameB a.cap b.cap && ((a.name.toList == b.name.toList) && q))) := Lib.hid (by rw [← hR, ← hq]; rfl)
  rw [hR]
  clear hR hq
  go_enter Tryd.func24, Tryd.ntmps24
  go_wp2_with fail
  refine (equal_any C c a.cap _ rfl C' c' b.cap _ rfl _ w.heap.size w.heap.size (by simp; omega) (by simp; omega) ((hC.alloc (Nat.le_refl _) _).alloc (by simp) _) ((hC'.alloc (Nat.le_refl _) _).alloc (by simp) _)).mono ?_
  rintro e w1 ⟨rfl, hb1⟩
  have hz := hb1.size
  simp at hz
  have hc := fun b o h => hb1.cell (p := ⟨b, o, none⟩) h
  have hf := fun b o h => hb1.frozen (p := ⟨b, o, none⟩) h
  have l1 : w.heap.size < w1.heap.size := by omega
  have l2 : w.heap.size + 1 < w1.heap.size := by omega
  have hB : Below w.heap.size w w1 := (((Below.refl _ _).alloc (Nat.le_refl _) _).alloc (by simp) _).trans (hb1.mono (by simp; omega))
  have hB2 : ∀ o o', Below w.heap.size w ((w1.alloc o).alloc o') := fun o o' => (hB.alloc (by omega) _).alloc (by simp; omega) _
  cases hq : sameB a.cap b.cap
  · have HT : Hid (R = false) := Lib.hid (by rw [HR.out, hq]; rfl)
    clear hb1
    go_wp2
    go_ret
    exact ⟨ret_bool HT.out.symm, hB2 _ _⟩
  · cases hs : a.name.toList == b.name.toList
    · have HT : Hid (R = false) := Lib.hid (by rw [HR.out, hq, hs]; rfl)
      clear hb1
      go_wp2
      go_ret
      exact ⟨ret_bool HT.out.symm, hB2 _ _⟩
    · have HT : Hid (R = q) := Lib.hid (by rw [HR.out, hq, hs]; rfl)
      clear hb1
      go_wp2
      go_ret
      exact ⟨ret_bool HT.out.symm, hB2 _ _⟩
end Go.Proofs.YtceceomaheobhaaDoor.flt

/- Equal lists of numbers: slices.Equal. Portable. -/
namespace Go.Proofs.YtceceomaheobhaaDoor.eqs
open Go.RowKit
open Go.Proofs.YtceceomaheobhaaDoor.lib Go.Proofs.YtceceomaheobhaaDoor.rd
set_option linter.unusedVariables false

def sameB (a b : List Int) : Bool := decide (a = b)
theorem same_step {a b : List Int} {k : Nat} {x y : Int} (hx : a[k]? = some x) (hy : b[k]? = some y) : decide (a.drop k = b.drop k) = (decide (x = y) && decide (a.drop (k + 1) = b.drop (k + 1))) := by
  rw [drop_at hx, drop_at hy, Bool.eq_iff_iff]
  simp
set_option maxHeartbeats 1000000 in
theorem equal_any (A : Option Addr) (c : Nat) (a : List Int) (n : Nat) (hn : a.length = n) (A' : Option Addr) (c' : Nat) (b : List Int) (m : Nat) (hm : b.length = m) (w : World) (B B' : Nat) (hB : B ≤ w.heap.size) (hB' : B' ≤ w.heap.size) (ha : Ints w B A a) (hb : Ints w B' A' b) :
    Calls Tryd.prog 41 #[.slice A n c, .slice A' m c'] w fun e w' => e = .returned (.bool (sameB a b)) ∧ Below w.heap.size w w' := by
  have hlen := ha.len
  rw [hn] at hlen
  by_cases h : n = m
  · subst h
    have HN := Lib.hid hn
    have HM := Lib.hid hm
    clear hn hm
    go_enter Tryd.func41, Tryd.ntmps41
    go_wp2
    go_loopw [5, 13] (fun _ i wr => ∃ k : Nat, k ≤ n ∧ i = .int .i64 k ∧ Hid (sameB a b = decide (a.drop k = b.drop k)) ∧ Below w.heap.size w wr) (fun _ i _ => n - (intOf i).toNat)
    case atStart => exact ⟨0, by omega, rfl, Lib.hid rfl, Below.refl _ _⟩
    case round =>
      obtain ⟨k, hk, rfl, hr, hbel⟩ := hrel
      by_cases hlt : k < n
      · obtain ⟨ad, x, rfl, hadb, hx, hcx⟩ := (ha.below (hbel.mono hB)).at_ (k := k) (by rw [HN.out]; exact hlt)
        obtain ⟨ad', y, rfl, hadb', hy, hcy⟩ := (hb.below (hbel.mono hB')).at_ (k := k) (by rw [HM.out]; exact hlt)
        have HX := Lib.hid (same_step hx hy)
        have hk0 : (0 : Int) ≤ (k : Int) := by omega
        have hkn : (k : Int) < (n : Int) := by omega
        clear hx hy
        by_cases hxy : x = y
        · subst hxy
          go_wp2
          go_quiet (fail)
          go_wp2
          go_roundw
          case rel => exact ⟨k + 1, by omega, by go_num, Lib.hid (by rw [hr.out, HX.out]; simp), bel_drewN hbel _⟩
          case measure => simp [intOf]; omega
        · have h1 : (x == y) = false := by simp [hxy]
          have h2 : (x != y) = true := by simp [hxy]
          have HF := Lib.hid (decide_eq_false hxy)
          clear hxy
          go_wp2
          go_quiet (fail)
          go_wp2
          go_ret
          exact ⟨ret_bool (by rw [hr.out, HX.out, HF.out]; rfl), bel_drewN hbel _⟩
      · have hkn : k = n := by omega
        subst hkn
        clear hlt
        go_wp2
        go_ret
        exact ⟨ret_bool (by rw [hr.out, List.drop_of_length_le (by rw [HN.out]; exact Nat.le_refl _), List.drop_of_length_le (by rw [HM.out]; exact Nat.le_refl _)]; simp), hbel⟩
  · have hd2 : ((n : Int) == (m : Int)) = false := by simp; omega
    have hd3 : ((n : Int) != (m : Int)) = true := by simp; omega
    have HD : Hid (sameB a b = false) := Lib.hid (by unfold sameB; rw [decide_eq_false]; intro e; rw [e] at hn; omega)
    clear h hn hm
    go_enter Tryd.func41, Tryd.ntmps41
    go_wp2
    go_ret
    exact ⟨ret_bool (by rw [HD.out]), Below.refl _ _⟩
end Go.Proofs.YtceceomaheobhaaDoor.eqs

/- The same orders. -/
namespace Go.Proofs.YtceceomaheobhaaDoor.ord
open Go.RowKit
open Go.Proofs.YtceceomaheobhaaDoor.lib Go.Proofs.YtceceomaheobhaaDoor.rd Go.Proofs.YtceceomaheobhaaDoor.typ Go.Proofs.YtceceomaheobhaaDoor.eqs Go.Proofs.YtceceomaheobhaaDoor.note
set_option linter.unusedVariables false
set_option linter.unusedSimpArgs false

set_option maxHeartbeats 1000000 in
theorem rsame_any (A : Option Addr) (c : Nat) (a : List Int) (n : Nat) (hn : a.length = n) (A' : Option Addr) (c' : Nat) (b : List Int) (m : Nat) (hm : b.length = m) (w : World) (B B' : Nat) (hB : B ≤ w.heap.size) (hB' : B' ≤ w.heap.size) (ha : Ints w B A a) (hb : Ints w B' A' b) :
    Calls Tryd.prog 43 #[.slice A n c, .slice A' m c'] w fun e w' => e = .returned (.bool (sameB a b)) ∧ Below w.heap.size w w' := by
  have hlen := ha.len
  rw [hn] at hlen
  by_cases h : n = m
  · subst h
    have HN := Lib.hid hn
    have HM := Lib.hid hm
    clear hn hm
    go_enter Tryd.func43, Tryd.ntmps43
    go_wp2
    go_loopw [5] (fun i wr => ∃ k : Nat, k ≤ n ∧ i = .int .i64 k ∧ Hid (sameB a b = decide (a.drop k = b.drop k)) ∧ Below w.heap.size w wr) (fun i _ => n - (intOf i).toNat)
    case atStart => exact ⟨0, by omega, rfl, Lib.hid rfl, Below.refl _ _⟩
    case round =>
      obtain ⟨k, hk, rfl, hr, hbel⟩ := hrel
      by_cases hlt : k < n
      · obtain ⟨ad, x, rfl, hadb, hx, hcx⟩ := (ha.below (hbel.mono hB)).at_ (k := k) (by rw [HN.out]; exact hlt)
        obtain ⟨ad', y, rfl, hadb', hy, hcy⟩ := (hb.below (hbel.mono hB')).at_ (k := k) (by rw [HM.out]; exact hlt)
        have HX := Lib.hid (same_step hx hy)
        have hk0 : (0 : Int) ≤ (k : Int) := by omega
        have hkn : (k : Int) < (n : Int) := by omega
        clear hx hy
        by_cases hxy : x = y
        · subst hxy
          go_wp2
          go_quiet (fail)
          go_wp2
          go_roundw
          case rel => exact ⟨k + 1, by omega, by go_num, Lib.hid (by rw [hr.out, HX.out]; simp), bel_drewN hbel _⟩
          case measure => simp [intOf]; omega
        · have h1 : (x == y) = false := by simp [hxy]
          have h2 : (x != y) = true := by simp [hxy]
          have HF := Lib.hid (decide_eq_false hxy)
          clear hxy
          go_wp2
          go_quiet (fail)
          go_wp2
          go_ret
          exact ⟨ret_bool (by rw [hr.out, HX.out, HF.out]; rfl), bel_drewN hbel _⟩
      · have hkn : k = n := by omega
        subst hkn
        clear hlt
        go_wp2
        go_ret
        exact ⟨ret_bool (by rw [hr.out, List.drop_of_length_le (by rw [HN.out]; exact Nat.le_refl _), List.drop_of_length_le (by rw [HM.out]; exact Nat.le_refl _)]; simp), hbel⟩
  · have hd2 : ((n : Int) == (m : Int)) = false := by simp; omega
    have hd3 : ((n : Int) != (m : Int)) = true := by simp; omega
    have HD : Hid (sameB a b = false) := Lib.hid (by unfold sameB; rw [decide_eq_false]; intro e; rw [e] at hn; omega)
    clear h hn hm
    go_enter Tryd.func43, Tryd.ntmps43
    go_wp2
    go_ret
    exact ⟨ret_bool (by rw [HD.out]), Below.refl _ _⟩

/-- The numbers of two orders are the same. -/
def numsO (a b : Ord) : Bool := decide (a.skills = b.skills ∧ a.penalty = b.penalty ∧ a.split = b.split ∧ a.last = b.last ∧ a.now = b.now)
def stpEq (a b : Stp) : Bool := a.place == b.place && (a.opn == b.opn && (a.close == b.close && a.service == b.service))
def sameO (a b : Ord) : Bool := sameS a.name b.name && sameB a.load b.load && stpEq a.pick b.pick && stpEq a.drop b.drop && numsO a b && (a.off == b.off)

theorem nums5 (a b : Ord) (w : World) : (Op.equalIn 10000 80 (.agg #[.int .i64 a.skills, .int .i64 a.penalty, .int .i64 a.split, .int .i64 a.last, .int .i64 a.now]) (.agg #[.int .i64 b.skills, .int .i64 b.penalty, .int .i64 b.split, .int .i64 b.last, .int .i64 b.now])).run Tryd.prog w = .ok (numsO a b) w := by
  obtain ⟨i0, hi, _⟩ := info_parts int_info
  have h := arr.run_eq_ints (t := 80) w 9998 Tryd.underlying80 hi [a.skills, a.penalty, a.split, a.last, a.now] [b.skills, b.penalty, b.split, b.last, b.now] rfl rfl
  have e : decide ([a.skills, a.penalty, a.split, a.last, a.now] = [b.skills, b.penalty, b.split, b.last, b.now]) = numsO a b := by
    unfold numsO
    rw [Bool.eq_iff_iff]
    simp
  rw [e] at h
  exact h

set_option maxRecDepth 100000 in
set_option maxHeartbeats 4000000 in
theorem osame_any (a b : Ord) (C : Option Addr) (c : Nat) (C' : Option Addr) (c' : Nat) (w : World) (hC : Ints w w.heap.size C a.load) (hC' : Ints w w.heap.size C' b.load) :
    Calls Tryd.prog 26 #[.agg #[.string a.name, .slice C a.load.length c, .int .i64 a.pick.place, .int .i64 a.pick.opn, .int .i64 a.pick.close, .int .i64 a.pick.service, .int .i64 a.drop.place, .int .i64 a.drop.opn, .int .i64 a.drop.close, .int .i64 a.drop.service, .int .i64 a.skills, .int .i64 a.penalty, .int .i64 a.split, .int .i64 a.last, .int .i64 a.now, .bool a.off], .agg #[.string b.name, .slice C' b.load.length c', .int .i64 b.pick.place, .int .i64 b.pick.opn, .int .i64 b.pick.close, .int .i64 b.pick.service, .int .i64 b.drop.place, .int .i64 b.drop.opn, .int .i64 b.drop.close, .int .i64 b.drop.service, .int .i64 b.skills, .int .i64 b.penalty, .int .i64 b.split, .int .i64 b.last, .int .i64 b.now, .bool b.off]] w fun e w' => e = .returned (.bool (sameO a b)) ∧ Below w.heap.size w w' := by
  obtain ⟨q, hq⟩ : ∃ q, numsO a b = q := ⟨_, rfl⟩
  have heq := nums5 a b
  rw [hq] at heq
  have HR : Hid (sameO a b = ((a.name.toList == b.name.toList) && sameB a.load b.load && (a.pick.place == b.pick.place && (a.pick.opn == b.pick.opn && (a.pick.close == b.pick.close && a.pick.service == b.pick.service))) && (a.drop.place == b.drop.place && (a.drop.opn == b.drop.opn && (a.drop.close == b.drop.close && a.drop.service == b.drop.service))) && q && (a.off == b.off))) := Lib.hid (by rw [← hq]; rfl)
  obtain ⟨R, hR⟩ : ∃ R, sameO a b = R := ⟨_, rfl⟩
  rw [hR] at HR ⊢
  have HQ := Lib.hid hq
  clear hR hq
  cases hs : a.name.toList == b.name.toList
  · have HT : Hid (R = false) := Lib.hid (by rw [HR.out, hs]; rfl)
    go_enter Tryd.func26, Tryd.ntmps26
    go_wp2
    go_ret
    exact ⟨ret_bool HT.out.symm, by repeat (first | assumption | exact Below.refl _ _ | refine Below.drew ?_ | refine Below.alloc ?_ (by first | omega | (simp <;> omega)) _ | refine Below.setCell ?_ (by first | omega | (simp <;> omega)) _)⟩
  · go_enter Tryd.func26, Tryd.ntmps26
    go_wp2_with fail
    refine (equal_any C c a.load _ rfl C' c' b.load _ rfl _ w.heap.size w.heap.size (by simp; omega) (by simp; omega) ((((hC.alloc (Nat.le_refl _) _).alloc (by simp) _).alloc (by simp; omega) _).alloc (by simp; omega) _) ((((hC'.alloc (Nat.le_refl _) _).alloc (by simp) _).alloc (by simp; omega) _).alloc (by simp; omega) _)).mono ?_
    rintro e w1 ⟨rfl, hb1⟩
    have hz := hb1.size
    simp at hz
    have hc := fun b o h => hb1.cell (p := ⟨b, o, none⟩) h
    have hf := fun b o h => hb1.frozen (p := ⟨b, o, none⟩) h
    have l1 : w.heap.size < w1.heap.size := by omega
    have l2 : w.heap.size + 1 < w1.heap.size := by omega
    have l3 : w.heap.size + 1 + 1 < w1.heap.size ∨ True := .inr trivial
    have hB : Below w.heap.size w w1 := Below.trans (by repeat (first | assumption | exact Below.refl _ _ | refine Below.drew ?_ | refine Below.alloc ?_ (by first | omega | (simp <;> omega)) _ | refine Below.setCell ?_ (by first | omega | (simp <;> omega)) _)) (hb1.mono (by simp <;> omega))
    clear hb1 l3
    cases hq1 : sameB a.load b.load
    · have HT : Hid (R = false) := Lib.hid (by rw [HR.out, hs, hq1]; rfl)
      go_wp2
      go_ret
      exact ⟨ret_bool HT.out.symm, hB⟩
    · go_wp2
      all_goals go_ret
      all_goals refine ⟨ret_bool ?_, hB⟩
      all_goals rw [HR.out, hs, hq1]
      all_goals (clear hc hf hB hC hC' heq; simp [*])
set_option maxRecDepth 100000 in
set_option maxHeartbeats 4000000 in
theorem orsame_any (a b : Ord) (C : Option Addr) (c : Nat) (C' : Option Addr) (c' : Nat) (w : World) (hC : Ints w w.heap.size C a.load) (hC' : Ints w w.heap.size C' b.load) :
    Calls Tryd.prog 30 #[.agg #[.string a.name, .slice C a.load.length c, .int .i64 a.pick.place, .int .i64 a.pick.opn, .int .i64 a.pick.close, .int .i64 a.pick.service, .int .i64 a.drop.place, .int .i64 a.drop.opn, .int .i64 a.drop.close, .int .i64 a.drop.service, .int .i64 a.skills, .int .i64 a.penalty, .int .i64 a.split, .int .i64 a.last, .int .i64 a.now, .bool a.off], .agg #[.string b.name, .slice C' b.load.length c', .int .i64 b.pick.place, .int .i64 b.pick.opn, .int .i64 b.pick.close, .int .i64 b.pick.service, .int .i64 b.drop.place, .int .i64 b.drop.opn, .int .i64 b.drop.close, .int .i64 b.drop.service, .int .i64 b.skills, .int .i64 b.penalty, .int .i64 b.split, .int .i64 b.last, .int .i64 b.now, .bool b.off]] w fun e w' => e = .returned (.bool (sameO a b)) ∧ Below w.heap.size w w' := by
  obtain ⟨q, hq⟩ : ∃ q, numsO a b = q := ⟨_, rfl⟩
  have heq := nums5 a b
  rw [hq] at heq
  have HR : Hid (sameO a b = ((a.name.toList == b.name.toList) && sameB a.load b.load && (a.pick.place == b.pick.place && (a.pick.opn == b.pick.opn && (a.pick.close == b.pick.close && a.pick.service == b.pick.service))) && (a.drop.place == b.drop.place && (a.drop.opn == b.drop.opn && (a.drop.close == b.drop.close && a.drop.service == b.drop.service))) && q && (a.off == b.off))) := Lib.hid (by rw [← hq]; rfl)
  obtain ⟨R, hR⟩ : ∃ R, sameO a b = R := ⟨_, rfl⟩
  rw [hR] at HR ⊢
  have HQ := Lib.hid hq
  clear hR hq
  cases hs : a.name.toList == b.name.toList
  · have HT : Hid (R = false) := Lib.hid (by rw [HR.out, hs]; rfl)
    go_enter Tryd.func30, Tryd.ntmps30
    go_wp2
    go_ret
    exact ⟨ret_bool HT.out.symm, by repeat (first | assumption | exact Below.refl _ _ | refine Below.drew ?_ | refine Below.alloc ?_ (by first | omega | (simp <;> omega)) _ | refine Below.setCell ?_ (by first | omega | (simp <;> omega)) _)⟩
  · go_enter Tryd.func30, Tryd.ntmps30
    go_wp2_with fail
    refine (rsame_any C c a.load _ rfl C' c' b.load _ rfl _ w.heap.size w.heap.size (by simp; omega) (by simp; omega) ((hC.alloc (Nat.le_refl _) _).alloc (by simp) _) ((hC'.alloc (Nat.le_refl _) _).alloc (by simp) _)).mono ?_
    rintro e w1 ⟨rfl, hb1⟩
    have hz := hb1.size
    simp at hz
    have hc := fun b o h => hb1.cell (p := ⟨b, o, none⟩) h
    have hf := fun b o h => hb1.frozen (p := ⟨b, o, none⟩) h
    have l1 : w.heap.size < w1.heap.size := by omega
    have l2 : w.heap.size + 1 < w1.heap.size := by omega
    have l3 : w.heap.size + 1 + 1 < w1.heap.size ∨ True := .inr trivial
    have hB : Below w.heap.size w w1 := Below.trans (by repeat (first | assumption | exact Below.refl _ _ | refine Below.drew ?_ | refine Below.alloc ?_ (by first | omega | (simp <;> omega)) _ | refine Below.setCell ?_ (by first | omega | (simp <;> omega)) _)) (hb1.mono (by simp <;> omega))
    clear hb1 l3
    cases hq1 : sameB a.load b.load
    · have HT : Hid (R = false) := Lib.hid (by rw [HR.out, hs, hq1]; rfl)
      go_wp2
      go_ret
      exact ⟨ret_bool HT.out.symm, hB⟩
    · go_wp2
      all_goals go_ret
      all_goals refine ⟨ret_bool ?_, hB⟩
      all_goals rw [HR.out, hs, hq1]
      all_goals (clear hc hf hB hC hC' heq; rw [← HQ.out]; simp [numsO, *])
end Go.Proofs.YtceceomaheobhaaDoor.ord

/- Equal lists of texts, pairs, points; the same arcs. -/
namespace Go.Proofs.YtceceomaheobhaaDoor.ins
open Go.RowKit
open Go.Proofs.YtceceomaheobhaaDoor.lib Go.Proofs.YtceceomaheobhaaDoor.rd Go.Proofs.YtceceomaheobhaaDoor.typ Go.Proofs.YtceceomaheobhaaDoor.eqg Go.Proofs.YtceceomaheobhaaDoor.note
set_option linter.unusedVariables false
set_option linter.unusedSimpArgs false

def ptEq (x y : Pt) : Bool := x.t == y.t && x.a == y.a
theorem ptEq_comm (x y : Pt) : ptEq x y = ptEq y x := by unfold ptEq; rw [int_comm x.t, int_comm x.a]
theorem ptEq_self (x : Pt) : ptEq x x = true := by unfold ptEq; simp
theorem ptcase (x y : Pt) : (Hid (ptEq x y = false) ∧ (x.t == y.t) = false ∧ (x.t != y.t) = true) ∨ (Hid (ptEq x y = false) ∧ x.t = y.t ∧ (x.a == y.a) = false) ∨ (Hid (ptEq x y = true) ∧ x.t = y.t ∧ x.a = y.a) := by
  by_cases h1 : x.t = y.t
  · by_cases h2 : x.a = y.a
    · exact .inr (.inr ⟨Lib.hid (by simp [ptEq, h1, h2]), h1, h2⟩)
    · exact .inr (.inl ⟨Lib.hid (by simp [ptEq, h2]), h1, by simp [h2]⟩)
  · exact .inl ⟨Lib.hid (by simp [ptEq, h1]), by simp [h1], by simp [h1]⟩
theorem two_run (x y : Int × Int) (w : World) : (Op.equalIn 10000 65 (.agg #[.int .i64 x.1, .int .i64 x.2]) (.agg #[.int .i64 y.1, .int .i64 y.2])).run Tryd.prog w = .ok (twoEq x y) w := by
  obtain ⟨i0, hi, _⟩ := info_parts int_info
  have h := arr.run_eq_ints (t := 65) w 9998 Tryd.underlying65 hi [x.1, x.2] [y.1, y.2] rfl rfl
  have e : decide ([x.1, x.2] = [y.1, y.2]) = twoEq x y := by
    unfold twoEq
    rw [Bool.eq_iff_iff]
    simp
  rw [e] at h
  exact h

set_option maxHeartbeats 1000000 in
theorem eqStr_any (A : Option Addr) (c : Nat) (a : List _) (n : Nat) (hn : a.length = n) (A' : Option Addr) (c' : Nat) (b : List _) (m : Nat) (hm : b.length = m) (w : World) (B B' : Nat) (hB : B ≤ w.heap.size) (hB' : B' ≤ w.heap.size) (ha : RowAt rStr w B A a) (hb : RowAt rStr w B' A' b) :
    Calls Tryd.prog 20 #[.slice A n c, .slice A' m c'] w fun e w' => e = .returned (.bool (eqL sameS a b)) ∧ Below w.heap.size w w' := by
  have hlen := ha.len
  rw [hn] at hlen
  by_cases h : n = m
  · subst h
    have HN := Lib.hid hn
    have HM := Lib.hid hm
    have HG := Lib.hid (eqL_go (p := sameS) (hn.trans hm.symm))
    clear hn hm
    go_enter Tryd.func20, Tryd.ntmps20
    go_wp2
    go_loopw [5, 13] (fun _ i wr => ∃ k : Nat, k ≤ n ∧ i = .int .i64 k ∧ Hid (eqL sameS a b = eqGo sameS (a.drop k) (b.drop k)) ∧ Below w.heap.size w wr) (fun _ i _ => n - (intOf i).toNat)
    case atStart => exact ⟨0, by omega, rfl, HG, Below.refl _ _⟩
    case round =>
      obtain ⟨k, hk, rfl, hr, hbel⟩ := hrel
      by_cases hlt : k < n
      · obtain ⟨x, hx⟩ : ∃ x, a[k]? = some x := ⟨_, List.getElem?_eq_getElem (by rw [HN.out]; exact hlt)⟩
        obtain ⟨y, hy⟩ : ∃ y, b[k]? = some y := ⟨_, List.getElem?_eq_getElem (by rw [HM.out]; exact hlt)⟩
        obtain ⟨ad, rfl, hadb, hc1, _⟩ := row_Str (ha.below (hbel.mono hB)) hx
        obtain ⟨ad', rfl, hadb', hc2, _⟩ := row_Str (hb.below (hbel.mono hB')) hy
        have HX := Lib.hid (eqGo_step (p := sameS) hx hy)
        have hk0 : (0 : Int) ≤ (k : Int) := by omega
        have hkn : (k : Int) < (n : Int) := by omega
        clear hx hy
        obtain ⟨q, hq⟩ : ∃ q, (x.toList == y.toList) = q := ⟨_, rfl⟩
        have h2 : (x.toList != y.toList) = !q := by simp [bne, hq]
        have HP : Hid (sameS x y = q) := Lib.hid hq
        cases q
        all_goals simp only [Bool.not_true, Bool.not_false] at h2
        all_goals go_wp2
        all_goals go_quiet (fail)
        all_goals go_wp2
        all_goals first
          | (go_ret; exact ⟨ret_bool (by rw [hr.out, HX.out, HP.out]; rfl), bel_drewN hbel _⟩)
          | skip
        go_roundw
        case rel => exact ⟨k + 1, by omega, by go_num, Lib.hid (by rw [hr.out, HX.out, HP.out, Bool.true_and]), bel_drewN hbel _⟩
        case measure => simp [intOf]; omega
      · have hkn : k = n := by omega
        subst hkn
        clear hlt
        go_wp2
        go_ret
        exact ⟨ret_bool (by rw [hr.out, eqGo_end (by rw [HN.out]; exact Nat.le_refl _)]), hbel⟩
  · have hd2 : ((n : Int) == (m : Int)) = false := by simp; omega
    have hd3 : ((n : Int) != (m : Int)) = true := by simp; omega
    have HD : Hid (eqL sameS a b = false) := Lib.hid (eqL_no (by omega))
    clear h hn hm
    go_enter Tryd.func20, Tryd.ntmps20
    go_wp2
    go_ret
    exact ⟨ret_bool (by rw [HD.out]), Below.refl _ _⟩
set_option maxHeartbeats 1000000 in
theorem eqTwo_any (A : Option Addr) (c : Nat) (a : List _) (n : Nat) (hn : a.length = n) (A' : Option Addr) (c' : Nat) (b : List _) (m : Nat) (hm : b.length = m) (w : World) (B B' : Nat) (hB : B ≤ w.heap.size) (hB' : B' ≤ w.heap.size) (ha : RowAt (rPair rInt rInt) w B A a) (hb : RowAt (rPair rInt rInt) w B' A' b) :
    Calls Tryd.prog 27 #[.slice A n c, .slice A' m c'] w fun e w' => e = .returned (.bool (eqL twoEq a b)) ∧ Below w.heap.size w w' := by
  have hlen := ha.len
  rw [hn] at hlen
  by_cases h : n = m
  · subst h
    have HN := Lib.hid hn
    have HM := Lib.hid hm
    have HG := Lib.hid (eqL_go (p := twoEq) (hn.trans hm.symm))
    clear hn hm
    go_enter Tryd.func27, Tryd.ntmps27
    go_wp2
    go_loopw [5, 13] (fun _ i wr => ∃ k : Nat, k ≤ n ∧ i = .int .i64 k ∧ Hid (eqL twoEq a b = eqGo twoEq (a.drop k) (b.drop k)) ∧ Below w.heap.size w wr) (fun _ i _ => n - (intOf i).toNat)
    case atStart => exact ⟨0, by omega, rfl, HG, Below.refl _ _⟩
    case round =>
      obtain ⟨k, hk, rfl, hr, hbel⟩ := hrel
      by_cases hlt : k < n
      · obtain ⟨x, hx⟩ : ∃ x, a[k]? = some x := ⟨_, List.getElem?_eq_getElem (by rw [HN.out]; exact hlt)⟩
        obtain ⟨y, hy⟩ : ∃ y, b[k]? = some y := ⟨_, List.getElem?_eq_getElem (by rw [HM.out]; exact hlt)⟩
        obtain ⟨ad, rfl, hadb, ⟨m0, m1⟩, _⟩ := row_Two (ha.below (hbel.mono hB)) hx
        obtain ⟨ad', rfl, hadb', ⟨k0, k1⟩, _⟩ := row_Two (hb.below (hbel.mono hB')) hy
        have HX := Lib.hid (eqGo_step (p := twoEq) hx hy)
        have hk0 : (0 : Int) ≤ (k : Int) := by omega
        have hkn : (k : Int) < (n : Int) := by omega
        clear hx hy
        have heq := two_run x y
        obtain ⟨q, hq⟩ : ∃ q, twoEq x y = q := ⟨_, rfl⟩
        have HP := Lib.hid hq
        rw [hq] at heq
        clear hq
        cases q
        all_goals go_wp2
        all_goals go_quiet (fail)
        all_goals go_wp2
        all_goals first
          | (go_ret; exact ⟨ret_bool (by rw [hr.out, HX.out, HP.out]; rfl), bel_drewN hbel _⟩)
          | skip
        go_roundw
        case rel => exact ⟨k + 1, by omega, by go_num, Lib.hid (by rw [hr.out, HX.out, HP.out, Bool.true_and]), bel_drewN hbel _⟩
        case measure => simp [intOf]; omega
      · have hkn : k = n := by omega
        subst hkn
        clear hlt
        go_wp2
        go_ret
        exact ⟨ret_bool (by rw [hr.out, eqGo_end (by rw [HN.out]; exact Nat.le_refl _)]), hbel⟩
  · have hd2 : ((n : Int) == (m : Int)) = false := by simp; omega
    have hd3 : ((n : Int) != (m : Int)) = true := by simp; omega
    have HD : Hid (eqL twoEq a b = false) := Lib.hid (eqL_no (by omega))
    clear h hn hm
    go_enter Tryd.func27, Tryd.ntmps27
    go_wp2
    go_ret
    exact ⟨ret_bool (by rw [HD.out]), Below.refl _ _⟩
set_option maxHeartbeats 1000000 in
theorem eqPt_any (A : Option Addr) (c : Nat) (a : List _) (n : Nat) (hn : a.length = n) (A' : Option Addr) (c' : Nat) (b : List _) (m : Nat) (hm : b.length = m) (w : World) (B B' : Nat) (hB : B ≤ w.heap.size) (hB' : B' ≤ w.heap.size) (ha : RowAt rPt w B A a) (hb : RowAt rPt w B' A' b) :
    Calls Tryd.prog 40 #[.slice A n c, .slice A' m c'] w fun e w' => e = .returned (.bool (eqL ptEq a b)) ∧ Below w.heap.size w w' := by
  have hlen := ha.len
  rw [hn] at hlen
  by_cases h : n = m
  · subst h
    have HN := Lib.hid hn
    have HM := Lib.hid hm
    have HG := Lib.hid (eqL_go (p := ptEq) (hn.trans hm.symm))
    clear hn hm
    go_enter Tryd.func40, Tryd.ntmps40
    go_wp2
    go_loopw [5, 13] (fun _ i wr => ∃ k : Nat, k ≤ n ∧ i = .int .i64 k ∧ Hid (eqL ptEq a b = eqGo ptEq (a.drop k) (b.drop k)) ∧ Below w.heap.size w wr) (fun _ i _ => n - (intOf i).toNat)
    case atStart => exact ⟨0, by omega, rfl, HG, Below.refl _ _⟩
    case round =>
      obtain ⟨k, hk, rfl, hr, hbel⟩ := hrel
      by_cases hlt : k < n
      · obtain ⟨x, hx⟩ : ∃ x, a[k]? = some x := ⟨_, List.getElem?_eq_getElem (by rw [HN.out]; exact hlt)⟩
        obtain ⟨y, hy⟩ : ∃ y, b[k]? = some y := ⟨_, List.getElem?_eq_getElem (by rw [HM.out]; exact hlt)⟩
        obtain ⟨ad, rfl, hadb, ⟨m0, m1⟩, _⟩ := row_Pt (ha.below (hbel.mono hB)) hx
        obtain ⟨ad', rfl, hadb', ⟨k0, k1⟩, _⟩ := row_Pt (hb.below (hbel.mono hB')) hy
        have HX := Lib.hid (eqGo_step (p := ptEq) hx hy)
        have hk0 : (0 : Int) ≤ (k : Int) := by omega
        have hkn : (k : Int) < (n : Int) := by omega
        clear hx hy
        rcases ptcase x y with ⟨HP, e1, e2⟩ | ⟨HP, e1, e2⟩ | ⟨HP, e1, e2⟩
        all_goals go_wp2
        all_goals go_quiet (fail)
        all_goals go_wp2
        all_goals first
          | (go_ret; exact ⟨ret_bool (by rw [hr.out, HX.out, HP.out]; rfl), bel_drewN hbel _⟩)
          | skip
        go_roundw
        case rel => exact ⟨k + 1, by omega, by go_num, Lib.hid (by rw [hr.out, HX.out, HP.out, Bool.true_and]), bel_drewN hbel _⟩
        case measure => simp [intOf]; omega
      · have hkn : k = n := by omega
        subst hkn
        clear hlt
        go_wp2
        go_ret
        exact ⟨ret_bool (by rw [hr.out, eqGo_end (by rw [HN.out]; exact Nat.le_refl _)]), hbel⟩
  · have hd2 : ((n : Int) == (m : Int)) = false := by simp; omega
    have hd3 : ((n : Int) != (m : Int)) = true := by simp; omega
    have HD : Hid (eqL ptEq a b = false) := Lib.hid (eqL_no (by omega))
    clear h hn hm
    go_enter Tryd.func40, Tryd.ntmps40
    go_wp2
    go_ret
    exact ⟨ret_bool (by rw [HD.out]), Below.refl _ _⟩
set_option maxHeartbeats 1000000 in
theorem rpairs_any (A : Option Addr) (c : Nat) (a : List _) (n : Nat) (hn : a.length = n) (A' : Option Addr) (c' : Nat) (b : List _) (m : Nat) (hm : b.length = m) (w : World) (B B' : Nat) (hB : B ≤ w.heap.size) (hB' : B' ≤ w.heap.size) (ha : RowAt (rPair rInt rInt) w B A a) (hb : RowAt (rPair rInt rInt) w B' A' b) :
    Calls Tryd.prog 31 #[.slice A n c, .slice A' m c'] w fun e w' => e = .returned (.bool (eqL twoEq a b)) ∧ Below w.heap.size w w' := by
  have hlen := ha.len
  rw [hn] at hlen
  by_cases h : n = m
  · subst h
    have HN := Lib.hid hn
    have HM := Lib.hid hm
    have HG := Lib.hid (eqL_go (p := twoEq) (hn.trans hm.symm))
    clear hn hm
    go_enter Tryd.func31, Tryd.ntmps31
    go_wp2
    go_loopw [5] (fun i wr => ∃ k : Nat, k ≤ n ∧ i = .int .i64 k ∧ Hid (eqL twoEq a b = eqGo twoEq (a.drop k) (b.drop k)) ∧ Below w.heap.size w wr) (fun i _ => n - (intOf i).toNat)
    case atStart => exact ⟨0, by omega, rfl, HG, Below.refl _ _⟩
    case round =>
      obtain ⟨k, hk, rfl, hr, hbel⟩ := hrel
      by_cases hlt : k < n
      · obtain ⟨x, hx⟩ : ∃ x, a[k]? = some x := ⟨_, List.getElem?_eq_getElem (by rw [HN.out]; exact hlt)⟩
        obtain ⟨y, hy⟩ : ∃ y, b[k]? = some y := ⟨_, List.getElem?_eq_getElem (by rw [HM.out]; exact hlt)⟩
        obtain ⟨ad, rfl, hadb, ⟨m0, m1⟩, _⟩ := row_Two (ha.below (hbel.mono hB)) hx
        obtain ⟨ad', rfl, hadb', ⟨k0, k1⟩, _⟩ := row_Two (hb.below (hbel.mono hB')) hy
        have HX := Lib.hid (eqGo_step (p := twoEq) hx hy)
        have hk0 : (0 : Int) ≤ (k : Int) := by omega
        have hkn : (k : Int) < (n : Int) := by omega
        clear hx hy
        have heq := two_run x y
        obtain ⟨q, hq⟩ : ∃ q, twoEq x y = q := ⟨_, rfl⟩
        have HP := Lib.hid hq
        rw [hq] at heq
        clear hq
        cases q
        all_goals go_wp2
        all_goals go_quiet (fail)
        all_goals go_wp2
        all_goals first
          | (go_ret; exact ⟨ret_bool (by rw [hr.out, HX.out, HP.out]; rfl), bel_drewN hbel _⟩)
          | skip
        go_roundw
        case rel => exact ⟨k + 1, by omega, by go_num, Lib.hid (by rw [hr.out, HX.out, HP.out, Bool.true_and]), bel_drewN hbel _⟩
        case measure => simp [intOf]; omega
      · have hkn : k = n := by omega
        subst hkn
        clear hlt
        go_wp2
        go_ret
        exact ⟨ret_bool (by rw [hr.out, eqGo_end (by rw [HN.out]; exact Nat.le_refl _)]), hbel⟩
  · have hd2 : ((n : Int) == (m : Int)) = false := by simp; omega
    have hd3 : ((n : Int) != (m : Int)) = true := by simp; omega
    have HD : Hid (eqL twoEq a b = false) := Lib.hid (eqL_no (by omega))
    clear h hn hm
    go_enter Tryd.func31, Tryd.ntmps31
    go_wp2
    go_ret
    exact ⟨ret_bool (by rw [HD.out]), Below.refl _ _⟩
set_option maxHeartbeats 1000000 in
theorem rpoints_any (A : Option Addr) (c : Nat) (a : List _) (n : Nat) (hn : a.length = n) (A' : Option Addr) (c' : Nat) (b : List _) (m : Nat) (hm : b.length = m) (w : World) (B B' : Nat) (hB : B ≤ w.heap.size) (hB' : B' ≤ w.heap.size) (ha : RowAt rPt w B A a) (hb : RowAt rPt w B' A' b) :
    Calls Tryd.prog 42 #[.slice A n c, .slice A' m c'] w fun e w' => e = .returned (.bool (eqL ptEq a b)) ∧ Below w.heap.size w w' := by
  have hlen := ha.len
  rw [hn] at hlen
  by_cases h : n = m
  · subst h
    have HN := Lib.hid hn
    have HM := Lib.hid hm
    have HG := Lib.hid (eqL_go (p := ptEq) (hn.trans hm.symm))
    clear hn hm
    go_enter Tryd.func42, Tryd.ntmps42
    go_wp2
    go_loopw [5] (fun i wr => ∃ k : Nat, k ≤ n ∧ i = .int .i64 k ∧ Hid (eqL ptEq a b = eqGo ptEq (a.drop k) (b.drop k)) ∧ Below w.heap.size w wr) (fun i _ => n - (intOf i).toNat)
    case atStart => exact ⟨0, by omega, rfl, HG, Below.refl _ _⟩
    case round =>
      obtain ⟨k, hk, rfl, hr, hbel⟩ := hrel
      by_cases hlt : k < n
      · obtain ⟨x, hx⟩ : ∃ x, a[k]? = some x := ⟨_, List.getElem?_eq_getElem (by rw [HN.out]; exact hlt)⟩
        obtain ⟨y, hy⟩ : ∃ y, b[k]? = some y := ⟨_, List.getElem?_eq_getElem (by rw [HM.out]; exact hlt)⟩
        obtain ⟨ad, rfl, hadb, ⟨m0, m1⟩, _⟩ := row_Pt (ha.below (hbel.mono hB)) hx
        obtain ⟨ad', rfl, hadb', ⟨k0, k1⟩, _⟩ := row_Pt (hb.below (hbel.mono hB')) hy
        have HX := Lib.hid (eqGo_step (p := ptEq) hx hy)
        have hk0 : (0 : Int) ≤ (k : Int) := by omega
        have hkn : (k : Int) < (n : Int) := by omega
        clear hx hy
        rcases ptcase x y with ⟨HP, e1, e2⟩ | ⟨HP, e1, e2⟩ | ⟨HP, e1, e2⟩
        all_goals go_wp2
        all_goals go_quiet (fail)
        all_goals go_wp2
        all_goals first
          | (go_ret; exact ⟨ret_bool (by rw [hr.out, HX.out, HP.out]; rfl), bel_drewN hbel _⟩)
          | skip
        go_roundw
        case rel => exact ⟨k + 1, by omega, by go_num, Lib.hid (by rw [hr.out, HX.out, HP.out, Bool.true_and]), bel_drewN hbel _⟩
        case measure => simp [intOf]; omega
      · have hkn : k = n := by omega
        subst hkn
        clear hlt
        go_wp2
        go_ret
        exact ⟨ret_bool (by rw [hr.out, eqGo_end (by rw [HN.out]; exact Nat.le_refl _)]), hbel⟩
  · have hd2 : ((n : Int) == (m : Int)) = false := by simp; omega
    have hd3 : ((n : Int) != (m : Int)) = true := by simp; omega
    have HD : Hid (eqL ptEq a b = false) := Lib.hid (eqL_no (by omega))
    clear h hn hm
    go_enter Tryd.func42, Tryd.ntmps42
    go_wp2
    go_ret
    exact ⟨ret_bool (by rw [HD.out]), Below.refl _ _⟩
end Go.Proofs.YtceceomaheobhaaDoor.ins

/- The same arcs; lists of arcs, types, orders that are the same. -/
namespace Go.Proofs.YtceceomaheobhaaDoor.ins
open Go.RowKit
open Go.Proofs.YtceceomaheobhaaDoor.lib Go.Proofs.YtceceomaheobhaaDoor.rd Go.Proofs.YtceceomaheobhaaDoor.typ Go.Proofs.YtceceomaheobhaaDoor.eqg
set_option linter.unusedVariables false
set_option linter.unusedSimpArgs false

def sameA (a b : Arc) : Bool := (a.frm == b.frm) && ((a.to == b.to) && ((a.profile == b.profile) && ((a.miles == b.miles) && (eqL ptEq a.travel b.travel && eqL ptEq a.slow b.slow))))
theorem sameA_comm (a b : Arc) : sameA a b = sameA b a := by unfold sameA; rw [int_comm a.frm, int_comm a.to, int_comm a.profile, int_comm a.miles, eqL_comm ptEq_comm a.travel, eqL_comm ptEq_comm a.slow]
theorem sameA_self (a : Arc) : sameA a a = true := by unfold sameA; rw [eqL_self ptEq_self, eqL_self ptEq_self]; simp
set_option maxRecDepth 20000 in
set_option maxHeartbeats 4000000 in
theorem sameArc_any (a b : Arc) (C0 : Option Addr) (c0 : Nat) (C1 : Option Addr) (c1 : Nat) (D0 : Option Addr) (d0 : Nat) (D1 : Option Addr) (d1 : Nat) (w : World) (h1 : RowAt rPt w w.heap.size C0 a.travel) (h2 : RowAt rPt w w.heap.size C1 a.slow) (h3 : RowAt rPt w w.heap.size D0 b.travel) (h4 : RowAt rPt w w.heap.size D1 b.slow) :
    Calls Tryd.prog 22 #[.agg #[.int .i64 a.frm, .int .i64 a.to, .int .i64 a.profile, .int .i64 a.miles, .slice C0 a.travel.length c0, .slice C1 a.slow.length c1], .agg #[.int .i64 b.frm, .int .i64 b.to, .int .i64 b.profile, .int .i64 b.miles, .slice D0 b.travel.length d0, .slice D1 b.slow.length d1]] w fun e w' => e = .returned (.bool (sameA a b)) ∧ Below w.heap.size w w' := by
  obtain ⟨R, hR⟩ : ∃ R, sameA a b = R := ⟨_, rfl⟩
  have HR : Hid (R = ((a.frm == b.frm) && ((a.to == b.to) && ((a.profile == b.profile) && ((a.miles == b.miles) && (eqL ptEq a.travel b.travel && eqL ptEq a.slow b.slow)))))) := Lib.hid (by rw [← hR]; rfl)
  rw [hR]
  clear hR
  have H1 : Hid (∀ w', Below w.heap.size w w' → RowAt rPt w' w'.heap.size C0 a.travel ∧ RowAt rPt w' w'.heap.size C1 a.slow ∧ RowAt rPt w' w'.heap.size D0 b.travel ∧ RowAt rPt w' w'.heap.size D1 b.slow) := Lib.hid fun w' hb => ⟨(h1.below hb).more hb.size, (h2.below hb).more hb.size, (h3.below hb).more hb.size, (h4.below hb).more hb.size⟩
  clear h1 h2 h3 h4
  by_cases e0 : a.frm = b.frm
  case neg =>
    have f0 : (a.frm == b.frm) = false := by simp [e0]
    have HT : Hid (R = false) := Lib.hid (by rw [HR.out, f0]; rfl)
    clear e0
    go_enter Tryd.func22, Tryd.ntmps22
    go_wp2
    go_ret
    exact ⟨ret_bool HT.out.symm, by repeat (first | assumption | exact Below.refl _ _ | refine Below.drew ?_ | refine Below.alloc ?_ (by first | omega | (simp <;> omega)) _ | refine Below.setCell ?_ (by first | omega | (simp <;> omega)) _)⟩
  have g0 : (a.frm == b.frm) = true := by simp [e0]
  by_cases e1 : a.to = b.to
  case neg =>
    have f1 : (a.to == b.to) = false := by simp [e1]
    have HT : Hid (R = false) := Lib.hid (by rw [HR.out, g0, f1]; rfl)
    clear e1
    go_enter Tryd.func22, Tryd.ntmps22
    go_wp2
    go_ret
    exact ⟨ret_bool HT.out.symm, by repeat (first | assumption | exact Below.refl _ _ | refine Below.drew ?_ | refine Below.alloc ?_ (by first | omega | (simp <;> omega)) _ | refine Below.setCell ?_ (by first | omega | (simp <;> omega)) _)⟩
  have g1 : (a.to == b.to) = true := by simp [e1]
  by_cases e2 : a.profile = b.profile
  case neg =>
    have f2 : (a.profile == b.profile) = false := by simp [e2]
    have HT : Hid (R = false) := Lib.hid (by rw [HR.out, g0, g1, f2]; rfl)
    clear e2
    go_enter Tryd.func22, Tryd.ntmps22
    go_wp2
    go_ret
    exact ⟨ret_bool HT.out.symm, by repeat (first | assumption | exact Below.refl _ _ | refine Below.drew ?_ | refine Below.alloc ?_ (by first | omega | (simp <;> omega)) _ | refine Below.setCell ?_ (by first | omega | (simp <;> omega)) _)⟩
  have g2 : (a.profile == b.profile) = true := by simp [e2]
  by_cases e3 : a.miles = b.miles
  case neg =>
    have f3 : (a.miles == b.miles) = false := by simp [e3]
    have HT : Hid (R = false) := Lib.hid (by rw [HR.out, g0, g1, g2, f3]; rfl)
    clear e3
    go_enter Tryd.func22, Tryd.ntmps22
    go_wp2
    go_ret
    exact ⟨ret_bool HT.out.symm, by repeat (first | assumption | exact Below.refl _ _ | refine Below.drew ?_ | refine Below.alloc ?_ (by first | omega | (simp <;> omega)) _ | refine Below.setCell ?_ (by first | omega | (simp <;> omega)) _)⟩
  have g3 : (a.miles == b.miles) = true := by simp [e3]
  have HR2 : Hid (R = (eqL ptEq a.travel b.travel && eqL ptEq a.slow b.slow)) := Lib.hid (by rw [HR.out, g0, g1, g2, g3]; rfl)
  clear g0 g1 g2 g3
  have b2 : ∀ o o', Below w.heap.size w ((w.alloc o).alloc o') := fun o o' => ((Below.refl _ _).alloc (Nat.le_refl _) _).alloc (by simp) _
  go_enter Tryd.func22, Tryd.ntmps22
  go_wp2_with fail
  refine (eqPt_any C0 c0 a.travel _ rfl D0 d0 b.travel _ rfl _ _ _ (Nat.le_refl _) (Nat.le_refl _) (H1.out _ (b2 _ _)).1 (H1.out _ (b2 _ _)).2.2.1).mono ?_
  rintro e w1 ⟨rfl, hb1⟩
  have hz := hb1.size
  simp at hz
  have hc := fun b o h => hb1.cell (p := ⟨b, o, none⟩) h
  have hf := fun b o h => hb1.frozen (p := ⟨b, o, none⟩) h
  have l1 : w.heap.size < w1.heap.size := by omega
  have l2 : w.heap.size + 1 < w1.heap.size := by omega
  have hB : Below w.heap.size w w1 := (b2 _ _).trans (hb1.mono (by simp; omega))
  clear hb1
  cases hq1 : eqL ptEq a.travel b.travel
  · have HT : Hid (R = false) := Lib.hid (by rw [HR2.out, hq1]; rfl)
    go_wp2
    go_ret
    exact ⟨ret_bool HT.out.symm, hB⟩
  · have HT : Hid (R = eqL ptEq a.slow b.slow) := Lib.hid (by rw [HR2.out, hq1]; rfl)
    go_wp2_with (go_at_call 40; refine (eqPt_any C1 c1 a.slow _ rfl D1 d1 b.slow _ rfl _ _ _ (Nat.le_refl _) (Nat.le_refl _) (H1.out _ hB).2.1 (H1.out _ hB).2.2.2).mono ?_; rintro e w2 ⟨rfl, hb2⟩)
    go_ret
    exact ⟨ret_bool HT.out.symm, hB.trans (hb2.mono hB.size)⟩

theorem Ints.go {w w' : World} {B : Nat} {A : Option Addr} {l : List Int} (h : Ints w B A l) (hB : B ≤ w.heap.size) (hb : Below w.heap.size w w') : Ints w' w'.heap.size A l := ((h.more hB).below hb).more hb.size
theorem rows_go {X : Type} {r : Rd X} {w w' : World} {B : Nat} {A : Option Addr} {l : List X} (h : RowAt r w B A l) (hB : B ≤ w.heap.size) (hb : Below w.heap.size w w') : RowAt r w' w'.heap.size A l := ((h.more hB).below hb).more hb.size
set_option maxRecDepth 20000 in
set_option maxHeartbeats 4000000 in
theorem eqArc_any (A : Option Addr) (c : Nat) (a : List Arc) (n : Nat) (hn : a.length = n) (A' : Option Addr) (c' : Nat) (b : List Arc) (m : Nat) (hm : b.length = m) (w : World) (B B' : Nat) (hB : B ≤ w.heap.size) (hB' : B' ≤ w.heap.size) (ha : RowAt rArc w B A a) (hb : RowAt rArc w B' A' b) :
    Calls Tryd.prog 21 #[.slice A n c, .slice A' m c', .func (.func 22) #[] #[]] w fun e w' => e = .returned (.bool (eqL sameA a b)) ∧ Below w.heap.size w w' := by
  have hlen := ha.len
  rw [hn] at hlen
  by_cases h : n = m
  · subst h
    have HN := Lib.hid hn
    have HM := Lib.hid hm
    have HG := Lib.hid (eqL_go (p := sameA) (hn.trans hm.symm))
    clear hn hm
    go_enter Tryd.func21, Tryd.ntmps21
    go_wp2
    go_loopw [7, 8, 9, 17] (fun _ _ _ i wr => ∃ k : Nat, k ≤ n ∧ i = .int .i64 k ∧ Hid (eqL sameA a b = eqGo sameA (a.drop k) (b.drop k)) ∧ Below w.heap.size w wr) (fun _ _ _ i _ => n - (intOf i).toNat)
    case atStart => exact ⟨0, by omega, rfl, HG, Below.refl _ _⟩
    case round =>
      obtain ⟨k, hk, rfl, hr, hbel⟩ := hrel
      have hz := hbel.size
      by_cases hlt : k < n
      · obtain ⟨x, hx⟩ : ∃ x, a[k]? = some x := ⟨_, List.getElem?_eq_getElem (by rw [HN.out]; exact hlt)⟩
        obtain ⟨y, hy⟩ : ∃ y, b[k]? = some y := ⟨_, List.getElem?_eq_getElem (by rw [HM.out]; exact hlt)⟩
        obtain ⟨ad, C0, c0, C1, c1, rfl, hadb, ⟨m0, m1, m2, m3, m4, m5⟩, hp1, hp2, _⟩ := row_Arc (ha.below (hbel.mono hB)) hx
        obtain ⟨ad', D0, d0, D1, d1, rfl, hadb', ⟨k0, k1, k2, k3, k4, k5⟩, hp3, hp4, _⟩ := row_Arc (hb.below (hbel.mono hB')) hy; have hbb : (ad'.add (k * 6)).block < wr.heap.size := (by rw [block_of_add]; omega)
        have HX := Lib.hid (eqGo_step (p := sameA) hx hy)
        have hk0 : (0 : Int) ≤ (k : Int) := by omega
        have hkn : (k : Int) < (n : Int) := by omega
        have b2 : ∀ o o', Below wr.heap.size wr ((wr.alloc o).alloc o') := fun o o' => ((Below.refl _ _).alloc (Nat.le_refl _) _).alloc (by simp) _
        clear hx hy
        obtain ⟨q, hq⟩ : ∃ q, sameA x y = q := ⟨_, rfl⟩
        have HP := Lib.hid hq
        have HC : Hid (∀ w', Below wr.heap.size wr w' → Calls Tryd.prog 22 #[.agg #[.int .i64 x.frm, .int .i64 x.to, .int .i64 x.profile, .int .i64 x.miles, .slice C0 x.travel.length c0, .slice C1 x.slow.length c1], .agg #[.int .i64 y.frm, .int .i64 y.to, .int .i64 y.profile, .int .i64 y.miles, .slice D0 y.travel.length d0, .slice D1 y.slow.length d1]] w' fun e w'' => e = .returned (.bool q) ∧ Below w'.heap.size w' w'') := Lib.hid fun w' hw => by rw [← hq]; exact sameArc_any x y C0 c0 C1 c1 D0 d0 D1 d1 w' (rows_go hp1 (by omega) hw) (rows_go hp2 (by omega) hw) (rows_go hp3 (by omega) hw) (rows_go hp4 (by omega) hw)
        clear hq
        cases q
        · skip
          go_wp2_with (go_at_call 22; refine (HC.out _ (b2 _ _)).mono ?_; rintro e w1 ⟨rfl, hb1⟩)
          go_ret
          exact ⟨ret_bool (by rw [hr.out, HX.out, HP.out]; rfl), hbel.trans (((b2 _ _).mono hz).trans (hb1.mono (by simp; omega)))⟩
        · skip
          go_wp2_with (go_at_call 22; refine (HC.out _ (b2 _ _)).mono ?_; rintro e w1 ⟨rfl, hb1⟩)
          go_roundw
          case rel => exact ⟨k + 1, by omega, by go_num, Lib.hid (by rw [hr.out, HX.out, HP.out, Bool.true_and]), hbel.trans (((b2 _ _).mono hz).trans (hb1.mono (by simp; omega)))⟩
          case measure => simp [intOf]; omega
      · have hkn : k = n := by omega
        subst hkn
        clear hlt
        go_wp2
        go_ret
        exact ⟨ret_bool (by rw [hr.out, eqGo_end (by rw [HN.out]; exact Nat.le_refl _)]), hbel⟩
  · have hd2 : ((n : Int) == (m : Int)) = false := by simp; omega
    have hd3 : ((n : Int) != (m : Int)) = true := by simp; omega
    have HD : Hid (eqL sameA a b = false) := Lib.hid (eqL_no (by omega))
    clear h hn hm
    go_enter Tryd.func21, Tryd.ntmps21
    go_wp2
    go_ret
    exact ⟨ret_bool (by rw [HD.out]), Below.refl _ _⟩
set_option maxRecDepth 20000 in
set_option maxHeartbeats 4000000 in
theorem eqTy_any (A : Option Addr) (c : Nat) (a : List Ty) (n : Nat) (hn : a.length = n) (A' : Option Addr) (c' : Nat) (b : List Ty) (m : Nat) (hm : b.length = m) (w : World) (B B' : Nat) (hB : B ≤ w.heap.size) (hB' : B' ≤ w.heap.size) (ha : RowAt rTy w B A a) (hb : RowAt rTy w B' A' b) :
    Calls Tryd.prog 23 #[.slice A n c, .slice A' m c', .func (.func 24) #[] #[]] w fun e w' => e = .returned (.bool (eqL flt.sameT a b)) ∧ Below w.heap.size w w' := by
  have hlen := ha.len
  rw [hn] at hlen
  by_cases h : n = m
  · subst h
    have HN := Lib.hid hn
    have HM := Lib.hid hm
    have HG := Lib.hid (eqL_go (p := flt.sameT) (hn.trans hm.symm))
    clear hn hm
    go_enter Tryd.func23, Tryd.ntmps23
    go_wp2
    go_loopw [7, 8, 9, 17] (fun _ _ _ i wr => ∃ k : Nat, k ≤ n ∧ i = .int .i64 k ∧ Hid (eqL flt.sameT a b = eqGo flt.sameT (a.drop k) (b.drop k)) ∧ Below w.heap.size w wr) (fun _ _ _ i _ => n - (intOf i).toNat)
    case atStart => exact ⟨0, by omega, rfl, HG, Below.refl _ _⟩
    case round =>
      obtain ⟨k, hk, rfl, hr, hbel⟩ := hrel
      have hz := hbel.size
      by_cases hlt : k < n
      · obtain ⟨x, hx⟩ : ∃ x, a[k]? = some x := ⟨_, List.getElem?_eq_getElem (by rw [HN.out]; exact hlt)⟩
        obtain ⟨y, hy⟩ : ∃ y, b[k]? = some y := ⟨_, List.getElem?_eq_getElem (by rw [HM.out]; exact hlt)⟩
        obtain ⟨ad, C0, c0, rfl, hadb, ⟨m0, m1, m2, m3, m4, m5, m6, m7, m8, m9, m10, m11, m12, m13⟩, hp1, _⟩ := row_Ty (ha.below (hbel.mono hB)) hx
        obtain ⟨ad', D0, d0, rfl, hadb', ⟨k0, k1, k2, k3, k4, k5, k6, k7, k8, k9, k10, k11, k12, k13⟩, hp3, _⟩ := row_Ty (hb.below (hbel.mono hB')) hy; have hbb : (ad'.add (k * 14)).block < wr.heap.size := (by rw [block_of_add]; omega)
        have HX := Lib.hid (eqGo_step (p := flt.sameT) hx hy)
        have hk0 : (0 : Int) ≤ (k : Int) := by omega
        have hkn : (k : Int) < (n : Int) := by omega
        have b2 : ∀ o o', Below wr.heap.size wr ((wr.alloc o).alloc o') := fun o o' => ((Below.refl _ _).alloc (Nat.le_refl _) _).alloc (by simp) _
        clear hx hy
        obtain ⟨q, hq⟩ : ∃ q, flt.sameT x y = q := ⟨_, rfl⟩
        have HP := Lib.hid hq
        have HC : Hid (∀ w', Below wr.heap.size wr w' → Calls Tryd.prog 24 #[.agg #[.string x.name, .int .i64 x.count, .int .i64 x.frm, .int .i64 x.to, .slice C0 x.cap.length c0, .int .i64 x.skills, .int .i64 x.profile, .int .i64 x.opn, .int .i64 x.close, .int .i64 x.drive, .int .i64 x.rest, .int .i64 x.fixed, .int .i64 x.mile, .int .i64 x.tick], .agg #[.string y.name, .int .i64 y.count, .int .i64 y.frm, .int .i64 y.to, .slice D0 y.cap.length d0, .int .i64 y.skills, .int .i64 y.profile, .int .i64 y.opn, .int .i64 y.close, .int .i64 y.drive, .int .i64 y.rest, .int .i64 y.fixed, .int .i64 y.mile, .int .i64 y.tick]] w' fun e w'' => e = .returned (.bool q) ∧ Below w'.heap.size w' w'') := Lib.hid fun w' hw => by rw [← hq]; exact flt.same_any x y C0 c0 D0 d0 w' (Ints.go hp1 (by omega) hw) (Ints.go hp3 (by omega) hw)
        clear hq
        cases q
        · skip
          go_wp2_with (go_at_call 24; refine (HC.out _ (b2 _ _)).mono ?_; rintro e w1 ⟨rfl, hb1⟩)
          go_ret
          exact ⟨ret_bool (by rw [hr.out, HX.out, HP.out]; rfl), hbel.trans (((b2 _ _).mono hz).trans (hb1.mono (by simp; omega)))⟩
        · skip
          go_wp2_with (go_at_call 24; refine (HC.out _ (b2 _ _)).mono ?_; rintro e w1 ⟨rfl, hb1⟩)
          go_roundw
          case rel => exact ⟨k + 1, by omega, by go_num, Lib.hid (by rw [hr.out, HX.out, HP.out, Bool.true_and]), hbel.trans (((b2 _ _).mono hz).trans (hb1.mono (by simp; omega)))⟩
          case measure => simp [intOf]; omega
      · have hkn : k = n := by omega
        subst hkn
        clear hlt
        go_wp2
        go_ret
        exact ⟨ret_bool (by rw [hr.out, eqGo_end (by rw [HN.out]; exact Nat.le_refl _)]), hbel⟩
  · have hd2 : ((n : Int) == (m : Int)) = false := by simp; omega
    have hd3 : ((n : Int) != (m : Int)) = true := by simp; omega
    have HD : Hid (eqL flt.sameT a b = false) := Lib.hid (eqL_no (by omega))
    clear h hn hm
    go_enter Tryd.func23, Tryd.ntmps23
    go_wp2
    go_ret
    exact ⟨ret_bool (by rw [HD.out]), Below.refl _ _⟩
end Go.Proofs.YtceceomaheobhaaDoor.ins

/- Lists of orders that are the same. -/
namespace Go.Proofs.YtceceomaheobhaaDoor.ins
open Go.RowKit
open Go.Proofs.YtceceomaheobhaaDoor.lib Go.Proofs.YtceceomaheobhaaDoor.rd Go.Proofs.YtceceomaheobhaaDoor.typ Go.Proofs.YtceceomaheobhaaDoor.eqg Go.Proofs.YtceceomaheobhaaDoor.ord
set_option linter.unusedVariables false
set_option linter.unusedSimpArgs false

set_option maxRecDepth 20000 in
set_option maxHeartbeats 4000000 in
theorem eqOrd_any (A : Option Addr) (c : Nat) (a : List Ord) (n : Nat) (hn : a.length = n) (A' : Option Addr) (c' : Nat) (b : List Ord) (m : Nat) (hm : b.length = m) (w : World) (B B' : Nat) (hB : B ≤ w.heap.size) (hB' : B' ≤ w.heap.size) (ha : RowAt rOrd w B A a) (hb : RowAt rOrd w B' A' b) :
    Calls Tryd.prog 25 #[.slice A n c, .slice A' m c', .func (.func 26) #[] #[]] w fun e w' => e = .returned (.bool (eqL sameO a b)) ∧ Below w.heap.size w w' := by
  have hlen := ha.len
  rw [hn] at hlen
  by_cases h : n = m
  · subst h
    have HN := Lib.hid hn
    have HM := Lib.hid hm
    have HG := Lib.hid (eqL_go (p := sameO) (hn.trans hm.symm))
    clear hn hm
    go_enter Tryd.func25, Tryd.ntmps25
    go_wp2
    go_loopw [7, 8, 9, 17] (fun _ _ _ i wr => ∃ k : Nat, k ≤ n ∧ i = .int .i64 k ∧ Hid (eqL sameO a b = eqGo sameO (a.drop k) (b.drop k)) ∧ Below w.heap.size w wr) (fun _ _ _ i _ => n - (intOf i).toNat)
    case atStart => exact ⟨0, by omega, rfl, HG, Below.refl _ _⟩
    case round =>
      obtain ⟨k, hk, rfl, hr, hbel⟩ := hrel
      have hz := hbel.size
      by_cases hlt : k < n
      · obtain ⟨x, hx⟩ : ∃ x, a[k]? = some x := ⟨_, List.getElem?_eq_getElem (by rw [HN.out]; exact hlt)⟩
        obtain ⟨y, hy⟩ : ∃ y, b[k]? = some y := ⟨_, List.getElem?_eq_getElem (by rw [HM.out]; exact hlt)⟩
        obtain ⟨ad, C0, c0, rfl, hadb, hx0, hp1, _⟩ := row_Ord (ha.below (hbel.mono hB)) hx
        obtain ⟨ad', D0, d0, rfl, hadb', hy0, hp3, _⟩ := row_Ord (hb.below (hbel.mono hB')) hy
        have HXA := Lib.hid hx0
        have HYA := Lib.hid hy0
        have hbb : (ad.add (k * 16)).block < wr.heap.size := by rw [block_of_add]; omega
        have hbb' : (ad'.add (k * 16)).block < wr.heap.size := by rw [block_of_add]; omega
        have HX := Lib.hid (eqGo_step (p := sameO) hx hy)
        have hk0 : (0 : Int) ≤ (k : Int) := by omega
        have hkn : (k : Int) < (n : Int) := by omega
        clear hx hy hx0 hy0
        obtain ⟨q, hq⟩ : ∃ q, sameO x y = q := ⟨_, rfl⟩
        have HP := Lib.hid hq
        have HC : Hid (∀ w', Below wr.heap.size wr w' → Calls Tryd.prog 26 #[.agg #[.string x.name, .slice C0 x.load.length c0, .int .i64 x.pick.place, .int .i64 x.pick.opn, .int .i64 x.pick.close, .int .i64 x.pick.service, .int .i64 x.drop.place, .int .i64 x.drop.opn, .int .i64 x.drop.close, .int .i64 x.drop.service, .int .i64 x.skills, .int .i64 x.penalty, .int .i64 x.split, .int .i64 x.last, .int .i64 x.now, .bool x.off], .agg #[.string y.name, .slice D0 y.load.length d0, .int .i64 y.pick.place, .int .i64 y.pick.opn, .int .i64 y.pick.close, .int .i64 y.pick.service, .int .i64 y.drop.place, .int .i64 y.drop.opn, .int .i64 y.drop.close, .int .i64 y.drop.service, .int .i64 y.skills, .int .i64 y.penalty, .int .i64 y.split, .int .i64 y.last, .int .i64 y.now, .bool y.off]] w' fun e w'' => e = .returned (.bool q) ∧ Below w'.heap.size w' w'') := Lib.hid fun w' hw => by rw [← hq]; exact ord.osame_any x y C0 c0 D0 d0 w' (Ints.go hp1 (by omega) hw) (Ints.go hp3 (by omega) hw)
        clear hq hp1 hp3
        go_upto_region 5 with fail
        go_cut [7, 8] from 18 to 31 (fun i p wx => i = .int .i64 k ∧ p = .pointer (some ⟨wr.heap.size, 0, none⟩) ∧ OrBlk wx wr.heap.size x C0 c0 ∧ Below wr.heap.size wr wx ∧ wx.heap.size = wr.heap.size + 1)
        case first => as_aux_lemma =>
          obtain ⟨m0, m1, m2, m3, m4, m5, m6, m7, m8, m9, m10, m11, m12, m13, m14, m15⟩ := HXA.out
          go_wp2
          go_meet
          refine ⟨rfl, rfl, ?_, (Below.refl _ _).alloc (Nat.le_refl _) _, by simp⟩
          exact World.alloc_heap_new wr _
        obtain ⟨hi7, hp8, hblk, hb1, hs1⟩ := hcut
        subst hi7
        subst hp8
        have hbb2 : (ad'.add (k * 16)).block < wc.heap.size := by omega
        have HYB : Hid (OrdAt wc (ad'.add (k * 16)) y D0 d0) := Lib.hid (by
          obtain ⟨n0, n1, n2, n3, n4, n5, n6, n7, n8, n9, n10, n11, n12, n13, n14, n15⟩ := HYA.out
          have hk := fun (o : Nat) => hb1.cell (p := ⟨(ad'.add (k * 16)).block, o, none⟩) hbb'
          exact ⟨(hb1.cell hbb').trans n0, (hk _).trans n1, (hk _).trans n2, (hk _).trans n3, (hk _).trans n4, (hk _).trans n5, (hk _).trans n6, (hk _).trans n7, (hk _).trans n8, (hk _).trans n9, (hk _).trans n10, (hk _).trans n11, (hk _).trans n12, (hk _).trans n13, (hk _).trans n14, (hk _).trans n15⟩)
        have HBLK := Lib.hid hblk
        have HS1 := Lib.hid hs1
        clear hblk hs1
        obtain ⟨wd, hwd⟩ : ∃ wd, wc = wd := ⟨_, rfl⟩
        have HWD := Lib.hid hwd
        go_upto_region 6 with fail
        go_cut [9] from 22 to 31 (fun p wx => p = .pointer (some ⟨wd.heap.size, 0, none⟩) ∧ OrBlk wx wr.heap.size x C0 c0 ∧ OrBlk wx wd.heap.size y D0 d0 ∧ Below wr.heap.size wr wx)
        case first => as_aux_lemma =>
          obtain ⟨m0, m1, m2, m3, m4, m5, m6, m7, m8, m9, m10, m11, m12, m13, m14, m15⟩ := HYB.out
          clear hwd
          go_wp2
          go_meet
          have e := HWD.out
          subst e
          refine ⟨rfl, ?_, World.alloc_heap_new wc _, hb1.alloc hb1.size _⟩
          exact (Below.heap_alloc _ _ _ (by have := HS1.out; omega)).trans HBLK.out
        obtain ⟨hp9, hblk1, hblk2, hb2⟩ := hcut
        subst hp9
        clear hwd
        obtain ⟨m0, m1, m2, m3, m4, m5, m6, m7, m8, m9, m10, m11, m12, m13, m14, m15⟩ := hblk1.cells
        obtain ⟨n0, n1, n2, n3, n4, n5, n6, n7, n8, n9, n10, n11, n12, n13, n14, n15⟩ := hblk2.cells
        cases q
        · as_aux_lemma =>
            go_wp2_with (go_at_call 26; refine (HC.out _ hb2).mono ?_; rintro e w1 ⟨rfl, hb3⟩)
            go_ret
            exact ⟨ret_bool (by rw [hr.out, HX.out, HP.out]; rfl), hbel.trans ((hb2.mono hz).trans (hb3.mono (by have := hb2.size; omega)))⟩
        · as_aux_lemma =>
            go_wp2_with (go_at_call 26; refine (HC.out _ hb2).mono ?_; rintro e w1 ⟨rfl, hb3⟩)
            go_roundw
            case rel => exact ⟨k + 1, by omega, by go_num, Lib.hid (by rw [hr.out, HX.out, HP.out, Bool.true_and]), hbel.trans ((hb2.mono hz).trans (hb3.mono (by have := hb2.size; omega)))⟩
            case measure => simp [intOf]; omega
      · have hkn : k = n := by omega
        subst hkn
        clear hlt
        go_wp2
        go_ret
        exact ⟨ret_bool (by rw [hr.out, eqGo_end (by rw [HN.out]; exact Nat.le_refl _)]), hbel⟩
  · have hd2 : ((n : Int) == (m : Int)) = false := by simp; omega
    have hd3 : ((n : Int) != (m : Int)) = true := by simp; omega
    have HD : Hid (eqL sameO a b = false) := Lib.hid (eqL_no (by omega))
    clear h hn hm
    go_enter Tryd.func25, Tryd.ntmps25
    go_wp2
    go_ret
    exact ⟨ret_bool (by rw [HD.out]), Below.refl _ _⟩
end Go.Proofs.YtceceomaheobhaaDoor.ins

/- The same instances: the program. -/
namespace Go.Proofs.YtceceomaheobhaaDoor.ins
open Go.RowKit
open Go.Proofs.YtceceomaheobhaaDoor.lib Go.Proofs.YtceceomaheobhaaDoor.rd Go.Proofs.YtceceomaheobhaaDoor.typ Go.Proofs.YtceceomaheobhaaDoor.eqg Go.Proofs.YtceceomaheobhaaDoor.note
set_option linter.unusedVariables false
set_option linter.unusedSimpArgs false

def sameI (a b : Ins) : Bool := eqL sameS a.net.places b.net.places && (eqL sameA a.net.arcs b.net.arcs && (eqL flt.sameT a.types b.types && (eqL ord.sameO a.orders b.orders && (eqL twoEq a.apart b.apart && (eqL twoEq a.before b.before)))))
set_option maxRecDepth 20000 in
set_option maxHeartbeats 4000000 in
theorem same_any (a b : Ins) (P Q : InP) (w : World) (hP : InAt w w.heap.size a P) (hQ : InAt w w.heap.size b Q) :
    Calls Tryd.prog 12 #[InV a P, InV b Q] w fun e w' => e = .returned (.bool (sameI a b)) ∧ Below w.heap.size w w' := by
  obtain ⟨A0, c0, A1, c1, A2, c2, A3, c3, A4, c4, A5, c5⟩ := P
  obtain ⟨D0, d0, D1, d1, D2, d2, D3, d3, D4, d4, D5, d5⟩ := Q
  obtain ⟨R, hR⟩ : ∃ R, sameI a b = R := ⟨_, rfl⟩
  have HR0 : Hid (R = (eqL sameS a.net.places b.net.places && (eqL sameA a.net.arcs b.net.arcs && (eqL flt.sameT a.types b.types && (eqL ord.sameO a.orders b.orders && (eqL twoEq a.apart b.apart && (eqL twoEq a.before b.before))))))) := Lib.hid (by rw [← hR]; rfl)
  rw [hR]
  simp only [InV]
  obtain ⟨W0, hW0⟩ : ∃ W0, (w.alloc (.cells #[.slice A0 a.net.places.length c0, .slice A1 a.net.arcs.length c1, .slice A2 a.types.length c2, .slice A3 a.orders.length c3, .slice A4 a.apart.length c4, .slice A5 a.before.length c5] 30)).alloc (.cells #[.slice D0 b.net.places.length d0, .slice D1 b.net.arcs.length d1, .slice D2 b.types.length d2, .slice D3 b.orders.length d3, .slice D4 b.apart.length d4, .slice D5 b.before.length d5] 30) = W0 := ⟨_, rfl⟩
  have hB0 : Below w.heap.size w W0 := by rw [← hW0]; exact ((Below.refl _ _).alloc (Nat.le_refl _) _).alloc (by simp) _
  have z0 := hB0.size
  have hs0 : w.heap.size + 1 < W0.heap.size := by rw [← hW0]; simp
  have HS : Hid (∀ w', Below W0.heap.size W0 w' → w'.cell? ⟨w.heap.size, 0, none⟩ = some (.slice A0 a.net.places.length c0) ∧ w'.cell? ⟨w.heap.size, 1, none⟩ = some (.slice A1 a.net.arcs.length c1) ∧ w'.cell? ⟨w.heap.size, 2, none⟩ = some (.slice A2 a.types.length c2) ∧ w'.cell? ⟨w.heap.size, 3, none⟩ = some (.slice A3 a.orders.length c3) ∧ w'.cell? ⟨w.heap.size, 4, none⟩ = some (.slice A4 a.apart.length c4) ∧ w'.cell? ⟨w.heap.size, 5, none⟩ = some (.slice A5 a.before.length c5) ∧ w'.cell? ⟨w.heap.size + 1, 0, none⟩ = some (.slice D0 b.net.places.length d0) ∧ w'.cell? ⟨w.heap.size + 1, 1, none⟩ = some (.slice D1 b.net.arcs.length d1) ∧ w'.cell? ⟨w.heap.size + 1, 2, none⟩ = some (.slice D2 b.types.length d2) ∧ w'.cell? ⟨w.heap.size + 1, 3, none⟩ = some (.slice D3 b.orders.length d3) ∧ w'.cell? ⟨w.heap.size + 1, 4, none⟩ = some (.slice D4 b.apart.length d4) ∧ w'.cell? ⟨w.heap.size + 1, 5, none⟩ = some (.slice D5 b.before.length d5)) := Lib.hid fun w' h => by
    have hk := fun (o : Nat) => h.cell (p := ⟨w.heap.size, o, none⟩) (show w.heap.size < W0.heap.size by omega)
    have hk1 := fun (o : Nat) => h.cell (p := ⟨w.heap.size + 1, o, none⟩) hs0
    refine ⟨(hk _).trans ?_, (hk _).trans ?_, (hk _).trans ?_, (hk _).trans ?_, (hk _).trans ?_, (hk _).trans ?_, (hk1 _).trans ?_, (hk1 _).trans ?_, (hk1 _).trans ?_, (hk1 _).trans ?_, (hk1 _).trans ?_, (hk1 _).trans ?_⟩
    all_goals (rw [← hW0]; simp)
  have HP : Hid (∀ w', Below W0.heap.size W0 w' → InAt w' w'.heap.size a ⟨A0, c0, A1, c1, A2, c2, A3, c3, A4, c4, A5, c5⟩ ∧ InAt w' w'.heap.size b ⟨D0, d0, D1, d1, D2, d2, D3, d3, D4, d4, D5, d5⟩) := Lib.hid fun w' h => ⟨(hP.go hB0).go h, (hQ.go hB0).go h⟩
  have B0 : Below W0.heap.size W0 W0 := Below.refl _ _
  have HW0 := Lib.hid hW0
  clear hR hW0 hP hQ
  go_enter Tryd.func12, Tryd.ntmps12
  go_wp2_with fail
  rw [HW0.out]
  refine (eqStr_any A0 c0 a.net.places _ rfl D0 d0 b.net.places _ rfl _ _ _ (Nat.le_refl _) (Nat.le_refl _) (HP.out _ B0).1.places (HP.out _ B0).2.places).mono ?_
  rintro e w1 ⟨rfl, hb1⟩
  have B1 : Below W0.heap.size W0 w1 := B0.trans (hb1.mono B0.size)
  obtain ⟨m0, m1, m2, m3, m4, m5, n0, n1, n2, n3, n4, n5⟩ := HS.out _ B1
  cases hq0 : eqL sameS a.net.places b.net.places
  · have HT : Hid (R = false) := Lib.hid (by rw [HR0.out, hq0]; rfl)
    go_wp2
    go_ret
    exact ⟨ret_bool HT.out.symm, hB0.trans (B1.mono z0)⟩
  have HR1 : Hid (R = (eqL sameA a.net.arcs b.net.arcs && (eqL flt.sameT a.types b.types && (eqL ord.sameO a.orders b.orders && (eqL twoEq a.apart b.apart && (eqL twoEq a.before b.before)))))) := Lib.hid (by rw [HR0.out, hq0]; rfl)
  clear hq0 hb1
  go_wp2_with fail
  refine (eqArc_any A1 c1 a.net.arcs _ rfl D1 d1 b.net.arcs _ rfl _ _ _ (Nat.le_refl _) (Nat.le_refl _) (HP.out _ B1).1.arcs (HP.out _ B1).2.arcs).mono ?_
  rintro e w2 ⟨rfl, hb2⟩
  have B2 : Below W0.heap.size W0 w2 := B1.trans (hb2.mono B1.size)
  obtain ⟨m0, m1, m2, m3, m4, m5, n0, n1, n2, n3, n4, n5⟩ := HS.out _ B2
  cases hq1 : eqL sameA a.net.arcs b.net.arcs
  · have HT : Hid (R = false) := Lib.hid (by rw [HR1.out, hq1]; rfl)
    go_wp2
    go_ret
    exact ⟨ret_bool HT.out.symm, hB0.trans (B2.mono z0)⟩
  have HR2 : Hid (R = (eqL flt.sameT a.types b.types && (eqL ord.sameO a.orders b.orders && (eqL twoEq a.apart b.apart && (eqL twoEq a.before b.before))))) := Lib.hid (by rw [HR1.out, hq1]; rfl)
  clear hq1 hb2
  go_wp2_with fail
  refine (eqTy_any A2 c2 a.types _ rfl D2 d2 b.types _ rfl _ _ _ (Nat.le_refl _) (Nat.le_refl _) (HP.out _ B2).1.types (HP.out _ B2).2.types).mono ?_
  rintro e w3 ⟨rfl, hb3⟩
  have B3 : Below W0.heap.size W0 w3 := B2.trans (hb3.mono B2.size)
  obtain ⟨m0, m1, m2, m3, m4, m5, n0, n1, n2, n3, n4, n5⟩ := HS.out _ B3
  cases hq2 : eqL flt.sameT a.types b.types
  · have HT : Hid (R = false) := Lib.hid (by rw [HR2.out, hq2]; rfl)
    go_wp2
    go_ret
    exact ⟨ret_bool HT.out.symm, hB0.trans (B3.mono z0)⟩
  have HR3 : Hid (R = (eqL ord.sameO a.orders b.orders && (eqL twoEq a.apart b.apart && (eqL twoEq a.before b.before)))) := Lib.hid (by rw [HR2.out, hq2]; rfl)
  clear hq2 hb3
  go_wp2_with fail
  refine (eqOrd_any A3 c3 a.orders _ rfl D3 d3 b.orders _ rfl _ _ _ (Nat.le_refl _) (Nat.le_refl _) (HP.out _ B3).1.orders (HP.out _ B3).2.orders).mono ?_
  rintro e w4 ⟨rfl, hb4⟩
  have B4 : Below W0.heap.size W0 w4 := B3.trans (hb4.mono B3.size)
  obtain ⟨m0, m1, m2, m3, m4, m5, n0, n1, n2, n3, n4, n5⟩ := HS.out _ B4
  cases hq3 : eqL ord.sameO a.orders b.orders
  · have HT : Hid (R = false) := Lib.hid (by rw [HR3.out, hq3]; rfl)
    go_wp2
    go_ret
    exact ⟨ret_bool HT.out.symm, hB0.trans (B4.mono z0)⟩
  have HR4 : Hid (R = (eqL twoEq a.apart b.apart && (eqL twoEq a.before b.before))) := Lib.hid (by rw [HR3.out, hq3]; rfl)
  clear hq3 hb4
  go_wp2_with fail
  refine (eqTwo_any A4 c4 a.apart _ rfl D4 d4 b.apart _ rfl _ _ _ (Nat.le_refl _) (Nat.le_refl _) (HP.out _ B4).1.apart (HP.out _ B4).2.apart).mono ?_
  rintro e w5 ⟨rfl, hb5⟩
  have B5 : Below W0.heap.size W0 w5 := B4.trans (hb5.mono B4.size)
  obtain ⟨m0, m1, m2, m3, m4, m5, n0, n1, n2, n3, n4, n5⟩ := HS.out _ B5
  cases hq4 : eqL twoEq a.apart b.apart
  · have HT : Hid (R = false) := Lib.hid (by rw [HR4.out, hq4]; rfl)
    go_wp2
    go_ret
    exact ⟨ret_bool HT.out.symm, hB0.trans (B5.mono z0)⟩
  have HR5 : Hid (R = (eqL twoEq a.before b.before)) := Lib.hid (by rw [HR4.out, hq4]; rfl)
  clear hq4 hb5
  go_wp2_with fail
  refine (eqTwo_any A5 c5 a.before _ rfl D5 d5 b.before _ rfl _ _ _ (Nat.le_refl _) (Nat.le_refl _) (HP.out _ B5).1.before (HP.out _ B5).2.before).mono ?_
  rintro e w6 ⟨rfl, hb6⟩
  have B6 : Below W0.heap.size W0 w6 := B5.trans (hb6.mono B5.size)
  go_wp2
  go_ret
  exact ⟨ret_bool HR5.out.symm, hB0.trans (B6.mono z0)⟩
end Go.Proofs.YtceceomaheobhaaDoor.ins

/- The examples of layer 13: awake. -/
namespace Go.Proofs.YtceceomaheobhaaDoor.ins
open Go.RowKit
open Go.Proofs.YtceceomaheobhaaDoor.lib Go.Proofs.YtceceomaheobhaaDoor.rd Go.Proofs.YtceceomaheobhaaDoor.typ Go.Proofs.YtceceomaheobhaaDoor.big Go.Proofs.YtceceomaheobhaaDoor.app Go.Proofs.YtceceomaheobhaaDoor.flts
set_option linter.unusedVariables false
set_option linter.unusedSimpArgs false

def netI : Ins := ⟨littleI.net, [], [], [], []⟩
def onlyY : Ins := ⟨littleI.net, littleI.types, [obO], [], []⟩
theorem little_only : onlyI littleI 2 = onlyY := by rfl
theorem little_mem : sets.memTo 2 littleI.orders.length = [1] := by rfl
theorem little_check : insF littleI = [] := by kernel_rfl
theorem net_check : insF netI = [⟨4, ⟨#[116, 121, 112, 101, 115]⟩⟩] := by kernel_rfl
theorem little_all : sch.suchN allP littleI.orders littleI.orders.length = 3 := by kernel_rfl
theorem little_must : sch.suchN mustP littleI.orders littleI.orders.length = 1 := by kernel_rfl
theorem little_same : sameI littleI littleI = true := by kernel_rfl
theorem little_lim : Lim littleI := ⟨by decide, by decide, fun a h => (by cases h), fun j a h => (by simp [littleI] at h), by rw [show insN littleI = [] by kernel_rfl]; decide, by decide, by decide, by decide, by decide⟩
theorem net_lim : Lim netI := ⟨by decide, by decide, fun a h => (by cases h), fun j a h => (by simp [netI, littleI] at h), by rw [show insN netI = [] by kernel_rfl]; decide, by decide, by decide, by decide, by decide⟩
theorem awk_only (P : InP) (w : World) (h : InAt w w.heap.size littleI P) : Calls Tryd.prog 15 #[InV littleI P, .int .i64 2] w (OnlyGood onlyY [1] w) := by
  have h := onlyGood_any littleI P 2 w h (by decide) (by decide) (by decide) (by decide) (by decide)
  rw [little_only, little_mem] at h
  exact h
theorem awk_check (P : InP) (w : World) (h : InAt w w.heap.size littleI P) : Calls Tryd.prog 14 #[InV littleI P] w (FltsOut w []) := by
  have h := icheck_any littleI P w h little_lim
  rw [little_check] at h
  exact h
theorem awk_net (P : InP) (w : World) (h : InAt w w.heap.size netI P) : Calls Tryd.prog 14 #[InV netI P] w (FltsOut w [⟨4, ⟨#[116, 121, 112, 101, 115]⟩⟩]) := by
  have h := icheck_any netI P w h net_lim
  rw [net_check] at h
  exact h
theorem awk_all (P : InP) (w : World) (h : InAt w w.heap.size littleI P) : Calls Tryd.prog 8 #[InV littleI P] w fun e w' => e = .returned (.int .i64 3) ∧ Below w.heap.size w w' := by
  have h := all_any littleI P w h (by decide)
  rw [little_all] at h
  exact h
theorem awk_must (P : InP) (w : World) (h : InAt w w.heap.size littleI P) : Calls Tryd.prog 9 #[InV littleI P] w fun e w' => e = .returned (.int .i64 1) ∧ Below w.heap.size w w' := by
  have h := must_any littleI P w h (by decide)
  rw [little_must] at h
  exact h
theorem awk_same (P : InP) (w : World) (h : InAt w w.heap.size littleI P) : Calls Tryd.prog 12 #[InV littleI P, InV littleI P] w fun e w' => e = .returned (.bool true) ∧ Below w.heap.size w w' := by
  have h := same_any littleI littleI P P w h h
  rw [little_same] at h
  exact h
theorem insCs_one (x : Ins) (P : InP) : ∀ u ∈ insCs x P, u.oneCell' = true := fun u hu => by
  simp only [insCs, List.mem_cons, List.not_mem_nil, or_false] at hu
  rcases hu with rfl | rfl | rfl | rfl | rfl | rfl <;> rfl
set_option maxRecDepth 100000 in
set_option maxHeartbeats 4000000 in
theorem awake_any (w : World) : Calls Tryd.prog 7 #[] w fun e w' => e = .returned (.bool true) ∧ Below w.heap.size w w' := by
  go_enter Tryd.func7, Tryd.ntmps7
  go_upto_region 1 with fail
  go_cut [1] (fun p wx => ∃ P k, p = .pointer (some ⟨k, 0, none⟩) ∧ SixAt wx k (insCs littleI P) ∧ InAt wx wx.heap.size littleI P ∧ Below w.heap.size w wx)
  case first => as_aux_lemma =>
    go_wp2_with (first
      | (go_at_call 16; refine (little_any _).mono ?_; rintro e w1 ⟨P, rfl, hI, hb⟩; have HI := Lib.hid hI; clear hI)
      | ((with_reducible refine wpList_storeL sIns rfl _ _ rfl w1.heap.size nilCs (insCs littleI P) ?_ ?_ ?_ ?_ ?_ (insCs_one _ _) ?_); exact rfl; exact rfl; exact World.alloc_heap_new w1 _; exact rfl; exact rfl; intro w2 k1 k2 k3 k4; have K := Lib.hid (And.intro k1 (And.intro k2 (And.intro k3 k4))); clear k1 k2 k3 k4))
    go_meet
    obtain ⟨k1, k2, k3, k4⟩ := K.out
    have hb2 : Below w1.heap.size w1 w2 := ((Below.refl _ _).alloc (Nat.le_refl _) _).trans k4
    exact ⟨P, w1.heap.size, rfl, k1, HI.out.go hb2, hb.trans (hb2.mono hb.size)⟩
  obtain ⟨P, k, h1, hx, hI, hB⟩ := hcut
  subst h1
  have HX := Lib.hid hx
  have HI := Lib.hid hI
  have hkw : k < wc.heap.size := (Array.getElem?_eq_some_iff.1 hx).1
  clear hx hI
  go_upto_region 2 with fail
  go_cut [2, 3, 4] (fun p v e wx => ∃ P2 A c k2, p = .pointer (some ⟨k2, 0, none⟩) ∧ v = .slice A 1 c ∧ e = .int .i64 0 ∧ SixAt wx k (insCs littleI P) ∧ SixAt wx k2 (insCs onlyY P2) ∧ InAt wx wx.heap.size littleI P ∧ InAt wx wx.heap.size onlyY P2 ∧ wx.ownsRow wc.heap.size 3 1 (.slice A 1 c) 1 [.int .i64 1] ∧ Below w.heap.size w wx)
  case first => as_aux_lemma =>
    go_wp2_with (first
      | ((with_reducible refine wpList_loadB sIns rfl _ rfl k (insCs littleI P).toArray (0, 0) ?_ ?_ ?_ ?_); exact rfl; exact HX.out; exact rfl)
      | (go_at_call 15; refine (awk_only P _ HI.out).mono ?_; rintro e w1 ⟨P2, A, c, rfl, hI2, hown, hb⟩; have HI2 := Lib.hid (And.intro hI2 hown); clear hI2 hown)
      | ((with_reducible refine wpList_storeL sIns rfl _ _ rfl w1.heap.size nilCs (insCs onlyY P2) ?_ ?_ ?_ ?_ ?_ (insCs_one _ _) ?_); exact rfl; exact rfl; exact World.alloc_heap_new w1 _; exact rfl; exact rfl; intro w2 k1 k2 k3 k4; have K := Lib.hid (And.intro k1 (And.intro k2 (And.intro k3 k4))); clear k1 k2 k3 k4))
    go_meet
    obtain ⟨k1, k2, k3, k4⟩ := K.out
    have hb2 : Below w1.heap.size w1 w2 := ((Below.refl _ _).alloc (Nat.le_refl _) _).trans k4
    have hb3 : Below wc.heap.size wc w2 := hb.trans (hb2.mono hb.size)
    exact ⟨P2, A, c, w1.heap.size, rfl, rfl, rfl, HX.out.below hb3, k1, HI.out.go hb3, HI2.out.1.go hb2, own_below HI2.out.2 hb2, hB.trans (hb3.mono hB.size)⟩
  clear HX HI hkw hB
  obtain ⟨P2, A, c, k2, h2, h3, h4, hx, hy, hI, hI2, hown, hB⟩ := hcut
  subst h2
  subst h3
  subst h4
  have HX := Lib.hid hx
  have c0 : wc.cell? ⟨k, 0, none⟩ = some (.slice P.a0 1 P.c0) := hx.cell (j := 0) rfl
  have c1 : wc.cell? ⟨k, 1, none⟩ = some (.slice P.a1 0 P.c1) := hx.cell (j := 1) rfl
  have HI := Lib.hid (And.intro hI hI2)
  have HY := Lib.hid hy
  have HO := Lib.hid hown
  clear hx hI hI2 hown hy
  go_upto_region 3 with fail
  have hi := HI.out.1
  have hnet : InAt wc wc.heap.size netI ⟨P.a0, P.c0, P.a1, P.c1, none, 0, none, 0, none, 0, none, 0⟩ := ⟨hi.places, hi.arcs, RowAt.nil, RowAt.nil, RowAt.nil, RowAt.nil, Nat.le_refl 0, Nat.le_refl 0, Nat.le_refl 0, Nat.le_refl 0⟩
  have HNET := Lib.hid hnet
  clear hi hnet
  go_wp2_with fail
  refine (awk_net _ _ HNET.out).mono ?_
  rintro e w3 ⟨Af, cf, rfl, hownF, hb3⟩
  have HF := Lib.hid hownF
  have hx3 := HX.out.below hb3
  have hi3 := Lib.hid (HI.out.1.go hb3)
  have z3 := hb3.size
  obtain ⟨gf, rfl, hgf, f0, f1⟩ := flt_one hownF
  obtain ⟨gl, hgl1, hgl2, hgl3⟩ := row_place (l := [1]) HO.out
  obtain ⟨rfl, hgl⟩ := hgl2 (by decide)
  have l0 : w3.cell? ⟨gl, 0, none⟩ = some (.int .i64 1) := (hb3.cell (p := ⟨gl, 0, none⟩) hgl).trans (hgl3 0 (by decide))
  have hy3 := HY.out.below hb3
  obtain ⟨ad, C0, d0, hAd, hadb, hox, -, -⟩ := row_Ord (HI.out.2.orders.below hb3) (i := 0) (t := obO) rfl
  have o0 : w3.cell? ad = some (.string ⟨#[111, 98]⟩) := by have h := hox.1; rw [Nat.zero_mul] at h; simpa [Addr.add, obO] using h
  have y3 : w3.cell? ⟨k2, 3, none⟩ = some (.slice (some ad) 1 P2.c3) := by rw [← hAd]; exact hy3.cell (j := 3) rfl
  have hk3 : k < w3.heap.size := (Array.getElem?_eq_some_iff.1 hx3).1
  have hk23 : k2 < w3.heap.size := (Array.getElem?_eq_some_iff.1 hy3).1
  have hS : ∀ w', Below w3.heap.size w3 w' → (Below w3.heap.size w3 w' ∧ w'.cell? ⟨k, 0, none⟩ = some (.slice P.a0 1 P.c0) ∧ w'.cell? ⟨k, 1, none⟩ = some (.slice P.a1 0 P.c1) ∧ w'.cell? ⟨k, 2, none⟩ = some (.slice P.a2 1 P.c2) ∧ w'.cell? ⟨k, 3, none⟩ = some (.slice P.a3 2 P.c3) ∧ w'.cell? ⟨k, 4, none⟩ = some (.slice P.a4 1 P.c4) ∧ w'.cell? ⟨k, 5, none⟩ = some (.slice P.a5 0 P.c5) ∧ w'.cell? ⟨gl, 0, none⟩ = some (.int .i64 1) ∧ w'.cell? ⟨k2, 3, none⟩ = some (.slice (some ad) 1 P2.c3) ∧ w'.cell? ⟨k2, 4, none⟩ = some (.slice P2.a4 0 P2.c4) ∧ w'.cell? ad = some (.string ⟨#[111, 98]⟩) ∧ w'.cell? ⟨gf, 0, none⟩ = some (.int .i64 4) ∧ w'.cell? ⟨gf, 1, none⟩ = some (.string ⟨#[116, 121, 112, 101, 115]⟩)) := fun w' hb => by
    have q1 := fun o => hb.cell (p := ⟨k, o, none⟩) hk3
    have q2 := fun o => hb.cell (p := ⟨k2, o, none⟩) hk23
    have q3 := fun o => hb.cell (p := ⟨gf, o, none⟩) hgf
    exact ⟨hb, (q1 _).trans (hx3.cell (j := 0) rfl), (q1 _).trans (hx3.cell (j := 1) rfl), (q1 _).trans (hx3.cell (j := 2) rfl), (q1 _).trans (hx3.cell (j := 3) rfl), (q1 _).trans (hx3.cell (j := 4) rfl), (q1 _).trans (hx3.cell (j := 5) rfl), (hb.cell (p := ⟨gl, 0, none⟩) (by show gl < _; omega)).trans l0, (q2 _).trans y3, (q2 _).trans (hy3.cell (j := 4) rfl), (hb.cell (by omega)).trans o0, (q3 _).trans f0, (q3 _).trans f1⟩
  have B3 : Below w.heap.size w w3 := hB.trans (hb3.mono hB.size)
  have HXB : Hid (∀ w', Below w3.heap.size w3 w' → SixAt w' k (insCs littleI P)) := Lib.hid fun w' h => hx3.below h
  have HS := Lib.hid hS
  have HI3 : Hid (∀ w', Below w3.heap.size w3 w' → InAt w' w'.heap.size littleI P) := Lib.hid fun w' h => hi3.out.go h
  have B0 : Below w3.heap.size w3 w3 := Below.refl _ _
  have z0 := B3.size
  clear hS hownF hb3 c0 c1 hx3 hi3 hy3 f0 f1 l0 o0 y3 hox hAd hgl1 hgl2 hgl3 hB
  go_upto_region 4 with fail
  obtain ⟨-, x0, x1, x2, x3, x4, x5, -, -, -, -, -, -⟩ := HS.out _ B0
  go_wp2_with fail
  refine (awk_check P _ (HI3.out _ B0)).mono ?_
  rintro e w4 ⟨A4, c4, rfl, -, b4⟩
  have B4 : Below w3.heap.size w3 w4 := b4
  clear b4 x0 x1 x2 x3 x4 x5
  obtain ⟨-, x0, x1, x2, x3, x4, x5, -, -, -, -, -, -⟩ := HS.out _ B4
  go_wp2_with fail
  refine (awk_all P _ (HI3.out _ B4)).mono ?_
  rintro e w5 ⟨rfl, b5⟩
  have B5 : Below w3.heap.size w3 w5 := B4.trans (b5.mono B4.size)
  clear b5 x0 x1 x2 x3 x4 x5
  obtain ⟨-, x0, x1, x2, x3, x4, x5, -, -, -, -, -, -⟩ := HS.out _ B5
  go_wp2_with fail
  refine (awk_must P _ (HI3.out _ B5)).mono ?_
  rintro e w6 ⟨rfl, b6⟩
  have B6 : Below w3.heap.size w3 w6 := B5.trans (b6.mono B5.size)
  clear b6 x0 x1 x2 x3 x4 x5
  obtain ⟨-, x0, x1, x2, x3, x4, x5, l0, y3, y4, o0, f0, f1⟩ := HS.out _ B6
  go_wp2_with fail
  refine (awk_same P _ (HI3.out _ B6)).mono ?_
  rintro e w7 ⟨rfl, b7⟩
  have B7 : Below w3.heap.size w3 w7 := B6.trans (b7.mono B6.size)
  clear b7 x0 x1 x2 x3 x4 x5 l0 y3 y4 o0 f0 f1
  go_wp2_with fail
  go_ret
  exact ⟨rfl, B3.trans (B7.mono z0)⟩
end Go.Proofs.YtceceomaheobhaaDoor.ins

/- Parts of instances: plain. A part of a valid instance is valid; a part of a part is a part. -/
namespace Go.Proofs.YtceceomaheobhaaDoor.par
open Go.RowKit
open Go.Proofs.YtceceomaheobhaaDoor.lib Go.Proofs.YtceceomaheobhaaDoor.typ Go.Proofs.YtceceomaheobhaaDoor.sets Go.Proofs.YtceceomaheobhaaDoor.idx Go.Proofs.YtceceomaheobhaaDoor.ren Go.Proofs.YtceceomaheobhaaDoor.eqg Go.Proofs.YtceceomaheobhaaDoor.rul Go.Proofs.YtceceomaheobhaaDoor.ord Go.Proofs.YtceceomaheobhaaDoor.note Go.Proofs.YtceceomaheobhaaDoor.flts Go.Proofs.YtceceomaheobhaaDoor.ins Go.Proofs.YtceceomaheobhaaDoor.und Go.Proofs.YtceceomaheobhaaDoor.cat
set_option linter.unusedVariables false
set_option linter.unusedSimpArgs false

/-- The members below k, as natural numbers. -/
def memN (s : Int) (k : Nat) : List Nat := (List.range k).filter (hasN s)
theorem memTo_memN (s : Int) (k : Nat) : memTo s k = (memN s k).map (fun i : Nat => (i : Int)) := rfl
theorem memN_succ (s : Int) (k : Nat) : memN s (k + 1) = memN s k ++ (if hasN s k = true then [k] else []) := by
  unfold memN
  rw [List.range_succ, List.filter_append]
  cases h : hasN s k <;> simp [h]
theorem memN_lt {s : Int} {k i : Nat} (h : i ∈ memN s k) : i < k := by
  unfold memN at h
  rw [List.mem_filter, List.mem_range] at h
  exact h.1
theorem memN_sorted (s : Int) : ∀ k, (memN s k).Pairwise (· < ·)
  | 0 => List.Pairwise.nil
  | k + 1 => by
    rw [memN_succ, List.pairwise_append]
    refine ⟨memN_sorted s k, ?_, fun a ha b hb => ?_⟩
    · split <;> simp
    · split at hb
      · rw [List.mem_singleton] at hb
        subst hb
        exact memN_lt ha
      · cases hb
theorem memN_len (s : Int) (k : Nat) : (memN s k).length ≤ k := by
  have h := List.length_filter_le (hasN s) (List.range k)
  rw [List.length_range] at h
  exact h
/-- What a list of indices selects. -/
def pick {X : Type} (l : List X) (L : List Nat) : List X := L.filterMap (l[·]?)
theorem pick_cons {X : Type} {l : List X} {i : Nat} {L : List Nat} {x : X} (h : l[i]? = some x) : pick l (i :: L) = x :: pick l L := by
  unfold pick
  rw [List.filterMap_cons_some h]
theorem pick_get {X : Type} {l : List X} : ∀ {L : List Nat}, (∀ i ∈ L, i < l.length) → ∀ k : Nat, (pick l L)[k]? = (L[k]?).bind (l[·]?)
  | [], _, k => by simp [pick]
  | i :: L, h, k => by
    have hx := List.getElem?_eq_getElem (h i (List.mem_cons_self))
    rw [pick_cons hx]
    rcases k with _ | k
    · simp [hx]
    · simpa using pick_get (L := L) (fun j hj => h j (List.mem_cons_of_mem _ hj)) k
theorem pick_len {X : Type} {l : List X} : ∀ {L : List Nat}, (∀ i ∈ L, i < l.length) → (pick l L).length = L.length
  | [], _ => rfl
  | i :: L, h => by
    have hx := List.getElem?_eq_getElem (h i (List.mem_cons_self))
    rw [pick_cons hx, List.length_cons, List.length_cons, pick_len fun j hj => h j (List.mem_cons_of_mem _ hj)]
theorem pick_range {X : Type} (l : List X) : pick l (List.range l.length) = l := by
  apply List.ext_getElem?
  intro k
  rw [pick_get (fun i hi => List.mem_range.1 hi)]
  rcases Nat.lt_or_ge k l.length with h | h
  · rw [List.getElem?_range h]; rfl
  · rw [List.getElem?_eq_none (by simpa using h), List.getElem?_eq_none h]; rfl
/-- One list of indices after another. -/
def after (L K : List Nat) : List Nat := K.map fun k => L[k]?.getD 0
theorem pick_after {X : Type} (l : List X) (L : List Nat) (hL : ∀ i ∈ L, i < l.length) : ∀ K : List Nat, (∀ k ∈ K, k < L.length) → pick (pick l L) K = pick l (after L K)
  | [], _ => rfl
  | k :: K, h => by
    have ih := pick_after l L hL K fun j hj => h j (List.mem_cons_of_mem _ hj)
    have hk := h k (List.mem_cons_self)
    have hx := List.getElem?_eq_getElem hk
    have hy := List.getElem?_eq_getElem (hL _ (List.getElem_mem hk))
    have e : (pick l L)[k]? = some (l[L[k]]'(hL _ (List.getElem_mem hk))) := by rw [pick_get hL, hx]; exact hy
    rw [pick_cons e, ih]
    show _ = pick l ((L[k]?.getD 0) :: after L K)
    rw [hx]
    exact (pick_cons hy).symm
theorem after_lt {L K : List Nat} {n : Nat} (hL : ∀ i ∈ L, i < n) (hK : ∀ k ∈ K, k < L.length) : ∀ i ∈ after L K, i < n := fun i hi => by
  unfold after at hi
  obtain ⟨k, hk, rfl⟩ := List.mem_map.1 hi
  rw [List.getElem?_eq_getElem (hK k hk)]
  exact hL _ (List.getElem_mem _)
theorem sorted_get {L : List Nat} (h : L.Pairwise (· < ·)) {i j a b : Nat} (hij : i < j) (hi : L[i]? = some a) (hj : L[j]? = some b) : a < b := by
  rw [List.pairwise_iff_getElem] at h
  obtain ⟨h1, rfl⟩ := List.getElem?_eq_some_iff.1 hi
  obtain ⟨h2, rfl⟩ := List.getElem?_eq_some_iff.1 hj
  exact h i j h1 h2 hij
theorem after_sorted {L K : List Nat} (hL : L.Pairwise (· < ·)) (hKs : K.Pairwise (· < ·)) (hK : ∀ k ∈ K, k < L.length) : (after L K).Pairwise (· < ·) := by
  unfold after
  rw [List.pairwise_map]
  refine List.Pairwise.imp_of_mem (fun {a b} ha hb hab => ?_) hKs
  have h1 := List.getElem?_eq_getElem (hK a ha)
  have h2 := List.getElem?_eq_getElem (hK b hb)
  rw [h1, h2]
  exact sorted_get hL hab h1 h2

/-- The set of a list of indices. -/
def sumP : List Nat → Nat
  | [] => 0
  | m :: M => 2 ^ m + sumP M
theorem sumP_append (M N : List Nat) : sumP (M ++ N) = sumP M + sumP N := by
  induction M with
  | nil => simp [sumP]
  | cons m M ih => simp only [List.cons_append, sumP, ih]; omega
theorem sumP_lt : ∀ (n : Nat) (M : List Nat), M.Pairwise (· < ·) → (∀ i ∈ M, i < n) → sumP M < 2 ^ n ∧ ∀ i, (sumP M).testBit i = decide (i ∈ M)
  | 0, M, _, hM => by
    rcases M with _ | ⟨m, M⟩
    · exact ⟨by decide, fun i => by simp [sumP]⟩
    · exact absurd (hM m (List.mem_cons_self)) (by omega)
  | n + 1, M, hs, hM => by
    rcases List.eq_nil_or_concat M with rfl | ⟨M', m, rfl⟩
    · exact ⟨Nat.two_pow_pos _, fun i => by simp [sumP]⟩
    · rw [List.concat_eq_append] at hs hM ⊢
      rw [List.pairwise_append] at hs
      obtain ⟨h1, _, h3⟩ := hs
      have hlt : ∀ i ∈ M', i < m := fun i hi => h3 i hi m (List.mem_singleton.2 rfl)
      have hm : m < n + 1 := hM m (by simp)
      obtain ⟨e1, e2⟩ := sumP_lt n M' h1 (fun i hi => by have := hlt i hi; omega)
      have e3 : sumP M' < 2 ^ m ∧ True := by
        refine ⟨?_, trivial⟩
        apply Nat.lt_pow_two_of_testBit
        intro i hi
        rw [e2, decide_eq_false]
        intro h
        have := hlt i h
        omega
      rw [sumP_append]
      have e4 : sumP [m] = 2 ^ m := by simp [sumP]
      have hor : sumP M' + 2 ^ m = sumP M' ||| 2 ^ m := by
        have h1 := Nat.two_pow_add_eq_or_of_lt e3.1 1
        rw [Nat.mul_one] at h1
        rw [Nat.or_comm, ← h1, Nat.add_comm]
      have hbits : ∀ i, (sumP M' + sumP [m]).testBit i = decide (i ∈ M' ++ [m]) := fun i => by
        rw [e4, hor, Nat.testBit_or, e2, Nat.testBit_two_pow]
        rw [Bool.eq_iff_iff]
        simp
        constructor
        · rintro (h | h)
          · exact .inl h
          · exact .inr h.symm
        · rintro (h | h)
          · exact .inl h
          · exact .inr h.symm
      refine ⟨?_, hbits⟩
      apply Nat.lt_pow_two_of_testBit
      intro i hi
      rw [hbits, decide_eq_false]
      intro h
      have := hM i h
      omega
theorem sorted_filter : ∀ (n : Nat) (M : List Nat), M.Pairwise (· < ·) → (∀ i ∈ M, i < n) → (List.range n).filter (fun i => decide (i ∈ M)) = M
  | 0, M, _, hM => by
    rcases M with _ | ⟨m, M⟩
    · rfl
    · exact absurd (hM m (List.mem_cons_self)) (by omega)
  | n + 1, M, hs, hM => by
    rw [List.range_succ, List.filter_append]
    by_cases hn : n ∈ M
    · rcases List.eq_nil_or_concat M with rfl | ⟨M', m, rfl⟩
      · cases hn
      · rw [List.concat_eq_append] at hs hM hn ⊢
        have hs' := hs
        rw [List.pairwise_append] at hs
        obtain ⟨h1, _, h3⟩ := hs
        have hlt : ∀ i ∈ M', i < m := fun i hi => h3 i hi m (List.mem_singleton.2 rfl)
        have hm : m = n := by
          rcases List.mem_append.1 hn with h | h
          · have := hlt n h; have := hM m (by simp); omega
          · exact (List.mem_singleton.1 h).symm
        subst hm
        have ih := sorted_filter m M' h1 hlt
        congr 1
        · rw [← ih]
          apply List.filter_congr
          intro i hi
          rw [ih]
          have : i < m := List.mem_range.1 hi
          rw [Bool.eq_iff_iff]
          simp
          omega
        · simp
    · have hlt : ∀ i ∈ M, i < n := fun i hi => by
        have := hM i hi
        have : i ≠ n := fun e => hn (e ▸ hi)
        omega
      rw [sorted_filter n M hs hlt]
      simp [hn]
theorem memN_sum {M : List Nat} {n : Nat} (hs : M.Pairwise (· < ·)) (hM : ∀ i ∈ M, i < n) : memN ((sumP M : Nat) : Int) n = M := by
  obtain ⟨_, h⟩ := sumP_lt n M hs hM
  unfold memN
  rw [← sorted_filter n M hs hM]
  apply List.filter_congr
  intro i hi
  rw [sorted_filter n M hs hM, hasN_nat, h]
theorem memN_full (n : Nat) : memN ((2 ^ n - 1 : Nat) : Int) n = List.range n := by
  unfold memN
  rw [List.filter_eq_self]
  intro i hi
  rw [hasN_nat, Nat.testBit_two_pow_sub_one, decide_eq_true (List.mem_range.1 hi)]
theorem idxGo_pos {n : Int} : ∀ {l : List Int} {k : Int}, 0 ≤ k → idxGo n l k = -1 ∨ ∃ j : Nat, l[j]? = some n ∧ idxGo n l k = k + j
  | [], _, _ => .inl rfl
  | x :: xs, k, hk => by
    by_cases h : n = x
    · subst h
      exact .inr ⟨0, rfl, by simp [idxGo]⟩
    · rcases idxGo_pos (n := n) (l := xs) (k := k + 1) (by omega) with h1 | ⟨j, h1, h2⟩
      · exact .inl (by rw [idxGo, if_neg h, h1])
      · exact .inr ⟨j + 1, by simpa using h1, by rw [idxGo, if_neg h, h2]; omega⟩
theorem idxI_pos (l : List Int) (n : Int) : idxI l n = -1 ∨ ∃ j : Nat, l[j]? = some n ∧ idxI l n = j := by
  rcases idxGo_pos (n := n) (l := l) (k := 0) (by omega) with h | ⟨j, h1, h2⟩
  · exact .inl h
  · exact .inr ⟨j, h1, by unfold idxI; omega⟩
/-- Looked up in a list that is another list's image. -/
theorem idxGo_map {f : Nat → Int} {n : Int} {i : Int} : ∀ {K : List Nat} {k : Int}, (∀ x ∈ K, f x = n ↔ (x : Int) = i) → idxGo n (K.map f) k = idxGo i (K.map fun x : Nat => (x : Int)) k
  | [], _, _ => rfl
  | x :: K, k, h => by
    have ih := idxGo_map (f := f) (n := n) (i := i) (K := K) (k := k + 1) fun y hy => h y (List.mem_cons_of_mem _ hy)
    have h0 := h x (List.mem_cons_self)
    show (if n = f x then k else idxGo n (K.map f) (k + 1)) = (if i = (x : Int) then k else idxGo i (K.map fun x : Nat => (x : Int)) (k + 1))
    rw [ih]
    by_cases hx : n = f x
    · rw [if_pos hx, if_pos ((h0.1 hx.symm).symm)]
    · rw [if_neg hx, if_neg (fun e => hx ((h0.2 e.symm).symm))]
theorem idxI_none {l : List Int} {n : Int} (h : ∀ x ∈ l, x ≠ n) : idxI l n = -1 := by
  rcases idxI_pos l n with h1 | ⟨j, h1, _⟩
  · exact h1
  · exact absurd rfl (h n (List.mem_of_getElem? h1))
abbrev ints (L : List Nat) : List Int := L.map fun i : Nat => (i : Int)
theorem ints_get {L : List Nat} {j : Nat} {a : Int} (h : (ints L)[j]? = some a) : ∃ i : Nat, L[j]? = some i ∧ a = i := by
  rw [List.getElem?_map, Option.map_eq_some_iff] at h
  obtain ⟨i, h1, h2⟩ := h
  exact ⟨i, h1, h2.symm⟩
theorem idx_after {L K : List Nat} (hL : L.Pairwise (· < ·)) (hK : ∀ k ∈ K, k < L.length) (a : Int) : idxI (ints (after L K)) a = (if 0 ≤ idxI (ints L) a then idxI (ints K) (idxI (ints L) a) else -1) := by
  rcases idxI_pos (ints L) a with h | ⟨j, h1, h2⟩
  · rw [h, if_neg (by decide)]
    apply idxI_none
    intro x hx e
    subst e
    obtain ⟨i, hi, rfl⟩ := List.mem_map.1 hx
    unfold after at hi
    obtain ⟨k, hk, rfl⟩ := List.mem_map.1 hi
    have hk' := List.getElem?_eq_getElem (hK k hk)
    have h5 : idxI (ints L) ((L[k]?.getD 0 : Nat) : Int) ≠ -1 := by
      intro h6
      have : ((L[k]?.getD 0 : Nat) : Int) ∈ ints L := by
        rw [hk']
        exact List.mem_map.2 ⟨_, List.getElem_mem (hK k hk), rfl⟩
      clear h
      have key : ∀ (l : List Int) (n : Int) (k : Int), 0 ≤ k → n ∈ l → 0 ≤ idxGo n l k := by
        intro l n
        induction l with
        | nil => intro k _ h; cases h
        | cons x xs ih =>
          intro k hk h
          unfold idxGo
          split
          · exact hk
          · rename_i hne
            rcases List.mem_cons.1 h with h | h
            · exact absurd h hne
            · exact ih (k + 1) (by omega) h
      have := key (ints L) _ 0 (by omega) this
      unfold idxI at h6
      omega
    exact h5 h
  · rw [h2, if_pos (by omega)]
    obtain ⟨i, hi, rfl⟩ := ints_get h1
    unfold idxI ints after
    rw [List.map_map]
    refine idxGo_map (f := fun k : Nat => ((L[k]?.getD 0 : Nat) : Int)) (fun k hk => ?_)
    have hk' := List.getElem?_eq_getElem (hK k hk)
    show ((L[k]?.getD 0 : Nat) : Int) = (i : Int) ↔ (k : Int) = (j : Int)
    rw [hk']
    show ((L[k]'(hK k hk) : Nat) : Int) = (i : Int) ↔ (k : Int) = (j : Int)
    constructor
    · intro e
      rcases Nat.lt_trichotomy k j with h | h | h
      · have := sorted_get hL h hk' hi; omega
      · omega
      · have := sorted_get hL h hi hk'; omega
    · intro e
      have : k = j := by omega
      subst this
      rw [hk'] at hi
      injection hi with hi
      omega
theorem idxI_lt {L : List Int} {a : Int} : idxI L a < L.length := by
  rcases idxI_pos L a with h | ⟨j, h1, h2⟩
  · omega
  · have := (List.getElem?_eq_some_iff.1 h1).1
    omega
theorem ren_after {L K : List Nat} (hL : L.Pairwise (· < ·)) (hK : ∀ k ∈ K, k < L.length) (l : List (Int × Int)) : renL (ints K) (renL (ints L) l) = renL (ints (after L K)) l := by
  unfold renL
  rw [List.flatMap_assoc]
  congr 1
  funext p
  unfold renP
  rw [idx_after hL hK p.1, idx_after hL hK p.2]
  by_cases h1 : 0 ≤ idxI (ints L) p.1
  · by_cases h2 : 0 ≤ idxI (ints L) p.2
    · rw [if_pos ⟨h1, h2⟩, if_pos h1, if_pos h2]
      simp [renP]
    · rw [if_neg (fun h => h2 h.2), if_neg h2, if_neg (fun h => absurd h.2 (by decide))]
      rfl
  · rw [if_neg (fun h => h1 h.1), if_neg h1, if_neg (fun h => absurd h.1 (by decide))]
    rfl
theorem idx_range {n : Nat} {a : Int} (h0 : 0 ≤ a) (h1 : a < n) : idxI (ints (List.range n)) a = a := by
  obtain ⟨k, rfl⟩ := Int.eq_ofNat_of_zero_le h0
  have hk : k < n := by omega
  rcases idxI_pos (ints (List.range n)) (k : Int) with h | ⟨j, h2, h3⟩
  · exfalso
    have key : ∀ (l : List Int) (n : Int) (k : Int), 0 ≤ k → n ∈ l → 0 ≤ idxGo n l k := by
      intro l n
      induction l with
      | nil => intro k _ h; cases h
      | cons x xs ih =>
        intro k hk h
        unfold idxGo
        split
        · exact hk
        · rename_i hne
          rcases List.mem_cons.1 h with h | h
          · exact absurd h hne
          · exact ih (k + 1) (by omega) h
    have := key (ints (List.range n)) (k : Int) 0 (by omega) (List.mem_map.2 ⟨k, List.mem_range.2 hk, rfl⟩)
    unfold idxI at h
    omega
  · rw [h3]
    obtain ⟨i, hi, e⟩ := ints_get h2
    have hj : j < (List.range n).length := (List.getElem?_eq_some_iff.1 hi).1
    rw [List.getElem?_range (by simpa using hj)] at hi
    injection hi with hi
    omega
theorem bad_no {orders : Int} {p : Int × Int} (h : badB orders p = false) : (0 ≤ p.1 ∧ p.1 < orders) ∧ (0 ≤ p.2 ∧ p.2 < orders) ∧ p.1 ≠ p.2 := by
  unfold badB rightB at h
  simp at h
  omega
theorem bad_of {orders : Int} {p : Int × Int} (h1 : 0 ≤ p.1 ∧ p.1 < orders) (h2 : 0 ≤ p.2 ∧ p.2 < orders) (h3 : p.1 ≠ p.2) : badB orders p = false := by
  unfold badB rightB
  simp [h3]
  omega
theorem ren_range {l : List (Int × Int)} {n : Nat} (h : ∀ p ∈ l, badB n p = false) : renL (ints (List.range n)) l = l := by
  unfold renL
  induction l with
  | nil => rfl
  | cons p l ih =>
    obtain ⟨h1, h2, _⟩ := bad_no (h p (List.mem_cons_self))
    rw [List.flatMap_cons, ih fun q hq => h q (List.mem_cons_of_mem _ hq)]
    unfold renP
    rw [idx_range h1.1 h1.2, idx_range h2.1 h2.2, if_pos ⟨h1.1, h2.1⟩]
    rfl

/-- When there are no violations of pairs. -/
theorem pairsTo_nil {orders : Int} {word : ByteArray} {same : Int × Int → Int × Int → Bool} {l : List (Int × Int)} : ∀ k, pairsTo orders word same l k = [] ↔ l.length ≤ 16 ∧ ∀ (j : Nat) p, j < k → l[j]? = some p → badB orders p = false ∧ (l.take j).any (same p) = false
  | 0 => by
    unfold pairsTo
    split
    · rename_i h
      exact ⟨fun _ => ⟨h, fun j p hj => absurd hj (by omega)⟩, fun _ => rfl⟩
    · rename_i h
      exact ⟨fun e => (by cases e), fun e => absurd e.1 h⟩
  | k + 1 => by
    rw [pairsTo, List.append_eq_nil_iff, pairsTo_nil k]
    constructor
    · rintro ⟨⟨h1, h2⟩, h3⟩
      refine ⟨h1, fun j p hj hp => ?_⟩
      rcases Nat.lt_or_ge j k with h | h
      · exact h2 j p h hp
      · obtain rfl : j = k := by omega
        unfold pairAt at h3
        rw [hp] at h3
        unfold pairP at h3
        dsimp only at h3
        split at h3
        · cases h3
        · split at h3
          · cases h3
          · rename_i h4 h5
            exact ⟨by simpa using h4, by simpa using h5⟩
    · rintro ⟨h1, h2⟩
      refine ⟨⟨h1, fun j p hj hp => h2 j p (by omega) hp⟩, ?_⟩
      unfold pairAt
      split
      · rename_i p hp
        obtain ⟨h3, h4⟩ := h2 k p (by omega) hp
        unfold pairP
        rw [if_neg (by rw [h3]; decide), if_neg (by rw [h4]; decide)]
      · rfl
def NoTwice (same : Int × Int → Int × Int → Bool) (l : List (Int × Int)) : Prop := l.Pairwise fun q p => same p q = false
theorem noTwice_iff {same : Int × Int → Int × Int → Bool} {l : List (Int × Int)} : NoTwice same l ↔ ∀ (j : Nat) p, l[j]? = some p → (l.take j).any (same p) = false := by
  unfold NoTwice
  rw [List.pairwise_iff_getElem]
  constructor
  · intro h j p hp
    obtain ⟨hj, rfl⟩ := List.getElem?_eq_some_iff.1 hp
    rw [List.any_eq_false]
    intro q hq
    obtain ⟨i, hi⟩ := List.mem_iff_getElem?.1 hq
    rw [List.getElem?_take] at hi
    split at hi
    · rename_i hij
      obtain ⟨hi2, rfl⟩ := List.getElem?_eq_some_iff.1 hi
      rw [h i j hi2 hj hij]
      decide
    · cases hi
  · intro h i j hi hj hij
    have h1 := h j _ (List.getElem?_eq_getElem hj)
    rw [List.any_eq_false] at h1
    have h2 := h1 l[i] (by
      rw [List.mem_iff_getElem?]
      exact ⟨i, by rw [List.getElem?_take, if_pos hij, List.getElem?_eq_getElem hi]⟩)
    simpa using h2
theorem pairs_nil {orders : Int} {word : ByteArray} {same : Int × Int → Int × Int → Bool} {l : List (Int × Int)} : pairsTo orders word same l l.length = [] ↔ l.length ≤ 16 ∧ (∀ p ∈ l, badB orders p = false) ∧ NoTwice same l := by
  rw [pairsTo_nil, noTwice_iff]
  constructor
  · rintro ⟨h1, h2⟩
    refine ⟨h1, fun p hp => ?_, fun j p hp => (h2 j p (List.getElem?_eq_some_iff.1 hp).1 hp).2⟩
    obtain ⟨i, hi⟩ := List.mem_iff_getElem?.1 hp
    exact (h2 i p (List.getElem?_eq_some_iff.1 hi).1 hi).1
  · rintro ⟨h1, h2, h3⟩
    exact ⟨h1, fun j p _ hp => ⟨h2 p (List.mem_of_getElem? hp), h3 j p hp⟩⟩
/-- A test that indices keep. -/
def Keeps (same : Int × Int → Int × Int → Bool) : Prop := ∀ (L : List Nat) (p q : Int × Int), L.Pairwise (· < ·) → 0 ≤ idxI (ints L) p.1 → 0 ≤ idxI (ints L) p.2 → 0 ≤ idxI (ints L) q.1 → 0 ≤ idxI (ints L) q.2 → same p q = false → same (idxI (ints L) p.1, idxI (ints L) p.2) (idxI (ints L) q.1, idxI (ints L) q.2) = false
theorem idx_inj {L : List Int} {a b : Int} (ha : 0 ≤ idxI L a) (h : idxI L a = idxI L b) : a = b := by
  rcases idxI_pos L a with h1 | ⟨i, h1, h2⟩
  · omega
  · rcases idxI_pos L b with h3 | ⟨j, h3, h4⟩
    · omega
    · have : i = j := by omega
      subst this
      rw [h1] at h3
      exact Option.some.inj h3
theorem twoEq_keeps : Keeps twoEq := fun L p q _ h1 h2 h3 h4 h => by
  unfold twoEq at h ⊢
  simp only [Bool.and_eq_false_iff, beq_eq_false_iff_ne] at h ⊢
  rcases h with h | h
  · exact .inl fun e => h (idx_inj h1 e)
  · exact .inr fun e => h (idx_inj h2 e)
theorem looseB_keeps : Keeps looseB := fun L p q hs h1 h2 h3 h4 h => by
  unfold looseB at h ⊢
  rw [Bool.or_eq_false_iff] at h ⊢
  refine ⟨twoEq_keeps L p q hs h1 h2 h3 h4 h.1, ?_⟩
  have h := h.2
  simp only [Bool.and_eq_false_iff, beq_eq_false_iff_ne] at h ⊢
  rcases h with h | h
  · exact .inl fun e => h (idx_inj h1 e)
  · exact .inr fun e => h (idx_inj h2 e)
theorem renP_mem {old : List Int} {p x : Int × Int} (h : x ∈ renP old p) : 0 ≤ idxI old p.1 ∧ 0 ≤ idxI old p.2 ∧ x = (idxI old p.1, idxI old p.2) := by
  unfold renP at h
  split at h
  · rename_i h1
    exact ⟨h1.1, h1.2, by simpa using h⟩
  · cases h
theorem pairs_part {n : Nat} {word : ByteArray} {same : Int × Int → Int × Int → Bool} {l : List (Int × Int)} {L : List Nat} (hk : Keeps same) (hL : L.Pairwise (· < ·)) (h : pairsTo n word same l l.length = []) : pairsTo L.length word same (renL (ints L) l) (renL (ints L) l).length = [] := by
  rw [pairs_nil] at h ⊢
  obtain ⟨h1, h2, h3⟩ := h
  refine ⟨Nat.le_trans (renL_len _ _) h1, fun x hx => ?_, ?_⟩
  · unfold renL at hx
    obtain ⟨p, hp, hx⟩ := List.mem_flatMap.1 hx
    obtain ⟨e1, e2, rfl⟩ := renP_mem hx
    have e3 := @idxI_lt (ints L) p.1
    have e4 := @idxI_lt (ints L) p.2
    rw [List.length_map] at e3 e4
    exact bad_of ⟨e1, e3⟩ ⟨e2, e4⟩ (fun e => (bad_no (h2 p hp)).2.2 (idx_inj e1 e))
  · unfold NoTwice renL at *
    rw [List.pairwise_flatMap]
    refine ⟨fun p _ => ?_, h3.imp fun {q p} hqp x hx y hy => ?_⟩
    · unfold renP
      split <;> simp
    · obtain ⟨e1, e2, rfl⟩ := renP_mem hx
      obtain ⟨e3, e4, rfl⟩ := renP_mem hy
      exact hk L p q hL e3 e4 e1 e2 hqp
theorem pushIf_nil {xs : List Int} {r : Bool} {u : Int} : pushIf xs r u = [] ↔ xs = [] ∧ r = true := by
  unfold pushIf
  cases r <;> simp
theorem ofltsTo_nil {P dims types : Int} {l : List Ord} : ∀ k, ofltsTo P dims types l k = [] ↔ l.length ≤ 10 ∧ ∀ (j : Nat) o, j < k → l[j]? = some o → errsO P dims types l j o = []
  | 0 => by
    unfold ofltsTo
    split
    · rename_i h
      exact ⟨fun _ => ⟨h, fun j p hj => absurd hj (by omega)⟩, fun _ => rfl⟩
    · rename_i h
      exact ⟨fun e => (by cases e), fun e => absurd e.1 h⟩
  | k + 1 => by
    rw [ofltsTo, List.append_eq_nil_iff, ofltsTo_nil k]
    constructor
    · rintro ⟨⟨h1, h2⟩, h3⟩
      refine ⟨h1, fun j p hj hp => ?_⟩
      rcases Nat.lt_or_ge j k with h | h
      · exact h2 j p h hp
      · obtain rfl : j = k := by omega
        unfold ofltsAt at h3
        rw [hp] at h3
        unfold mkF at h3
        exact List.map_eq_nil_iff.1 h3
    · rintro ⟨h1, h2⟩
      refine ⟨⟨h1, fun j p hj hp => h2 j p (by omega) hp⟩, ?_⟩
      unfold ofltsAt
      split
      · rename_i p hp
        rw [h2 k p (by omega) hp]
        rfl
      · rfl
theorem errsO_part {P dims types : Int} {l l' : List Ord} {i j : Nat} {o : Ord} (h : errsO P dims types l i o = []) (hs : ∀ x ∈ l'.take j, x ∈ l.take i) : errsO P dims types l' j o = [] := by
  unfold errsO at h ⊢
  simp only [pushIf_nil] at h ⊢
  have h2 : ((l.take i).any (fun x => sameS x.name o.name)) = false := by simpa using h.1.1.1.1.1.1.2
  have e : ((l'.take j).any (fun x => sameS x.name o.name)) = false := by
    rw [List.any_eq_false] at h2 ⊢
    exact fun x hx => h2 x (hs x hx)
  rw [h2] at h
  rw [e]
  exact h
theorem orders_part {P dims types : Int} {l : List Ord} {L : List Nat} (hs : L.Pairwise (· < ·)) (hL : ∀ i ∈ L, i < l.length) (h : ofltsTo P dims types l l.length = []) : ofltsTo P dims types (pick l L) (pick l L).length = [] := by
  rw [ofltsTo_nil] at h ⊢
  obtain ⟨h1, h2⟩ := h
  have hle : L.length ≤ l.length := by
    have := sorted_filter l.length L hs hL
    rw [← this]
    refine Nat.le_trans (List.length_filter_le _ _) ?_
    simp
  refine ⟨by rw [pick_len hL]; omega, fun j o _ ho => ?_⟩
  rw [pick_get hL] at ho
  obtain ⟨i, hi, ho⟩ := Option.bind_eq_some_iff.1 ho
  refine errsO_part (h2 i o (List.getElem?_eq_some_iff.1 ho).1 ho) fun x hx => ?_
  obtain ⟨k, hk⟩ := List.mem_iff_getElem?.1 hx
  rw [List.getElem?_take] at hk
  split at hk
  · rename_i hkj
    rw [pick_get hL] at hk
    obtain ⟨i', hi', hx'⟩ := Option.bind_eq_some_iff.1 hk
    have := sorted_get hs hkj hi' hi
    exact List.mem_iff_getElem?.2 ⟨i', by rw [List.getElem?_take, if_pos this]; exact hx'⟩
  · cases hk
theorem selO_pick (s : Int) (l : List Ord) : ∀ k, k ≤ l.length → selO s l k = pick l (memN s k)
  | 0, _ => rfl
  | k + 1, h => by
    have hk := List.getElem?_eq_getElem (show k < l.length by omega)
    rw [memN_succ]
    unfold pick
    rw [List.filterMap_append]
    have ih := selO_pick s l k (by omega)
    unfold pick at ih
    rw [← ih]
    cases hb : hasN s k
    · rw [selO_no hk hb]
      simp
    · rw [selO_yes hk hb]
      simp [hk]
/-- The part of an instance that a list of indices gives. -/
def partI (x : Ins) (L : List Nat) : Ins := ⟨x.net, x.types, pick x.orders L, renL (ints L) x.apart, renL (ints L) x.before⟩
theorem onlyI_part (x : Ins) (s : Int) : onlyI x s = partI x (memN s x.orders.length) := by
  unfold onlyI partI
  rw [selO_pick s _ _ (Nat.le_refl _)]
  rfl
theorem part_part (x : Ins) {L K : List Nat} (hs : L.Pairwise (· < ·)) (hL : ∀ i ∈ L, i < x.orders.length) (hK : ∀ k ∈ K, k < L.length) : partI (partI x L) K = partI x (after L K) := by
  unfold partI
  simp only [Ins.mk.injEq, true_and]
  exact ⟨pick_after _ _ hL _ hK, ren_after hs hK _, ren_after hs hK _⟩
theorem undL_nil {word : ByteArray} {fs : List Flt} : undL word fs = [] ↔ fs = [] := by unfold undL; exact List.map_eq_nil_iff
theorem insF_nil {x : Ins} : insF x = [] ↔ insN x = [] ∧ insT x = [] ∧ insO x = [] ∧ insR x = [] := by
  have e : insF x = undL netS (insN x) ++ (undL typesS (insT x) ++ (undL ordersS (insO x) ++ (undL rulesS (insR x) ++ []))) := rfl
  rw [e]
  simp only [List.append_eq_nil_iff, undL_nil, and_true]
theorem part_ok {x : Ins} {L : List Nat} (hs : L.Pairwise (· < ·)) (hL : ∀ i ∈ L, i < x.orders.length) (h : insF x = []) : insF (partI x L) = [] := by
  rw [insF_nil] at h ⊢
  obtain ⟨h1, h2, h3, h4⟩ := h
  refine ⟨h1, h2, orders_part hs hL h3, ?_⟩
  unfold insR rulesF at h4 ⊢
  rw [List.append_eq_nil_iff] at h4 ⊢
  have e : (partI x L).orders.length = L.length := pick_len hL
  rw [e]
  exact ⟨pairs_part looseB_keeps hs h4.1, pairs_part twoEq_keeps hs h4.2⟩
theorem part_full {x : Ins} (h : insF x = []) : partI x (List.range x.orders.length) = x := by
  rw [insF_nil] at h
  obtain ⟨_, _, _, h4⟩ := h
  unfold insR rulesF at h4
  rw [List.append_eq_nil_iff, pairs_nil, pairs_nil] at h4
  unfold partI
  rw [pick_range, ren_range h4.1.2.1, ren_range h4.2.2.1]
end Go.Proofs.YtceceomaheobhaaDoor.par

/- A struct that lies anywhere in a row, loaded in one step. Portable. -/
namespace Go.Proofs.YtceceomaheobhaaDoor.big
open Go.RowKit
open Go.Proofs.YtceceomaheobhaaDoor.lib Go.Proofs.YtceceomaheobhaaDoor.app Go.Proofs.YtceceomaheobhaaDoor.rd
set_option linter.unusedVariables false

/-- The cells cs lie from an address on. -/
def CellsAt (w : World) (ad : Addr) (cs : List Value) : Prop := ∀ (j : Nat) (u : Value), cs[j]? = some u → w.cell? (ad.add j) = some u
theorem CellsAt.below {w w' : World} {B : Nat} {ad : Addr} {cs : List Value} (h : CellsAt w ad cs) (hb : Below B w w') (ha : ad.block < B) : CellsAt w' ad cs := fun j u hu => (hb.cell (by rw [block_of_add]; exact ha)).trans (h j u hu)
theorem CellsAt.heap {w w' : World} {ad : Addr} {cs : List Value} (h : CellsAt w ad cs) (hb : w'.heap[ad.block]? = w.heap[ad.block]?) : CellsAt w' ad cs := fun j u hu => by
  rw [← h j u hu]
  unfold World.cell?
  rw [block_of_add, hb]
theorem run_loadS {t : TypeId} {n : Nat} (T : StructOf t n) {w : World} {ad : Addr} {cs : List Value} (hc : CellsAt w ad cs) (hn : cs.length = n) : (Instr.loadAt t (.pointer (some ad))).run Tryd.prog w = .ok (.agg cs.toArray) w := by
  obtain ⟨fs, hu⟩ := T.un
  have hl := run_loadCells_list (P := Tryd.prog) w ad cs hc
  cases hq : Tryd.prog.info? t with
  | none => have := T.size; simp [hq] at this
  | some i =>
    have hs : i.size = cs.length := by
      have := T.size
      rw [hq] at this
      simp at this
      omega
    have hagg : (isAgg t).run Tryd.prog w = .ok true w := by
      unfold isAgg
      rw [Sem.run_bind, run_underlying hu w]
      simp
    simp [Instr.loadAt, Instr.sureAddr, loadVar, Sem.run_bind, hagg, sizeOf, typeInfo, hq, hs, hl]
theorem exec_loadS {t : TypeId} {n : Nat} (T : StructOf t n) {ρ : Operand → Value} {o : Oper} {p : Operand} {ad : Addr} {w : World} {cs : List Value} (ho : o.op = .load t p) (hρ : ρ p = .pointer (some ad)) (hc : CellsAt w ad cs) (hn : cs.length = n) :
    Sem.run Tryd.prog (execOp ρ o) w = .ok (.value (.agg cs.toArray)) w := by
  unfold execOp
  simp only [ho, hρ, Sem.run_bind, run_loadS T hc hn, Result.andThen_ok, Sem.run_pure]
theorem wpList_loadS {t : TypeId} {n : Nat} (T : StructOf t n) {ops : Array Oper} {rest : List Oper} {o : Oper} {a : Act} {Q : Exit → Act → World → Prop} {w : World} (hgd : o.guard = none) (p : Operand) (ho : o.op = Op.load t p)
    (ad : Addr) (cs : List Value) (hp : a.eval p = .pointer (some ad)) (hc : CellsAt w ad cs) (hn : cs.length = n) (h : wpList Tryd.prog ops Q rest (a.put o.dst (.agg cs.toArray)) w) : wpList Tryd.prog ops Q (o :: rest) a w := by
  refine wpList_plain hgd fun _ hK => ?_
  have hr := run_loadS T hc hn
  unfold Oper.wp execOp
  simp only [ho, hp, Sem.run_bind, hr, Result.andThen_ok, Sem.run_pure]
  exact hK _ _ h
/-- The same, guarded or not. -/
theorem wpList_loadG {t : TypeId} {n : Nat} (T : StructOf t n) {ops : Array Oper} {rest : List Oper} {o : Oper} {a : Act} {Q : Exit → Act → World → Prop} {w : World} (p : Operand) (ho : o.op = Op.load t p)
    (ad : Addr) (cs : List Value) (hw : Region.wanted o (yielded ops a.tmps) = true) (hp : a.eval p = .pointer (some ad)) (hc : CellsAt w ad cs) (hn : cs.length = n) (h : wpList Tryd.prog ops Q rest (a.put o.dst (.agg cs.toArray)) w) : wpList Tryd.prog ops Q (o :: rest) a w := by
  refine wpList_step fun _ hK => ?_
  rw [if_pos hw]
  have hr := run_loadS T hc hn
  unfold Oper.wp execOp
  simp only [ho, hp, Sem.run_bind, hr, Result.andThen_ok, Sem.run_pure]
  exact hK _ _ h
end Go.Proofs.YtceceomaheobhaaDoor.big
namespace Go.Proofs.YtceceomaheobhaaDoor.rd
open Go.RowKit
open Go.Proofs.YtceceomaheobhaaDoor.lib Go.Proofs.YtceceomaheobhaaDoor.big
/-- An element of a row. -/
theorem RowAt.elem {X : Type} {r : Rd X} {w : World} {B : Nat} {A : Option Addr} {l : List X} (h : RowAt r w B A l) {i : Nat} {x : X} (hi : l[i]? = some x) : ∃ ad cs, A = some ad ∧ ad.block < B ∧ r.at_ w B cs x ∧ CellsAt w (ad.add (i * r.size)) cs := by
  obtain ⟨ad, cs, h1, h2, h3, h4⟩ := h.2 i x hi
  exact ⟨ad, cs, h1, h2, h3, fun j u hu => by rw [add_of_add]; exact h4 j u hu⟩
end Go.Proofs.YtceceomaheobhaaDoor.rd

/- The same instances: symmetry; an instance's block. -/
namespace Go.Proofs.YtceceomaheobhaaDoor.ins
open Go.RowKit
open Go.Proofs.YtceceomaheobhaaDoor.lib Go.Proofs.YtceceomaheobhaaDoor.rd Go.Proofs.YtceceomaheobhaaDoor.typ Go.Proofs.YtceceomaheobhaaDoor.eqg Go.Proofs.YtceceomaheobhaaDoor.note Go.Proofs.YtceceomaheobhaaDoor.big Go.Proofs.YtceceomaheobhaaDoor.eqs
set_option linter.unusedVariables false
set_option linter.unusedSimpArgs false

theorem sameS_comm (a b : ByteArray) : sameS a b = sameS b a := by unfold sameS; rw [Bool.eq_iff_iff, beq_iff_eq, beq_iff_eq]; exact eq_comm
theorem sameS_self (a : ByteArray) : sameS a a = true := by simp [sameS]
theorem sameB_comm (a b : List Int) : sameB a b = sameB b a := by unfold sameB; rw [Bool.eq_iff_iff, decide_eq_true_eq, decide_eq_true_eq]; exact eq_comm
theorem stpEq_comm (a b : Stp) : ord.stpEq a b = ord.stpEq b a := by unfold ord.stpEq; rw [int_comm a.place, int_comm a.opn, int_comm a.close, int_comm a.service]
theorem sameO_comm (a b : Ord) : ord.sameO a b = ord.sameO b a := by
  unfold ord.sameO
  have h2 : ord.numsO a b = ord.numsO b a := by
    unfold ord.numsO
    rw [Bool.eq_iff_iff]
    simp only [decide_eq_true_eq]
    constructor <;> (rintro ⟨h1, h2, h3, h4, h5⟩; exact ⟨h1.symm, h2.symm, h3.symm, h4.symm, h5.symm⟩)
  have h3 : (a.off == b.off) = (b.off == a.off) := by cases a.off <;> cases b.off <;> rfl
  rw [sameS_comm a.name, sameB_comm a.load, stpEq_comm a.pick, stpEq_comm a.drop, h2, h3]
theorem sameO_self (a : Ord) : ord.sameO a a = true := by simp [ord.sameO, sameB, sameS, ord.numsO, ord.stpEq]
theorem sameT_comm (a b : Ty) : flt.sameT a b = flt.sameT b a := by
  unfold flt.sameT
  have h2 : flt.numsB a b = flt.numsB b a := by
    unfold flt.numsB
    rw [Bool.eq_iff_iff]
    simp only [decide_eq_true_eq]
    constructor <;> (rintro ⟨h1, h2, h3, h4, h5, h6, h7, h8, h9, h10, h11, h12⟩; exact ⟨h1.symm, h2.symm, h3.symm, h4.symm, h5.symm, h6.symm, h7.symm, h8.symm, h9.symm, h10.symm, h11.symm, h12.symm⟩)
  rw [show flt.sameB a.cap b.cap = flt.sameB b.cap a.cap from sameB_comm _ _, show flt.sameS a.name b.name = flt.sameS b.name a.name from sameS_comm _ _, h2]
theorem sameT_self (a : Ty) : flt.sameT a a = true := by simp [flt.sameT, flt.sameB, flt.sameS, flt.numsB]
theorem sameI_comm (a b : Ins) : sameI a b = sameI b a := by
  unfold sameI
  rw [eqL_comm sameS_comm a.net.places, eqL_comm sameA_comm a.net.arcs, eqL_comm sameT_comm a.types, eqL_comm sameO_comm a.orders, eqL_comm twoEq_comm a.apart, eqL_comm twoEq_comm a.before]
theorem sameI_self (a : Ins) : sameI a a = true := by
  unfold sameI
  rw [eqL_self sameS_self, eqL_self sameA_self, eqL_self sameT_self, eqL_self sameO_self, eqL_self twoEq_self, eqL_self twoEq_self]
  rfl
theorem stIns : StructOf 30 6 := ⟨⟨_, Tryd.underlying30⟩, by kernel_rfl⟩
theorem SixAt.cells {w : World} {k : Nat} {cs : List Value} (h : SixAt w k cs) : CellsAt w ⟨k, 0, none⟩ cs := fun j u hu => h.cell hu
end Go.Proofs.YtceceomaheobhaaDoor.ins

/- The law InstanceParts, walked. -/
namespace Go.Proofs.YtceceomaheobhaaDoor.ins
open Go.RowKit
open Go.Proofs.YtceceomaheobhaaDoor.lib Go.Proofs.YtceceomaheobhaaDoor.rd Go.Proofs.YtceceomaheobhaaDoor.typ Go.Proofs.YtceceomaheobhaaDoor.eqg Go.Proofs.YtceceomaheobhaaDoor.note Go.Proofs.YtceceomaheobhaaDoor.big Go.Proofs.YtceceomaheobhaaDoor.eqs Go.Proofs.YtceceomaheobhaaDoor.par Go.Proofs.YtceceomaheobhaaDoor.sets Go.Proofs.YtceceomaheobhaaDoor.ren Go.Proofs.YtceceomaheobhaaDoor.flts Go.Proofs.YtceceomaheobhaaDoor.app
set_option linter.unusedVariables false
set_option linter.unusedSimpArgs false

theorem small_lim {x : Ins} (h : SmallI x) : Lim x where
  places := by have := h.places; omega
  arcs := by have := h.arcs; omega
  points := fun a ha => by have := h.arc a ha; omega
  few := fun j a hj _ => by have := h.arcs; have := (List.getElem?_eq_some_iff.1 hj).1; omega
  net := by
    have := net.netTo_len x.net (fun a ha => by have := h.arc a ha; omega) x.net.arcs.length
    have := h.places
    have := h.arcs
    unfold insN
    omega
  types := by have := h.types; omega
  orders := by have := h.orders; omega
  apart := h.apart
  before := h.before
theorem part_small {x : Ins} {L : List Nat} (h : SmallI x) (hs : L.Pairwise (· < ·)) (hL : ∀ i ∈ L, i < x.orders.length) : Lim (partI x L) := by
  have hl := small_lim h
  have hle : L.length ≤ x.orders.length := by
    have h1 := sorted_filter x.orders.length L hs hL
    rw [← h1]
    refine Nat.le_trans (List.length_filter_le _ _) ?_
    simp
  have e : (partI x L).orders.length = L.length := pick_len hL
  exact ⟨hl.places, hl.arcs, hl.points, hl.few, hl.net, hl.types, by rw [e]; have := hl.orders; omega, Nat.le_trans (renL_len _ _) h.apart, Nat.le_trans (renL_len _ _) h.before⟩
theorem setBad_no {s : Int} {n : Nat} (h : setBad s n = false) : 0 ≤ s := by
  unfold setBad at h
  simp at h
  omega
theorem setBad_of {s n : Nat} (h : s < 2 ^ n) : setBad (s : Int) n = false := by
  unfold setBad
  have e : ((s : Int) / 2 ^ n) = 0 := by
    have : ((2 : Int) ^ n) = ((2 ^ n : Nat) : Int) := by simp
    rw [this, ← Int.natCast_ediv, Nat.div_eq_of_lt h]
    rfl
  rw [e]
  simp
theorem two_le {n : Nat} (h : n ≤ 12) : 2 ^ n ≤ 4096 := Nat.pow_le_pow_right (n := 2) (by decide) h
theorem intsAt {w w' : World} {B : Nat} {A : Option Addr} {L : List Nat} (h : Ints w w.heap.size A (ints L)) (hb : Below w.heap.size w w') {j i : Nat} (hi : L[j]? = some i) : ∃ ad, A = some ad ∧ ad.block < w'.heap.size ∧ w'.cell? (ad.add j) = some (.int .i64 i) := by
  have h' := h.below hb
  have hz := hb.size
  have hj := (List.getElem?_eq_some_iff.1 hi).1
  obtain ⟨ad, x, hA, hadb, hx, hc⟩ := h'.at_ (k := j) (by rw [List.length_map]; exact hj)
  rw [List.getElem?_map, hi] at hx
  simp at hx
  subst hx
  exact ⟨ad, hA, by omega, hc⟩
theorem take_sum {M : List Nat} {j m : Nat} (h : M[j]? = some m) : sumP (M.take (j + 1)) = sumP (M.take j) + 2 ^ m := by
  obtain ⟨h1, h2⟩ := List.getElem?_eq_some_iff.1 h
  rw [List.take_succ_eq_append_getElem h1, h2, sumP_append]
  simp [sumP]
theorem full_val {n : Nat} (h : n ≤ 12) : wrap64 (wrap64 (2 ^ n) - 1) = ((2 ^ n - 1 : Nat) : Int) := by
  have e : ((2 : Int) ^ n) = ((2 ^ n : Nat) : Int) := by simp
  have := two_le h
  have := Nat.two_pow_pos n
  rw [e]
  generalize 2 ^ n = z at *
  unfold wrap64
  omega
theorem shl_val {m s : Nat} (h : m ≤ 12) (hs : s ≤ 10000) : wrap64 ((s : Int) + wrap64 (2 ^ m)) = ((s + 2 ^ m : Nat) : Int) := by
  have e : ((2 : Int) ^ m) = ((2 ^ m : Nat) : Int) := by simp
  have := two_le h
  have := Nat.two_pow_pos m
  rw [e]
  generalize 2 ^ m = z at *
  unfold wrap64
  omega
theorem onlyP_any (x : Ins) (P : InP) (s : Int) (L : List Nat) (w : World) (h : InAt w w.heap.size x P) (hl : x.orders.length ≤ 61) (ha : x.apart.length ≤ 1000000) (hb : x.before.length ≤ 1000000) (hs : setBad s x.orders.length = false) (hmax : s ≤ 9223372036854775807) (hL : memN s x.orders.length = L) :
    Calls Tryd.prog 15 #[InV x P, .int .i64 s] w fun e w' => ∃ P' A c, e = .returned (.tuple #[InV (partI x L) P', .slice A L.length c, .int .i64 0]) ∧ InAt w' w'.heap.size (partI x L) P' ∧ Ints w' w'.heap.size A (ints L) ∧ Below w.heap.size w w' := by
  refine (onlyGood_any x P s w h hl ha hb hs hmax).mono ?_
  rintro e w' ⟨P', A, c, rfl, h1, h2, h3⟩
  rw [onlyI_part, hL] at h1
  rw [memTo_memN, hL] at h2
  refine ⟨P', A, c, ?_, h1, Ints.of_own h2 ?_, h3⟩
  · rw [onlyI_part, memTo_memN, hL, List.length_map]
  · rw [List.length_map]
    have := memN_len s x.orders.length
    rw [hL] at this
    omega
set_option maxRecDepth 100000 in
set_option maxHeartbeats 16000000 in
theorem lawParts_any (x : Ins) (Q : InP) (set sub : Int) (w : World) (h : InAt w w.heap.size x Q) (hset : set ≤ 9223372036854775807) (hsub : sub ≤ 9223372036854775807) : Calls Tryd.prog 5 #[InV x Q, .int .i64 set, .int .i64 sub] w fun e w' => e = .returned (.bool true) ∧ Below w.heap.size w w' := by
  obtain ⟨W0, hW0⟩ : ∃ W0, w.alloc (.cells (insCs x Q).toArray 30) = W0 := ⟨_, rfl⟩
  have hB0 : Below w.heap.size w W0 := by rw [← hW0]; exact (Below.refl _ _).alloc (Nat.le_refl _) _
  have z0 := hB0.size
  have hs0 : w.heap.size < W0.heap.size := by rw [← hW0]; simp
  have hb0 : SixAt W0 w.heap.size (insCs x Q) := by rw [← hW0]; exact World.alloc_heap_new w _
  have HX : Hid (∀ w', Below W0.heap.size W0 w' → SixAt w' w.heap.size (insCs x Q)) := Lib.hid fun w' h => hb0.below h
  have HI : Hid (∀ w', Below W0.heap.size W0 w' → InAt w' w'.heap.size x Q) := Lib.hid fun w' h' => (h.go hB0).go h'
  have hW1 : w.alloc (.cells #[.slice Q.a0 x.net.places.length Q.c0, .slice Q.a1 x.net.arcs.length Q.c1, .slice Q.a2 x.types.length Q.c2, .slice Q.a3 x.orders.length Q.c3, .slice Q.a4 x.apart.length Q.c4, .slice Q.a5 x.before.length Q.c5] 30) = W0 := hW0
  have HW1 := Lib.hid hW1
  have B0 : Below W0.heap.size W0 W0 := Below.refl _ _
  clear hW0 hW1 h hb0
  simp only [InV]
  go_enter Tryd.func5, Tryd.ntmps5
  go_upto_region 1 with fail
  rw [HW1.out]
  go_cut [27] (fun v wx => ∃ q : Bool, v = .bool q ∧ (q = false → SmallI x ∧ insF x = []) ∧ Below W0.heap.size W0 wx)
  case first => as_aux_lemma =>
    go_wp2_with ((with_reducible refine wpList_loadG stIns _ rfl ⟨w.heap.size, 0, none⟩ (insCs (x) Q) ?_ ?_ ?_ ?_ ?_); exact rfl; exact rfl; exact (HX.out _ B0).cells; exact rfl)
    refine (small_any x Q _ (HI.out _ B0)).mono ?_
    rintro e w1 ⟨b, rfl, hsm, b1⟩
    have HSM := Lib.hid hsm
    have z1 := b1.size
    clear hsm
    cases b
    case false =>
      go_wp2_with fail
      go_meet
      exact ⟨true, rfl, by simp, b1⟩
    case true =>
      have hsm2 := HSM.out rfl
      have HSM2 := Lib.hid hsm2
      clear hsm2 HSM
      go_wp2_with ((with_reducible refine wpList_loadG stIns _ rfl ⟨w.heap.size, 0, none⟩ (insCs (x) Q) ?_ ?_ ?_ ?_ ?_); exact rfl; exact rfl; exact (HX.out _ b1).cells; exact rfl)
      refine (icheck_any x Q _ (HI.out _ b1) (small_lim HSM2.out)).mono ?_
      rintro e w2 ⟨Af, cf, rfl, -, b2⟩
      rcases Nat.eq_zero_or_pos (insF x).length with hz | hz
      · have HF := Lib.hid (List.eq_nil_of_length_eq_zero hz)
        rw [hz]
        clear hz
        go_wp2_with fail
        go_meet
        exact ⟨false, rfl, fun _ => ⟨HSM2.out, HF.out⟩, b1.trans (b2.mono z1)⟩
      · have hz1 : (0 : Int) < ((insF x).length : Int) := by omega
        have HZ := Lib.hid hz
        clear hz
        go_wp2_with fail
        go_meet
        exact ⟨_, rfl, fun h => absurd (decide_eq_true HZ.out) (by rw [h]; decide), b1.trans (b2.mono z1)⟩
  obtain ⟨q, h27, hq, B1⟩ := hcut
  subst h27
  have HQ := Lib.hid hq
  have z1 := B1.size
  clear hq
  cases q
  case true =>
    go_wp2_with fail
    refine (awake_any _).mono ?_
    rintro e wz ⟨rfl, bz⟩
    have BZ : Below W0.heap.size W0 wz := Below.trans B1 (bz.mono (Below.size B1))
    go_wp2_with fail
    go_ret
    exact ⟨rfl, hB0.trans (BZ.mono z0)⟩
  case false =>
    obtain ⟨hsm, hF⟩ := HQ.out rfl
    have hn := hsm.orders
    have HSM := Lib.hid hsm
    have HF := Lib.hid hF
    have hap := hsm.apart
    have hbe := hsm.before
    have x3 : wc.cell? ⟨w.heap.size, 3, none⟩ = some (.slice Q.a3 x.orders.length Q.c3) := (HX.out _ B1).cell (j := 3) rfl
    have HFULL : Hid (partI x (List.range x.orders.length) = x) := Lib.hid (part_full hF)
    clear hsm hF
    have HV := Lib.hid (full_val hn)
    have HO : Hid (Calls Tryd.prog 15 #[InV x Q, .int .i64 ((2 ^ x.orders.length - 1 : Nat) : Int)] wc fun e w' => ∃ P' A c, e = .returned (.tuple #[InV x P', .slice A x.orders.length c, .int .i64 0]) ∧ InAt w' w'.heap.size x P' ∧ Below wc.heap.size wc w') := Lib.hid (by
      have hp := Nat.two_pow_pos x.orders.length
      have hp2 := two_le hn
      refine (onlyP_any x Q _ (List.range x.orders.length) wc (HI.out _ B1) (by omega) (by omega) (by omega) (setBad_of (by omega)) (by omega) (memN_full _)).mono ?_
      rintro e w' ⟨P', A, c, rfl, h1, _, h3⟩
      rw [HFULL.out] at h1 ⊢
      exact ⟨P', A, c, by rw [List.length_range], h1, h3⟩)
    go_upto_region 3 with fail
    go_cut [7, 8, 9] (fun p v e wx => ∃ P7 A c k7, p = .pointer (some ⟨k7, 0, none⟩) ∧ v = .slice A x.orders.length c ∧ e = .int .i64 0 ∧ SixAt wx k7 (insCs x P7) ∧ InAt wx wx.heap.size x P7 ∧ Below W0.heap.size W0 wx)
    case first => as_aux_lemma =>
      go_wp2_with (first
        | ((with_reducible refine wpList_loadG stIns _ rfl ⟨w.heap.size, 0, none⟩ (insCs (x) Q) ?_ ?_ ?_ ?_ ?_); exact rfl; exact rfl; exact (HX.out _ B1).cells; exact rfl)
        | (go_at_call 15; (try rw [HV.out]); refine HO.out.mono ?_; rintro e w1 ⟨P7, A, c, rfl, hI2, hb⟩; have HI2 := Lib.hid hI2; clear hI2)
        | ((with_reducible refine wpList_storeL stIns rfl _ _ rfl w1.heap.size nilCs (insCs (x) P7) ?_ ?_ ?_ ?_ ?_ (insCs_one _ _) ?_); exact rfl; exact rfl; exact World.alloc_heap_new w1 _; exact rfl; exact rfl; intro w2 k1 k2 k3 k4; have K := Lib.hid (And.intro k1 (And.intro k2 (And.intro k3 k4))); clear k1 k2 k3 k4))
      go_meet
      obtain ⟨k1, k2, k3, k4⟩ := K.out
      have hb2 : Below w1.heap.size w1 w2 := ((Below.refl _ _).alloc (Nat.le_refl _) _).trans k4
      have hb3 : Below wc.heap.size wc w2 := hb.trans (hb2.mono hb.size)
      exact ⟨P7, A, c, w1.heap.size, rfl, rfl, rfl, k1, HI2.out.go hb2, B1.trans (hb3.mono z1)⟩
    clear HO x3 z1 B1
    obtain ⟨P7, A7, c7, k7, h7, h8, h9, hx7, hi7, B1⟩ := hcut
    subst h7
    subst h8
    subst h9
    have z1 := B1.size
    have HX7 := Lib.hid hx7
    have HI7 := Lib.hid hi7
    clear hx7 hi7
    go_upto_region 4 with fail
    go_cut [56] (fun v wx => v = .bool false ∧ Below W0.heap.size W0 wx)
    case first => as_aux_lemma =>
      have x3 : wc.cell? ⟨w.heap.size, 3, none⟩ = some (.slice Q.a3 x.orders.length Q.c3) := (HX.out _ B1).cell (j := 3) rfl
      go_wp2_with (first
        | ((with_reducible refine wpList_loadG stIns _ rfl ⟨k7, 0, none⟩ (insCs (x) P7) ?_ ?_ ?_ ?_ ?_); exact rfl; exact rfl; exact HX7.out.cells; exact rfl)
        | ((with_reducible refine wpList_loadG stIns _ rfl ⟨w.heap.size, 0, none⟩ (insCs (x) Q) ?_ ?_ ?_ ?_ ?_); exact rfl; exact rfl; exact (HX.out _ B1).cells; exact rfl)
        | (go_at_call 12; refine (same_any x x P7 Q _ HI7.out (HI.out _ B1)).mono ?_; rw [sameI_self]; rintro e w1 ⟨rfl, hb⟩))
      go_meet
      exact ⟨rfl, B1.trans (hb.mono z1)⟩
    obtain ⟨h56, B2⟩ := hcut
    subst h56
    have z2 := B2.size
    clear HX7 HI7 B1 z1
    go_upto_region 6 with fail
    obtain ⟨L, hL⟩ : ∃ L, memN set x.orders.length = L := ⟨_, rfl⟩
    have hLs : L.Pairwise (· < ·) := by rw [← hL]; exact memN_sorted _ _
    have hLlt : ∀ i ∈ L, i < x.orders.length := fun i hi => by rw [← hL] at hi; exact memN_lt hi
    have hLlen : L.length ≤ 12 := by have := memN_len set x.orders.length; rw [hL] at this; omega
    have HL := Lib.hid (And.intro hL (And.intro hLs hLlt))
    clear hL hLs hLlt
    cases hbad : setBad set x.orders.length
    case true =>
      have HO := Lib.hid (onlyBad_any x Q set wc (by omega) hbad)
      clear hbad
      go_wp2_with (first
        | ((with_reducible refine wpList_loadG stIns _ rfl ⟨w.heap.size, 0, none⟩ (insCs (x) Q) ?_ ?_ ?_ ?_ ?_); exact rfl; exact rfl; exact (HX.out _ B2).cells; exact rfl)
        | (go_at_call 15; refine HO.out.mono ?_; rintro e w1 ⟨rfl, hb⟩)
        | ((with_reducible refine wpList_storeL stIns rfl _ _ rfl w1.heap.size nilCs (insCs (nilI) nilP) ?_ ?_ ?_ ?_ ?_ (insCs_one _ _) ?_); exact rfl; exact rfl; exact World.alloc_heap_new w1 _; exact rfl; exact rfl; intro w2 k1 k2 k3 k4; have K := Lib.hid (And.intro k1 (And.intro k2 (And.intro k3 k4))); clear k1 k2 k3 k4)
        | (go_at_call 7; refine (awake_any _).mono ?_; rintro e w3 ⟨rfl, bz⟩))
      go_ret
      obtain ⟨k1, k2, k3, k4⟩ := K.out
      have hb2 : Below w1.heap.size w1 w2 := ((Below.refl _ _).alloc (Nat.le_refl _) _).trans k4
      have hb3 : Below wc.heap.size wc w3 := (hb.trans (hb2.mono hb.size)).trans (bz.mono (Nat.le_trans hb.size hb2.size))
      exact ⟨rfl, hB0.trans ((B2.trans (hb3.mono z2)).mono z0)⟩
    case false =>
      have HS0 := Lib.hid (setBad_no hbad)
      have HO := Lib.hid (onlyP_any x Q set L wc (HI.out _ B2) (by omega) (by omega) (by omega) hbad hset HL.out.1)
      clear hbad
      go_cut [10, 8, 9] (fun p v e wx => ∃ P7 A c k7, p = .pointer (some ⟨k7, 0, none⟩) ∧ v = .slice A L.length c ∧ e = .int .i64 0 ∧ SixAt wx k7 (insCs (partI x L) P7) ∧ InAt wx wx.heap.size (partI x L) P7 ∧ Ints wx wx.heap.size A (ints L) ∧ Below W0.heap.size W0 wx)
      case first => as_aux_lemma =>
        go_wp2_with (first
          | ((with_reducible refine wpList_loadG stIns _ rfl ⟨w.heap.size, 0, none⟩ (insCs (x) Q) ?_ ?_ ?_ ?_ ?_); exact rfl; exact rfl; exact (HX.out _ B2).cells; exact rfl)
          | (go_at_call 15; refine HO.out.mono ?_; rintro e w1 ⟨P7, A, c, rfl, hI2, hin, hb⟩; have HI2 := Lib.hid (And.intro hI2 hin); clear hI2 hin)
          | ((with_reducible refine wpList_storeL stIns rfl _ _ rfl w1.heap.size nilCs (insCs (partI x L) P7) ?_ ?_ ?_ ?_ ?_ (insCs_one _ _) ?_); exact rfl; exact rfl; exact World.alloc_heap_new w1 _; exact rfl; exact rfl; intro w2 k1 k2 k3 k4; have K := Lib.hid (And.intro k1 (And.intro k2 (And.intro k3 k4))); clear k1 k2 k3 k4))
        go_meet
        obtain ⟨k1, k2, k3, k4⟩ := K.out
        have hb2 : Below w1.heap.size w1 w2 := ((Below.refl _ _).alloc (Nat.le_refl _) _).trans k4
        have hb3 : Below wc.heap.size wc w2 := hb.trans (hb2.mono hb.size)
        exact ⟨P7, A, c, w1.heap.size, rfl, rfl, rfl, k1, HI2.out.1.go hb2, (HI2.out.2.below hb2).more hb2.size, B2.trans (hb3.mono z2)⟩
      clear HO B2 z2
      obtain ⟨Pa, Al, cl, ka, h7, h8, h9, hxa, hia, hil, B2⟩ := hcut
      subst h7
      subst h8
      subst h9
      have z2 := B2.size
      obtain ⟨W1, hW1⟩ : ∃ W1, wc = W1 := ⟨_, rfl⟩
      rw [hW1] at hxa hia hil B2 z2 ⊢
      clear hW1
      have HA : Hid (∀ w', Below W1.heap.size W1 w' → SixAt w' ka (insCs (partI x L) Pa) ∧ InAt w' w'.heap.size (partI x L) Pa ∧ Ints w' w'.heap.size Al (ints L)) := Lib.hid fun w' h => ⟨hxa.below h, hia.go h, (hil.below h).more h.size⟩
      have HOK := Lib.hid (part_ok HL.out.2.1 HL.out.2.2 HF.out)
      have HLIM := Lib.hid (part_small HSM.out HL.out.2.1 HL.out.2.2)
      have hal : (partI x L).orders.length = L.length := pick_len HL.out.2.2
      have HAL := Lib.hid hal
      have a3 : W1.cell? ⟨ka, 3, none⟩ = some (.slice Pa.a3 L.length Pa.c3) := by rw [← HAL.out]; exact hxa.cell (j := 3) rfl
      have hkl : ka < W1.heap.size := (Array.getElem?_eq_some_iff.1 hxa).1
      clear hxa hia hil hal
      have C0 : Below W1.heap.size W1 W1 := Below.refl _ _
      go_upto_region 9 with fail
      go_cut [78] (fun v wx => v = .bool false ∧ Below W1.heap.size W1 wx)
      case first => as_aux_lemma =>
        go_wp2_with ((with_reducible refine wpList_loadG stIns _ rfl ⟨ka, 0, none⟩ (insCs (partI x L) Pa) ?_ ?_ ?_ ?_ ?_); exact rfl; exact rfl; exact (HA.out _ C0).1.cells; exact rfl)
        refine (icheck_any (partI x L) Pa _ (HA.out _ C0).2.1 HLIM.out).mono ?_
        rw [HOK.out]
        rintro e w2 ⟨Af, cf, rfl, -, b2⟩
        have a3 : w2.cell? ⟨ka, 3, none⟩ = some (.slice Pa.a3 L.length Pa.c3) := (b2.cell (p := ⟨ka, 3, none⟩) hkl).trans a3
        go_wp2_with fail
        go_meet
        exact ⟨rfl, b2⟩
      obtain ⟨h78, C1⟩ := hcut
      subst h78
      have y1 := C1.size
      clear a3
      go_upto_region 11 with fail
      obtain ⟨M, hM⟩ : ∃ M, memN sub L.length = M := ⟨_, rfl⟩
      have hMs : M.Pairwise (· < ·) := by rw [← hM]; exact memN_sorted _ _
      have hMlt : ∀ i ∈ M, i < L.length := fun i hi => by rw [← hM] at hi; exact memN_lt hi
      have hMlen : M.length ≤ 12 := by have := memN_len sub L.length; rw [hM] at this; omega
      have HM := Lib.hid (And.intro hM (And.intro hMs hMlt))
      have hapA : (partI x L).apart.length ≤ 24 := HLIM.out.apart
      have hbeA : (partI x L).before.length ≤ 24 := HLIM.out.before
      clear hM hMs hMlt
      cases hbad : setBad sub L.length
      case true =>
        have HO := Lib.hid (onlyBad_any (partI x L) Pa sub wc (by rw [HAL.out]; omega) (by rw [HAL.out]; exact hbad))
        clear hbad
        go_wp2_with (first
          | ((with_reducible refine wpList_loadG stIns _ rfl ⟨ka, 0, none⟩ (insCs (partI x L) Pa) ?_ ?_ ?_ ?_ ?_); exact rfl; exact rfl; exact (HA.out _ C1).1.cells; exact rfl)
          | (go_at_call 15; refine HO.out.mono ?_; rintro e w1 ⟨rfl, hb⟩)
          | ((with_reducible refine wpList_storeL stIns rfl _ _ rfl w1.heap.size nilCs (insCs (nilI) nilP) ?_ ?_ ?_ ?_ ?_ (insCs_one _ _) ?_); exact rfl; exact rfl; exact World.alloc_heap_new w1 _; exact rfl; exact rfl; intro w2 k1 k2 k3 k4; have K := Lib.hid (And.intro k1 (And.intro k2 (And.intro k3 k4))); clear k1 k2 k3 k4)
          | (go_at_call 7; refine (awake_any _).mono ?_; rintro e w3 ⟨rfl, bz⟩))
        go_ret
        obtain ⟨k1, k2, k3, k4⟩ := K.out
        have hb2 : Below w1.heap.size w1 w2 := ((Below.refl _ _).alloc (Nat.le_refl _) _).trans k4
        have hb3 : Below wc.heap.size wc w3 := (hb.trans (hb2.mono hb.size)).trans (bz.mono (Nat.le_trans hb.size hb2.size))
        exact ⟨rfl, hB0.trans ((B2.trans ((C1.trans (hb3.mono y1)).mono z2)).mono z0)⟩
      case false =>
        have HO := Lib.hid (onlyP_any (partI x L) Pa sub M wc (HA.out _ C1).2.1 (by rw [HAL.out]; omega) (by omega) (by omega) (by rw [HAL.out]; exact hbad) hsub (by rw [HAL.out]; exact HM.out.1))
        clear hbad
        go_cut [11, 12, 13] (fun p v e wx => ∃ P7 A c k7, p = .pointer (some ⟨k7, 0, none⟩) ∧ v = .slice A M.length c ∧ e = .int .i64 0 ∧ SixAt wx k7 (insCs (partI (partI x L) M) P7) ∧ InAt wx wx.heap.size (partI (partI x L) M) P7 ∧ Ints wx wx.heap.size A (ints M) ∧ Below W1.heap.size W1 wx)
        case first => as_aux_lemma =>
          go_wp2_with (first
            | ((with_reducible refine wpList_loadG stIns _ rfl ⟨ka, 0, none⟩ (insCs (partI x L) Pa) ?_ ?_ ?_ ?_ ?_); exact rfl; exact rfl; exact (HA.out _ C1).1.cells; exact rfl)
            | (go_at_call 15; refine HO.out.mono ?_; rintro e w1 ⟨P7, A, c, rfl, hI2, hin, hb⟩; have HI2 := Lib.hid (And.intro hI2 hin); clear hI2 hin)
            | ((with_reducible refine wpList_storeL stIns rfl _ _ rfl w1.heap.size nilCs (insCs (partI (partI x L) M) P7) ?_ ?_ ?_ ?_ ?_ (insCs_one _ _) ?_); exact rfl; exact rfl; exact World.alloc_heap_new w1 _; exact rfl; exact rfl; intro w2 k1 k2 k3 k4; have K := Lib.hid (And.intro k1 (And.intro k2 (And.intro k3 k4))); clear k1 k2 k3 k4))
          go_meet
          obtain ⟨k1, k2, k3, k4⟩ := K.out
          have hb2 : Below w1.heap.size w1 w2 := ((Below.refl _ _).alloc (Nat.le_refl _) _).trans k4
          have hb3 : Below wc.heap.size wc w2 := hb.trans (hb2.mono hb.size)
          exact ⟨P7, A, c, w1.heap.size, rfl, rfl, rfl, k1, HI2.out.1.go hb2, (HI2.out.2.below hb2).more hb2.size, C1.trans (hb3.mono y1)⟩
        clear HO C1 y1
        obtain ⟨Pb, Ak, ck, kb, h7, h8, h9, hxb, hib, hik, C1⟩ := hcut
        subst h7
        subst h8
        subst h9
        have y1 := C1.size
        obtain ⟨W2, hW2⟩ : ∃ W2, wc = W2 := ⟨_, rfl⟩
        rw [hW2] at hxb hib hik C1 y1 ⊢
        clear hW2
        rw [part_part x HL.out.2.1 HL.out.2.2 HM.out.2.2] at hxb hib
        obtain ⟨N, hN⟩ : ∃ N, after L M = N := ⟨_, rfl⟩
        rw [hN] at hxb hib
        have HNs : Hid (N.Pairwise (· < ·) ∧ (∀ i ∈ N, i < x.orders.length) ∧ N.length = M.length) := Lib.hid (by
          rw [← hN]
          exact ⟨after_sorted HL.out.2.1 HM.out.2.1 HM.out.2.2, after_lt HL.out.2.2 HM.out.2.2, by unfold after; rw [List.length_map]⟩)
        have HNAT : Hid (∀ j m l : Nat, M[j]? = some m → L[m]? = some l → N[j]? = some l) := Lib.hid (fun j m l hj hm => by
          rw [← hN]
          unfold after
          rw [List.getElem?_map, hj]
          simp [hm])
        have HB : Hid (∀ w', Below W2.heap.size W2 w' → SixAt w' kb (insCs (partI x N) Pb) ∧ InAt w' w'.heap.size (partI x N) Pb) := Lib.hid fun w' h => ⟨hxb.below h, hib.go h⟩
        have HLI := Lib.hid (And.intro hik ((HA.out _ C1).2.2))
        have D0 : Below W2.heap.size W2 W2 := Below.refl _ _
        clear hxb hib hik hN
        go_upto_region 16 with fail
        go_loop [14, 15] (fun b i => ∃ j : Nat, j ≤ M.length ∧ i = .int .i64 j ∧ b = .int .i64 (sumP (N.take j))) (fun _ i => M.length - (intOf i).toNat)
        case atStart => exact ⟨0, by omega, rfl, rfl⟩
        case round =>
          obtain ⟨j, hj, rfl, rfl⟩ := hrel
          by_cases hlt : j < M.length
          · obtain ⟨m, hm⟩ : ∃ m, M[j]? = some m := ⟨_, List.getElem?_eq_getElem hlt⟩
            have hmL := HM.out.2.2 m (List.mem_of_getElem? hm)
            obtain ⟨l, hl⟩ : ∃ l, L[m]? = some l := ⟨_, List.getElem?_eq_getElem hmL⟩
            have hln := HL.out.2.2 l (List.mem_of_getElem? hl)
            obtain ⟨ad, rfl, hadb, hc1⟩ := intsAt (B := 0) HLI.out.1 D0 hm
            obtain ⟨ad', rfl, hadb', hc2⟩ := intsAt (B := 0) HLI.out.2 D0 hl
            have hNj := HNAT.out j m l hm hl
            have hj0 : (0 : Int) ≤ (j : Int) := by omega
            have hjn : (j : Int) < (M.length : Int) := by omega
            have hm0 : (0 : Int) ≤ (m : Int) := by omega
            have hmn : (m : Int) < (L.length : Int) := by omega
            have hm1 : ¬ (m : Int) < 0 := by omega
            have hm2 : ¬ (L.length : Int) ≤ (m : Int) := by omega
            have hl1 : ¬ (l : Int) < 0 := by omega
            have hl2 : ¬ (62 : Int) < (l : Int) := by omega
            have hsum : sumP (N.take j) ≤ 4096 := by
              have h1 := sumP_lt x.orders.length (N.take j) (HNs.out.1.sublist (List.take_sublist _ _)) (fun i hi => HNs.out.2.1 i (List.mem_of_mem_take hi))
              have h2 := two_le hn
              omega
            have HV := Lib.hid (shl_val (m := l) (s := sumP (N.take j)) (by omega) (by omega))
            have HTS := Lib.hid (take_sum hNj)
            clear hm hl hNj
            go_wp2
            go_round
            case rel => exact ⟨j + 1, by omega, by go_num, by rw [HV.out, HTS.out]⟩
            case measure => simp [intOf]; omega
          · have hjm : j = M.length := by omega
            subst hjm
            have hall : N.take M.length = N := List.take_of_length_le (by rw [HNs.out.2.2]; exact Nat.le_refl _)
            rw [hall]
            clear hall hlt
            have hsl := (sumP_lt x.orders.length N HNs.out.1 HNs.out.2.1).1
            have hp2 := two_le hn
            have C2 : Below W0.heap.size W0 W2 := B2.trans (C1.mono z2)
            have y2 := C2.size
            have HO := Lib.hid (onlyP_any x Q (sumP N) N W2 (HI.out _ C2) (by omega) (by omega) (by omega) (setBad_of hsl) (by omega) (memN_sum HNs.out.1 HNs.out.2.1))
            have hNM := HNs.out.2.2
            clear hsl
            go_upto_region 21 with fail
            go_cut [16, 17, 18] (fun p v e wx => ∃ P7 A c k7, p = .pointer (some ⟨k7, 0, none⟩) ∧ v = .slice A M.length c ∧ e = .int .i64 0 ∧ SixAt wx k7 (insCs (partI x N) P7) ∧ InAt wx wx.heap.size (partI x N) P7 ∧ Below W2.heap.size W2 wx)
            case first => as_aux_lemma =>
              go_wp2_with (first
                | ((with_reducible refine wpList_loadG stIns _ rfl ⟨w.heap.size, 0, none⟩ (insCs (x) Q) ?_ ?_ ?_ ?_ ?_); exact rfl; exact rfl; exact (HX.out _ C2).cells; exact rfl)
                | (go_at_call 15; refine HO.out.mono ?_; rintro e w1 ⟨P7, A, c, rfl, hI2, _, hb⟩; have HI2 := Lib.hid hI2; clear hI2; rw [hNM])
                | ((with_reducible refine wpList_storeL stIns rfl _ _ rfl w1.heap.size nilCs (insCs (partI x N) P7) ?_ ?_ ?_ ?_ ?_ (insCs_one _ _) ?_); exact rfl; exact rfl; exact World.alloc_heap_new w1 _; exact rfl; exact rfl; intro w2 k1 k2 k3 k4; have K := Lib.hid (And.intro k1 (And.intro k2 (And.intro k3 k4))); clear k1 k2 k3 k4))
              go_meet
              obtain ⟨k1, k2, k3, k4⟩ := K.out
              have hb2 : Below w1.heap.size w1 w2 := ((Below.refl _ _).alloc (Nat.le_refl _) _).trans k4
              have hb3 : Below W2.heap.size W2 w2 := hb.trans (hb2.mono hb.size)
              exact ⟨P7, A, c, w1.heap.size, rfl, rfl, rfl, k1, HI2.out.go hb2, hb3⟩
            clear HO
            obtain ⟨Pc, Am, cm, kc, h7, h8, h9, hxc, hic, D1⟩ := hcut
            subst h7
            subst h8
            subst h9
            have y3 := D1.size
            have HXC := Lib.hid (And.intro hxc hic)
            clear hxc hic
            go_wp2_with (first
              | ((with_reducible refine wpList_loadG stIns _ rfl ⟨kb, 0, none⟩ (insCs (partI x N) Pb) ?_ ?_ ?_ ?_ ?_); exact rfl; exact rfl; exact (HB.out _ D1).1.cells; exact rfl)
              | ((with_reducible refine wpList_loadG stIns _ rfl ⟨kc, 0, none⟩ (insCs (partI x N) Pc) ?_ ?_ ?_ ?_ ?_); exact rfl; exact rfl; exact HXC.out.1.cells; exact rfl)
              | (go_at_call 12; refine (same_any (partI x N) (partI x N) Pb Pc _ (HB.out _ D1).2 HXC.out.2).mono ?_; rw [sameI_self]; rintro e w3 ⟨rfl, b3⟩)
              | (go_at_call 7; refine (awake_any _).mono ?_; rintro e w4 ⟨rfl, b4⟩))
            go_ret
            have E3 : Below W2.heap.size W2 w3 := D1.trans (b3.mono y3)
            have E4 : Below W2.heap.size W2 w4 := E3.trans (b4.mono E3.size)
            exact ⟨rfl, hB0.trans ((C2.trans (E4.mono y2)).mono z0)⟩
end Go.Proofs.YtceceomaheobhaaDoor.ins

/- A call's arguments, read: slices with their capacity, structs by value. -/
namespace Go.Proofs.YtceceomaheobhaaDoor.rd
open Go.RowKit Go.ChangeShapes Go.WideShapes Go.ChangeAt Go.Deep
open Go.Proofs.YtceceomaheobhaaDoor.lib
set_option linter.unusedVariables false

set_option maxRecDepth 20000 in
theorem arg_slice {X : Type} {t e : TypeId} {r : Rd X} (ht : Tryd.prog.underlying t = some (.slice e)) (ho : Opens t (rSlice r)) {H : Type} {enc : TypeId × Value → H} {W : World} {base : Nat} {v : Value} {d : DataW H} {p : List MemPlace}
    (hv : Value.okWide Tryd.prog W .any base t v) (h : DataW.Trod enc Tryd.prog W 0 (fun _ => true) true t v d p) (hw : ∀ n ∈ d.weights Tryd.prog t, n ≤ reachBytes) :
    ∃ A c l, v = .slice A l.length c ∧ RowAt r W W.heap.size A l ∧ l.length ≤ c ∧ c ≤ maxLen := by
  obtain ⟨A, n, c, rfl⟩ := okWide_slice ht hv
  have hh := h
  obtain ⟨fuel, hf⟩ := hh
  obtain ⟨l, A', c', he, hr⟩ := ho H enc W fuel _ _ hf hw
  simp [Value.cells] at he
  obtain ⟨rfl, rfl, rfl⟩ := he
  refine ⟨A, c, l, rfl, hr, ?_⟩
  rcases open_slice ht hf with ⟨hcs, _⟩ | ⟨a, len, cap, m, k, D, Pl, hcs, _, hl, hm, _⟩
  · simp [Value.cells] at hcs
    obtain ⟨_, h2, h3⟩ := hcs
    rw [h2, h3]
    exact ⟨Nat.le_refl _, Nat.zero_le _⟩
  · simp [Value.cells] at hcs
    obtain ⟨_, h2, h3⟩ := hcs
    rw [h2, h3]
    exact ⟨hl, hm⟩
set_option maxRecDepth 20000 in
theorem arg_struct {X : Type} {t : TypeId} {fs : Array Field} {r : Rd X} (ht : Tryd.prog.underlying t = some (.struct fs)) (ho : Opens t r) {H : Type} {enc : TypeId × Value → H} {W : World} {base : Nat} {v : Value} {d : DataW H} {p : List MemPlace}
    (hv : Value.okWide Tryd.prog W .any base t v) (h : DataW.Trod enc Tryd.prog W 0 (fun _ => true) true t v d p) (hw : ∀ n ∈ d.weights Tryd.prog t, n ≤ reachBytes) :
    ∃ cs x, v = .agg (List.toArray cs) ∧ r.at_ W W.heap.size cs x := by
  obtain ⟨cs, rfl, _⟩ := okWide_struct ht hv
  obtain ⟨fuel, hf⟩ := h
  obtain ⟨x, hx⟩ := ho H enc W fuel _ _ hf hw
  exact ⟨cs.toList, x, by simp, by simpa [Value.cells] using hx⟩
end Go.Proofs.YtceceomaheobhaaDoor.rd

/- A world in which the library's tables lie as the row lists them, for the witness. -/
namespace Go.Proofs.YtceceomaheobhaaDoor.laid
open Go.ChangeShapes Go.WideShapes Go.ChangeAt Go.RowKit

theorem own : ownKnob Tryd.prog.godebug = none := by kernel_rfl
/-- A variable's block with other cells. -/
def lay (xs : Array Value) : Obj → Obj
  | .cells _ t frozen => .cells xs t frozen
  | o => o
/-- The settled world with the tables laid. -/
noncomputable def laidWorld (os : Os) : World :=
  { World.holding Tryd.prog os ⟨#[], #[], []⟩ with heap := (((World.holding Tryd.prog os ⟨#[], #[], []⟩).heap.modify 0 (lay #[.int .u64 1, .int .u64 10, .int .u64 100, .int .u64 1000, .int .u64 10000, .int .u64 100000, .int .u64 1000000, .int .u64 10000000, .int .u64 100000000, .int .u64 1000000000, .int .u64 10000000000, .int .u64 100000000000, .int .u64 1000000000000, .int .u64 10000000000000, .int .u64 100000000000000, .int .u64 1000000000000000, .int .u64 10000000000000000, .int .u64 100000000000000000, .int .u64 1000000000000000000, .int .u64 10000000000000000000])).modify 1 (lay (Lib.deBruijn32tab.map (fun n : Nat => Value.int .u8 n)).toArray)).modify 2 (lay (Lib.deBruijn64tab.map (fun n : Nat => Value.int .u8 n)).toArray) }
end Go.Proofs.YtceceomaheobhaaDoor.laid

/- The statement InstanceParts: the call returns true whatever the input, and the input reads as it did. No conditions. -/
namespace Go.Proofs.YtceceomaheobhaaDoor.instanceParts
open Go.ChangeShapes Go.WideShapes Go.ChangeAt Go.RowKit Go.Joins
open Go.ChangeMaps (open_string shut_string)
set_option linter.unusedVariables false

theorem own : ownKnob Tryd.prog.godebug = none := laid.own
theorem laidOut : laidOutB Tryd.prog = true := by kernel_rfl
theorem bd {a : Int} (h : (Lit.int .i64 a).wf = true) : -9223372036854775808 ≤ a ∧ a ≤ 9223372036854775807 := by simpa [Lit.wf, IntKind.min, IntKind.max, IntKind.signed, IntKind.bits] using h
theorem laid_met (os : Os) : laidMet Tryd.prog Rows.instancePartsRow.laid ((laid.laidWorld os).forCall (fun _ _ => 0) ⟨#[], #[Value.agg #[.slice none 0 0, .slice none 0 0, .slice none 0 0, .slice none 0 0, .slice none 0 0, .slice none 0 0], Value.int .i64 0, Value.int .i64 0], []⟩).memory :=
  laidMet_of_run' 8 (by kernel_rfl) (by kernel_rfl)
theorem reads (os : Os) {H : Type} (enc : TypeId × Value → H) : ∃ places, DataW.whole enc Tryd.prog ((laid.laidWorld os).forCall (fun _ _ => 0) ⟨#[], #[Value.agg #[.slice none 0 0, .slice none 0 0, .slice none 0 0, .slice none 0 0, .slice none 0 0, .slice none 0 0], Value.int .i64 0, Value.int .i64 0], []⟩).memory Tryd.f5.params.toList Rows.instancePartsSpec.vars false #[Value.agg #[.slice none 0 0, .slice none 0 0, .slice none 0 0, .slice none 0 0, .slice none 0 0, .slice none 0 0], Value.int .i64 0, Value.int .i64 0].toList 8 = some ([.agg [.agg [.nil, .nil], .nil, .nil, .nil, .nil], .lit (.int .i64 0), .lit (.int .i64 0)], [], places) :=
  ⟨[], by kernel_rfl⟩

set_option maxRecDepth 100000 in
theorem contract (H : Type) (enc : TypeId × Value → H) (W : World) (base : Nat) (args : Array Value) (ds gs : List (DataW H)) (before : List MemPlace)
    (hval0 : ∀ (j : Nat) t v, Tryd.f5.params[j]? = some t → args[j]? = some v → Value.okWide Tryd.prog W .any base t v)
    (hW : DataW.Whole enc Tryd.prog Tryd.f5.params.toList Rows.instancePartsSpec.vars false W args.toList ds gs before)
    (hsz0 : (DataW.weightsEach Tryd.prog (Tryd.f5.params.toList ++ Rows.instancePartsSpec.plain.varTypes Tryd.prog) (ds ++ gs)).all (· ≤ reachBytes) = true) :
    Calls Tryd.prog 5 args W fun e W' => ∃ v, e = .returned v ∧ Rows.instancePartsSpec.post enc Tryd.prog Tryd.f5 false true false false W args v W' := by
  have hsz : (DataW.weightsEach Tryd.prog (Tryd.f5.params.toList ++ Rows.instancePartsSpec.plain.varTypes Tryd.prog) (ds ++ gs)).all (· ≤ reachBytes) = true := hsz0
  clear hsz0
  have hval : ∀ (j : Nat) t v, Tryd.f5.params[j]? = some t → args[j]? = some v → Value.okWide Tryd.prog W .any base t v := hval0
  have hW' := hW
  obtain ⟨p, q, hA0, hV, rfl, hfz, hnd⟩ := hW
  have hA : DataW.TrodAll enc Tryd.prog W 0 (fun _ => true) true Tryd.f5.params.toList args.toList ds p := hA0
  rw [Tryd.params5] at hA hval hsz
  obtain ⟨v0, vs0, d0, ds0, p0, q0, hargs, rfl, rfl, h0, r0⟩ := trodAll_cons hA
  obtain ⟨v1, vs1, d1, ds1, p1, q1, rfl, rfl, rfl, h1, r1⟩ := trodAll_cons r0
  obtain ⟨v2, vs2, d2, ds2, p2, q2, rfl, rfl, rfl, h2, r2⟩ := trodAll_cons r1
  obtain ⟨rfl, rfl, rfl⟩ := trodAll_nil r2
  obtain rfl : args = #[v0, v1, v2] := by cases args; simp_all
  obtain ⟨rfl, rfl⟩ := trodVars_none hV
  have k0 := h0
  have lt0 : ∀ x ∈ p0, x.block < W.heap.size := by obtain ⟨m, hm⟩ := k0; exact DataW.trod_lt m _ _ _ hm
  obtain ⟨x_cs, x, rfl, at_x⟩ := rd.arg_struct Tryd.underlying30 typ.opens_Ins (hval 0 30 v0 rfl rfl) h0 (rd.weight_of hsz (j := 0) rfl rfl)
  obtain ⟨x_C0, x_c0, x_C1, x_c1, x_C2, x_c2, x_C3, x_c3, x_C4, x_c4, x_C5, x_c5, rfl, x_I0, x_I1, x_I2, x_I3, x_I4, x_I5, x_f⟩ := typ.rIns_at at_x
  have k1 := h1
  have lt1 : ∀ x ∈ p1, x.block < W.heap.size := by obtain ⟨m, hm⟩ := k1; exact DataW.trod_lt m _ _ _ hm
  obtain ⟨set, rfl, rfl, rfl, w_set⟩ := open_int Tryd.underlying3 (hval 1 3 v1 rfl rfl) h1
  have b_set := bd w_set
  have k2 := h2
  have lt2 : ∀ x ∈ p2, x.block < W.heap.size := by obtain ⟨m, hm⟩ := k2; exact DataW.trod_lt m _ _ _ hm
  obtain ⟨sub, rfl, rfl, rfl, w_sub⟩ := open_int Tryd.underlying3 (hval 2 3 v2 rfl rfl) h2
  have b_sub := bd w_sub
  clear hA0 hval0
  refine Calls.mono (ins.lawParts_any x ⟨x_C0, x_c0, x_C1, x_c1, x_C2, x_c2, x_C3, x_c3, x_C4, x_c4, x_C5, x_c5⟩ set sub W ⟨x_I0, x_I1, x_I2.1, x_I3.1, x_I4.1, x_I5.1, x_I2.2, x_I3.2, x_I4.2, x_I5.2⟩ b_set.2 b_sub.2) fun e W' ⟨he, bel⟩ => ?_
  subst he
  exact ⟨_, rfl, _, _, _, [], _, [], hW', trodAll_mk1 (shut_bool Tryd.underlying4 _), (trodAll_cons_mk (Below.trod laidOut (by kernel_rfl) (of_decide_eq_true (by kernel_rfl)) k0 bel lt0) (trodAll_cons_mk (Below.trod laidOut (by kernel_rfl) (of_decide_eq_true (by kernel_rfl)) k1 bel lt1) (trodAll_cons_mk (Below.trod laidOut (by kernel_rfl) (of_decide_eq_true (by kernel_rfl)) k2 bel lt2) trodAll_mk0))), rfl, bel.frame _, fun h => by cases h⟩

set_option maxRecDepth 100000 in
theorem lifted (os : Os) (started : os.Started) (H : Type) (enc : TypeId × Value → H) (F : Stop.Interp) :
    ReturnsInHanded {} Tryd.checked os 5 .any ((OpenSpec.ofChange Rows.instancePartsSpec).preRow enc Tryd.prog Tryd.f5 Rows.instancePartsRow.domain false Rows.instancePartsRow.laid) (((OpenSpec.ofChange Rows.instancePartsSpec).at F).post enc Tryd.prog Tryd.f5 false true false false) := by
  obtain ⟨places, hx⟩ := reads os enc
  refine returnsInHanded_of_row (C := Tryd.checked) (s := OpenSpec.ofChange Rows.instancePartsSpec) own started (by kernel_rfl) Tryd.func5
    (witness_row_at (enc := enc) (C := Tryd.checked) false (laid.laidWorld os) #[Value.agg #[.slice none 0 0, .slice none 0 0, .slice none 0 0, .slice none 0 0, .slice none 0 0, .slice none 0 0], Value.int .i64 0, Value.int .i64 0] rfl (by kernel_rfl) (by kernel_rfl) (by kernel_rfl)
      (OpenSpec.preRow_of_cond 8 hx (by kernel_rfl) (fun k hk => by cases hk) (by kernel_rfl) (laid_met os))) ?_
  intro W base args ds gs before hval hW _ _ hsz hL _ _
  exact contract H enc W base args ds gs before hval hW hsz

theorem said : Rows.InstancePartsSaid :=
  OpenClaim.holds_of_cond 5 Tryd.f5 rfl rfl rfl rfl rfl rfl rfl ⟨rfl, rfl, rfl, rfl, rfl⟩ rfl rfl rfl rfl rfl (by kernel_rfl) Tryd.func5 (by kernel_rfl)
    (of_decide_eq_true (by kernel_rfl)) (by unfold Func.isWrapper; first | (rw [if_pos (by decide +kernel)]; kernel_rfl) | (rw [if_neg (by decide +kernel)]; exact ⟨rfl, rfl⟩))
    (fun os started H enc _ F => by rw [OpenClaim.pre_eq_preRow]; exact lifted os started H enc F)

theorem plain (f : FuncId) (fn : Func) (hf : Tryd.pinned.checked.prog.funcNamed "lorry/lorrylaw13.InstanceParts" = some f) (hfn : Tryd.pinned.checked.prog.funcs[f]? = some fn) :
    false = Tryd.pinned.checked.prog.looks [] ∧ ∀ (j : Nat) t, fn.params[j]? = some t → Tryd.pinned.checked.prog.wantsStandIn t = false := by
  obtain rfl : f = 5 := Option.some.inj ((show Tryd.prog.funcNamed "lorry/lorrylaw13.InstanceParts" = some 5 by kernel_rfl).symm.trans hf) |>.symm
  obtain rfl : fn = Tryd.f5 := (Option.some.inj (Tryd.func5.symm.trans hfn)).symm
  refine ⟨by kernel_rfl, fun j t ht => ?_⟩
  rw [Tryd.params5] at ht
  have hm := Array.mem_of_getElem? ht
  simp only [List.mem_toArray, List.mem_cons, List.not_mem_nil, or_false] at hm
  rcases hm with rfl | rfl | rfl
  · exact (show Tryd.prog.wantsStandIn 30 = false by kernel_rfl)
  · exact (show Tryd.prog.wantsStandIn 3 = false by kernel_rfl)
  · exact (show Tryd.prog.wantsStandIn 3 = false by kernel_rfl)

theorem proved : Rows.InstancePartsCardSaid :=
  Claim7.holds_tied_plain_at .later [] _ _ _ _ said (fun _ h => by cases h) (by kernel_rfl) (fun _ h => by cases h) instanceParts_row_tie rfl ⟨rfl, rfl⟩ (by kernel_rfl) rfl plain (by kernel_rfl)
#print axioms proved
end Go.Proofs.YtceceomaheobhaaDoor.instanceParts

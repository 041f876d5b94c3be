/- Blocks of the call's own; rows of structures under construction. -/
import Derived.Test.YthefooacfcagbaaGreatDoorBase
import Derived.Test.YthefooacfcagbaaGreatDoorOff
import Derived.Test.YthefooacfcagbaaGreatDoorGenT
import Derived.Test.YthefooacfcagbaaGreatDoorGenR
import Derived.RangeFuncBox
import Derived.Deep.DeepCutAuto
import Derived.Deep.RegionHeld3
namespace Go.Proofs.YthefooacfcagbaaGreatDoor.gen
open Go.RowKit
open Go.Proofs.YthefooacfcagbaaGreatDoor.lib Go.Proofs.YthefooacfcagbaaGreatDoor.rd Go.Proofs.YthefooacfcagbaaGreatDoor.app Go.Proofs.YthefooacfcagbaaGreatDoor.els Go.Proofs.YthefooacfcagbaaGreatDoor.typ Go.Proofs.YthefooacfcagbaaGreatDoor.big Go.Proofs.YthefooacfcagbaaGreatDoor.off
set_option linter.unusedVariables false
set_option linter.unusedSimpArgs false

/-- Block b holds these cells. -/
def Blk (w : World) (b : Nat) (t : TypeId) (cs : List Value) : Prop := w.heap[b]? = some (.cells cs.toArray t (0, 0))
section
variable {w w' : World} {b : Nat} {t : TypeId} {cs : List Value}
theorem Blk.lt (h : Blk w b t cs) : b < w.heap.size := (Array.getElem?_eq_some_iff.1 h).1
theorem Blk.cell (h : Blk w b t cs) {j : Nat} {u : Value} (hj : cs[j]? = some u) : w.cell? ⟨b, j, none⟩ = some u := by
  unfold World.cell?
  rw [h]
  simpa using hj
theorem Blk.cells (h : Blk w b t cs) : CellsAt w ⟨b, 0, none⟩ cs := fun j u hu => World.news_of_block (w := w) (B := b) h j u (by simpa using hu)
theorem Blk.frozen (h : Blk w b t cs) (j : Nat) : w.frozen? ⟨b, j, none⟩ = false := by simp [World.frozen?, show w.heap[b]? = _ from h]
theorem Blk.set (h : Blk w b t cs) (i : Nat) (u : Value) : Blk (w.setCell ⟨b, i, none⟩ u) b t (cs.set i u) := by
  have h1 := heap_setCell_same w b i _ _ u h
  unfold Blk
  rw [h1]
  simp
theorem Blk.kept {row : Option Nat} (h : Blk w b t cs) (hg : w.grownBy w' row) (hne : some b ≠ row) : Blk w' b t cs := (hg.block b h.lt hne).trans h
theorem Blk.new (w : World) (t : TypeId) (cs : List Value) : Blk (w.alloc (.cells cs.toArray t)) w.heap.size t cs := World.alloc_heap_new w _
theorem Blk.below (h : Blk w b t cs) (hb : Below w.heap.size w w') : Blk w' b t cs := (hb.block b h.lt).trans h
end
/-- The blocks of which K holds stay. -/
def Fr (K : Nat → Prop) (w w' : World) : Prop := w.heap.size ≤ w'.heap.size ∧ ∀ b, b < w.heap.size → K b → w'.heap[b]? = w.heap[b]?
theorem Fr.trans {K : Nat → Prop} {a b c : World} (h : Fr K a b) (k : Fr K b c) : Fr K a c := ⟨Nat.le_trans h.1 k.1, fun i hi hK => (k.2 i (Nat.lt_of_lt_of_le hi h.1) hK).trans (h.2 i hi hK)⟩
theorem Fr.below {K : Nat → Prop} {w w' : World} (h : Below w.heap.size w w') : Fr K w w' := ⟨h.size, fun b hb _ => h.block b hb⟩
theorem Fr.grown {K : Nat → Prop} {w w' : World} {row : Option Nat} (h : w.grownBy w' row) (hn : ∀ b, K b → some b ≠ row) : Fr K w w' := ⟨h.size, fun b hb hK => h.block b hb (hn b hK)⟩
theorem Fr.set {K : Nat → Prop} (w : World) {q : Nat} (i : Nat) (u : Value) (hn : ∀ b, K b → b ≠ q) : Fr K w (w.setCell ⟨q, i, none⟩ u) := ⟨by simp [World.setCell], fun b _ hK => Below.heap_setCell w ⟨q, i, none⟩ u b (hn b hK)⟩
theorem Fr.drew {K : Nat → Prop} (w : World) : Fr K w w.drew := ⟨Nat.le_refl _, fun _ _ _ => rfl⟩
theorem Fr.weak {K K' : Nat → Prop} {w w' : World} (h : Fr K w w') (hk : ∀ b, K' b → K b) : Fr K' w w' := ⟨h.1, fun b hb hK => h.2 b hb (hk b hK)⟩
theorem Blk.fr {K : Nat → Prop} {w w' : World} {b : Nat} {t : TypeId} {cs : List Value} (h : Blk w b t cs) (hf : Fr K w w') (hb : K b) : Blk w' b t cs := (hf.2 b h.lt hb).trans h
theorem rowOff_fr {X : Type} {r : Off X} {w w' : World} {P : Nat → Prop} {A : Option Addr} {l : List X} (h : RowOff r w P A l) (hf : Fr P w w') : RowOff r w' P A l := h.keep hf.1 (fun b hb hp => ⟨hp, hf.2 b hb hp⟩)
theorem own_fr {w w' : World} {base : Nat} {e : TypeId} {size n : Nat} {v : Value} {xs : List Value} (h : w.ownsRow base e size v n xs) (hf : Fr (fun b => base ≤ b) w w') : w'.ownsRow base e size v n xs := by
  rcases h.2 with ⟨h6, h7⟩ | ⟨g, cap, cur, h6, h7, h8, h9⟩
  · exact ⟨h.1, .inl ⟨h6, h7⟩⟩
  · exact ⟨h.1, .inr ⟨g, cap, cur, h6, h7, (hf.2 g (Array.getElem?_eq_some_iff.1 h8).1 h7).trans h8, h9⟩⟩
/-- A row of the call's own under construction, whose elements lead to blocks from base on. -/
structure Row {X : Type} (r : Off X) (e : TypeId) (base : Nat) (wr : World) (xs : List X) (A : Option Addr) (c : Nat) (cs : List Value) : Prop where
  own : wr.ownsRow base e r.rd.size (.slice A xs.length c) xs.length cs
  els : EG r wr (fun b => some b ≠ (Value.slice A xs.length c).ownBlock ∧ base ≤ b) cs xs
section
variable {X : Type} {r : Off X} {e : TypeId} {base : Nat} {wr wx : World} {xs : List X} {A : Option Addr} {c : Nat} {cs : List Value}
theorem Row.nil : Row r e base wr [] none 0 [] := ⟨World.ownsRow_nil _ _ _ _, EG.nil⟩
theorem Row.fr (h : Row r e base wr xs A c cs) (hf : Fr (fun b => base ≤ b) wr wx) : Row r e base wx xs A c cs := ⟨own_fr h.own hf, h.els.keep hf.1 (fun b hb hp => ⟨hp, hf.2 b hb hp.2⟩)⟩
theorem Row.push (h : Row r e base wr xs A c cs) {x : X} {cx : List Value} {g c' : Nat} (hx : r.at_ wr (fun b => some b ≠ (Value.slice A xs.length c).ownBlock ∧ base ≤ b) cx x)
    (hown : wx.ownsRow base e r.rd.size (.slice (some ⟨g, 0, none⟩) (xs.length + 1) c') (xs.length + 1) (cs ++ cx)) (hg : wr.grownBy wx (Value.slice A xs.length c).ownBlock) (hd : (Value.slice A xs.length c).ownBlock = some g ∨ wr.heap.size ≤ g) :
    Row r e base wx (xs ++ [x]) (some ⟨g, 0, none⟩) c' (cs ++ cx) := ⟨by rw [List.length_append]; exact hown, h.els.push hx hg hd⟩
theorem Row.off (h : Row r e base wr xs A c cs) (hl : xs.length ≤ 17592186043904) : RowOff r wr (fun b => base ≤ b) A xs := h.els.off h.own hl (fun b _ hb => hb.2) (fun b hb => hb)
theorem Row.lo (h : Row r e base wr xs A c cs) {q : Nat} (e' : (Value.slice A xs.length c).ownBlock = some q) : base ≤ q := (World.ownsRow.lt h.own q e').1
end
theorem str_elem : ElemOf 22 9 (.string ⟨#[]⟩) 1 16 := ⟨Tryz.underlying22, by kernel_rfl, rfl, by decide, by decide⟩
theorem arc_elem : ElemOf 23 49 (.agg #[.int .i64 0, .int .i64 0, .int .i64 0, .int .i64 0, .slice none 0 0, .slice none 0 0]) 6 80 := ⟨Tryz.underlying23, by kernel_rfl, rfl, by decide, by decide⟩
theorem own_cap {w : World} {base : Nat} {e : TypeId} {size n c : Nat} {A : Option Addr} {xs : List Value} (h : w.ownsRow base e size (.slice A n c) n xs) : n ≤ c := by
  rcases h.2 with ⟨h1, h2⟩ | ⟨g, cap, cur, h1, h2, h3, h4, h5⟩
  · injection h1
    omega
  · injection h1 with _ _ h6
    omega
theorem step_storeL {t : TypeId} {n : Nat} (T : StructOf t n) {o : Oper} {a : Act} {w : World} {ops : Array Oper} {K : Act → World → Prop} {Q : Exit → Act → World → Prop} {E' : Prop} (hgd : o.guard = none) (p v : Operand) (ho : o.op = Op.store t p v)
    (g : Nat) (old cs : List Value) (hp : a.eval p = .pointer (some ⟨g, 0, none⟩)) (hv : a.eval v = .agg cs.toArray) (hb : w.heap[g]? = some (.cells old.toArray t (0, 0))) (hold : old.length = n) (hn : cs.length = n) (h1 : ∀ u ∈ cs, u.oneCell' = true)
    (h : ∀ w', w'.heap[g]? = some (.cells cs.toArray t (0, 0)) → (∀ k, k ≠ g → w'.heap[k]? = w.heap[k]?) → w'.heap.size = w.heap.size → Below g w w' → K (a.put o.dst undef) w') :
    if Region.wanted o (yielded ops a.tmps) = true then Oper.wp Tryz.prog o a w K Q else E' := by
  have hw : Region.wanted o (yielded ops a.tmps) = true := by simp [Region.wanted, hgd]
  rw [if_pos hw]
  have hr := run_storeVar_row (P := Tryz.prog) w g t t old.toArray cs.toArray hb (by rw [T.size]; simp [hn]) (by simp [hold, hn]) (Array.all_eq_true_iff_forall_mem.2 fun u hu => h1 u (by simpa using hu))
  have hr2 : (Instr.storeAt t (.pointer (some ⟨g, 0, none⟩)) (.agg cs.toArray)).run Tryz.prog w = .ok () (w.setRow g cs.toArray) := by
    simp only [Instr.storeAt, Instr.sureAddr, Sem.run_bind, Sem.run_pure, Result.andThen]
    exact hr
  have hot : ∀ k, k ≠ g → (w.setRow g cs.toArray).heap[k]? = w.heap[k]? := fun k hk => by
    simp only [World.setRow, Array.getElem?_modify]
    rw [if_neg (fun e => hk e.symm)]
  have hsz : (w.setRow g cs.toArray).heap.size = w.heap.size := by simp [World.setRow]
  unfold Oper.wp execOp
  simp only [ho, hp, hv, Sem.run_bind, hr2, Result.andThen_ok, Sem.run_pure]
  exact h _ (setRow_heap w g old.toArray cs.toArray t (0, 0) hb) hot hsz ⟨rfl, rfl, rfl, Nat.le_of_eq hsz.symm, fun k hk => hot k (by omega)⟩
theorem sStp : StructOf 41 4 := ⟨⟨_, Tryz.underlying41⟩, by kernel_rfl⟩
theorem sTy : StructOf 63 14 := ⟨⟨_, Tryz.underlying63⟩, by kernel_rfl⟩
theorem sArc : StructOf 49 6 := ⟨⟨_, Tryz.underlying49⟩, by kernel_rfl⟩
theorem sOrd : StructOf 66 16 := ⟨⟨_, Tryz.underlying66⟩, by kernel_rfl⟩
theorem sIns : StructOf 30 6 := ⟨⟨_, Tryz.underlying30⟩, by kernel_rfl⟩
theorem stp_one (s : Stp) : ∀ u ∈ StpCells s, u.oneCell' = true := fun u hu => by
  simp only [StpCells, List.mem_cons, List.not_mem_nil, or_false] at hu
  rcases hu with rfl | rfl | rfl | rfl <;> rfl
theorem ty_one (t : Ty) (C : Option Addr) (c : Nat) : ∀ u ∈ TyCells t C c, u.oneCell' = true := fun u hu => by
  simp only [TyCells, List.mem_cons, List.not_mem_nil, or_false] at hu
  rcases hu with rfl | rfl | rfl | rfl | rfl | rfl | rfl | rfl | rfl | rfl | rfl | rfl | rfl | rfl <;> rfl
theorem arc_one (t : Arc) (C : Option Addr) (c : Nat) (D : Option Addr) (d : Nat) : ∀ u ∈ ArcCells t C c D d, u.oneCell' = true := fun u hu => by
  simp only [ArcCells, List.mem_cons, List.not_mem_nil, or_false] at hu
  rcases hu with rfl | rfl | rfl | rfl | rfl | rfl <;> rfl
theorem ord_one (t : Ord) (C : Option Addr) (c : Nat) : ∀ u ∈ OrdCells t C c, u.oneCell' = true := fun u hu => by
  simp only [OrdCells, StpCells, List.cons_append, List.nil_append, List.mem_cons, List.not_mem_nil, or_false, List.mem_append] at hu
  rcases hu with rfl | rfl | rfl | rfl | rfl | rfl | rfl | rfl | rfl | rfl | rfl | rfl | rfl | rfl | rfl | rfl <;> rfl
end Go.Proofs.YthefooacfcagbaaGreatDoor.gen

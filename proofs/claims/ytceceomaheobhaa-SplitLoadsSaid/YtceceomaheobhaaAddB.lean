/- instance.Add. -/
import Derived.Test.YtceceomaheobhaaAddA
import Derived.Test.YtceceomaheobhaaInsK
import Derived.Test.YtceceomaheobhaaNetC
namespace Go.Proofs.Ytceceomaheobhaa.ins
open Go.RowKit
open Go.Proofs.Ytceceomaheobhaa.lib Go.Proofs.Ytceceomaheobhaa.rd Go.Proofs.Ytceceomaheobhaa.typ Go.Proofs.Ytceceomaheobhaa.app Go.Proofs.Ytceceomaheobhaa.big Go.Proofs.Ytceceomaheobhaa.flts Go.Proofs.Ytceceomaheobhaa.ord
set_option linter.unusedVariables false
set_option linter.unusedSimpArgs false

theorem orBlk_at {w : World} {k : Nat} {o : Ord} {C : Option Addr} {c : Nat} (h : OrBlk w k o C c) : CellsAt w ⟨k, 0, none⟩ (OrdCells o C c) := fun j u hu => World.news_of_block (w := w) (B := k) h j u (by simpa using hu)
theorem insCs_add (x : Ins) (o : Ord) (P : InP) (A : Option Addr) (c : Nat) : (insCs x P).set 3 (.slice A (x.orders.length + 1) c) = insCs (addI x o) ⟨P.a0, P.c0, P.a1, P.c1, P.a2, P.c2, A, c, P.a4, P.c4, P.a5, P.c5⟩ := by
  simp [insCs, addI]
theorem cellsAt_set {w : World} {g : Nat} {cs : List Value} (h : CellsAt w ⟨g, 0, none⟩ cs) (b i : Nat) {v : Value} (hne : g ≠ b) : CellsAt (w.setCell ⟨b, i, none⟩ v) ⟨g, 0, none⟩ cs := h.heap (Below.heap_setCell _ _ _ _ hne)
theorem own_other {w w' : World} {base : Nat} {e : TypeId} {size n : Nat} {v : Value} {xs : List Value} {b : Nat} (h : w.ownsRow base e size v n xs) (hk : ∀ k, k ≠ b → w'.heap[k]? = w.heap[k]?) (hb : b < base) : w'.ownsRow base e size v n xs := by
  rcases h.2 with ⟨h1, h2⟩ | ⟨g, cap, cur, h1, h2, h3, h4⟩
  · exact ⟨h.1, .inl ⟨h1, h2⟩⟩
  · exact ⟨h.1, .inr ⟨g, cap, cur, h1, h2, (hk g (by omega)).trans h3, h4⟩⟩
theorem step_storeL {t : TypeId} {n : Nat} (T : StructOf t n) {o : Oper} {a : Act} {w : World} {ops : Array Oper} {K : Act → World → Prop} {Q : Exit → Act → World → Prop} {E' : Prop} (hgd : o.guard = none) (p v : Operand) (ho : o.op = Op.store t p v)
    (g : Nat) (old cs : List Value) (hp : a.eval p = .pointer (some ⟨g, 0, none⟩)) (hv : a.eval v = .agg cs.toArray) (hb : w.heap[g]? = some (.cells old.toArray t (0, 0))) (hold : old.length = n) (hn : cs.length = n) (h1 : ∀ u ∈ cs, u.oneCell' = true)
    (h : ∀ w', w'.heap[g]? = some (.cells cs.toArray t (0, 0)) → (∀ k, k ≠ g → w'.heap[k]? = w.heap[k]?) → w'.heap.size = w.heap.size → Below g w w' → K (a.put o.dst undef) w') :
    if Region.wanted o (yielded ops a.tmps) = true then Oper.wp Try.prog o a w K Q else E' := by
  have hw : Region.wanted o (yielded ops a.tmps) = true := by simp [Region.wanted, hgd]
  rw [if_pos hw]
  have hr := run_storeVar_row (P := Try.prog) w g t t old.toArray cs.toArray hb (by rw [T.size]; simp [hn]) (by simp [hold, hn]) (Array.all_eq_true_iff_forall_mem.2 fun u hu => h1 u (by simpa using hu))
  have hr2 : (Instr.storeAt t (.pointer (some ⟨g, 0, none⟩)) (.agg cs.toArray)).run Try.prog w = .ok () (w.setRow g cs.toArray) := by
    simp only [Instr.storeAt, Instr.sureAddr, Sem.run_bind, Sem.run_pure, Result.andThen]
    exact hr
  have hot : ∀ k, k ≠ g → (w.setRow g cs.toArray).heap[k]? = w.heap[k]? := fun k hk => by
    simp only [World.setRow, Array.getElem?_modify]
    rw [if_neg (fun e => hk e.symm)]
  have hsz : (w.setRow g cs.toArray).heap.size = w.heap.size := by simp [World.setRow]
  unfold Oper.wp execOp
  simp only [ho, hp, hv, Sem.run_bind, hr2, Result.andThen_ok, Sem.run_pure]
  exact h _ (setRow_heap w g old.toArray cs.toArray t (0, 0) hb) hot hsz ⟨rfl, rfl, rfl, Nat.le_of_eq hsz.symm, fun k hk => hot k (by omega)⟩
theorem nilCs_one : ∀ u ∈ nilCs, u.oneCell' = true := fun u hu => by
  simp only [nilCs, List.mem_cons, List.not_mem_nil, or_false] at hu
  rcases hu with rfl | rfl | rfl | rfl | rfl | rfl <;> rfl
theorem mrk_cell {w w' : World} {q o : Nat} {v : Option Value} (e : w'.heap[q]? = w.heap[q]?) (h : w.cell? ⟨q, o, none⟩ = v) : w'.cell? ⟨q, o, none⟩ = v := by
  rw [← h]
  unfold World.cell?
  simp only [e]
theorem stOrd' : StructOf 75 16 := ⟨⟨_, Try.underlying75⟩, by kernel_rfl⟩
end Go.Proofs.Ytceceomaheobhaa.ins

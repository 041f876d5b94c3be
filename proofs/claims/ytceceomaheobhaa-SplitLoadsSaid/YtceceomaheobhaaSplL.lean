/- split.sum. -/
import Derived.Test.YtceceomaheobhaaCatS
import Derived.Test.YtceceomaheobhaaSplJ
namespace Go.Proofs.Ytceceomaheobhaa.spl
open Go.RowKit
open Go.Proofs.Ytceceomaheobhaa.lib Go.Proofs.Ytceceomaheobhaa.rd Go.Proofs.Ytceceomaheobhaa.app Go.Proofs.Ytceceomaheobhaa.els Go.Proofs.Ytceceomaheobhaa.loads Go.Proofs.Ytceceomaheobhaa.typ Go.Proofs.Ytceceomaheobhaa.big Go.Proofs.Ytceceomaheobhaa.ins Go.Proofs.Ytceceomaheobhaa.ord Go.Proofs.Ytceceomaheobhaa.flts Go.Proofs.Ytceceomaheobhaa.off Go.Proofs.Ytceceomaheobhaa.cats
set_option linter.unusedVariables false
set_option linter.unusedSimpArgs false

def smZero (os : List Ord) : List (List Int) := os.map fun o => List.replicate o.load.length 0
/-- Whether a share is one of the orders whose sums are acc. -/
def smOk (acc : List (List Int)) (s : Sha) : Bool := decide (0 ≤ s.order ∧ s.order < (acc.length : Int)) && rightB s.load (acc[s.order.toNat]?.getD []).length
def smPut (acc : List (List Int)) (s : Sha) : List (List Int) := acc.set s.order.toNat (addE (acc[s.order.toNat]?.getD []) s.load)
def smGo : List Sha → List (List Int) → Option (List (List Int))
  | [], acc => some acc
  | s :: l, acc => if smOk acc s then smGo l (smPut acc s) else none
/-- What sum answers. -/
def sumF (os : List Ord) (l : List Sha) : Option (List (List Int)) := smGo l (smZero os)
theorem smGo_at {l : List Sha} {k : Nat} {s : Sha} {acc : List (List Int)} (h : l[k]? = some s) : smGo (l.drop k) acc = if smOk acc s then smGo (l.drop (k + 1)) (smPut acc s) else none := by
  rw [drop_at' h, smGo]
/-- The first k of the zeros are made. -/
def smPart (os : List Ord) (k : Nat) : List (List Int) := (os.take k).map (fun o => List.replicate o.load.length 0) ++ List.replicate (os.length - k) []
theorem smPart_zero (os : List Ord) : smPart os 0 = List.replicate os.length [] := by unfold smPart; simp
theorem smPart_full (os : List Ord) : smPart os os.length = smZero os := by unfold smPart smZero; simp
theorem smPart_len {os : List Ord} {k : Nat} (h : k ≤ os.length) : (smPart os k).length = os.length := by
  unfold smPart
  rw [List.length_append, List.length_map, List.length_take, List.length_replicate]
  omega
theorem smPart_succ {os : List Ord} {k : Nat} {o : Ord} (h : os[k]? = some o) : smPart os (k + 1) = (smPart os k).set k (List.replicate o.load.length 0) := by
  have hk := (List.getElem?_eq_some_iff.1 h).1
  apply List.ext_getElem?
  intro i
  rw [List.getElem?_set, smPart_len (by omega)]
  unfold smPart
  rw [List.getElem?_append, List.getElem?_append]
  simp only [List.length_map, List.length_take]
  rw [take_at h, List.map_append]
  by_cases hik : k = i
  · subst hik
    rw [if_pos rfl, if_pos hk, if_pos (by omega), List.getElem?_append_right (by simp; omega)]
    simp
    rw [show min k os.length = k by omega, Nat.sub_self]
    rfl
  · rw [if_neg hik]
    by_cases hi : i < k
    · rw [if_pos (by omega), if_pos (by omega), List.getElem?_append_left (by simp; omega)]
    · rw [if_neg (by omega), if_neg (by omega), List.getElem?_replicate, List.getElem?_replicate]
      by_cases h2 : i < os.length
      · rw [if_pos (by omega), if_pos (by omega)]
      · rw [if_neg (by omega), if_neg (by omega)]
theorem smOk_right {acc : List (List Int)} {s : Sha} (h : smOk acc s = true) : BdL 1000 s.load := by
  unfold smOk rightB at h
  simp only [Bool.and_eq_true, List.all_eq_true, decide_eq_true_eq] at h
  exact fun x hx => h.2.1 x hx
theorem smPut_bd {acc : List (List Int)} {s : Sha} {m : Int} (hm : 0 ≤ m) (h : ∀ l ∈ acc, BdL m l) (hs : BdL 1000 s.load) : ∀ l ∈ smPut acc s, BdL (m + 1000) l := fun l hl => by
  unfold smPut at hl
  rcases List.mem_or_eq_of_mem_set hl with h1 | h1
  · exact fun x hx => by have := h l h1 x hx; omega
  · subst h1
    refine addE_bd ?_ hs
    cases ha : acc[s.order.toNat]? with
    | none => intro x hx; cases hx
    | some b => exact h b (List.mem_of_getElem? ha)
theorem ints_info : (Try.prog.info? 22).map (fun i => (i.zero, i.size, i.bytes)) = some (some (.slice none 0 0), 1, 24) := by kernel_rfl
/-- make([][]int, n). -/
theorem make_lists {ops : Array Oper} {rest : List Oper} {o : Oper} {a : Act} {Q : Exit → Act → World → Prop} {w : World} (hg : o.guard = none) (l c : Operand) (hop : o.op = Op.makeSlice 23 l c)
    (base : Nat) (n : Nat) (hl : a.eval l = .int .i64 n) (hc : a.eval c = .int .i64 n) (hn : n ≤ 1000000) (hbase : base ≤ w.heap.size)
    (h : ∀ w', w'.ownsRow base 22 1 (.slice (some ⟨w.heap.size, 0, none⟩) n n) n (List.replicate n (.slice none 0 0)) → Below w.heap.size w w' → w.heap.size < w'.heap.size → wpList Try.prog ops Q rest (a.put o.dst (.slice (some ⟨w.heap.size, 0, none⟩) n n)) w') :
    wpList Try.prog ops Q (o :: rest) a w := by
  obtain ⟨i0, hi, hz0, hz1, hz2⟩ := info_parts ints_info
  refine wpList_make_full w hg l c 23 hop base 22 i0 (.slice none 0 0) 1 Try.underlying23 hi hz0 hz1 .i64 .i64 n n n hl hc rfl rfl (by rw [hz2]; omega) (by unfold maxLen; omega) hbase ?_
  intro w' hown hg'
  refine h w' ?_ ((Below.refl _ _).grown hg' (Nat.le_refl _) (by intro k hk; cases hk)) ?_
  · have e : (madeCells (Value.slice none 0 0).cells (n * 1)).toList = List.replicate n (Value.slice none 0 0) := by
      rw [Nat.mul_one]
      exact toList_madeCells_one (.slice none 0 0) n
    rw [← e]
    exact hown
  · obtain ⟨cur, hh⟩ : ∃ o, w'.heap[w.heap.size]? = some o := by
      rcases hown.2 with ⟨h1, _⟩ | ⟨g, cap, cur, h1, _, h2, _⟩
      · cases h1
      · injection h1 with h1 _ _
        injection h1 with h1
        injection h1 with h1
        subst h1
        exact ⟨_, h2⟩
    rcases Nat.lt_or_ge w.heap.size w'.heap.size with h | h
    · exact h
    · rw [Array.getElem?_eq_none h] at hh; cases hh
/-- Where sum stands: the sums acc, in block g. -/
structure SmSt (base : Nat) (W : World) (n g : Nat) (acc : List (List Int)) (wr : World) (cs : List Value) : Prop where
  len : acc.length = n
  own : wr.ownsRow base 22 1 (.slice (some ⟨g, 0, none⟩) n n) n cs
  els : EG oInts wr (fun b => b ≠ g ∧ base ≤ b) cs acc
  bel : Below base W wr
  lo : base ≤ g ∧ g < wr.heap.size
section
variable {base : Nat} {W : World} {n g : Nat} {acc : List (List Int)} {wr wx : World} {cs : List Value}
theorem SmSt.below (h : SmSt base W n g acc wr cs) (hb : Below wr.heap.size wr wx) : SmSt base W n g acc wx cs := ⟨h.len, own_below h.own hb, h.els.below hb, h.bel.trans (hb.mono (by have := h.lo; omega)), h.lo.1, Nat.lt_of_lt_of_le h.lo.2 hb.size⟩
theorem SmSt.at_ (h : SmSt base W n g acc wr cs) {i : Nat} {l : List Int} (hi : acc[i]? = some l) : ∃ C c, wr.cell? ⟨g, i, none⟩ = some (.slice C l.length c) ∧ IntsOff wr (fun b => b ≠ g ∧ base ≤ b) C l ∧ wr.frozen? ⟨g, i, none⟩ = false := by
  have hil := (List.getElem?_eq_some_iff.1 hi).1
  obtain ⟨c, h3, h4, h5⟩ := h.els.at_ hi
  obtain ⟨C, c0, rfl, hio⟩ := h3
  have e1 := h5 0 _ rfl
  rw [show oInts.rd.size = 1 from rfl, Nat.mul_one, Nat.add_zero] at e1
  have hcl : cs.length = n := by have := h.own.1; omega
  have hl := h.len
  have c1 := h.own.cellAt i (by omega)
  rw [e1] at c1
  exact ⟨C, c0, c1, hio, h.own.frozenAt i⟩
theorem SmSt.put (h : SmSt base W n g acc wr cs) {i : Nat} (hi : i < n) {l : List Int} {C : Option Addr} {c : Nat} (hI : IntsOff wr (fun b => b ≠ g ∧ base ≤ b) C l) : SmSt base W n g (acc.set i l) (wr.setCell ⟨g, i, none⟩ (.slice C l.length c)) (cs.set i (.slice C l.length c)) := by
  have hgr := grownBy_set wr g i (.slice C l.length c)
  have hk : ∀ b, b < wr.heap.size → (b ≠ g ∧ base ≤ b) → (b ≠ g ∧ base ≤ b) ∧ (wr.setCell ⟨g, i, none⟩ (.slice C l.length c)).heap[b]? = wr.heap[b]? := fun b hb hp => ⟨hp, hgr.block b hb (fun e => hp.1 (by injection e))⟩
  refine ⟨by rw [List.length_set]; exact h.len, (h.own.stored i _).1, ?_, h.bel.setCell (p := ⟨g, i, none⟩) h.lo.1 _, h.lo.1, by simp; exact h.lo.2⟩
  have hm := EG.mod (r := oInts) (i := i) (j := 0) (u := .slice C l.length c) (x' := l) (h.els.keep hgr.size hk) (by rw [h.len]; exact hi) (show 0 < 1 by decide) (by
    obtain ⟨x, hx⟩ : ∃ x, acc[i]? = some x := ⟨_, List.getElem?_eq_getElem (by rw [h.len]; exact hi)⟩
    obtain ⟨D, d, hc, _⟩ := h.els.2 i x hx
    rw [hc]
    exact ⟨C, c, rfl, intsOff_keep hI hgr.size hk⟩)
  rw [show oInts.rd.size = 1 from rfl, Nat.mul_one, Nat.add_zero] at hm
  exact hm
end
def SumOut (w : World) (r : Option (List (List Int))) (e : Ending) (w' : World) : Prop := match r with
  | none => e = .returned (.tuple #[.slice none 0 0, .int .i64 2]) ∧ Below w.heap.size w w'
  | some acc => ∃ A c cs, e = .returned (.tuple #[.slice A acc.length c, .int .i64 0]) ∧ w'.ownsRow w.heap.size 22 1 (.slice A acc.length c) acc.length cs ∧ EG oInts w' (fun b => w.heap.size ≤ b) cs acc ∧ Below w.heap.size w w'
end Go.Proofs.Ytceceomaheobhaa.spl

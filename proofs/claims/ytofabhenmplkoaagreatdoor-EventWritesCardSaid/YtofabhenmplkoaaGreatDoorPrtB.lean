/- event.Print of the program. -/
import Derived.Test.YtofabhenmplkoaaGreatDoorPrtA
namespace Go.Proofs.YtofabhenmplkoaaGreatDoor.evt
open Go.RowKit
open Go.Proofs.YtofabhenmplkoaaGreatDoor.lib Go.Proofs.YtofabhenmplkoaaGreatDoor.rd Go.Proofs.YtofabhenmplkoaaGreatDoor.app Go.Proofs.YtofabhenmplkoaaGreatDoor.els Go.Proofs.YtofabhenmplkoaaGreatDoor.typ Go.Proofs.YtofabhenmplkoaaGreatDoor.big Go.Proofs.YtofabhenmplkoaaGreatDoor.ins Go.Proofs.YtofabhenmplkoaaGreatDoor.ord Go.Proofs.YtofabhenmplkoaaGreatDoor.gen
open Go.Proofs.YtofabhenmplkoaaGreatDoor.txt (in64 By strV strV_of joinS decW decW_any Tabs elem_str nameB name_any toList_data)
set_option linter.unusedVariables false
set_option linter.unusedSimpArgs false

theorem nDig_le : ∀ (k u : Nat), u < 10 ^ (k + 1) → Lib.nDigits u ≤ k + 1
  | 0, u, h => by rw [Lib.nDigits_small (by omega)]; omega
  | k + 1, u, h => by
    by_cases hu : u < 10
    · rw [Lib.nDigits_small hu]; omega
    · rw [Lib.nDigits_big hu]
      have := nDig_le k (u / 10) (by rw [Nat.pow_succ] at h; omega)
      omega
theorem itoa_len {n : Int} (h : in64 n) : (Lib.itoa n).length ≤ 20 := by
  obtain ⟨h0, h1⟩ := h
  unfold Lib.itoa
  split
  · rw [List.length_cons, Lib.decDigits_length]
    have := nDig_le 18 n.natAbs (by omega)
    omega
  · rw [Lib.decDigits_length]
    have := nDig_le 18 n.toNat (by omega)
    omega
theorem lens_le : ∀ (L : List By), (∀ x ∈ L, x.length ≤ 20) → Lib.lens L ≤ 20 * L.length
  | [], _ => by simp [Lib.lens]
  | x :: L, h => by
    have h1 := lens_le L fun y hy => h y (List.mem_cons_of_mem _ hy)
    have h2 := h x (List.mem_cons_self ..)
    simp only [Lib.lens, List.map_cons, List.sum_cons, List.length_cons] at h1 ⊢
    omega
theorem join_le {L : List By} (h : ∀ x ∈ L, x.length ≤ 20) (hn : L.length ≤ 100) : (joinS L).length ≤ 5000 := by
  unfold joinS
  cases L with
  | nil => simp [Lib.join_nil]
  | cons x r =>
    rw [Lib.join_length]
    have := lens_le (x :: r) h
    rw [List.length_cons] at hn this
    simp only [List.length_singleton]
    omega
/-- 'out = append(out, x)' of one text: what else is there stays. -/
theorem push_str {ops : Array Oper} {rest : List Oper} {o : Oper} {a : Act} {Q : Exit → Act → World → Prop} {w : World} (hgd : o.guard = none) (s x : Operand)
    (ho : o.op = .call { callee := .builtin .append, args := #[s, x], argTypes := #[22, 22] })
    (base g n c : Nat) (xs : List Value) (hs : a.eval s = .slice (some ⟨g, 0, none⟩) n c) (hown : w.ownsRow base 9 1 (.slice (some ⟨g, 0, none⟩) n c) n xs)
    (b : ByteArray) (hx : a.eval x = .slice (some ⟨w.heap.size, 0, none⟩) 1 1) (hn : n < 1000000000) (hbase : base ≤ w.heap.size)
    (h : ∀ g' c' w', w'.ownsRow base 9 1 (.slice (some ⟨g', 0, none⟩) (n + 1) c') (n + 1) (xs ++ [.string b]) → (w.alloc (.cells #[.string b] 9)).grownBy w' (some g) → (g' = g ∨ w.heap.size < g') → Below base w w' → wpList Tryz.prog ops Q rest (a.put o.dst (.slice (some ⟨g', 0, none⟩) (n + 1) c')) w') :
    wpList Tryz.prog ops Q (o :: rest) a (w.alloc (.cells #[.string b] 9)) := by
  refine wpList_app elem_str s x ho base (some ⟨g, 0, none⟩) n c xs hs (hown.alloc _) ⟨w.heap.size, 0, none⟩ 1 [.string b] hx rfl (cell_one_new _ _ _) ?_ (by omega) (by simp; omega) hgd ?_
  · intro v hv
    simp at hv
    subst hv
    rfl
  intro g' c' w1 hown' hg hor
  refine h g' c' w1 hown' hg ?_ (((Below.refl base w).alloc hbase _).grown hg (by simp; omega) (own_base hown))
  rcases hor with e | e
  · left
    have e2 : some g = some g' := e
    exact (Option.some.inj e2).symm
  · right
    simp at e
    omega
/-- Numbers are written behind what has been written. -/
def PRel (W0 : World) (L0 : List By) (l : List Int) (m gN cN : Nat) (pv iv : Value) (wr : World) : Prop := Below W0.heap.size W0 wr ∧ ∃ (k g c n : Nat), k ≤ m ∧ iv = .int .i64 k ∧ pv = .slice (some ⟨g, 0, none⟩) n c ∧ Hid (n = L0.length + k) ∧ g ≠ gN ∧ gN < wr.heap.size ∧
  Hid (wr.ownsRow W0.heap.size 9 1 (.slice (some ⟨g, 0, none⟩) n c) n ((L0 ++ (l.take k).map Lib.itoa).map strV)) ∧ Hid (wr.ownsRow W0.heap.size 3 1 (.slice (some ⟨gN, 0, none⟩) m cN) m (l.map (.int .i64)))
theorem take_itoa {l : List Int} {k : Nat} {x : Int} (h : l[k]? = some x) (L0 : List By) : (L0 ++ (l.take (k + 1)).map Lib.itoa).map strV = (L0 ++ (l.take k).map Lib.itoa).map strV ++ [.string (decW x)] := by
  rw [List.take_add_one, h]
  simp [strV, decW]
/-- What Print answers. -/
def PrOut (w : World) (e : Evt) (en : Ending) (w' : World) : Prop := en = .returned (.tuple #[.string ⟨(prtS e).toArray⟩, .int .i64 (prtE e)]) ∧ Below w.heap.size w w'
end Go.Proofs.YtofabhenmplkoaaGreatDoor.evt

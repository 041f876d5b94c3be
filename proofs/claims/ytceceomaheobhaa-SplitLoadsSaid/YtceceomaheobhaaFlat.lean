/- Rows as lists of cells; rows that are copied into a block of the call's own. Portable. -/
import Derived.Test.YtceceomaheobhaaBase
import Derived.Great.BuildSlice
namespace Go.Proofs.Ytceceomaheobhaa.rd
open Go.RowKit
open Go.Proofs.Ytceceomaheobhaa.lib Go.Proofs.Ytceceomaheobhaa.big
set_option linter.unusedVariables false

/-- The cells CS are those of the elements l. -/
def CellsOf {X : Type} (r : Rd X) (w : World) (B : Nat) (l : List X) (CS : List Value) : Prop :=
  CS.length = l.length * r.size ∧ ∀ (i : Nat) (x : X), l[i]? = some x → ∃ cs, r.at_ w B cs x ∧ ∀ (j : Nat) (u : Value), cs[j]? = some u → CS[i * r.size + j]? = some u
theorem CellsOf.nil {X : Type} {r : Rd X} {w : World} {B : Nat} : CellsOf r w B [] [] := ⟨by simp, fun i x h => by simp at h⟩
theorem CellsOf.snoc {X : Type} {r : Rd X} {w : World} {B : Nat} {l : List X} {CS cs : List Value} {x : X} (h : CellsOf r w B l CS) (hx : r.at_ w B cs x) : CellsOf r w B (l ++ [x]) (CS ++ cs) := by
  have hs := r.len hx
  refine ⟨by rw [List.length_append, List.length_append, h.1, hs]; simp [Nat.add_mul], fun i y hy => ?_⟩
  rcases Nat.lt_or_ge i l.length with hi | hi
  · rw [List.getElem?_append_left hi] at hy
    obtain ⟨cs', h1, h2⟩ := h.2 i y hy
    refine ⟨cs', h1, fun j u hu => ?_⟩
    have := h2 j u hu
    rw [List.getElem?_append_left (List.getElem?_eq_some_iff.1 this).1]
    exact this
  · rw [List.getElem?_append_right hi] at hy
    rcases Nat.eq_or_lt_of_le hi with e | hlt
    · rw [← e, Nat.sub_self] at hy
      simp at hy
      subst hy
      refine ⟨cs, hx, fun j u hu => ?_⟩
      rw [List.getElem?_append_right (by rw [h.1, e]; omega), h.1, e, Nat.add_sub_cancel_left]
      exact hu
    · rw [List.getElem?_eq_none (by simp; omega)] at hy
      cases hy
theorem CellsOf.keep {X : Type} {r : Rd X} {w w' : World} {B : Nat} {l : List X} {CS : List Value} (h : CellsOf r w B l CS) (hb : Below B w w') : CellsOf r w' B l CS :=
  ⟨h.1, fun i x hi => by obtain ⟨cs, h1, h2⟩ := h.2 i x hi; exact ⟨cs, r.keep (fun _ hp => hb.cell hp) h1, h2⟩⟩
theorem CellsOf.more {X : Type} {r : Rd X} {w : World} {B B' : Nat} {l : List X} {CS : List Value} (h : CellsOf r w B l CS) (hB : B ≤ B') : CellsOf r w B' l CS :=
  ⟨h.1, fun i x hi => by obtain ⟨cs, h1, h2⟩ := h.2 i x hi; exact ⟨cs, r.more hB h1, h2⟩⟩
/-- The cells of a row. -/
theorem RowAt.cells {X : Type} {r : Rd X} {w : World} {B : Nat} {A : Option Addr} {l : List X} (hpos : 0 < r.size) (h : RowAt r w B A l) :
    ∃ CS, CellsOf r w B l CS ∧ (∀ ad, A = some ad → CellsAt w ad CS) ∧ (0 < l.length → ∃ ad, A = some ad ∧ ad.block < B) ∧ ∀ P : Value → Prop, (∀ cs x, r.at_ w B cs x → ∀ u ∈ cs, P u) → ∀ u ∈ CS, P u := by
  obtain ⟨L, hL, hp⟩ := choose_list (n := l.length) (p := fun i cs => ∃ x ad, l[i]? = some x ∧ A = some ad ∧ ad.block < B ∧ r.at_ w B cs x ∧ ∀ (j : Nat) (u : Value), cs[j]? = some u → w.cell? (ad.add (i * r.size + j)) = some u) fun i hi => by
    obtain ⟨ad, cs, h1, h2, h3, h4⟩ := h.2 i _ (List.getElem?_eq_getElem hi)
    exact ⟨cs, _, ad, List.getElem?_eq_getElem hi, h1, h2, h3, h4⟩
  have hlen : ∀ (i : Nat) cs, L[i]? = some cs → cs.length = r.size := fun i cs hi => by
    obtain ⟨x, ad, _, _, _, h3, _⟩ := hp i cs hi
    exact r.len h3
  have key : ∀ (M : List (List Value)), (∀ (i : Nat) cs, M[i]? = some cs → cs.length = r.size) → M.flatten.length = M.length * r.size ∧ ∀ (i : Nat) cs, M[i]? = some cs → ∀ j, j < r.size → M.flatten[i * r.size + j]? = cs[j]? := by
    intro M
    induction M with
    | nil => intro _; exact ⟨by simp, fun i cs hi => by simp at hi⟩
    | cons c M ih =>
      intro hM
      obtain ⟨h1, h2⟩ := ih fun i cs hi => hM (i + 1) cs (by simpa using hi)
      have h0 := hM 0 c rfl
      refine ⟨by rw [List.flatten_cons, List.length_append, h1, h0, List.length_cons, Nat.add_mul]; omega, fun i cs hi j hj => ?_⟩
      rw [List.flatten_cons]
      rcases i with _ | i
      · simp at hi
        subst hi
        rw [Nat.zero_mul, Nat.zero_add, List.getElem?_append_left (by omega)]
      · rw [List.getElem?_append_right (by rw [h0, Nat.succ_mul]; omega), h0]
        have e : (i + 1) * r.size + j - r.size = i * r.size + j := by rw [Nat.succ_mul]; omega
        rw [e]
        exact h2 i cs (by simpa using hi) j hj
  obtain ⟨k1, k2⟩ := key L hlen
  refine ⟨L.flatten, ⟨by rw [k1, hL], fun i x hi => ?_⟩, fun ad hA j u hu => ?_, fun h0 => ?_, fun P hP u hu => ?_⟩
  · have hil := (List.getElem?_eq_some_iff.1 hi).1
    obtain ⟨cs, hcs⟩ : ∃ cs, L[i]? = some cs := ⟨_, List.getElem?_eq_getElem (by omega)⟩
    obtain ⟨x', ad, h1, _, _, h3, _⟩ := hp i cs hcs
    rw [hi] at h1
    obtain rfl := Option.some.inj h1
    refine ⟨cs, h3, fun j u hu => ?_⟩
    have hj : j < r.size := by rw [← r.len h3]; exact (List.getElem?_eq_some_iff.1 hu).1
    rw [k2 i cs hcs j hj]
    exact hu
  · have hjl : j < l.length * r.size := by have := (List.getElem?_eq_some_iff.1 hu).1; rw [k1, hL] at this; exact this
    have hdm := Nat.div_add_mod j r.size
    have hmod := Nat.mod_lt j hpos
    have hil : j / r.size < l.length := Nat.div_lt_of_lt_mul (by rw [Nat.mul_comm]; exact hjl)
    obtain ⟨cs, hcs⟩ : ∃ cs, L[j / r.size]? = some cs := ⟨_, List.getElem?_eq_getElem (by omega)⟩
    obtain ⟨x', ad', _, hA', _, h3, h4⟩ := hp _ cs hcs
    rw [hA] at hA'
    obtain rfl := Option.some.inj hA'
    have e : j / r.size * r.size + j % r.size = j := by rw [Nat.mul_comm]; exact hdm
    have h5 := k2 _ cs hcs (j % r.size) hmod
    rw [e, hu] at h5
    have h6 := h4 (j % r.size) u h5.symm
    rw [e] at h6
    exact h6
  · obtain ⟨ad, cs, h1, h2, _⟩ := h.2 0 _ (List.getElem?_eq_getElem h0)
    exact ⟨ad, h1, h2⟩
  · obtain ⟨cs, hcs, hu⟩ := List.mem_flatten.1 hu
    obtain ⟨i, hi⟩ := List.mem_iff_getElem?.1 hcs
    obtain ⟨x', ad, _, _, _, h3, _⟩ := hp i cs hi
    exact hP cs x' h3 u hu
/-- A row of the cells of elements. -/
theorem RowAt.of_cells {X : Type} {r : Rd X} {w : World} {B : Nat} {ad : Addr} {l : List X} {CS : List Value} (hl : l.length ≤ 17592186043904) (hb : ad.block < B) (h : CellsOf r w B l CS) (hc : CellsAt w ad CS) : RowAt r w B (some ad) l :=
  ⟨hl, fun i x hi => by
    obtain ⟨cs, h1, h2⟩ := h.2 i x hi
    exact ⟨ad, cs, rfl, hb, h1, fun j u hu => hc _ u (h2 j u hu)⟩⟩
/-- The same, in a row of the call's own. -/
theorem RowAt.of_own {X : Type} {r : Rd X} {w : World} {base c : Nat} {e : TypeId} {A : Option Addr} {l : List X} {CS : List Value} (h : CellsOf r w w.heap.size l CS) (hown : w.ownsRow base e r.size (.slice A l.length c) l.length CS) (hl : l.length ≤ 17592186043904) : RowAt r w w.heap.size A l := by
  rcases hown.2 with ⟨h1, h2⟩ | ⟨g, cap, cur, h1, h2, h3, h4⟩
  · injection h1 with h1 _ _
    subst h1
    have : l = [] := List.eq_nil_of_length_eq_zero h2
    subst this
    exact RowAt.nil
  · injection h1 with h1 _ _
    subst h1
    exact RowAt.of_cells hl (Array.getElem?_eq_some_iff.1 h3).1 h fun j u hu => hown.cells (g := g) rfl j u hu
end Go.Proofs.Ytceceomaheobhaa.rd

/- A row of the call's own whose elements lead to rows of numbers that lie elsewhere. Portable. -/
import Derived.Test.YtceceomaheobhaaDoorApp
import Derived.Test.YtceceomaheobhaaDoorOwnR
namespace Go.Proofs.YtceceomaheobhaaDoor.els
open Go.RowKit
open Go.Proofs.YtceceomaheobhaaDoor.lib Go.Proofs.YtceceomaheobhaaDoor.rd Go.Proofs.YtceceomaheobhaaDoor.app
set_option linter.unusedVariables false

/-- An element's cells but for its slice of numbers, and the numbers. -/
structure El where
  pre : List Value
  nums : List Int
  post : List Value
def El.cells (e : El) (A : Option Addr) (c : Nat) : List Value := e.pre ++ (.slice A e.nums.length c :: e.post)
/-- Numbers in memory, in a block of which P holds. -/
def IntsOff (w : World) (P : Nat → Prop) (A : Option Addr) (l : List Int) : Prop := Ints w w.heap.size A l ∧ (0 < l.length → ∃ ad, A = some ad ∧ P ad.block)
theorem IntsOff.low {w : World} {B : Nat} {P : Nat → Prop} {A : Option Addr} {l : List Int} (h : Ints w B A l) (hB : B ≤ w.heap.size) (hP : ∀ b, b < B → P b) : IntsOff w P A l := by
  refine ⟨h.more hB, fun hl => ?_⟩
  obtain ⟨ad, _, hA, hb, _⟩ := h.at_ hl
  exact ⟨ad, hA, hP _ hb⟩
/-- What the call itself has laid. -/
theorem IntsOff.own {w : World} {base c : Nat} {P : Nat → Prop} {A : Option Addr} {l : List Int} {e : TypeId} (h : w.ownsRow base e 1 (.slice A l.length c) l.length (l.map (.int .i64))) (hl : l.length ≤ 17592186043904) (hP : ∀ b, base ≤ b → P b) : IntsOff w P A l := by
  refine ⟨Ints.of_own h hl, fun h0 => ?_⟩
  rcases h.2 with ⟨h5, h6⟩ | ⟨g, cap, cur, h5, h6, h7⟩
  · omega
  · injection h5 with h5 _ _
    exact ⟨_, h5, hP g h6⟩
theorem IntsOff.weak {w : World} {P P' : Nat → Prop} {A : Option Addr} {l : List Int} (h : IntsOff w P A l) (hP : ∀ b, b < w.heap.size → P b → P' b) : IntsOff w P' A l := by
  refine ⟨h.1, fun h0 => ?_⟩
  obtain ⟨ad, hA, hp⟩ := h.2 h0
  obtain ⟨ad', _, hA', hb, _⟩ := h.1.at_ h0
  obtain rfl : ad = ad' := Option.some.inj (hA.symm.trans hA')
  exact ⟨ad, hA, hP _ hb hp⟩
/-- What stays, where a row's block alone is written, and blocks are added. -/
def Stays (w w' : World) (row : Option Nat) : Prop := w.heap.size ≤ w'.heap.size ∧ ∀ p : Addr, p.block < w.heap.size → some p.block ≠ row → w'.cell? p = w.cell? p
theorem Stays.grown {w w' : World} {row : Option Nat} (h : w.grownBy w' row) : Stays w w' row := ⟨h.size, fun p hp hr => by
  cases hc : w.cell? p with
  | some v => exact h.cell hc (by first | exact hr | exact fun e => hr e.symm)
  | none =>
    have h2 := h.block p.block hp (by first | exact hr | exact fun e => hr e.symm)
    unfold World.cell? at hc ⊢
    rw [h2]
    exact hc⟩
theorem Stays.below {w w' : World} {row : Option Nat} (h : Below w.heap.size w w') : Stays w w' row := ⟨h.size, fun p hp _ => h.cell hp⟩
theorem IntsOff.stay {w w' : World} {row : Option Nat} {P P' : Nat → Prop} {A : Option Addr} {l : List Int} (h : IntsOff w P A l) (hs : Stays w w' row) (hne : ∀ b, b < w.heap.size → P b → some b ≠ row) (hP : ∀ b, b < w.heap.size → P b → P' b) : IntsOff w' P' A l := by
  obtain ⟨h1, h2⟩ := h
  rcases Nat.eq_zero_or_pos l.length with h0 | h0
  · have : l = [] := List.eq_nil_of_length_eq_zero h0
    subst this
    exact ⟨⟨⟨rfl, fun h => absurd h (by decide)⟩, by simp⟩, fun h => absurd h (by decide)⟩
  · obtain ⟨ad, hA, hp⟩ := h2 h0
    obtain ⟨⟨hlen, hrd⟩, hl⟩ := h1
    obtain ⟨ad', hA', hb, hc⟩ := hrd h0
    obtain rfl : ad = ad' := Option.some.inj (hA.symm.trans hA')
    refine ⟨⟨⟨hlen, fun _ => ⟨ad, hA, Nat.lt_of_lt_of_le hb hs.1, fun j u hu => ?_⟩⟩, hl⟩, fun _ => ⟨ad, hA, hP _ hb hp⟩⟩
    exact (hs.2 _ (by rw [block_of_add]; exact hb) (by rw [block_of_add]; exact hne _ hb hp)).trans (hc j u hu)

/-- The cells cs are those of the elements xs. -/
inductive ElsIn {X : Type} (f : X → El) (w : World) (P : Nat → Prop) : List Value → List X → Prop
  | nil : ElsIn f w P [] []
  | snoc {cs : List Value} {xs : List X} {x : X} {A : Option Addr} (c : Nat) : ElsIn f w P cs xs → IntsOff w P A (f x).nums → ElsIn f w P (cs ++ (f x).cells A c) (xs ++ [x])
section
variable {X : Type} {f : X → El}
theorem ElsIn.stay {w w' : World} {row : Option Nat} {P P' : Nat → Prop} {cs : List Value} {xs : List X} (h : ElsIn f w P cs xs) (hs : Stays w w' row) (hne : ∀ b, b < w.heap.size → P b → some b ≠ row) (hP : ∀ b, b < w.heap.size → P b → P' b) : ElsIn f w' P' cs xs := by
  induction h with
  | nil => exact .nil
  | snoc c _ hi ih => exact .snoc c ih (hi.stay hs hne hP)
theorem ElsIn.at_ {s : Nat} (hs : ∀ x A c, ((f x).cells A c).length = s) {w : World} {P : Nat → Prop} {cs : List Value} {xs : List X} (h : ElsIn f w P cs xs) :
    cs.length = xs.length * s ∧ ∀ (i : Nat) x, xs[i]? = some x → ∃ A c, IntsOff w P A (f x).nums ∧ ∀ (j : Nat) u, ((f x).cells A c)[j]? = some u → cs[i * s + j]? = some u := by
  induction h with
  | nil => exact ⟨by simp, fun i x hi => by simp at hi⟩
  | @snoc cs xs x A c _ hi ih =>
    obtain ⟨h1, h2⟩ := ih
    refine ⟨by rw [List.length_append, hs, h1, List.length_append, Nat.add_mul]; simp, fun i y hy => ?_⟩
    rcases Nat.lt_or_ge i xs.length with hlt | hge
    · rw [List.getElem?_append_left hlt] at hy
      obtain ⟨A', c', h3, h4⟩ := h2 i y hy
      refine ⟨A', c', h3, fun j u hu => ?_⟩
      have hj : j < s := by rw [← hs y A' c']; exact (List.getElem?_eq_some_iff.1 hu).1
      rw [List.getElem?_append_left, h4 j u hu]
      rw [h1]
      have : (i + 1) * s ≤ xs.length * s := Nat.mul_le_mul_right _ hlt
      rw [Nat.succ_mul] at this
      omega
    · rw [List.getElem?_append_right hge] at hy
      rcases Nat.eq_or_lt_of_le hge with rfl | hlt
      · rw [Nat.sub_self] at hy
        simp at hy
        subst hy
        refine ⟨A, c, hi, fun j u hu => ?_⟩
        rw [List.getElem?_append_right (by rw [h1]; omega), h1, Nat.add_sub_cancel_left]
        exact hu
      · rw [List.getElem?_eq_none (by simp; omega)] at hy; cases hy
/-- The elements, read. -/
theorem ElsIn.row {r : Rd X} {w : World} {base c : Nat} {e : TypeId} {A : Option Addr} {P : Nat → Prop} {cs : List Value} {xs : List X} (h : ElsIn f w P cs xs) (hs : ∀ x A c, ((f x).cells A c).length = r.size)
    (hown : w.ownsRow base e r.size (.slice A xs.length c) xs.length cs) (hr : ∀ x ∈ xs, ∀ A c, Ints w w.heap.size A (f x).nums → r.at_ w w.heap.size ((f x).cells A c) x) (hl : xs.length ≤ 17592186043904) : RowAt r w w.heap.size A xs := by
  obtain ⟨_, h2⟩ := h.at_ hs
  refine ⟨hl, fun i x hi => ?_⟩
  obtain ⟨A', c', h3, h4⟩ := h2 i x hi
  rcases hown.2 with ⟨h5, h6⟩ | ⟨g, cap, cur, h5, h6, h7, h8⟩
  · have := (List.getElem?_eq_some_iff.1 hi).1
    omega
  · injection h5 with h5 _ _
    subst h5
    exact ⟨⟨g, 0, none⟩, _, rfl, (Array.getElem?_eq_some_iff.1 h7).1, hr x (List.mem_of_getElem? hi) A' c' h3.1, fun j u hu => hown.cells (g := g) rfl _ _ (h4 j u hu)⟩
end
/-- Rows of numbers. -/
def elL (l : List Int) : El := ⟨[], l, []⟩
theorem ElsIn.rows2 {w : World} {base c : Nat} {e : TypeId} {A : Option Addr} {P : Nat → Prop} {cs : List Value} {ls : List (List Int)} (h : ElsIn elL w P cs ls) (hown : w.ownsRow base e 1 (.slice A ls.length c) ls.length cs) (hl : ls.length ≤ 17592186043904) : Rows2 w w.heap.size A ls := by
  obtain ⟨_, h2⟩ := h.at_ (s := 1) (fun x A c => rfl)
  refine ⟨hl, cs, Reads.of_own hown, fun i l hi => ?_⟩
  obtain ⟨A', c', h3, h4⟩ := h2 i l hi
  refine ⟨A', c', ?_, h3.1⟩
  have := h4 0 _ rfl
  rw [Nat.mul_one, Nat.add_zero] at this
  exact this
end Go.Proofs.YtceceomaheobhaaDoor.els

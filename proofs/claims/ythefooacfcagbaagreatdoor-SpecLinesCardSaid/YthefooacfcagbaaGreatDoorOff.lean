/- Rows of the call's own whose elements lead to other rows, nested to any depth. Portable. -/
import Derived.Test.YthefooacfcagbaaGreatDoorBase
namespace Go.Proofs.YthefooacfcagbaaGreatDoor.off
open Go.RowKit
open Go.Proofs.YthefooacfcagbaaGreatDoor.lib Go.Proofs.YthefooacfcagbaaGreatDoor.rd Go.Proofs.YthefooacfcagbaaGreatDoor.app Go.Proofs.YthefooacfcagbaaGreatDoor.els
set_option linter.unusedVariables false

theorem intsOff_keep {w w' : World} {P P' : Nat → Prop} {A : Option Addr} {l : List Int} (h : IntsOff w P A l) (hs : w.heap.size ≤ w'.heap.size) (hk : ∀ b, b < w.heap.size → P b → P' b ∧ w'.heap[b]? = w.heap[b]?) : IntsOff w' P' A l := by
  obtain ⟨h1, h2⟩ := h
  rcases Nat.eq_zero_or_pos l.length with h0 | h0
  · have : l = [] := List.eq_nil_of_length_eq_zero h0
    subst this
    exact ⟨⟨⟨rfl, fun h => absurd h (by decide)⟩, by simp⟩, fun h => absurd h (by decide)⟩
  · obtain ⟨ad, hA, hp⟩ := h2 h0
    obtain ⟨⟨hlen, hrd⟩, hl⟩ := h1
    obtain ⟨ad', hA', hb, hc⟩ := hrd h0
    obtain rfl : ad = ad' := Option.some.inj (hA.symm.trans hA')
    obtain ⟨k1, k2⟩ := hk _ hb hp
    refine ⟨⟨⟨hlen, fun _ => ⟨ad, hA, Nat.lt_of_lt_of_le hb hs, fun j u hu => ?_⟩⟩, hl⟩, fun _ => ⟨ad, hA, k1⟩⟩
    exact (World.cell?_of_block (by rw [block_of_add]; exact k2)).trans (hc j u hu)
/-- An element's cells, and where they lead to: blocks of which P holds. -/
structure Off (X : Type) where
  rd : Rd X
  at_ : World → (Nat → Prop) → List Value → X → Prop
  read : ∀ {w : World} {P : Nat → Prop} {cs : List Value} {x : X}, at_ w P cs x → rd.at_ w w.heap.size cs x
  keep : ∀ {w w' : World} {P P' : Nat → Prop} {cs : List Value} {x : X}, at_ w P cs x → w.heap.size ≤ w'.heap.size → (∀ b, b < w.heap.size → P b → P' b ∧ w'.heap[b]? = w.heap[b]?) → at_ w' P' cs x
def oInt : Off Int where
  rd := rInt
  at_ _ _ cs x := cs = [.int .i64 x] ∧ -9223372036854775808 ≤ x ∧ x ≤ 9223372036854775807
  read h := h
  keep h _ _ := h
def oBool : Off Bool where
  rd := rBool
  at_ _ _ cs x := cs = [.bool x]
  read h := h
  keep h _ _ := h
def oStr : Off ByteArray where
  rd := rStr
  at_ _ _ cs x := cs = [.string x] ∧ x.size ≤ 140737488351232
  read h := h
  keep h _ _ := h
def oInts : Off (List Int) where
  rd := rInts
  at_ w P cs x := ∃ A c, cs = [.slice A x.length c] ∧ IntsOff w P A x
  read h := by obtain ⟨A, c, h1, h2⟩ := h; exact ⟨A, c, h1, h2.1⟩
  keep h hs hk := by obtain ⟨A, c, h1, h2⟩ := h; exact ⟨A, c, h1, intsOff_keep h2 hs hk⟩
def oPair {X Y : Type} (r : Off X) (q : Off Y) : Off (X × Y) where
  rd := rPair r.rd q.rd
  at_ w P cs x := ∃ a b, cs = a ++ b ∧ r.at_ w P a x.1 ∧ q.at_ w P b x.2
  read h := by obtain ⟨a, b, h0, h1, h2⟩ := h; exact ⟨a, b, h0, r.read h1, q.read h2⟩
  keep h hs hk := by obtain ⟨a, b, h0, h1, h2⟩ := h; exact ⟨a, b, h0, r.keep h1 hs hk, q.keep h2 hs hk⟩
def oMap {X Y : Type} (r : Off X) (f : X → Y) : Off Y where
  rd := rMap r.rd f
  at_ w P cs y := ∃ x, f x = y ∧ r.at_ w P cs x
  read h := by obtain ⟨x, h0, h1⟩ := h; exact ⟨x, h0, r.read h1⟩
  keep h hs hk := by obtain ⟨x, h0, h1⟩ := h; exact ⟨x, h0, r.keep h1 hs hk⟩
theorem Off.weak {X : Type} (r : Off X) {w : World} {P P' : Nat → Prop} {cs : List Value} {x : X} (h : r.at_ w P cs x) (hP : ∀ b, b < w.heap.size → P b → P' b) : r.at_ w P' cs x := r.keep h (Nat.le_refl _) (fun b hb hp => ⟨hP b hb hp, rfl⟩)
theorem Off.below {X : Type} (r : Off X) {w w' : World} {P : Nat → Prop} {cs : List Value} {x : X} (h : r.at_ w P cs x) (hb : Below w.heap.size w w') : r.at_ w' P cs x := r.keep h hb.size (fun b hl hp => ⟨hp, hb.block b hl⟩)
/-- A row in blocks of which P holds. -/
def RowOff {X : Type} (r : Off X) (w : World) (P : Nat → Prop) (A : Option Addr) (l : List X) : Prop :=
  l.length ≤ 17592186043904 ∧ ∀ (i : Nat) (x : X), l[i]? = some x → ∃ ad cs, A = some ad ∧ P ad.block ∧ ad.block < w.heap.size ∧ r.at_ w P cs x ∧ ∀ (j : Nat) (u : Value), cs[j]? = some u → w.cell? (ad.add (i * r.rd.size + j)) = some u
section
variable {X : Type} {r : Off X} {w w' : World} {P P' : Nat → Prop} {A : Option Addr} {l : List X}
theorem RowOff.nil : RowOff r w P none [] := ⟨by simp, fun i x h => by simp at h⟩
theorem RowOff.row (h : RowOff r w P A l) : RowAt r.rd w w.heap.size A l := ⟨h.1, fun i x hi => by
  obtain ⟨ad, cs, h1, h2, h3, h4, h5⟩ := h.2 i x hi
  exact ⟨ad, cs, h1, h3, r.read h4, h5⟩⟩
theorem RowOff.keep (h : RowOff r w P A l) (hs : w.heap.size ≤ w'.heap.size) (hk : ∀ b, b < w.heap.size → P b → P' b ∧ w'.heap[b]? = w.heap[b]?) : RowOff r w' P' A l := ⟨h.1, fun i x hi => by
  obtain ⟨ad, cs, h1, h2, h3, h4, h5⟩ := h.2 i x hi
  obtain ⟨k1, k2⟩ := hk _ h3 h2
  exact ⟨ad, cs, h1, k1, Nat.lt_of_lt_of_le h3 hs, r.keep h4 hs hk, fun j u hu => (World.cell?_of_block (by rw [block_of_add]; exact k2)).trans (h5 j u hu)⟩⟩
theorem RowOff.below (h : RowOff r w P A l) (hb : Below w.heap.size w w') : RowOff r w' P A l := h.keep hb.size (fun b hl hp => ⟨hp, hb.block b hl⟩)
theorem RowOff.weak (h : RowOff r w P A l) (hP : ∀ b, b < w.heap.size → P b → P' b) : RowOff r w P' A l := h.keep (Nat.le_refl _) (fun b hb hp => ⟨hP b hb hp, rfl⟩)
end
def oSlice {X : Type} (r : Off X) : Off (List X) where
  rd := rSlice r.rd
  at_ w P cs l := ∃ A c, cs = [.slice A l.length c] ∧ RowOff r w P A l
  read h := by obtain ⟨A, c, h1, h2⟩ := h; exact ⟨A, c, h1, h2.row⟩
  keep h hs hk := by obtain ⟨A, c, h1, h2⟩ := h; exact ⟨A, c, h1, h2.keep hs hk⟩
/-- The cells cs are those of the elements xs. -/
def EG {X : Type} (r : Off X) (w : World) (P : Nat → Prop) (cs : List Value) (xs : List X) : Prop :=
  cs.length = xs.length * r.rd.size ∧ ∀ (i : Nat) (x : X), xs[i]? = some x → r.at_ w P ((cs.drop (i * r.rd.size)).take r.rd.size) x
section
variable {X : Type} {r : Off X} {w w' : World} {P P' : Nat → Prop} {cs : List Value} {xs : List X}
theorem mul_lt_end {i n s : Nat} (h : i < n) : i * s + s ≤ n * s := by
  have := Nat.mul_le_mul_right s h
  rw [Nat.succ_mul] at this
  exact this
theorem EG.nil : EG r w P [] [] := ⟨by simp, fun i x h => by simp at h⟩
theorem EG.snoc (h : EG r w P cs xs) {c : List Value} {x : X} (hx : r.at_ w P c x) : EG r w P (cs ++ c) (xs ++ [x]) := by
  have hl : c.length = r.rd.size := r.rd.len (r.read hx)
  refine ⟨by rw [List.length_append, List.length_append, h.1, hl, Nat.add_mul]; simp, fun i y hy => ?_⟩
  rcases Nat.lt_or_ge i xs.length with hi | hi
  · rw [List.getElem?_append_left hi] at hy
    have hm := mul_lt_end (s := r.rd.size) hi
    rw [List.drop_append_of_le_length (by rw [h.1]; omega), List.take_append_of_le_length (by rw [List.length_drop, h.1]; omega)]
    exact h.2 i y hy
  · rw [List.getElem?_append_right hi] at hy
    rcases Nat.eq_or_lt_of_le hi with rfl | hlt
    · rw [Nat.sub_self] at hy
      simp at hy
      subst hy
      rw [← h.1, List.drop_append_of_le_length (Nat.le_refl _), List.drop_length, List.nil_append, List.take_of_length_le (by omega)]
      exact hx
    · rw [List.getElem?_eq_none (by simp; omega)] at hy
      cases hy
theorem EG.keep (h : EG r w P cs xs) (hs : w.heap.size ≤ w'.heap.size) (hk : ∀ b, b < w.heap.size → P b → P' b ∧ w'.heap[b]? = w.heap[b]?) : EG r w' P' cs xs := ⟨h.1, fun i x hi => r.keep (h.2 i x hi) hs hk⟩
theorem EG.below (h : EG r w P cs xs) (hb : Below w.heap.size w w') : EG r w' P cs xs := h.keep hb.size (fun b hl hp => ⟨hp, hb.block b hl⟩)
theorem EG.weak (h : EG r w P cs xs) (hP : ∀ b, b < w.heap.size → P b → P' b) : EG r w P' cs xs := h.keep (Nat.le_refl _) (fun b hb hp => ⟨hP b hb hp, rfl⟩)
theorem EG.at_ (h : EG r w P cs xs) {i : Nat} {x : X} (hi : xs[i]? = some x) : ∃ c, r.at_ w P c x ∧ c.length = r.rd.size ∧ ∀ (j : Nat) u, c[j]? = some u → cs[i * r.rd.size + j]? = some u := by
  have hx := h.2 i x hi
  have hl := r.rd.len (r.read hx)
  refine ⟨_, hx, hl, fun j u hu => ?_⟩
  rw [List.getElem?_take] at hu
  split at hu
  · rwa [List.getElem?_drop] at hu
  · cases hu
/-- One cell of one element is written. -/
theorem EG.mod (h : EG r w P cs xs) {i j : Nat} {x' : X} (hi : i < xs.length) (hj : j < r.rd.size) {u : Value} (hx : r.at_ w P (((cs.drop (i * r.rd.size)).take r.rd.size).set j u) x') : EG r w P (cs.set (i * r.rd.size + j) u) (xs.set i x') := by
  refine ⟨by rw [List.length_set, List.length_set]; exact h.1, fun k y hk => ?_⟩
  rw [List.getElem?_set] at hk
  by_cases hik : i = k
  · subst hik
    rw [if_pos rfl, if_pos hi] at hk
    cases hk
    have e : (List.take r.rd.size (List.drop (i * r.rd.size) (cs.set (i * r.rd.size + j) u))) = (List.take r.rd.size (List.drop (i * r.rd.size) cs)).set j u := by
      apply List.ext_getElem?
      intro n
      rw [List.getElem?_take, List.getElem?_drop, List.getElem?_set, List.getElem?_set, List.length_take, List.length_drop, List.getElem?_take, List.getElem?_drop]
      have hm := mul_lt_end (s := r.rd.size) hi
      have hc := h.1
      by_cases hn : n < r.rd.size
      · rw [if_pos hn, if_pos hn]
        by_cases hjn : j = n
        · subst hjn
          rw [if_pos rfl, if_pos rfl, if_pos (by omega), if_pos (by omega)]
        · rw [if_neg (by omega), if_neg hjn]
      · rw [if_neg hn, if_neg (by omega), if_neg hn]
    rw [e]
    exact hx
  · rw [if_neg hik] at hk
    have hkl := (List.getElem?_eq_some_iff.1 hk).1
    have e : (List.take r.rd.size (List.drop (k * r.rd.size) (cs.set (i * r.rd.size + j) u))) = (List.take r.rd.size (List.drop (k * r.rd.size) cs)) := by
      apply List.ext_getElem?
      intro n
      rw [List.getElem?_take, List.getElem?_drop, List.getElem?_set, List.getElem?_take, List.getElem?_drop]
      by_cases hn : n < r.rd.size
      · rw [if_pos hn, if_pos hn, if_neg]
        intro e
        rcases Nat.lt_or_ge i k with hlt | hge
        · have := mul_lt_end (s := r.rd.size) hlt
          omega
        · have := mul_lt_end (s := r.rd.size) (show k < i by omega)
          omega
      · rw [if_neg hn, if_neg hn]
    rw [e]
    exact h.2 k y hk
theorem EG.push {v : Value} {g : Nat} {Q : Nat → Prop} {c : List Value} {x : X} (hE : EG r w (fun b => some b ≠ v.ownBlock ∧ Q b) cs xs) (hI : r.at_ w (fun b => some b ≠ v.ownBlock ∧ Q b) c x) (hg : w.grownBy w' v.ownBlock) (hg' : v.ownBlock = some g ∨ w.heap.size ≤ g) :
    EG r w' (fun b => some b ≠ some g ∧ Q b) (cs ++ c) (xs ++ [x]) := by
  have hk : ∀ b, b < w.heap.size → (some b ≠ v.ownBlock ∧ Q b) → (some b ≠ some g ∧ Q b) ∧ w'.heap[b]? = w.heap[b]? := fun b hb hp => ⟨⟨fun e => by
    injection e with e
    subst e
    rcases hg' with h | h
    · exact hp.1 h.symm
    · omega, hp.2⟩, hg.block b hb hp.1⟩
  exact (hE.keep hg.size hk).snoc (r.keep hI hg.size hk)
section
variable {base c : Nat} {e : TypeId} {A : Option Addr} (hown : w.ownsRow base e r.rd.size (.slice A xs.length c) xs.length cs)
include hown
/-- The elements, read. -/
theorem EG.row (h : EG r w P cs xs) (hl : xs.length ≤ 17592186043904) : RowAt r.rd w w.heap.size A xs := by
  refine ⟨hl, fun i x hi => ?_⟩
  obtain ⟨cc, h3, h4, h5⟩ := h.at_ hi
  rcases hown.2 with ⟨h6, h7⟩ | ⟨g, cap, cur, h6, h7, h8, h9⟩
  · have := (List.getElem?_eq_some_iff.1 hi).1
    omega
  · injection h6 with h6 _ _
    subst h6
    exact ⟨⟨g, 0, none⟩, cc, rfl, (Array.getElem?_eq_some_iff.1 h8).1, r.read h3, fun j u hu => hown.cells (g := g) rfl _ _ (h5 j u hu)⟩
theorem EG.off {Q : Nat → Prop} (h : EG r w P cs xs) (hl : xs.length ≤ 17592186043904) (hP : ∀ b, b < w.heap.size → P b → Q b) (hQ : ∀ b, base ≤ b → Q b) : RowOff r w Q A xs := by
  refine ⟨hl, fun i x hi => ?_⟩
  obtain ⟨cc, h3, h4, h5⟩ := h.at_ hi
  rcases hown.2 with ⟨h6, h7⟩ | ⟨g, cap, cur, h6, h7, h8, h9⟩
  · have := (List.getElem?_eq_some_iff.1 hi).1
    omega
  · injection h6 with h6 _ _
    subst h6
    exact ⟨⟨g, 0, none⟩, cc, rfl, hQ g h7, (Array.getElem?_eq_some_iff.1 h8).1, r.weak h3 hP, fun j u hu => hown.cells (g := g) rfl _ _ (h5 j u hu)⟩
end
end
/-- Rows of numbers. -/
theorem RowOff.rows2 {w : World} {P : Nat → Prop} {A : Option Addr} {ls : List (List Int)} (h : RowOff oInts w P A ls) : Rows2 w w.heap.size A ls := by
  refine ⟨h.1, ?_⟩
  have hc : ∃ vs : List Value, vs.length = ls.length ∧ ∀ (i : Nat) v, vs[i]? = some v → ∀ l, ls[i]? = some l → ∃ Ai ci, v = .slice Ai l.length ci ∧ Ints w w.heap.size Ai l ∧ ∃ ad, A = some ad ∧ ad.block < w.heap.size ∧ w.cell? (ad.add i) = some v := by
    refine choose_list (p := fun i v => ∀ l, ls[i]? = some l → ∃ Ai ci, v = .slice Ai l.length ci ∧ Ints w w.heap.size Ai l ∧ ∃ ad, A = some ad ∧ ad.block < w.heap.size ∧ w.cell? (ad.add i) = some v) fun i hi => ?_
    obtain ⟨ad, cs, h1, h2, h3, ⟨Ai, ci, rfl, h4⟩, h5⟩ := h.2 i _ (List.getElem?_eq_getElem hi)
    refine ⟨.slice Ai ls[i].length ci, fun l hl => ?_⟩
    rw [List.getElem?_eq_getElem hi] at hl
    cases hl
    have := h5 0 _ rfl
    rw [show oInts.rd.size = 1 from rfl, Nat.mul_one, Nat.add_zero] at this
    exact ⟨Ai, ci, rfl, h4.1, ad, h1, h3, this⟩
  obtain ⟨vs, hv, hp⟩ := hc
  refine ⟨vs, ⟨by omega, fun hn => ?_⟩, fun i l hl => ?_⟩
  · obtain ⟨ad, cs, h1, h2, h3, _⟩ := h.2 0 _ (List.getElem?_eq_getElem hn)
    refine ⟨ad, h1, h3, fun j u hu => ?_⟩
    have hj : j < ls.length := by rw [← hv]; exact (List.getElem?_eq_some_iff.1 hu).1
    obtain ⟨_, _, _, _, ad', e, _, h6⟩ := hp j u hu _ (List.getElem?_eq_getElem hj)
    obtain rfl : ad = ad' := Option.some.inj (h1.symm.trans e)
    exact h6
  · have hi := (List.getElem?_eq_some_iff.1 hl).1
    have hvi : vs[i]? = some (vs[i]'(by omega)) := List.getElem?_eq_getElem (by omega)
    obtain ⟨Ai, ci, e, h6, _⟩ := hp i _ hvi l hl
    exact ⟨Ai, ci, by rw [hvi, e], h6⟩
end Go.Proofs.YthefooacfcagbaaGreatDoor.off

/- Joined texts: Off ShaT LoadW SplG SplI FitW RouT SplH CatS SplL. -/
import Derived.Test.YtceceomaheobhaaGreatDoorBase
import Derived.Deep.RegionWith
import Derived.Deep.RegionHeld3
import Derived.Deep.DrawnRows
import Derived.Deep.DeepMust
import Derived.Test.YtceceomaheobhaaGreatDoorZ3
import Derived.Deep.DeepCutAuto
import Derived.Test.YtceceomaheobhaaGreatDoorSpQ
import Derived.Deep.QuietTactic
import Derived.BigQuiet
import Derived.Test.YtceceomaheobhaaGreatDoorZ4
import Derived.Lib.AppendZeros
import Derived.Outline
/- Rows of the call's own whose elements lead to other rows, nested to any depth. Portable. -/
namespace Go.Proofs.YtceceomaheobhaaGreatDoor.off
open Go.RowKit
open Go.Proofs.YtceceomaheobhaaGreatDoor.lib Go.Proofs.YtceceomaheobhaaGreatDoor.rd Go.Proofs.YtceceomaheobhaaGreatDoor.app Go.Proofs.YtceceomaheobhaaGreatDoor.els
set_option linter.unusedVariables false

theorem intsOff_keep {w w' : World} {P P' : Nat → Prop} {A : Option Addr} {l : List Int} (h : IntsOff w P A l) (hs : w.heap.size ≤ w'.heap.size) (hk : ∀ b, b < w.heap.size → P b → P' b ∧ w'.heap[b]? = w.heap[b]?) : IntsOff w' P' A l := by
  obtain ⟨h1, h2⟩ := h
  rcases Nat.eq_zero_or_pos l.length with h0 | h0
  · have : l = [] := List.eq_nil_of_length_eq_zero h0
    subst this
    exact ⟨⟨⟨rfl, fun h => absurd h (by decide)⟩, by simp⟩, fun h => absurd h (by decide)⟩
  · obtain ⟨ad, hA, hp⟩ := h2 h0
    obtain ⟨⟨hlen, hrd⟩, hl⟩ := h1
    obtain ⟨ad', hA', hb, hc⟩ := hrd h0
    obtain rfl : ad = ad' := Option.some.inj (hA.symm.trans hA')
    obtain ⟨k1, k2⟩ := hk _ hb hp
    refine ⟨⟨⟨hlen, fun _ => ⟨ad, hA, Nat.lt_of_lt_of_le hb hs, fun j u hu => ?_⟩⟩, hl⟩, fun _ => ⟨ad, hA, k1⟩⟩
    exact (World.cell?_of_block (by rw [block_of_add]; exact k2)).trans (hc j u hu)
/-- An element's cells, and where they lead to: blocks of which P holds. -/
structure Off (X : Type) where
  rd : Rd X
  at_ : World → (Nat → Prop) → List Value → X → Prop
  read : ∀ {w : World} {P : Nat → Prop} {cs : List Value} {x : X}, at_ w P cs x → rd.at_ w w.heap.size cs x
  keep : ∀ {w w' : World} {P P' : Nat → Prop} {cs : List Value} {x : X}, at_ w P cs x → w.heap.size ≤ w'.heap.size → (∀ b, b < w.heap.size → P b → P' b ∧ w'.heap[b]? = w.heap[b]?) → at_ w' P' cs x
def oInt : Off Int where
  rd := rInt
  at_ _ _ cs x := cs = [.int .i64 x] ∧ -9223372036854775808 ≤ x ∧ x ≤ 9223372036854775807
  read h := h
  keep h _ _ := h
def oBool : Off Bool where
  rd := rBool
  at_ _ _ cs x := cs = [.bool x]
  read h := h
  keep h _ _ := h
def oStr : Off ByteArray where
  rd := rStr
  at_ _ _ cs x := cs = [.string x] ∧ x.size ≤ 140737488351232
  read h := h
  keep h _ _ := h
def oInts : Off (List Int) where
  rd := rInts
  at_ w P cs x := ∃ A c, cs = [.slice A x.length c] ∧ IntsOff w P A x
  read h := by obtain ⟨A, c, h1, h2⟩ := h; exact ⟨A, c, h1, h2.1⟩
  keep h hs hk := by obtain ⟨A, c, h1, h2⟩ := h; exact ⟨A, c, h1, intsOff_keep h2 hs hk⟩
def oPair {X Y : Type} (r : Off X) (q : Off Y) : Off (X × Y) where
  rd := rPair r.rd q.rd
  at_ w P cs x := ∃ a b, cs = a ++ b ∧ r.at_ w P a x.1 ∧ q.at_ w P b x.2
  read h := by obtain ⟨a, b, h0, h1, h2⟩ := h; exact ⟨a, b, h0, r.read h1, q.read h2⟩
  keep h hs hk := by obtain ⟨a, b, h0, h1, h2⟩ := h; exact ⟨a, b, h0, r.keep h1 hs hk, q.keep h2 hs hk⟩
def oMap {X Y : Type} (r : Off X) (f : X → Y) : Off Y where
  rd := rMap r.rd f
  at_ w P cs y := ∃ x, f x = y ∧ r.at_ w P cs x
  read h := by obtain ⟨x, h0, h1⟩ := h; exact ⟨x, h0, r.read h1⟩
  keep h hs hk := by obtain ⟨x, h0, h1⟩ := h; exact ⟨x, h0, r.keep h1 hs hk⟩
theorem Off.weak {X : Type} (r : Off X) {w : World} {P P' : Nat → Prop} {cs : List Value} {x : X} (h : r.at_ w P cs x) (hP : ∀ b, b < w.heap.size → P b → P' b) : r.at_ w P' cs x := r.keep h (Nat.le_refl _) (fun b hb hp => ⟨hP b hb hp, rfl⟩)
theorem Off.below {X : Type} (r : Off X) {w w' : World} {P : Nat → Prop} {cs : List Value} {x : X} (h : r.at_ w P cs x) (hb : Below w.heap.size w w') : r.at_ w' P cs x := r.keep h hb.size (fun b hl hp => ⟨hp, hb.block b hl⟩)
/-- A row in blocks of which P holds. -/
def RowOff {X : Type} (r : Off X) (w : World) (P : Nat → Prop) (A : Option Addr) (l : List X) : Prop :=
  l.length ≤ 17592186043904 ∧ ∀ (i : Nat) (x : X), l[i]? = some x → ∃ ad cs, A = some ad ∧ P ad.block ∧ ad.block < w.heap.size ∧ r.at_ w P cs x ∧ ∀ (j : Nat) (u : Value), cs[j]? = some u → w.cell? (ad.add (i * r.rd.size + j)) = some u
section
variable {X : Type} {r : Off X} {w w' : World} {P P' : Nat → Prop} {A : Option Addr} {l : List X}
theorem RowOff.nil : RowOff r w P none [] := ⟨by simp, fun i x h => by simp at h⟩
theorem RowOff.row (h : RowOff r w P A l) : RowAt r.rd w w.heap.size A l := ⟨h.1, fun i x hi => by
  obtain ⟨ad, cs, h1, h2, h3, h4, h5⟩ := h.2 i x hi
  exact ⟨ad, cs, h1, h3, r.read h4, h5⟩⟩
theorem RowOff.keep (h : RowOff r w P A l) (hs : w.heap.size ≤ w'.heap.size) (hk : ∀ b, b < w.heap.size → P b → P' b ∧ w'.heap[b]? = w.heap[b]?) : RowOff r w' P' A l := ⟨h.1, fun i x hi => by
  obtain ⟨ad, cs, h1, h2, h3, h4, h5⟩ := h.2 i x hi
  obtain ⟨k1, k2⟩ := hk _ h3 h2
  exact ⟨ad, cs, h1, k1, Nat.lt_of_lt_of_le h3 hs, r.keep h4 hs hk, fun j u hu => (World.cell?_of_block (by rw [block_of_add]; exact k2)).trans (h5 j u hu)⟩⟩
theorem RowOff.below (h : RowOff r w P A l) (hb : Below w.heap.size w w') : RowOff r w' P A l := h.keep hb.size (fun b hl hp => ⟨hp, hb.block b hl⟩)
theorem RowOff.weak (h : RowOff r w P A l) (hP : ∀ b, b < w.heap.size → P b → P' b) : RowOff r w P' A l := h.keep (Nat.le_refl _) (fun b hb hp => ⟨hP b hb hp, rfl⟩)
end
def oSlice {X : Type} (r : Off X) : Off (List X) where
  rd := rSlice r.rd
  at_ w P cs l := ∃ A c, cs = [.slice A l.length c] ∧ RowOff r w P A l
  read h := by obtain ⟨A, c, h1, h2⟩ := h; exact ⟨A, c, h1, h2.row⟩
  keep h hs hk := by obtain ⟨A, c, h1, h2⟩ := h; exact ⟨A, c, h1, h2.keep hs hk⟩
/-- The cells cs are those of the elements xs. -/
def EG {X : Type} (r : Off X) (w : World) (P : Nat → Prop) (cs : List Value) (xs : List X) : Prop :=
  cs.length = xs.length * r.rd.size ∧ ∀ (i : Nat) (x : X), xs[i]? = some x → r.at_ w P ((cs.drop (i * r.rd.size)).take r.rd.size) x
section
variable {X : Type} {r : Off X} {w w' : World} {P P' : Nat → Prop} {cs : List Value} {xs : List X}
theorem mul_lt_end {i n s : Nat} (h : i < n) : i * s + s ≤ n * s := by
  have := Nat.mul_le_mul_right s h
  rw [Nat.succ_mul] at this
  exact this
theorem EG.nil : EG r w P [] [] := ⟨by simp, fun i x h => by simp at h⟩
theorem EG.snoc (h : EG r w P cs xs) {c : List Value} {x : X} (hx : r.at_ w P c x) : EG r w P (cs ++ c) (xs ++ [x]) := by
  have hl : c.length = r.rd.size := r.rd.len (r.read hx)
  refine ⟨by rw [List.length_append, List.length_append, h.1, hl, Nat.add_mul]; simp, fun i y hy => ?_⟩
  rcases Nat.lt_or_ge i xs.length with hi | hi
  · rw [List.getElem?_append_left hi] at hy
    have hm := mul_lt_end (s := r.rd.size) hi
    rw [List.drop_append_of_le_length (by rw [h.1]; omega), List.take_append_of_le_length (by rw [List.length_drop, h.1]; omega)]
    exact h.2 i y hy
  · rw [List.getElem?_append_right hi] at hy
    rcases Nat.eq_or_lt_of_le hi with rfl | hlt
    · rw [Nat.sub_self] at hy
      simp at hy
      subst hy
      rw [← h.1, List.drop_append_of_le_length (Nat.le_refl _), List.drop_length, List.nil_append, List.take_of_length_le (by omega)]
      exact hx
    · rw [List.getElem?_eq_none (by simp; omega)] at hy
      cases hy
theorem EG.keep (h : EG r w P cs xs) (hs : w.heap.size ≤ w'.heap.size) (hk : ∀ b, b < w.heap.size → P b → P' b ∧ w'.heap[b]? = w.heap[b]?) : EG r w' P' cs xs := ⟨h.1, fun i x hi => r.keep (h.2 i x hi) hs hk⟩
theorem EG.below (h : EG r w P cs xs) (hb : Below w.heap.size w w') : EG r w' P cs xs := h.keep hb.size (fun b hl hp => ⟨hp, hb.block b hl⟩)
theorem EG.weak (h : EG r w P cs xs) (hP : ∀ b, b < w.heap.size → P b → P' b) : EG r w P' cs xs := h.keep (Nat.le_refl _) (fun b hb hp => ⟨hP b hb hp, rfl⟩)
theorem EG.at_ (h : EG r w P cs xs) {i : Nat} {x : X} (hi : xs[i]? = some x) : ∃ c, r.at_ w P c x ∧ c.length = r.rd.size ∧ ∀ (j : Nat) u, c[j]? = some u → cs[i * r.rd.size + j]? = some u := by
  have hx := h.2 i x hi
  have hl := r.rd.len (r.read hx)
  refine ⟨_, hx, hl, fun j u hu => ?_⟩
  rw [List.getElem?_take] at hu
  split at hu
  · rwa [List.getElem?_drop] at hu
  · cases hu
/-- One cell of one element is written. -/
theorem EG.mod (h : EG r w P cs xs) {i j : Nat} {x' : X} (hi : i < xs.length) (hj : j < r.rd.size) {u : Value} (hx : r.at_ w P (((cs.drop (i * r.rd.size)).take r.rd.size).set j u) x') : EG r w P (cs.set (i * r.rd.size + j) u) (xs.set i x') := by
  refine ⟨by rw [List.length_set, List.length_set]; exact h.1, fun k y hk => ?_⟩
  rw [List.getElem?_set] at hk
  by_cases hik : i = k
  · subst hik
    rw [if_pos rfl, if_pos hi] at hk
    cases hk
    have e : (List.take r.rd.size (List.drop (i * r.rd.size) (cs.set (i * r.rd.size + j) u))) = (List.take r.rd.size (List.drop (i * r.rd.size) cs)).set j u := by
      apply List.ext_getElem?
      intro n
      rw [List.getElem?_take, List.getElem?_drop, List.getElem?_set, List.getElem?_set, List.length_take, List.length_drop, List.getElem?_take, List.getElem?_drop]
      have hm := mul_lt_end (s := r.rd.size) hi
      have hc := h.1
      by_cases hn : n < r.rd.size
      · rw [if_pos hn, if_pos hn]
        by_cases hjn : j = n
        · subst hjn
          rw [if_pos rfl, if_pos rfl, if_pos (by omega), if_pos (by omega)]
        · rw [if_neg (by omega), if_neg hjn]
      · rw [if_neg hn, if_neg (by omega), if_neg hn]
    rw [e]
    exact hx
  · rw [if_neg hik] at hk
    have hkl := (List.getElem?_eq_some_iff.1 hk).1
    have e : (List.take r.rd.size (List.drop (k * r.rd.size) (cs.set (i * r.rd.size + j) u))) = (List.take r.rd.size (List.drop (k * r.rd.size) cs)) := by
      apply List.ext_getElem?
      intro n
      rw [List.getElem?_take, List.getElem?_drop, List.getElem?_set, List.getElem?_take, List.getElem?_drop]
      by_cases hn : n < r.rd.size
      · rw [if_pos hn, if_pos hn, if_neg]
        intro e
        rcases Nat.lt_or_ge i k with hlt | hge
        · have := mul_lt_end (s := r.rd.size) hlt
          omega
        · have := mul_lt_end (s := r.rd.size) (show k < i by omega)
          omega
      · rw [if_neg hn, if_neg hn]
    rw [e]
    exact h.2 k y hk
theorem EG.push {v : Value} {g : Nat} {Q : Nat → Prop} {c : List Value} {x : X} (hE : EG r w (fun b => some b ≠ v.ownBlock ∧ Q b) cs xs) (hI : r.at_ w (fun b => some b ≠ v.ownBlock ∧ Q b) c x) (hg : w.grownBy w' v.ownBlock) (hg' : v.ownBlock = some g ∨ w.heap.size ≤ g) :
    EG r w' (fun b => some b ≠ some g ∧ Q b) (cs ++ c) (xs ++ [x]) := by
  have hk : ∀ b, b < w.heap.size → (some b ≠ v.ownBlock ∧ Q b) → (some b ≠ some g ∧ Q b) ∧ w'.heap[b]? = w.heap[b]? := fun b hb hp => ⟨⟨fun e => by
    injection e with e
    subst e
    rcases hg' with h | h
    · exact hp.1 h.symm
    · omega, hp.2⟩, hg.block b hb hp.1⟩
  exact (hE.keep hg.size hk).snoc (r.keep hI hg.size hk)
section
variable {base c : Nat} {e : TypeId} {A : Option Addr} (hown : w.ownsRow base e r.rd.size (.slice A xs.length c) xs.length cs)
include hown
/-- The elements, read. -/
theorem EG.row (h : EG r w P cs xs) (hl : xs.length ≤ 17592186043904) : RowAt r.rd w w.heap.size A xs := by
  refine ⟨hl, fun i x hi => ?_⟩
  obtain ⟨cc, h3, h4, h5⟩ := h.at_ hi
  rcases hown.2 with ⟨h6, h7⟩ | ⟨g, cap, cur, h6, h7, h8, h9⟩
  · have := (List.getElem?_eq_some_iff.1 hi).1
    omega
  · injection h6 with h6 _ _
    subst h6
    exact ⟨⟨g, 0, none⟩, cc, rfl, (Array.getElem?_eq_some_iff.1 h8).1, r.read h3, fun j u hu => hown.cells (g := g) rfl _ _ (h5 j u hu)⟩
theorem EG.off {Q : Nat → Prop} (h : EG r w P cs xs) (hl : xs.length ≤ 17592186043904) (hP : ∀ b, b < w.heap.size → P b → Q b) (hQ : ∀ b, base ≤ b → Q b) : RowOff r w Q A xs := by
  refine ⟨hl, fun i x hi => ?_⟩
  obtain ⟨cc, h3, h4, h5⟩ := h.at_ hi
  rcases hown.2 with ⟨h6, h7⟩ | ⟨g, cap, cur, h6, h7, h8, h9⟩
  · have := (List.getElem?_eq_some_iff.1 hi).1
    omega
  · injection h6 with h6 _ _
    subst h6
    exact ⟨⟨g, 0, none⟩, cc, rfl, hQ g h7, (Array.getElem?_eq_some_iff.1 h8).1, r.weak h3 hP, fun j u hu => hown.cells (g := g) rfl _ _ (h5 j u hu)⟩
end
end
/-- Rows of numbers. -/
theorem RowOff.rows2 {w : World} {P : Nat → Prop} {A : Option Addr} {ls : List (List Int)} (h : RowOff oInts w P A ls) : Rows2 w w.heap.size A ls := by
  refine ⟨h.1, ?_⟩
  have hc : ∃ vs : List Value, vs.length = ls.length ∧ ∀ (i : Nat) v, vs[i]? = some v → ∀ l, ls[i]? = some l → ∃ Ai ci, v = .slice Ai l.length ci ∧ Ints w w.heap.size Ai l ∧ ∃ ad, A = some ad ∧ ad.block < w.heap.size ∧ w.cell? (ad.add i) = some v := by
    refine choose_list (p := fun i v => ∀ l, ls[i]? = some l → ∃ Ai ci, v = .slice Ai l.length ci ∧ Ints w w.heap.size Ai l ∧ ∃ ad, A = some ad ∧ ad.block < w.heap.size ∧ w.cell? (ad.add i) = some v) fun i hi => ?_
    obtain ⟨ad, cs, h1, h2, h3, ⟨Ai, ci, rfl, h4⟩, h5⟩ := h.2 i _ (List.getElem?_eq_getElem hi)
    refine ⟨.slice Ai ls[i].length ci, fun l hl => ?_⟩
    rw [List.getElem?_eq_getElem hi] at hl
    cases hl
    have := h5 0 _ rfl
    rw [show oInts.rd.size = 1 from rfl, Nat.mul_one, Nat.add_zero] at this
    exact ⟨Ai, ci, rfl, h4.1, ad, h1, h3, this⟩
  obtain ⟨vs, hv, hp⟩ := hc
  refine ⟨vs, ⟨by omega, fun hn => ?_⟩, fun i l hl => ?_⟩
  · obtain ⟨ad, cs, h1, h2, h3, _⟩ := h.2 0 _ (List.getElem?_eq_getElem hn)
    refine ⟨ad, h1, h3, fun j u hu => ?_⟩
    have hj : j < ls.length := by rw [← hv]; exact (List.getElem?_eq_some_iff.1 hu).1
    obtain ⟨_, _, _, _, ad', e, _, h6⟩ := hp j u hu _ (List.getElem?_eq_getElem hj)
    obtain rfl : ad = ad' := Option.some.inj (h1.symm.trans e)
    exact h6
  · have hi := (List.getElem?_eq_some_iff.1 hl).1
    have hvi : vs[i]? = some (vs[i]'(by omega)) := List.getElem?_eq_getElem (by omega)
    obtain ⟨Ai, ci, e, h6, _⟩ := hp i _ hvi l hl
    exact ⟨Ai, ci, by rw [hvi, e], h6⟩
end Go.Proofs.YtceceomaheobhaaGreatDoor.off

/- Shares of orders. -/
namespace Go.Proofs.YtceceomaheobhaaGreatDoor.typ
open Go.RowKit
open Go.Proofs.YtceceomaheobhaaGreatDoor.lib
open Go.Proofs.YtceceomaheobhaaGreatDoor.rd
open Go.Proofs.YtceceomaheobhaaGreatDoor.els Go.Proofs.YtceceomaheobhaaGreatDoor.off
set_option linter.unusedVariables false

structure Sha where
  order : Int
  load : List Int
def rSha : Rd Sha := rMap (rPair rInt rInts) fun x => ⟨x.1, x.2⟩
def ShaCells (t : Sha) (C0 : Option Addr) (c0 : Nat) : List Value := [.int .i64 t.order, .slice C0 t.load.length c0]
def ShaFits (t : Sha) : Prop := (-9223372036854775808 ≤ t.order ∧ t.order ≤ 9223372036854775807)
theorem rSha_at {w : World} {B : Nat} {cs : List Value} {t : Sha} (h : rSha.at_ w B cs t) : ∃ C0 c0, cs = ShaCells t C0 c0 ∧ Ints w B C0 t.load ∧ ShaFits t := by
  obtain ⟨⟨f0, f1⟩, rfl, _, _, rfl, ⟨rfl, hf0⟩, ⟨A0, d0, rfl, hr0⟩⟩ := h
  exact ⟨A0, d0, rfl, hr0, hf0⟩
theorem rSha_mk {w : World} {B : Nat} {t : Sha} {C0 : Option Addr} {c0 : Nat} (hr0 : Ints w B C0 t.load) (hf : ShaFits t) : rSha.at_ w B (ShaCells t C0 c0) t := by
  exact ⟨(t.order, t.load), rfl, _, _, rfl, ⟨rfl, hf⟩, ⟨_, _, rfl, hr0⟩⟩
set_option maxRecDepth 20000 in
theorem opens_Sha : Opens 87 rSha := opens_map _ (opens_struct Tryz.underlying87 (by kernel_rfl) (fieldsOpen_cons rfl (by kernel_rfl) (opens_int Tryz.underlying3) (fieldsOpen_one rfl (by kernel_rfl) (opens_ints Tryz.underlying38 Tryz.underlying3 (by kernel_rfl) (by rw [show Tryz.prog.bytesOf 3 = 8 by kernel_rfl]; omega)))))
/-- What lies at an element's address. -/
def ShaAt (w : World) (ea : Addr) (t : Sha) (C0 : Option Addr) (c0 : Nat) : Prop := w.cell? ea = some (.int .i64 t.order) ∧ w.cell? ⟨ea.block, ea.off + 1, none⟩ = some (.slice C0 t.load.length c0)
theorem row_Sha {w : World} {B : Nat} {A : Option Addr} {l : List Sha} (h : RowAt rSha w B A l) {i : Nat} {t : Sha} (hi : l[i]? = some t) : ∃ (ad : Addr) (C0 : Option Addr) (c0 : Nat), A = some ad ∧ ad.block < B ∧ ShaAt w (ad.add (i * 2)) t C0 c0 ∧ Ints w B C0 t.load ∧ ShaFits t := by
  obtain ⟨ad, cs, hA, hb, hr, hc⟩ := h.2 i t hi
  obtain ⟨C0, c0, rfl, hrest⟩ := rSha_at hr
  exact ⟨ad, C0, c0, hA, hb, ⟨hc 0 _ rfl, by rw [← add_split]; exact hc 1 _ rfl⟩, hrest⟩
def oSha : Off Sha := oMap (oPair oInt oInts) fun x => ⟨x.1, x.2⟩
theorem oSha_at {w : World} {P : Nat → Prop} {cs : List Value} {t : Sha} (h : oSha.at_ w P cs t) : ∃ C0 c0, cs = ShaCells t C0 c0 ∧ IntsOff w P C0 t.load ∧ ShaFits t := by
  obtain ⟨⟨f0, f1⟩, rfl, _, _, rfl, ⟨rfl, hf0⟩, ⟨A0, d0, rfl, hr0⟩⟩ := h
  exact ⟨A0, d0, rfl, hr0, hf0⟩
theorem oSha_mk {w : World} {P : Nat → Prop} {t : Sha} {C0 : Option Addr} {c0 : Nat} (hr0 : IntsOff w P C0 t.load) (hf : ShaFits t) : oSha.at_ w P (ShaCells t C0 c0) t := by
  exact ⟨(t.order, t.load), rfl, _, _, rfl, ⟨rfl, hf⟩, ⟨_, _, rfl, hr0⟩⟩


end Go.Proofs.YtceceomaheobhaaGreatDoor.typ

/- loads.Add alone: printed from LoadB, LoadC. Portable. -/
namespace Go.Proofs.YtceceomaheobhaaGreatDoor.lod
open Go.RowKit
open Go.Proofs.YtceceomaheobhaaGreatDoor.lib Go.Proofs.YtceceomaheobhaaGreatDoor.loads
set_option linter.unusedVariables false
attribute [local go_sem ↓] Go.wp_at_zero Go.wp_at_succ

theorem plus_any (x y : Int) (h : -1099511627776 ≤ x + y ∧ x + y ≤ 1099511627776) (w : World) : Calls Tryz.prog 131 #[.int .i64 x, .int .i64 y] w fun e w' => e = .returned (.int .i64 (x + y)) ∧ w = w' := by
  go_enter Tryz.func131, Tryz.ntmps131
  go_wp2
  go_ret
  exact ⟨rfl, rfl⟩
theorem far_ne {p q : Addr} (h : q.block < p.block) : q ≠ p := fun e => by subst e; omega

/-- What Add and its kin hand back: the list in new memory, or nil and an error. -/
def OutE (w : World) (l : List Int) (n : Nat) (x : Int) (e : Ending) (w' : World) : Prop :=
  ∃ A c, e = .returned (.tuple #[.slice A n c, .int .i64 x]) ∧ w'.ownsRow w.heap.size 3 1 (.slice A n c) n (l.map (.int .i64)) ∧ Below w.heap.size w w'

/-- Numbers between -m and m. -/
def InM (m : Int) (l : List Int) : Prop := ∀ x, x ∈ l → -m ≤ x ∧ x ≤ m

set_option maxHeartbeats 1000000 in
theorem combine_plus (op : Int → Int → Int) (A : Option Addr) (c : Nat) (a : List Int) (n : Nat) (hn : a.length = n) (A' : Option Addr) (c' : Nat) (b : List Int) (hm : b.length = n) (w : World) (B B' : Nat) (hB : B ≤ w.heap.size) (hB' : B' ≤ w.heap.size) (ha : Ints w B A a) (hb : Ints w B' A' b)
    (hop : ∀ x y w1, x ∈ a → y ∈ b → Calls Tryz.prog 131 #[.int .i64 x, .int .i64 y] w1 fun e w' => e = .returned (.int .i64 (op x y)) ∧ w1 = w') :
    Calls Tryz.prog 130 #[.slice A n c, .slice A' n c', .func (.func 131) #[] #[]] w (OutE w (List.zipWith op a b) n 0) := by
  have hlen := ha.len
  rw [hn] at hlen
  have HZ : Hid ((List.zipWith op a b).length = n) := Lib.hid (by rw [List.length_zipWith]; omega)
  have HN := Lib.hid hn
  have HM := Lib.hid hm
  have HOP := Lib.hid hop
  clear hn hm hop
  go_enter Tryz.func130, Tryz.ntmps130
  go_wp2_with (at_make; refine make_ints rfl _ _ rfl w.heap.size n rfl rfl (by omega) (Nat.le_refl _) ?_; intro w1 hown1 hb1 hz1)
  have hz0 := hb1.size
  go_loopw [9, 20] (fun _ i wr => ∃ k : Nat, k ≤ n ∧ i = .int .i64 k ∧ wr.ownsRow w.heap.size 3 1 (.slice (some ⟨w.heap.size, 0, none⟩) n n) n ((partL (List.zipWith op a b) n k).map (.int .i64)) ∧ Below w.heap.size w wr) (fun _ i _ => n - (intOf i).toNat)
  case atStart => exact ⟨0, by omega, rfl, by rw [partL_zero]; exact hown1, hb1⟩
  case round =>
    obtain ⟨k, hk, rfl, hown, hbel⟩ := hrel
    by_cases hlt : k < n
    · obtain ⟨ad, x, rfl, hadb, hx, hcx⟩ := (ha.below (hbel.mono hB)).at_ (k := k) (by rw [HN.out]; exact hlt)
      obtain ⟨ad', y, rfl, hadb', hy, hcy⟩ := (hb.below (hbel.mono hB')).at_ (k := k) (by rw [HM.out]; exact hlt)
      have HX := Lib.hid (partL_set HZ.out (zip_at (op := op) hx hy))
      have HC := Lib.hid (fun w1 => HOP.out x y w1 (List.mem_of_getElem? hx) (List.mem_of_getElem? hy))
      have hst := (hown.stored k (.int .i64 (op x y))).1
      rw [← List.map_set, HX.out] at hst
      have HST := Lib.hid hst
      have hfz := hown.frozenAt k
      have hck := own_cells hown k hlt
      have hk0 : (0 : Int) ≤ (k : Int) := by omega
      have hkn : (k : Int) < (n : Int) := by omega
      have hsx : ∀ u, (wr.setCell ⟨w.heap.size, k, none⟩ u).cell? (ad.add k) = some (.int .i64 x) := fun u => (World.cell?_setCell_other _ _ _ _ (Ne.symm (far_ne (p := ⟨w.heap.size, k, none⟩) (by rw [block_of_add]; show _ < w.heap.size; omega)))).trans hcx
      have hsy : ∀ u, (wr.setCell ⟨w.heap.size, k, none⟩ u).cell? (ad'.add k) = some (.int .i64 y) := fun u => (World.cell?_setCell_other _ _ _ _ (Ne.symm (far_ne (p := ⟨w.heap.size, k, none⟩) (by rw [block_of_add]; show _ < w.heap.size; omega)))).trans hcy
      clear hx hy hst
      go_wp2
      go_region_held3 (fun w' => w'.cell? (ad.add k) = some (.int .i64 x) ∧ w'.cell? (ad'.add k) = some (.int .i64 y) ∧ w'.frozen? ⟨w.heap.size, k, none⟩ = false) (go_keep)
        ((go_at_call 131; refine (HC.out _).mono ?_; rintro e w' ⟨rfl, rfl⟩))
      go_wp2
      go_roundw
      case rel => exact ⟨k + 1, by omega, by go_num, HST.out, hbel.drew.setCell (p := ⟨w.heap.size, _, none⟩) (Nat.le_refl _) _⟩
      case measure => simp [intOf]; omega
    · have hkn : k = n := by omega
      subst hkn
      clear hlt
      rw [partL_full HZ.out] at hown
      go_wp2
      go_ret2
      exact ⟨_, _, rfl, hown, hbel⟩

theorem add_eq (A : Option Addr) (c : Nat) (a : List Int) (n : Nat) (hn : a.length = n) (A' : Option Addr) (c' : Nat) (b : List Int) (hm : b.length = n) (w : World) (B B' : Nat) (hB : B ≤ w.heap.size) (hB' : B' ≤ w.heap.size) (ha : Ints w B A a) (hb : Ints w B' A' b) (ia : InM 1073741824 a) (ib : InM 1073741824 b) :
    Calls Tryz.prog 117 #[.slice A n c, .slice A' n c'] w (OutE w (List.zipWith (fun x y => x + y) a b) n 0) := by
  have H := Lib.hid (combine_plus (fun x y => x + y) A c a n hn A' c' b hm w B B' hB hB' ha hb (fun x y w1 hx hy => plus_any x y (by have := ia x hx; have := ib y hy; omega) w1))
  clear hn hm ia ib
  go_enter Tryz.func117, Tryz.ntmps117
  go_wp2_with (go_at_call 130; refine H.out.mono ?_; rintro e w1 ⟨A1, c1, rfl, hown, hbel⟩)
  go_ret2
  exact ⟨_, _, rfl, hown, hbel⟩
theorem add_ne (A : Option Addr) (c : Nat) (n : Nat) (A' : Option Addr) (c' : Nat) (m : Nat) (h : ¬ n = m) (w : World) :
    Calls Tryz.prog 117 #[.slice A n c, .slice A' m c'] w fun e w' => e = .returned (.tuple #[.slice none 0 0, .int .i64 2]) ∧ w = w' := by
  have hd2 : ((n : Int) == (m : Int)) = false := by simp; omega
  have hd3 : ((n : Int) != (m : Int)) = true := by simp; omega
  clear h
  go_enter Tryz.func117, Tryz.ntmps117
  go_wp2
  go_ret2
  exact ⟨rfl, rfl⟩
end Go.Proofs.YtceceomaheobhaaGreatDoor.lod

/- slices.Clone of numbers. -/
namespace Go.Proofs.YtceceomaheobhaaGreatDoor.spl
open Go.RowKit
open Go.Proofs.YtceceomaheobhaaGreatDoor.lib Go.Proofs.YtceceomaheobhaaGreatDoor.rd Go.Proofs.YtceceomaheobhaaGreatDoor.app Go.Proofs.YtceceomaheobhaaGreatDoor.ins
set_option linter.unusedVariables false
set_option linter.unusedSimpArgs false

set_option maxRecDepth 20000 in
theorem clone_any (A : Option Addr) (c : Nat) (l : List Int) (w : World) (h : Ints w w.heap.size A l) (hl : l.length ≤ 1000000) :
    Calls Tryz.prog 118 #[.slice A l.length c] w fun e w' => ∃ A' c', e = .returned (.slice A' l.length c') ∧ w'.ownsRow w.heap.size 3 1 (.slice A' l.length c') l.length (l.map (.int .i64)) ∧ Below w.heap.size w w' := by
  have HI := Lib.hid h
  have B0 : Below w.heap.size w (w.alloc (.cells #[] 3)) := (Below.refl _ _).alloc (Nat.le_refl _) _
  obtain ⟨m, hm⟩ : ∃ m, l.length = m := ⟨_, rfl⟩
  rw [hm] at hl ⊢
  have HM := Lib.hid hm
  clear h hm
  rcases A with _ | ad
  · have hl0 : l = [] := by
      rcases Nat.eq_zero_or_pos l.length with h0 | h0
      · exact List.eq_nil_of_length_eq_zero h0
      · obtain ⟨ad, _, hA, _⟩ := HI.out.at_ h0
        cases hA
    have hm0 : m = 0 := by rw [← HM.out, hl0]; rfl
    subst hm0
    have HL := Lib.hid hl0
    clear hl0
    have he : ∀ w : World, (binOp .eql 38 (.slice none 0 c) (.slice none 0 0)).run Tryz.prog w = .ok (.bool true) w := fun _ => rfl
    go_enter Tryz.func118, Tryz.ntmps118
    go_wp2
    go_ret
    exact ⟨none, 0, rfl, by rw [HL.out]; exact World.ownsRow_nil _ _ _ _, Below.refl _ _⟩
  · have HR : Hid (Reads (w.alloc (.cells #[] 3)) w.heap.size 1 (some ad) m (l.map (.int .i64))) := Lib.hid (by rw [← HM.out]; exact (HI.out.below B0).1)
    have HE0 : Hid ((w.alloc (.cells #[] 3)).ownsRow w.heap.size 3 1 (.slice (some ⟨w.heap.size, 0, none⟩) 0 0) 0 []) := Lib.hid (World.ownsRow_made w #[] 0 (Nat.le_refl _) (by decide) rfl)
    have HBA : Hid (w.heap.size ≤ (w.alloc (.cells #[] 3)).heap.size) := Lib.hid B0.size
    have HB := Lib.hid B0
    clear B0
    have he : ∀ w : World, (binOp .eql 38 (.slice (some ad) m c) (.slice none 0 0)).run Tryz.prog w = .ok (.bool false) w := fun _ => rfl
    go_enter Tryz.func118, Tryz.ntmps118
    go_wp2_with (at_builtin; go_loud (refine wpList_appN int_elem _ _ rfl w.heap.size (.slice (some ⟨w.heap.size, 0, none⟩) 0 0) 0 [] rfl HE0.out w.heap.size (some ad) m c (l.map (.int .i64)) rfl HR.out (fun u hu => by obtain ⟨y, _, rfl⟩ := List.mem_map.1 hu; rfl) (by omega) HBA.out rfl ?_); intro A5 c5 w5 hown5 hg5; have HK := Lib.hid (And.intro hown5 hg5); clear hown5 hg5)
    go_ret
    refine ⟨A5, c5, rfl, ?_, HB.out.grown HK.out.2 HBA.out (fun q e => own_base HE0.out q e)⟩
    have h := HK.out.1
    rw [Nat.zero_add, List.nil_append] at h
    exact h
end Go.Proofs.YtceceomaheobhaaGreatDoor.spl

/- split.shares: what it computes, and where it stands. -/
namespace Go.Proofs.YtceceomaheobhaaGreatDoor.spl
open Go.RowKit
open Go.Proofs.YtceceomaheobhaaGreatDoor.lib Go.Proofs.YtceceomaheobhaaGreatDoor.rd Go.Proofs.YtceceomaheobhaaGreatDoor.app Go.Proofs.YtceceomaheobhaaGreatDoor.els Go.Proofs.YtceceomaheobhaaGreatDoor.loads Go.Proofs.YtceceomaheobhaaGreatDoor.typ Go.Proofs.YtceceomaheobhaaGreatDoor.big Go.Proofs.YtceceomaheobhaaGreatDoor.ins Go.Proofs.YtceceomaheobhaaGreatDoor.ord Go.Proofs.YtceceomaheobhaaGreatDoor.flts Go.Proofs.YtceceomaheobhaaGreatDoor.off
set_option linter.unusedVariables false
set_option linter.unusedSimpArgs false

def addE (a b : List Int) : List Int := if a.length = b.length then List.zipWith (fun x y => x + y) a b else []
def shHit (u : List Sha) (g : Int) : Bool := match u.getLast? with | some s => decide (s.order = g) | none => false
/-- One order's load joins the shares so far. -/
def shStep (g : Int) (load : List Int) (u : List Sha) : List Sha := if shHit u g then u.set (u.length - 1) ⟨g, addE (u.getLast?.elim [] (·.load)) load⟩ else u ++ [⟨g, load⟩]
def seenB (vs : List Vis) (i : Nat) : Bool := vs.any fun v => decide (v.order = (i : Int))
def shTo (os : List Ord) (org : List Int) (vs : List Vis) : Nat → List Sha
  | 0 => []
  | i + 1 => match os[i]?, org[i]? with
    | some o, some g => if seenB vs i then shStep g o.load (shTo os org vs i) else shTo os org vs i
    | _, _ => shTo os org vs i
def visOk (n : Nat) (v : Vis) : Bool := decide (0 ≤ v.order ∧ v.order < (n : Int))
/-- What shares answers. -/
def shF (os : List Ord) (org : List Int) (vs : List Vis) : Option (List Sha) := if vs.all (visOk os.length) then some (shTo os org vs os.length) else none
theorem shTo_yes {os : List Ord} {org : List Int} {vs : List Vis} {i : Nat} {o : Ord} {g : Int} (h : os[i]? = some o) (hg : org[i]? = some g) (hs : seenB vs i = true) : shTo os org vs (i + 1) = shStep g o.load (shTo os org vs i) := by rw [shTo, h, hg]; simp [hs]
theorem shTo_no {os : List Ord} {org : List Int} {vs : List Vis} {i : Nat} {o : Ord} {g : Int} (h : os[i]? = some o) (hg : org[i]? = some g) (hs : seenB vs i = false) : shTo os org vs (i + 1) = shTo os org vs i := by rw [shTo, h, hg]; simp [hs]
theorem shHit_iff {u : List Sha} {g : Int} (h : shHit u g = true) : ∃ s, u[u.length - 1]? = some s ∧ u.getLast? = some s ∧ s.order = g ∧ 0 < u.length := by
  unfold shHit at h
  cases hu : u.getLast? with
  | none => rw [hu] at h; cases h
  | some s =>
    rw [hu] at h
    rw [List.getLast?_eq_getElem?] at hu
    exact ⟨s, hu, rfl, by simpa using h, by have := (List.getElem?_eq_some_iff.1 hu).1; omega⟩
theorem shStep_len (g : Int) (l : List Int) (u : List Sha) : (shStep g l u).length ≤ u.length + 1 := by
  unfold shStep
  split <;> simp
theorem shTo_len (os : List Ord) (org : List Int) (vs : List Vis) : ∀ i, (shTo os org vs i).length ≤ i
  | 0 => by simp [shTo]
  | i + 1 => by
    have ih := shTo_len os org vs i
    rw [shTo]
    split
    · split
      · have := shStep_len ‹Int› (‹Ord›).load (shTo os org vs i)
        omega
      · omega
    · omega
theorem addE_len (a b : List Int) : (addE a b).length ≤ b.length := by
  unfold addE
  split
  · rw [List.length_zipWith]; omega
  · simp
def BdL (m : Int) (l : List Int) : Prop := ∀ x ∈ l, 0 ≤ x ∧ x ≤ m
theorem addE_bd {a b : List Int} {m k : Int} (ha : BdL m a) (hb : BdL k b) : BdL (m + k) (addE a b) := by
  unfold addE
  split
  · intro x hx
    obtain ⟨i, hi⟩ := List.mem_iff_getElem?.1 hx
    rw [List.getElem?_zipWith] at hi
    cases h1 : a[i]? with
    | none => rw [h1] at hi; simp at hi
    | some p =>
      cases h2 : b[i]? with
      | none => rw [h1, h2] at hi; simp at hi
      | some q =>
        rw [h1, h2] at hi
        have e : p + q = x := by simpa using hi
        have h3 := ha p (List.mem_of_getElem? h1)
        have h4 := hb q (List.mem_of_getElem? h2)
        omega
  · intro x hx; cases hx
theorem shStep_bd {g : Int} {l : List Int} {u : List Sha} {m : Int} (hm : 0 ≤ m) (hu : ∀ s ∈ u, BdL m s.load) (hl : BdL 1000 l) : ∀ s ∈ shStep g l u, BdL (m + 1000) s.load := by
  intro s hs
  have up : ∀ {l}, BdL m l → BdL (m + 1000) l := fun h x hx => by have := h x hx; omega
  unfold shStep at hs
  split at hs
  · rcases List.mem_or_eq_of_mem_set hs with h | h
    · exact up (hu s h)
    · subst h
      obtain ⟨t, _, ht, _, _⟩ := shHit_iff ‹_›
      rw [ht]
      exact addE_bd (hu t (List.mem_of_getLast? ht)) hl
  · rcases List.mem_append.1 hs with h | h
    · exact up (hu s h)
    · rw [List.mem_singleton] at h
      subst h
      exact fun x hx => by have := hl x hx; omega
theorem shTo_bd (os : List Ord) (org : List Int) (vs : List Vis) (hl : ∀ o ∈ os, BdL 1000 o.load) : ∀ i, ∀ s ∈ shTo os org vs i, BdL ((i : Int) * 1000) s.load
  | 0 => fun s hs => by simp [shTo] at hs
  | i + 1 => by
    have ih := shTo_bd os org vs hl i
    have up : ∀ {l : List Int}, BdL ((i : Int) * 1000) l → BdL (((i + 1 : Nat) : Int) * 1000) l := fun h x hx => by have := h x hx; push_cast; omega
    intro s hs
    rw [shTo] at hs
    split at hs
    · rename_i o g ho hg
      split at hs
      · have := shStep_bd (by omega) ih (hl o (List.mem_of_getElem? ho)) s hs
        intro x hx
        have := this x hx
        push_cast
        omega
      · exact up (ih s hs)
    · exact up (ih s hs)
/-- The marks of what is visited. -/
def snL (n : Nat) (vs : List Vis) : List Bool := (List.range n).map (seenB vs)
theorem snL_len (n : Nat) (vs : List Vis) : (snL n vs).length = n := by unfold snL; simp
theorem snL_nil (n : Nat) : snL n [] = List.replicate n false := by
  apply List.ext_getElem?
  intro i
  unfold snL
  rw [List.getElem?_map, List.getElem?_replicate]
  by_cases h : i < n
  · rw [List.getElem?_range h, if_pos h]; rfl
  · rw [List.getElem?_eq_none (by simp; omega), if_neg h]; rfl
theorem snL_snoc {n q : Nat} {vs : List Vis} {v : Vis} (hv : v.order = (q : Int)) (hq : q < n) : snL n (vs ++ [v]) = (snL n vs).set q true := by
  apply List.ext_getElem?
  intro i
  rw [List.getElem?_set, snL_len]
  unfold snL
  rw [List.getElem?_map, List.getElem?_map]
  by_cases h : i < n
  · rw [List.getElem?_range h]
    by_cases hqi : q = i
    · subst hqi
      rw [if_pos rfl, if_pos hq]
      simp [seenB, hv]
    · rw [if_neg hqi]
      simp only [Option.map_some, seenB, List.any_append, hv, List.any_cons, List.any_nil, Bool.or_false]
      rw [decide_eq_false (by omega), Bool.or_false]
  · rw [List.getElem?_eq_none (show (List.range n).length ≤ i by simp; omega)]
    by_cases hqi : q = i
    · omega
    · rw [if_neg hqi]
      rfl
theorem snL_at {n i : Nat} (vs : List Vis) (h : i < n) : (snL n vs)[i]? = some (seenB vs i) := by
  unfold snL
  rw [List.getElem?_map, List.getElem?_range h]
  rfl
theorem bool_info : (Tryz.prog.info? 4).map (fun i => (i.zero, i.size, i.bytes)) = some (some (.bool false), 1, 1) := by kernel_rfl
/-- make([]bool, n). -/
theorem make_bools {ops : Array Oper} {rest : List Oper} {o : Oper} {a : Act} {Q : Exit → Act → World → Prop} {w : World} (hg : o.guard = none) (l c : Operand) (hop : o.op = Op.makeSlice 76 l c)
    (base : Nat) (n : Nat) (hl : a.eval l = .int .i64 n) (hc : a.eval c = .int .i64 n) (hn : n < 17592186044416) (hbase : base ≤ w.heap.size)
    (h : ∀ w', w'.ownsRow base 4 1 (.slice (some ⟨w.heap.size, 0, none⟩) n n) n ((List.replicate n false).map .bool) → Below w.heap.size w w' → w.heap.size < w'.heap.size → wpList Tryz.prog ops Q rest (a.put o.dst (.slice (some ⟨w.heap.size, 0, none⟩) n n)) w') :
    wpList Tryz.prog ops Q (o :: rest) a w := by
  obtain ⟨i0, hi, hz0, hz1, hz2⟩ := info_parts bool_info
  refine wpList_make_full w hg l c 76 hop base 4 i0 (.bool false) 1 Tryz.underlying76 hi hz0 hz1 .i64 .i64 n n n hl hc rfl rfl (by rw [hz2]; omega) (by unfold maxLen; omega) hbase ?_
  intro w' hown hg'
  refine h w' ?_ ((Below.refl _ _).grown hg' (Nat.le_refl _) (by intro k hk; cases hk)) ?_
  · have e : (madeCells (Value.bool false).cells (n * 1)).toList = List.replicate n (Value.bool false) := by
      rw [Nat.mul_one]
      exact toList_madeCells_one (.bool false) n
    rw [List.map_replicate, ← e]
    exact hown
  · obtain ⟨cur, hh⟩ : ∃ o, w'.heap[w.heap.size]? = some o := by
      rcases hown.2 with ⟨h1, _⟩ | ⟨g, cap, cur, h1, _, h2, _⟩
      · cases h1
      · injection h1 with h1 _ _
        injection h1 with h1
        injection h1 with h1
        subst h1
        exact ⟨_, h2⟩
    rcases Nat.lt_or_ge w.heap.size w'.heap.size with h | h
    · exact h
    · rw [Array.getElem?_eq_none h] at hh; cases hh
theorem own_bool {w : World} {base g n cap : Nat} {l : List Bool} (h : w.ownsRow base 4 1 (.slice (some ⟨g, 0, none⟩) n cap) n (l.map .bool)) {j : Nat} {x : Bool} (hx : l[j]? = some x) : w.cell? ⟨g, j, none⟩ = some (.bool x) := by
  have hl : l.length = n := by simpa using h.1
  have hj := (List.getElem?_eq_some_iff.1 hx).1
  rw [h.cellAt j (by omega), List.getElem?_map, hx]
  rfl
theorem sha_elem : ElemOf 85 87 (.agg #[.int .i64 0, .slice none 0 0]) 2 32 := ⟨Tryz.underlying85, by kernel_rfl, rfl, by decide, by decide⟩
theorem int_bool : 4 ≠ 87 := by decide
/-- Where shares stands: the shares u, base the first of its own blocks. -/
structure ShSt (W : World) (u : List Sha) (wr : World) (B : Option Addr) (d : Nat) (cs : List Value) : Prop where
  own : wr.ownsRow W.heap.size 87 2 (.slice B u.length d) u.length cs
  els : EG oSha wr (fun b => some b ≠ (Value.slice B u.length d).ownBlock ∧ W.heap.size ≤ b) cs u
  bel : Below W.heap.size W wr
section
variable {W : World} {u : List Sha} {wr wx : World} {B : Option Addr} {d : Nat} {cs : List Value}
theorem ShSt.nil (W : World) : ShSt W [] W none 0 [] := ⟨World.ownsRow_nil _ _ _ _, EG.nil, Below.refl _ _⟩
theorem ShSt.below (h : ShSt W u wr B d cs) (hb : Below wr.heap.size wr wx) : ShSt W u wx B d cs := ⟨own_below h.own hb, h.els.below hb, h.bel.trans (hb.mono h.bel.size)⟩
theorem ShSt.push (h : ShSt W u wr B d cs) {s : Sha} {C : Option Addr} {c0 g c : Nat} (hI : IntsOff wr (fun b => some b ≠ (Value.slice B u.length d).ownBlock ∧ W.heap.size ≤ b) C s.load) (hf : ShaFits s)
    (hown : wx.ownsRow W.heap.size 87 2 (.slice (some ⟨g, 0, none⟩) (u.length + 1) c) (u.length + 1) (cs ++ ShaCells s C c0)) (hg : wr.grownBy wx (Value.slice B u.length d).ownBlock) (hd : (Value.slice B u.length d).ownBlock = some g ∨ wr.heap.size ≤ g) :
    ShSt W (u ++ [s]) wx (some ⟨g, 0, none⟩) c (cs ++ ShaCells s C c0) := by
  refine ⟨by rw [List.length_append]; exact hown, ?_, h.bel.grown hg h.bel.size (fun q e => (World.ownsRow.lt h.own q e).1)⟩
  exact h.els.push (oSha_mk hI hf) hg hd
theorem ShSt.at_ (h : ShSt W u wr B d cs) {i : Nat} {s : Sha} (hi : u[i]? = some s) : ∃ g C0 c0, B = some ⟨g, 0, none⟩ ∧ wr.cell? ⟨g, i * 2, none⟩ = some (.int .i64 s.order) ∧ wr.cell? ⟨g, i * 2 + 1, none⟩ = some (.slice C0 s.load.length c0) ∧ IntsOff wr (fun b => some b ≠ (Value.slice B u.length d).ownBlock ∧ W.heap.size ≤ b) C0 s.load ∧ wr.frozen? ⟨g, i * 2 + 1, none⟩ = false ∧ W.heap.size ≤ g ∧ g < wr.heap.size := by
  have hil := (List.getElem?_eq_some_iff.1 hi).1
  rcases h.own.2 with ⟨h5, h6⟩ | ⟨g, cap, cur, h5, h6, h7, h8⟩
  · omega
  injection h5 with h5 h9 h10
  subst h5
  have how := h.own
  obtain ⟨c, h3, h4, h5⟩ := h.els.at_ hi
  obtain ⟨D0, e0, rfl, hio, hf⟩ := oSha_at h3
  have hcl : cs.length = u.length * 2 := h.own.1
  have e1 := h5 0 _ rfl
  have e2 := h5 1 _ rfl
  rw [show oSha.rd.size = 2 from rfl] at e1 e2
  have c1 := how.cellAt (i * 2) (by omega)
  have c2 := how.cellAt (i * 2 + 1) (by omega)
  rw [Nat.add_zero] at e1
  rw [e1] at c1
  rw [e2] at c2
  exact ⟨g, D0, e0, rfl, c1, c2, hio, how.frozenAt (i * 2 + 1), h6, (Array.getElem?_eq_some_iff.1 h7).1⟩
/-- The last share's load is replaced. -/
theorem ShSt.last (h : ShSt W u wr B d cs) {i : Nat} {s : Sha} (hi : u[i]? = some s) {l : List Int} {C : Option Addr} {c0 : Nat} (hI : IntsOff wr (fun b => some b ≠ (Value.slice B u.length d).ownBlock ∧ W.heap.size ≤ b) C l) {ad : Addr} (hB : B = some ad) :
    ShSt W (u.set i ⟨s.order, l⟩) (wr.setCell ⟨ad.block, i * 2 + 1, none⟩ (.slice C l.length c0)) B d (cs.set (i * 2 + 1) (.slice C l.length c0)) := by
  subst hB
  have hil := (List.getElem?_eq_some_iff.1 hi).1
  rcases h.own.2 with ⟨h5, h6⟩ | ⟨g, cap, cur, h5, h6, h7, h8⟩
  · cases h5
  injection h5 with h5 h9 h10
  injection h5 with h5
  subst h5
  subst h10
  have hst := h.own.stored (i * 2 + 1) (.slice C l.length c0)
  have hgr := grownBy_set wr g (i * 2 + 1) (.slice C l.length c0)
  have hk : ∀ b, b < wr.heap.size → (some b ≠ (Value.slice (some ⟨g, 0, none⟩) u.length d).ownBlock ∧ W.heap.size ≤ b) → (some b ≠ (Value.slice (some ⟨g, 0, none⟩) u.length d).ownBlock ∧ W.heap.size ≤ b) ∧ (wr.setCell ⟨g, i * 2 + 1, none⟩ (.slice C l.length c0)).heap[b]? = wr.heap[b]? := fun b hb hp => ⟨hp, hgr.block b hb (fun e => hp.1 e)⟩
  refine ⟨?_, ?_, h.bel.setCell (p := ⟨g, i * 2 + 1, none⟩) h6 _⟩
  · rw [List.length_set]
    exact hst.1
  · rw [List.length_set]
    refine EG.mod (r := oSha) (h.els.keep hgr.size hk) hil (show 1 < 2 by decide) ?_
    obtain ⟨D0, e0, hc, hio, hf⟩ := oSha_at (h.els.2 i s hi)
    rw [hc]
    exact oSha_mk (t := ⟨s.order, l⟩) (intsOff_keep hI hgr.size hk) hf
end
theorem add_any (A : Option Addr) (c : Nat) (a : List Int) (A' : Option Addr) (c' : Nat) (b : List Int) (w : World) (ha : Ints w w.heap.size A a) (hb : Ints w w.heap.size A' b) (ia : lod.InM 1073741824 a) (ib : lod.InM 1073741824 b) :
    Calls Tryz.prog 117 #[.slice A a.length c, .slice A' b.length c'] w fun e w' => ∃ A1 c1 er, e = .returned (.tuple #[.slice A1 (addE a b).length c1, .int .i64 er]) ∧ w'.ownsRow w.heap.size 3 1 (.slice A1 (addE a b).length c1) (addE a b).length ((addE a b).map (.int .i64)) ∧ Below w.heap.size w w' := by
  by_cases h : a.length = b.length
  · have e : addE a b = List.zipWith (fun x y => x + y) a b := by unfold addE; rw [if_pos h]
    have el : (addE a b).length = a.length := by rw [e, List.length_zipWith]; omega
    rw [← h]
    refine (lod.add_eq A c a a.length rfl A' c' b h.symm w w.heap.size w.heap.size (Nat.le_refl _) (Nat.le_refl _) ha hb ia ib).mono ?_
    rintro e' w' ⟨A1, c1, rfl, h2, h3⟩
    exact ⟨A1, c1, 0, by rw [el], by rw [el, e]; exact h2, h3⟩
  · have e : addE a b = [] := by unfold addE; rw [if_neg h]
    refine (lod.add_ne A c a.length A' c' b.length h w).mono ?_
    rintro e' w' ⟨rfl, rfl⟩
    rw [e]
    exact ⟨none, 0, 2, rfl, World.ownsRow_nil _ _ _ _, Below.refl _ _⟩
/-- What shares hands back. -/
def ShsOut (w : World) (r : Option (List Sha)) (e : Ending) (w' : World) : Prop := match r with
  | none => e = .returned (.tuple #[.slice none 0 0, .bool false]) ∧ Below w.heap.size w w'
  | some l => ∃ A c cs, e = .returned (.tuple #[.slice A l.length c, .bool true]) ∧ w'.ownsRow w.heap.size 87 2 (.slice A l.length c) l.length cs ∧ EG oSha w' (fun b => w.heap.size ≤ b) cs l ∧ Below w.heap.size w w'
end Go.Proofs.YtceceomaheobhaaGreatDoor.spl

/- loads.Fits; the reference's Right, Fits, Same: portable part of LoadA. -/
namespace Go.Proofs.YtceceomaheobhaaGreatDoor.loads
open Go.RowKit
open Go.Proofs.YtceceomaheobhaaGreatDoor.lib
set_option linter.unusedVariables false

theorem rright_any (A : Option Addr) (c : Nat) (l : List Int) (d : Int) (w : World) (B : Nat) (hl : Ints w B A l) :
    Calls Tryz.prog 113 #[.slice A l.length c, .int .i64 d] w fun e w' => e = .returned (.bool (rightB l d)) ∧ w = w' := by
  have hlen := hl.len
  by_cases hd : (l.length : Int) = d
  · subst hd
    go_enter Tryz.func113, Tryz.ntmps113
    go_wp2
    go_loop [5] (fun i => ∃ k : Nat, k ≤ l.length ∧ i = .int .i64 k ∧ Hid ((l.all fun x => decide (0 ≤ x ∧ x ≤ 1000)) = ((l.drop k).all fun x => decide (0 ≤ x ∧ x ≤ 1000)))) (fun i => l.length - (intOf i).toNat)
    case atStart => exact ⟨0, by omega, rfl, Lib.hid rfl⟩
    case round =>
      obtain ⟨k, hk, rfl, hr⟩ := hrel
      by_cases hlt : k < l.length
      · obtain ⟨ad, x, rfl, hadb, hx, hcx⟩ := hl.at_ hlt
        have HX := Lib.hid (all_take (p := fun x => decide (0 ≤ x ∧ x ≤ 1000)) hx)
        clear hx
        go_wp2
        · go_ret
          exact ⟨ret_bool (by unfold rightB; rw [hr.out, HX.out, decide_eq_false (by omega)]; rfl), rfl⟩
        · go_round
          case rel => exact ⟨k + 1, by omega, by go_num, Lib.hid (by rw [hr.out, HX.out, decide_eq_true (by omega)]; rfl)⟩
          case measure => simp [intOf]; omega
        · go_ret
          exact ⟨ret_bool (by unfold rightB; rw [hr.out, HX.out, decide_eq_false (by omega)]; rfl), rfl⟩
      · have hkn : k = l.length := by omega
        subst hkn
        clear hlt
        go_wp2
        go_ret
        exact ⟨ret_bool (by unfold rightB; rw [hr.out, List.drop_length]; simp), rfl⟩
  · have hd2 : ((l.length : Int) == d) = false := by simp [hd]
    have hd3 : ((l.length : Int) != d) = true := by simp [hd]
    have HD : Hid (decide ((l.length : Int) = d) = false) := Lib.hid (by simp [hd])
    clear hd
    go_enter Tryz.func113, Tryz.ntmps113
    go_wp2
    go_ret
    exact ⟨ret_bool (by unfold rightB; rw [HD.out, Bool.and_false]), rfl⟩

theorem fits_step {a b : List Int} {k : Nat} {x y : Int} (hx : a[k]? = some x) (hy : b[k]? = some y) : fitsGo (a.drop k) (b.drop k) = (decide (x ≤ y) && fitsGo (a.drop (k + 1)) (b.drop (k + 1))) := by
  rw [drop_at hx, drop_at hy, fitsGo]

theorem fits_any (A : Option Addr) (c : Nat) (a : List Int) (n : Nat) (hn : a.length = n) (A' : Option Addr) (c' : Nat) (b : List Int) (m : Nat) (hm : b.length = m) (w : World) (B B' : Nat) (ha : Ints w B A a) (hb : Ints w B' A' b) :
    Calls Tryz.prog 85 #[.slice A n c, .slice A' m c'] w fun e w' => e = .returned (.bool (fitsB a b)) ∧ w = w' := by
  have hlen := ha.len
  rw [hn] at hlen
  by_cases h : n = m
  · subst h
    have HN := Lib.hid hn
    have HM := Lib.hid hm
    clear hn hm
    go_enter Tryz.func85, Tryz.ntmps85
    go_wp2
    go_loop [5, 6, 14] (fun _ _ i => ∃ k : Nat, k ≤ n ∧ i = .int .i64 k ∧ Hid (fitsGo a b = fitsGo (a.drop k) (b.drop k))) (fun _ _ i => n - (intOf i).toNat)
    case atStart => exact ⟨0, by omega, rfl, Lib.hid rfl⟩
    case round =>
      obtain ⟨k, hk, rfl, hr⟩ := hrel
      by_cases hlt : k < n
      · obtain ⟨ad, x, rfl, hadb, hx, hcx⟩ := ha.at_ (k := k) (by rw [HN.out]; exact hlt)
        obtain ⟨ad', y, rfl, hadb', hy, hcy⟩ := hb.at_ (k := k) (by rw [HM.out]; exact hlt)
        have HX := Lib.hid (fits_step hx hy)
        clear hx hy
        by_cases hxy : y < x
        · go_wp2
          go_ret
          exact ⟨ret_bool (by unfold fitsB; rw [hr.out, HX.out, decide_eq_false (by omega : ¬ x ≤ y)]; simp), rfl⟩
        · go_wp2
          go_round
          case rel => exact ⟨k + 1, by omega, by go_num, Lib.hid (by rw [hr.out, HX.out, decide_eq_true (by omega : x ≤ y)]; rfl)⟩
          case measure => simp [intOf]; omega
      · have hkn : k = n := by omega
        subst hkn
        clear hlt
        go_wp2
        go_ret
        exact ⟨ret_bool (by unfold fitsB; rw [hr.out, List.drop_of_length_le (by rw [HN.out]; exact Nat.le_refl _), HN.out, HM.out]; simp [fitsGo]), rfl⟩
  · have hd2 : ((n : Int) == (m : Int)) = false := by simp; omega
    have hd3 : ((n : Int) != (m : Int)) = true := by simp; omega
    have HD : Hid (decide (a.length = b.length) = false) := Lib.hid (by rw [hn, hm]; simp [h])
    clear h hn hm
    go_enter Tryz.func85, Tryz.ntmps85
    go_wp2
    go_ret
    exact ⟨ret_bool (by unfold fitsB; rw [HD.out, Bool.false_and]), rfl⟩

/-! Same. -/
theorem same_step {a b : List Int} {k : Nat} {x y : Int} (hx : a[k]? = some x) (hy : b[k]? = some y) : decide (a.drop k = b.drop k) = (decide (x = y) && decide (a.drop (k + 1) = b.drop (k + 1))) := by
  rw [drop_at hx, drop_at hy, Bool.eq_iff_iff]
  simp
end Go.Proofs.YtceceomaheobhaaGreatDoor.loads

/- Routes and plans, read from memory; what a route has beside its visits is not read. -/
namespace Go.Proofs.YtceceomaheobhaaGreatDoor.typ
open Go.RowKit
open Go.ChangeShapes Go.WideShapes Go.ChangeAt Go.Deep
open Go.Proofs.YtceceomaheobhaaGreatDoor.lib Go.Proofs.YtceceomaheobhaaGreatDoor.rd Go.Proofs.YtceceomaheobhaaGreatDoor.big
set_option linter.unusedVariables false

/-- A cell of which nothing is asked. -/
def rOpq : Rd Unit where
  size := 1
  at_ _ _ cs x := ∃ v : Value, cs = [v] ∧ v.oneCell' = true
  len h := by obtain ⟨v, rfl, _⟩ := h; rfl
  keep _ h := h
  more _ h := h
theorem opens_opq {t e : TypeId} (ht : Tryz.prog.underlying t = some (.slice e)) : Opens t rOpq := fun H enc W fuel cs y h hw => by
  rcases open_slice ht h with ⟨rfl, rfl⟩ | ⟨a, len, cap, m, n, D, Pl, rfl, _⟩
  · exact ⟨(), _, rfl, rfl⟩
  · exact ⟨(), _, rfl, rfl⟩
structure Rou where
  typ : Int
  start : Int
  visits : List Vis
def rRou : Rd Rou := rMap (rPair rInt (rPair rInt (rPair rOpq (rSlice rVis)))) fun x => ⟨x.1, x.2.1, x.2.2.2⟩
def RouCells (r : Rou) (v : Value) (C : Option Addr) (c : Nat) : List Value := [.int .i64 r.typ, .int .i64 r.start, v, .slice C r.visits.length c]
theorem rRou_at {w : World} {B : Nat} {cs : List Value} {r : Rou} (h : rRou.at_ w B cs r) : ∃ v C c, cs = RouCells r v C c ∧ RowAt rVis w B C r.visits ∧ v.oneCell' = true := by
  obtain ⟨⟨f0, f1, f2, f3⟩, rfl, _, _, rfl, ⟨rfl, hf0⟩, _, _, rfl, ⟨rfl, hf1⟩, _, _, rfl, ⟨v, rfl, hv⟩, C, c, rfl, hr⟩ := h
  exact ⟨v, C, c, rfl, hr, hv⟩
theorem rRou_mk {w : World} {B : Nat} {r : Rou} {v : Value} {C : Option Addr} {c : Nat} (h : RowAt rVis w B C r.visits) (hv : v.oneCell' = true) (h1 : -9223372036854775808 ≤ r.typ ∧ r.typ ≤ 9223372036854775807) (h2 : -9223372036854775808 ≤ r.start ∧ r.start ≤ 9223372036854775807) : rRou.at_ w B (RouCells r v C c) r :=
  ⟨(r.typ, r.start, (), r.visits), rfl, _, _, rfl, ⟨rfl, h1⟩, _, _, rfl, ⟨rfl, h2⟩, _, _, rfl, ⟨v, rfl, hv⟩, C, c, rfl, h⟩
set_option maxRecDepth 20000 in
theorem opens_Rou : Opens 78 rRou := opens_map _ (opens_struct Tryz.underlying78 (by kernel_rfl) (fieldsOpen_cons rfl (by kernel_rfl) (opens_int Tryz.underlying3) (fieldsOpen_cons rfl (by kernel_rfl) (opens_int Tryz.underlying3) (fieldsOpen_cons rfl (by kernel_rfl) (opens_opq Tryz.underlying76) (fieldsOpen_one rfl (by kernel_rfl) (opens_slice Tryz.underlying75 (by kernel_rfl) (by decide) (of_decide_eq_true (by kernel_rfl)) opens_Vis))))))
structure Pla where
  routes : List Rou
  unserved : List Int
def rPla : Rd Pla := rMap (rPair (rSlice rRou) rInts) fun x => ⟨x.1, x.2⟩
theorem rPla_at {w : World} {B : Nat} {cs : List Value} {p : Pla} (h : rPla.at_ w B cs p) : ∃ A c A' c', cs = [.slice A p.routes.length c, .slice A' p.unserved.length c'] ∧ RowAt rRou w B A p.routes ∧ Ints w B A' p.unserved := by
  obtain ⟨⟨f0, f1⟩, rfl, _, _, rfl, ⟨A, c, rfl, h1⟩, ⟨A', c', rfl, h2⟩⟩ := h
  exact ⟨A, c, A', c', rfl, h1, h2⟩
set_option maxRecDepth 20000 in
theorem opens_Pla : Opens 81 rPla := opens_map _ (opens_struct Tryz.underlying81 (by kernel_rfl) (fieldsOpen_cons rfl (by kernel_rfl) (opens_slice Tryz.underlying79 (by kernel_rfl) (by decide) (of_decide_eq_true (by kernel_rfl)) opens_Rou) (fieldsOpen_one rfl (by kernel_rfl) (opens_ints Tryz.underlying38 Tryz.underlying3 (by kernel_rfl) (by rw [show Tryz.prog.bytesOf 3 = 8 by kernel_rfl]; omega)))))
theorem stRou : StructOf 78 4 := ⟨⟨_, Tryz.underlying78⟩, by kernel_rfl⟩
theorem rouCells_one (r : Rou) {v : Value} (C : Option Addr) (c : Nat) (hv : v.oneCell' = true) : ∀ u ∈ RouCells r v C c, u.oneCell' = true := fun u hu => by
  simp only [RouCells, List.mem_cons, List.not_mem_nil, or_false] at hu
  rcases hu with rfl | rfl | rfl | rfl
  all_goals first | rfl | exact hv
end Go.Proofs.YtceceomaheobhaaGreatDoor.typ

/- The law's comparison of lists of numbers. -/
namespace Go.Proofs.YtceceomaheobhaaGreatDoor.spl
open Go.RowKit
open Go.Proofs.YtceceomaheobhaaGreatDoor.lib Go.Proofs.YtceceomaheobhaaGreatDoor.rd Go.Proofs.YtceceomaheobhaaGreatDoor.eqs
set_option linter.unusedVariables false
set_option linter.unusedSimpArgs false

set_option maxHeartbeats 1000000 in
theorem ints_any (A : Option Addr) (c : Nat) (a : List Int) (n : Nat) (hn : a.length = n) (A' : Option Addr) (c' : Nat) (b : List Int) (m : Nat) (hm : b.length = m) (w : World) (B B' : Nat) (hB : B ≤ w.heap.size) (hB' : B' ≤ w.heap.size) (ha : Ints w B A a) (hb : Ints w B' A' b) :
    Calls Tryz.prog 42 #[.slice A n c, .slice A' m c'] w fun e w' => e = .returned (.bool (sameB a b)) ∧ Below w.heap.size w w' := by
  have hlen := ha.len
  rw [hn] at hlen
  by_cases h : n = m
  · subst h
    have HN := Lib.hid hn
    have HM := Lib.hid hm
    clear hn hm
    go_enter Tryz.func42, Tryz.ntmps42
    go_wp2
    go_loopw [5, 13] (fun _ i wr => ∃ k : Nat, k ≤ n ∧ i = .int .i64 k ∧ Hid (sameB a b = decide (a.drop k = b.drop k)) ∧ Below w.heap.size w wr) (fun _ i _ => n - (intOf i).toNat)
    case atStart => exact ⟨0, by omega, rfl, Lib.hid rfl, Below.refl _ _⟩
    case round =>
      obtain ⟨k, hk, rfl, hr, hbel⟩ := hrel
      by_cases hlt : k < n
      · obtain ⟨ad, x, rfl, hadb, hx, hcx⟩ := (ha.below (hbel.mono hB)).at_ (k := k) (by rw [HN.out]; exact hlt)
        obtain ⟨ad', y, rfl, hadb', hy, hcy⟩ := (hb.below (hbel.mono hB')).at_ (k := k) (by rw [HM.out]; exact hlt)
        have HX := Lib.hid (same_step hx hy)
        have hk0 : (0 : Int) ≤ (k : Int) := by omega
        have hkn : (k : Int) < (n : Int) := by omega
        clear hx hy
        by_cases hxy : x = y
        · subst hxy
          go_wp2
          go_quiet (fail)
          go_wp2
          go_roundw
          case rel => exact ⟨k + 1, by omega, by go_num, Lib.hid (by rw [hr.out, HX.out]; simp), bel_drewN hbel _⟩
          case measure => simp [intOf]; omega
        · have h1 : (x == y) = false := by simp [hxy]
          have h2 : (x != y) = true := by simp [hxy]
          have HF := Lib.hid (decide_eq_false hxy)
          clear hxy
          go_wp2
          go_quiet (fail)
          go_wp2
          go_ret
          exact ⟨ret_bool (by rw [hr.out, HX.out, HF.out]; rfl), bel_drewN hbel _⟩
      · have hkn : k = n := by omega
        subst hkn
        clear hlt
        go_wp2
        go_ret
        exact ⟨ret_bool (by rw [hr.out, List.drop_of_length_le (by rw [HN.out]; exact Nat.le_refl _), List.drop_of_length_le (by rw [HM.out]; exact Nat.le_refl _)]; simp), hbel⟩
  · have hd2 : ((n : Int) == (m : Int)) = false := by simp; omega
    have hd3 : ((n : Int) != (m : Int)) = true := by simp; omega
    have HD : Hid (sameB a b = false) := Lib.hid (by unfold sameB; rw [decide_eq_false]; intro e; rw [e] at hn; omega)
    clear h hn hm
    go_enter Tryz.func42, Tryz.ntmps42
    go_wp2
    go_ret
    exact ⟨ret_bool (by rw [HD.out]), Below.refl _ _⟩
end Go.Proofs.YtceceomaheobhaaGreatDoor.spl

/- slices.Concat of rows whose elements may be anything: the cells are copied. Shares here. -/
namespace Go.Proofs.YtceceomaheobhaaGreatDoor.cats
open Go.RowKit
open Go.Proofs.YtceceomaheobhaaGreatDoor.lib Go.Proofs.YtceceomaheobhaaGreatDoor.rd Go.Proofs.YtceceomaheobhaaGreatDoor.typ Go.Proofs.YtceceomaheobhaaGreatDoor.app Go.Proofs.YtceceomaheobhaaGreatDoor.big Go.Proofs.YtceceomaheobhaaGreatDoor.spl
set_option linter.unusedVariables false
set_option linter.unusedSimpArgs false

def GRows (size : Nat) (w : World) (B : Nat) (A : Option Addr) (css : List (Nat × List Value)) : Prop :=
  ∀ (i : Nat) c, css[i]? = some c → ∃ ad Ai ci, A = some ad ∧ ad.block < B ∧ w.cell? (ad.add i) = some (.slice Ai c.1 ci) ∧ Reads w B size Ai c.1 c.2 ∧ ∀ u ∈ c.2, u.oneCell' = true
theorem GRows.below {size : Nat} {w w' : World} {B : Nat} {A : Option Addr} {css : List (Nat × List Value)} (h : GRows size w B A css) (hb : Below B w w') : GRows size w' B A css := fun i c hi => by
  obtain ⟨ad, Ai, ci, h1, h2, h3, h4, h5⟩ := h i c hi
  exact ⟨ad, Ai, ci, h1, h2, (hb.cell (by rw [block_of_add]; exact h2)).trans h3, h4.below hb, h5⟩
def catN (css : List (Nat × List Value)) (k : Nat) : Nat := ((css.take k).map (·.1)).sum
def catC (css : List (Nat × List Value)) (k : Nat) : List Value := ((css.take k).map (·.2)).flatten
theorem take_at {α : Type} {l : List α} {k : Nat} {x : α} (h : l[k]? = some x) : l.take (k + 1) = l.take k ++ [x] := by
  obtain ⟨h1, h2⟩ := List.getElem?_eq_some_iff.1 h
  rw [List.take_succ_eq_append_getElem h1, h2]
theorem catN_succ {css : List (Nat × List Value)} {k : Nat} {c : Nat × List Value} (h : css[k]? = some c) : catN css (k + 1) = catN css k + c.1 := by
  unfold catN
  rw [take_at h, List.map_append, List.sum_append]
  simp
theorem catC_succ {css : List (Nat × List Value)} {k : Nat} {c : Nat × List Value} (h : css[k]? = some c) : catC css (k + 1) = catC css k ++ c.2 := by
  unfold catC
  rw [take_at h, List.map_append, List.flatten_append]
  simp
theorem catN_le (css : List (Nat × List Value)) (k : Nat) : catN css k ≤ catN css css.length := by
  have h : catN css css.length = ((css.take k).map (·.1)).sum + ((css.drop k).map (·.1)).sum := by unfold catN; rw [← List.sum_append, ← List.map_append, List.take_append_drop, List.take_length]
  rw [h]
  exact Nat.le_add_right _ _
def GrowOut (e0 : TypeId) (size : Nat) (w : World) (e : Ending) (w' : World) : Prop := ∃ A c, e = .returned (.slice A 0 c) ∧ w'.ownsRow w.heap.size e0 size (.slice A 0 c) 0 [] ∧ Below w.heap.size w w'
def ConcOut (e0 : TypeId) (size : Nat) (n : Nat) (cs : List Value) (w : World) (e : Ending) (w' : World) : Prop := ∃ A c, e = .returned (.slice A n c) ∧ w'.ownsRow w.heap.size e0 size (.slice A n c) n cs ∧ Below w.heap.size w w'
theorem sha_zeros {ops : Array Oper} {rest : List Oper} {o : Oper} {a : Act} {Q : Exit → Act → World → Prop} {w : World} (hgd : o.guard = none) (s x : Operand)
    (ho : o.op = .call { callee := .builtin .append, args := #[s, x], argTypes := #[85, 3] }) (n : Nat) (h0 : 0 < n) (hn : n ≤ 1000000) (hs : a.eval s = .slice none 0 0) (hx : a.eval x = .int .i64 n)
    (h : ∀ c w', n ≤ c → w'.ownsRow w.heap.size 87 2 (.slice (some ⟨w.heap.size, 0, none⟩) 0 c) 0 [] → Below w.heap.size w w' → wpList Tryz.prog ops Q rest (a.put o.dst (.slice (some ⟨w.heap.size, 0, none⟩) n c)) w') : wpList Tryz.prog ops Q (o :: rest) a w := by
  refine wpList_plain hgd fun _ hK => ?_
  obtain ⟨i0, hi, hz0, hz1, hz2⟩ := info_parts (sha_elem).info
  have hr := Lib.run_append_nil_zeros (P := Tryz.prog) w 85 3 o.type 87 i0 (.agg #[.int .i64 0, .slice none 0 0]) .i64 .i64 Tryz.underlying85 Tryz.underlying3 hi hz0 n h0 (by omega) (by omega) (by rw [hz2]; omega)
  unfold Oper.wp execOp
  simp only [ho, resolve, invoke, builtin, Sem.run_bind, Sem.run_pure, Result.andThen_ok, List.map_toArray, List.map_cons, List.map_nil, hs, hx, hr]
  have hge := grownCap_ge w n 0 87
  refine hK _ _ (h _ _ hge ⟨rfl, .inr ⟨w.heap.size, grownCap w n 0 87, _, rfl, Nat.le_refl _, World.alloc_heap_new w.drew _, Nat.zero_le _, grownCap_le_maxLen w n 0 _ (by unfold maxLen; omega), ?_, by simp⟩⟩ ?_)
  · rw [Array.size_append, size_zeroCells, size_zeroCells]
    simp [Value.cells]
    try omega
  · exact ((Below.refl _ _).drew).alloc (Nat.le_refl _) _
theorem sha_grow (n : Nat) (hn : n ≤ 1000000) (w : World) : Calls Tryz.prog 132 #[.slice none 0 0, .int .i64 n] w (GrowOut 87 2 w) := by
  have h0 : (0 : Int) ≤ n := by omega
  by_cases h : 0 < n
  · have h1 : (0 : Int) < n := by omega
    go_enter Tryz.func132, Tryz.ntmps132
    go_wp2_with (at_builtin; refine sha_zeros rfl _ _ rfl n h hn rfl rfl ?_; intro c1 w1 hc1 hown1 hb1)
    go_ret
    exact ⟨some ⟨w.heap.size, 0, none⟩, c1, rfl, hown1, hb1⟩
  · have h1 : ¬ (0 : Int) < n := by omega
    go_enter Tryz.func132, Tryz.ntmps132
    go_wp2
    go_ret
    exact ⟨none, 0, rfl, World.ownsRow_nil _ _ _ _, Below.refl _ _⟩
set_option maxRecDepth 20000 in
set_option maxHeartbeats 1000000 in
theorem sha_concat (A : Option Addr) (c : Nat) (css : List (Nat × List Value)) (w : World) (hL : GRows 2 w w.heap.size A css) (hn : css.length ≤ 1000000) (ht : catN css css.length ≤ 1000000) :
    Calls Tryz.prog 119 #[.slice A css.length c] w (ConcOut 87 2 (catN css css.length) (catC css css.length) w) := by
  obtain ⟨n, hn'⟩ : ∃ n, css.length = n := ⟨_, rfl⟩
  have HN := Lib.hid hn'
  have HTL : Hid (∀ k, catN css k ≤ 1000000) := Lib.hid fun k => Nat.le_trans (catN_le css k) ht
  rw [hn'] at hn ⊢
  clear hn' ht
  go_enter Tryz.func119, Tryz.ntmps119
  go_wp2
  go_loopw [3, 11] (fun v i wr => ∃ k : Nat, k ≤ n ∧ i = .int .i64 k ∧ v = .int .i64 (catN css k) ∧ Below w.heap.size w wr) (fun _ i _ => n - (intOf i).toNat)
  case atStart => exact ⟨0, by omega, rfl, rfl, Below.refl _ _⟩
  case round =>
    obtain ⟨k, hk, rfl, rfl, hb0⟩ := hrel
    have hlk := HTL.out k
    by_cases hlt : k < n
    · obtain ⟨fs, hfs⟩ : ∃ fs, css[k]? = some fs := ⟨_, List.getElem?_eq_getElem (by rw [HN.out]; exact hlt)⟩
      obtain ⟨ad, Ai, ci, rfl, hadb, hc, _⟩ := hL.below hb0 k fs hfs
      have hk0 : (0 : Int) ≤ (k : Int) := by omega
      have hkn : (k : Int) < (n : Int) := by omega
      have hl1 := HTL.out (k + 1)
      have HT : Hid (catN css (k + 1) = catN css k + fs.1) := Lib.hid (catN_succ hfs)
      rw [catN_succ hfs] at hl1
      obtain ⟨q, hq⟩ : ∃ q, catN css k = q := ⟨_, rfl⟩
      rw [hq] at HT hlk hl1
      simp only [hq]
      have h3 : ¬ ((q : Int) + (fs.1 : Int) < 0) := by omega
      clear hfs hq
      go_wp2
      go_roundw
      case rel => exact ⟨k + 1, by omega, by go_num, by rw [HT.out]; go_num, hb0⟩
      case measure => simp [intOf]; omega
    · have hkn : n = k := by omega
      subst hkn
      go_wp2_with (go_at_call 132; refine (sha_grow _ hlk _).mono ?_; rintro e w1 ⟨A1, c1, rfl, hown1, hb1⟩)
      have hown1' := own_less hown1 hb0.size
      have hb1' : Below w.heap.size w w1 := hb0.trans (hb1.mono hb0.size)
      clear hown1 hb1
      go_loopw [6, 27] (fun v i wr => ∃ (k : Nat) (A2 : Option Addr) (c2 : Nat), k ≤ n ∧ i = .int .i64 k ∧ v = .slice A2 (catN css k) c2 ∧ Hid (wr.ownsRow w.heap.size 87 2 (.slice A2 (catN css k) c2) (catN css k) (catC css k)) ∧ Below w.heap.size w wr) (fun _ i _ => n - (intOf i).toNat)
      case atStart => exact ⟨0, A1, c1, by omega, rfl, rfl, Lib.hid hown1', hb1'⟩
      case round =>
        clear hown1' hb1'
        obtain ⟨k, A2, c2, hk2, rfl, rfl, hown, hb⟩ := hrel
        have zb := hb.size
        have hlk2 := HTL.out k
        by_cases hlt2 : k < n
        · obtain ⟨fs, hfs⟩ : ∃ fs, css[k]? = some fs := ⟨_, List.getElem?_eq_getElem (by rw [HN.out]; exact hlt2)⟩
          obtain ⟨ad, Ai, ci, rfl, hadb, hc, hr, h1⟩ := hL.below hb k fs hfs
          have hk0 : (0 : Int) ≤ (k : Int) := by omega
          have hkn : (k : Int) < (n : Int) := by omega
          have hl1 := HTL.out (k + 1)
          have HT : Hid (catN css (k + 1) = catN css k + fs.1) := Lib.hid (catN_succ hfs)
          have HT2 : Hid (catC css (k + 1) = catC css k ++ fs.2) := Lib.hid (catC_succ hfs)
          rw [catN_succ hfs] at hl1
          obtain ⟨q, hq⟩ : ∃ q, catN css k = q := ⟨_, rfl⟩
          rw [hq] at HT hlk2 hl1 hown
          simp only [hq]
          have HR := Lib.hid (And.intro hr h1)
          clear hfs hq hr h1
          go_wp2_with (at_builtin; refine wpList_appN sha_elem _ _ rfl w.heap.size (.slice A2 q c2) q (catC css k) rfl hown.out w.heap.size Ai fs.1 ci fs.2 rfl HR.out.1 HR.out.2 (by omega) zb rfl ?_; intro A5 c5 w5 hown5 hg5; have HK5 := Lib.hid (And.intro hown5 hg5); clear hown5 hg5)
          go_roundw
          case rel => exact ⟨k + 1, A5, c5, by omega, by go_num, by rw [HT.out]; first | done | rfl, Lib.hid (by rw [HT.out, HT2.out]; exact HK5.out.1), hb.grown HK5.out.2 zb (fun q' e => (World.ownsRow.lt hown.out _ e).1)⟩
          case measure => simp [intOf]; omega
        · have hkn : n = k := by omega
          subst hkn
          go_wp2
          go_ret
          exact ⟨A2, c2, rfl, hown.out, hb⟩
theorem CellsOf.append {X : Type} {r : Rd X} {w : World} {B : Nat} {l l' : List X} {CS CS' : List Value} (h : CellsOf r w B l CS) (h' : CellsOf r w B l' CS') : CellsOf r w B (l ++ l') (CS ++ CS') := by
  refine ⟨by rw [List.length_append, List.length_append, h.1, h'.1, Nat.add_mul], fun i y hy => ?_⟩
  rcases Nat.lt_or_ge i l.length with hi | hi
  · rw [List.getElem?_append_left hi] at hy
    obtain ⟨cs', h1, h2⟩ := h.2 i y hy
    refine ⟨cs', h1, fun j u hu => ?_⟩
    have := h2 j u hu
    rw [List.getElem?_append_left (List.getElem?_eq_some_iff.1 this).1]
    exact this
  · rw [List.getElem?_append_right hi] at hy
    obtain ⟨cs', h1, h2⟩ := h'.2 _ y hy
    refine ⟨cs', h1, fun j u hu => ?_⟩
    have := h2 j u hu
    have e : i * r.size + j = CS.length + ((i - l.length) * r.size + j) := by
      rw [h.1, ← Nat.add_assoc, ← Nat.add_mul]
      congr 2
      omega
    rw [e, List.getElem?_append_right (Nat.le_add_right _ _), Nat.add_sub_cancel_left]
    exact this
/-- Rows of rows, as cells. -/
theorem rows_cells {X : Type} {r : Rd X} (hpos : 0 < r.size) {w : World} {B : Nat} {A : Option Addr} {ll : List (List X)} (h : RowAt (rSlice r) w B A ll) (h1 : ∀ cs x, r.at_ w B cs x → ∀ u ∈ cs, u.oneCell' = true) :
    ∃ css, GRows r.size w B A css ∧ css.length = ll.length ∧ catN css css.length = ll.flatten.length ∧ CellsOf r w B ll.flatten (catC css css.length) := by
  obtain ⟨css, hl, hp⟩ := choose_list (n := ll.length) (p := fun i (c : Nat × List Value) => ∃ l ad Ai ci, ll[i]? = some l ∧ A = some ad ∧ ad.block < B ∧ w.cell? (ad.add i) = some (.slice Ai c.1 ci) ∧ Reads w B r.size Ai c.1 c.2 ∧ (∀ u ∈ c.2, u.oneCell' = true) ∧ c.1 = l.length ∧ CellsOf r w B l c.2) fun i hi => by
    obtain ⟨ad, cs, h2, h3, ⟨Ai, ci, rfl, h4⟩, h5⟩ := h.2 i _ (List.getElem?_eq_getElem hi)
    obtain ⟨CS, k1, k2, k3, k4⟩ := h4.cells hpos
    have h6 := h5 0 _ rfl
    rw [show (rSlice r).size = 1 from rfl, Nat.mul_one, Nat.add_zero] at h6
    refine ⟨(ll[i].length, CS), ll[i], ad, Ai, ci, List.getElem?_eq_getElem hi, h2, h3, h6, ⟨k1.1, fun hn => ?_⟩, k4 _ h1, rfl, k1⟩
    obtain ⟨ad', e1, e2⟩ := k3 hn
    exact ⟨ad', e1, e2, k2 ad' e1⟩
  have key : ∀ k, k ≤ ll.length → catN css k = (ll.take k).flatten.length ∧ CellsOf r w B (ll.take k).flatten (catC css k) := by
    intro k
    induction k with
    | zero => intro _; exact ⟨by simp [catN], by simpa [catC] using CellsOf.nil⟩
    | succ k ih =>
      intro hk
      obtain ⟨e1, e2⟩ := ih (by omega)
      obtain ⟨c, hc⟩ : ∃ c, css[k]? = some c := ⟨_, List.getElem?_eq_getElem (by omega)⟩
      obtain ⟨l, ad, Ai, ci, hlk, _, _, _, _, _, h7, h8⟩ := hp k c hc
      rw [catN_succ hc, catC_succ hc, take_at hlk, List.flatten_append, List.length_append, e1, h7]
      refine ⟨by simp, ?_⟩
      rw [List.flatten_singleton]
      exact cats.CellsOf.append e2 h8
  refine ⟨css, fun i c hi => ?_, hl, ?_, ?_⟩
  · obtain ⟨l, ad, Ai, ci, _, h2, h3, h4, h5, h6, _⟩ := hp i c hi
    exact ⟨ad, Ai, ci, h2, h3, h4, h5, h6⟩
  · have := (key ll.length (Nat.le_refl _)).1
    rw [hl, this, List.take_length]
  · have := (key ll.length (Nat.le_refl _)).2
    rw [List.take_length] at this
    rw [hl]
    exact this
theorem GRows.more {size : Nat} {w : World} {B B' : Nat} {A : Option Addr} {css : List (Nat × List Value)} (h : GRows size w B A css) (hB : B ≤ B') : GRows size w B' A css := fun i c hi => by
  obtain ⟨ad, Ai, ci, h1, h2, h3, h4, h5⟩ := h i c hi
  exact ⟨ad, Ai, ci, h1, by omega, h3, h4.more hB, h5⟩
theorem sha_one {w : World} {B : Nat} {cs : List Value} {s : Sha} (h : rSha.at_ w B cs s) : ∀ u ∈ cs, u.oneCell' = true := fun u hu => by
  obtain ⟨C, c, rfl, _⟩ := rSha_at h
  simp only [ShaCells, List.mem_cons, List.not_mem_nil, or_false] at hu
  rcases hu with rfl | rfl <;> rfl
/-- What Concat hands back: a row of its own; the loads lie where they lay. -/
def ShaConc (w : World) (B : Nat) (fl : List Sha) (e : Ending) (w' : World) : Prop := ∃ A c CS, e = .returned (.slice A fl.length c) ∧ w'.ownsRow w.heap.size 87 2 (.slice A fl.length c) fl.length CS ∧ CellsOf rSha w' B fl CS ∧ Below w.heap.size w w'
theorem sha_conc (A : Option Addr) (c : Nat) (ll : List (List Sha)) (w : World) (B : Nat) (hB : B ≤ w.heap.size) (hL : RowAt (rSlice rSha) w B A ll) (hn : ll.length ≤ 1000000) (ht : ll.flatten.length ≤ 1000000) :
    Calls Tryz.prog 119 #[.slice A ll.length c] w (ShaConc w B ll.flatten) := by
  obtain ⟨css, h1, h2, h3, h4⟩ := rows_cells (r := rSha) (by decide) hL (fun cs x => sha_one)
  have h := sha_concat A c css w (h1.more hB) (by omega) (by omega)
  rw [h3, h2] at h
  rw [h2] at h4
  refine h.mono ?_
  rintro e w' ⟨A', c', rfl, h5, h6⟩
  exact ⟨A', c', _, rfl, h5, h4.keep (h6.mono hB), h6⟩
end Go.Proofs.YtceceomaheobhaaGreatDoor.cats

/- split.sum. -/
namespace Go.Proofs.YtceceomaheobhaaGreatDoor.spl
open Go.RowKit
open Go.Proofs.YtceceomaheobhaaGreatDoor.lib Go.Proofs.YtceceomaheobhaaGreatDoor.rd Go.Proofs.YtceceomaheobhaaGreatDoor.app Go.Proofs.YtceceomaheobhaaGreatDoor.els Go.Proofs.YtceceomaheobhaaGreatDoor.loads Go.Proofs.YtceceomaheobhaaGreatDoor.typ Go.Proofs.YtceceomaheobhaaGreatDoor.big Go.Proofs.YtceceomaheobhaaGreatDoor.ins Go.Proofs.YtceceomaheobhaaGreatDoor.ord Go.Proofs.YtceceomaheobhaaGreatDoor.flts Go.Proofs.YtceceomaheobhaaGreatDoor.off Go.Proofs.YtceceomaheobhaaGreatDoor.cats
set_option linter.unusedVariables false
set_option linter.unusedSimpArgs false

def smZero (os : List Ord) : List (List Int) := os.map fun o => List.replicate o.load.length 0
/-- Whether a share is one of the orders whose sums are acc. -/
def smOk (acc : List (List Int)) (s : Sha) : Bool := decide (0 ≤ s.order ∧ s.order < (acc.length : Int)) && rightB s.load (acc[s.order.toNat]?.getD []).length
def smPut (acc : List (List Int)) (s : Sha) : List (List Int) := acc.set s.order.toNat (addE (acc[s.order.toNat]?.getD []) s.load)
def smGo : List Sha → List (List Int) → Option (List (List Int))
  | [], acc => some acc
  | s :: l, acc => if smOk acc s then smGo l (smPut acc s) else none
/-- What sum answers. -/
def sumF (os : List Ord) (l : List Sha) : Option (List (List Int)) := smGo l (smZero os)
theorem smGo_at {l : List Sha} {k : Nat} {s : Sha} {acc : List (List Int)} (h : l[k]? = some s) : smGo (l.drop k) acc = if smOk acc s then smGo (l.drop (k + 1)) (smPut acc s) else none := by
  rw [drop_at' h, smGo]
/-- The first k of the zeros are made. -/
def smPart (os : List Ord) (k : Nat) : List (List Int) := (os.take k).map (fun o => List.replicate o.load.length 0) ++ List.replicate (os.length - k) []
theorem smPart_zero (os : List Ord) : smPart os 0 = List.replicate os.length [] := by unfold smPart; simp
theorem smPart_full (os : List Ord) : smPart os os.length = smZero os := by unfold smPart smZero; simp
theorem smPart_len {os : List Ord} {k : Nat} (h : k ≤ os.length) : (smPart os k).length = os.length := by
  unfold smPart
  rw [List.length_append, List.length_map, List.length_take, List.length_replicate]
  omega
theorem smPart_succ {os : List Ord} {k : Nat} {o : Ord} (h : os[k]? = some o) : smPart os (k + 1) = (smPart os k).set k (List.replicate o.load.length 0) := by
  have hk := (List.getElem?_eq_some_iff.1 h).1
  apply List.ext_getElem?
  intro i
  rw [List.getElem?_set, smPart_len (by omega)]
  unfold smPart
  rw [List.getElem?_append, List.getElem?_append]
  simp only [List.length_map, List.length_take]
  rw [take_at h, List.map_append]
  by_cases hik : k = i
  · subst hik
    rw [if_pos rfl, if_pos hk, if_pos (by omega), List.getElem?_append_right (by simp; omega)]
    simp
    rw [show min k os.length = k by omega, Nat.sub_self]
    rfl
  · rw [if_neg hik]
    by_cases hi : i < k
    · rw [if_pos (by omega), if_pos (by omega), List.getElem?_append_left (by simp; omega)]
    · rw [if_neg (by omega), if_neg (by omega), List.getElem?_replicate, List.getElem?_replicate]
      by_cases h2 : i < os.length
      · rw [if_pos (by omega), if_pos (by omega)]
      · rw [if_neg (by omega), if_neg (by omega)]
theorem smOk_right {acc : List (List Int)} {s : Sha} (h : smOk acc s = true) : BdL 1000 s.load := by
  unfold smOk rightB at h
  simp only [Bool.and_eq_true, List.all_eq_true, decide_eq_true_eq] at h
  exact fun x hx => h.2.1 x hx
theorem smPut_bd {acc : List (List Int)} {s : Sha} {m : Int} (hm : 0 ≤ m) (h : ∀ l ∈ acc, BdL m l) (hs : BdL 1000 s.load) : ∀ l ∈ smPut acc s, BdL (m + 1000) l := fun l hl => by
  unfold smPut at hl
  rcases List.mem_or_eq_of_mem_set hl with h1 | h1
  · exact fun x hx => by have := h l h1 x hx; omega
  · subst h1
    refine addE_bd ?_ hs
    cases ha : acc[s.order.toNat]? with
    | none => intro x hx; cases hx
    | some b => exact h b (List.mem_of_getElem? ha)
theorem ints_info : (Tryz.prog.info? 38).map (fun i => (i.zero, i.size, i.bytes)) = some (some (.slice none 0 0), 1, 24) := by kernel_rfl
/-- make([][]int, n). -/
theorem make_lists {ops : Array Oper} {rest : List Oper} {o : Oper} {a : Act} {Q : Exit → Act → World → Prop} {w : World} (hg : o.guard = none) (l c : Operand) (hop : o.op = Op.makeSlice 69 l c)
    (base : Nat) (n : Nat) (hl : a.eval l = .int .i64 n) (hc : a.eval c = .int .i64 n) (hn : n ≤ 1000000) (hbase : base ≤ w.heap.size)
    (h : ∀ w', w'.ownsRow base 38 1 (.slice (some ⟨w.heap.size, 0, none⟩) n n) n (List.replicate n (.slice none 0 0)) → Below w.heap.size w w' → w.heap.size < w'.heap.size → wpList Tryz.prog ops Q rest (a.put o.dst (.slice (some ⟨w.heap.size, 0, none⟩) n n)) w') :
    wpList Tryz.prog ops Q (o :: rest) a w := by
  obtain ⟨i0, hi, hz0, hz1, hz2⟩ := info_parts ints_info
  refine wpList_make_full w hg l c 69 hop base 38 i0 (.slice none 0 0) 1 Tryz.underlying69 hi hz0 hz1 .i64 .i64 n n n hl hc rfl rfl (by rw [hz2]; omega) (by unfold maxLen; omega) hbase ?_
  intro w' hown hg'
  refine h w' ?_ ((Below.refl _ _).grown hg' (Nat.le_refl _) (by intro k hk; cases hk)) ?_
  · have e : (madeCells (Value.slice none 0 0).cells (n * 1)).toList = List.replicate n (Value.slice none 0 0) := by
      rw [Nat.mul_one]
      exact toList_madeCells_one (.slice none 0 0) n
    rw [← e]
    exact hown
  · obtain ⟨cur, hh⟩ : ∃ o, w'.heap[w.heap.size]? = some o := by
      rcases hown.2 with ⟨h1, _⟩ | ⟨g, cap, cur, h1, _, h2, _⟩
      · cases h1
      · injection h1 with h1 _ _
        injection h1 with h1
        injection h1 with h1
        subst h1
        exact ⟨_, h2⟩
    rcases Nat.lt_or_ge w.heap.size w'.heap.size with h | h
    · exact h
    · rw [Array.getElem?_eq_none h] at hh; cases hh
/-- Where sum stands: the sums acc, in block g. -/
structure SmSt (base : Nat) (W : World) (n g : Nat) (acc : List (List Int)) (wr : World) (cs : List Value) : Prop where
  len : acc.length = n
  own : wr.ownsRow base 38 1 (.slice (some ⟨g, 0, none⟩) n n) n cs
  els : EG oInts wr (fun b => b ≠ g ∧ base ≤ b) cs acc
  bel : Below base W wr
  lo : base ≤ g ∧ g < wr.heap.size
section
variable {base : Nat} {W : World} {n g : Nat} {acc : List (List Int)} {wr wx : World} {cs : List Value}
theorem SmSt.below (h : SmSt base W n g acc wr cs) (hb : Below wr.heap.size wr wx) : SmSt base W n g acc wx cs := ⟨h.len, own_below h.own hb, h.els.below hb, h.bel.trans (hb.mono (by have := h.lo; omega)), h.lo.1, Nat.lt_of_lt_of_le h.lo.2 hb.size⟩
theorem SmSt.at_ (h : SmSt base W n g acc wr cs) {i : Nat} {l : List Int} (hi : acc[i]? = some l) : ∃ C c, wr.cell? ⟨g, i, none⟩ = some (.slice C l.length c) ∧ IntsOff wr (fun b => b ≠ g ∧ base ≤ b) C l ∧ wr.frozen? ⟨g, i, none⟩ = false := by
  have hil := (List.getElem?_eq_some_iff.1 hi).1
  obtain ⟨c, h3, h4, h5⟩ := h.els.at_ hi
  obtain ⟨C, c0, rfl, hio⟩ := h3
  have e1 := h5 0 _ rfl
  rw [show oInts.rd.size = 1 from rfl, Nat.mul_one, Nat.add_zero] at e1
  have hcl : cs.length = n := by have := h.own.1; omega
  have hl := h.len
  have c1 := h.own.cellAt i (by omega)
  rw [e1] at c1
  exact ⟨C, c0, c1, hio, h.own.frozenAt i⟩
theorem SmSt.put (h : SmSt base W n g acc wr cs) {i : Nat} (hi : i < n) {l : List Int} {C : Option Addr} {c : Nat} (hI : IntsOff wr (fun b => b ≠ g ∧ base ≤ b) C l) : SmSt base W n g (acc.set i l) (wr.setCell ⟨g, i, none⟩ (.slice C l.length c)) (cs.set i (.slice C l.length c)) := by
  have hgr := grownBy_set wr g i (.slice C l.length c)
  have hk : ∀ b, b < wr.heap.size → (b ≠ g ∧ base ≤ b) → (b ≠ g ∧ base ≤ b) ∧ (wr.setCell ⟨g, i, none⟩ (.slice C l.length c)).heap[b]? = wr.heap[b]? := fun b hb hp => ⟨hp, hgr.block b hb (fun e => hp.1 (by injection e))⟩
  refine ⟨by rw [List.length_set]; exact h.len, (h.own.stored i _).1, ?_, h.bel.setCell (p := ⟨g, i, none⟩) h.lo.1 _, h.lo.1, by simp; exact h.lo.2⟩
  have hm := EG.mod (r := oInts) (i := i) (j := 0) (u := .slice C l.length c) (x' := l) (h.els.keep hgr.size hk) (by rw [h.len]; exact hi) (show 0 < 1 by decide) (by
    obtain ⟨x, hx⟩ : ∃ x, acc[i]? = some x := ⟨_, List.getElem?_eq_getElem (by rw [h.len]; exact hi)⟩
    obtain ⟨D, d, hc, _⟩ := h.els.2 i x hx
    rw [hc]
    exact ⟨C, c, rfl, intsOff_keep hI hgr.size hk⟩)
  rw [show oInts.rd.size = 1 from rfl, Nat.mul_one, Nat.add_zero] at hm
  exact hm
end
def SumOut (w : World) (r : Option (List (List Int))) (e : Ending) (w' : World) : Prop := match r with
  | none => e = .returned (.tuple #[.slice none 0 0, .int .i64 2]) ∧ Below w.heap.size w w'
  | some acc => ∃ A c cs, e = .returned (.tuple #[.slice A acc.length c, .int .i64 0]) ∧ w'.ownsRow w.heap.size 38 1 (.slice A acc.length c) acc.length cs ∧ EG oInts w' (fun b => w.heap.size ≤ b) cs acc ∧ Below w.heap.size w w'
end Go.Proofs.YtceceomaheobhaaGreatDoor.spl

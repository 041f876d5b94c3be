/- split.Expand: what it computes, and where it stands. -/
import Derived.Test.YtceceomaheobhaaSplB
import Derived.Test.YtceceomaheobhaaSplC
import Derived.Test.YtceceomaheobhaaSplD
namespace Go.Proofs.Ytceceomaheobhaa.spl
open Go.RowKit
open Go.Proofs.Ytceceomaheobhaa.lib Go.Proofs.Ytceceomaheobhaa.rd Go.Proofs.Ytceceomaheobhaa.app Go.Proofs.Ytceceomaheobhaa.els Go.Proofs.Ytceceomaheobhaa.loads Go.Proofs.Ytceceomaheobhaa.typ Go.Proofs.Ytceceomaheobhaa.big Go.Proofs.Ytceceomaheobhaa.ins Go.Proofs.Ytceceomaheobhaa.ord Go.Proofs.Ytceceomaheobhaa.flts
set_option linter.unusedVariables false
set_option linter.unusedSimpArgs false

/-- The parts ps of order i appended: the orders so far, their origins; or the error of a name. -/
def expPs (os : List Ord) (i : Int) (sp : Bool) : List Ord → List Ord → List Int → Except Int (List Ord × List Int)
  | [], out, org => .ok (out, org)
  | p :: ps, out, org => if sp = true ∧ namedE os out p.name ≠ 0 then .error (namedE os out p.name) else expPs os i sp ps (out ++ [p]) (org ++ [i])
def expOs (os : List Ord) : List Ord → Nat → List Ord → List Int → Except Int (List Ord × List Int)
  | [], i, out, org => .ok (out, org)
  | o :: rest, i, out, org => match partsF o with
    | none => .error 2
    | some ps => match expPs os i (decide (1 < o.split)) ps out org with
      | .error e => .error e
      | .ok (out', org') => expOs os rest (i + 1) out' org'
/-- What follows one order's parts. -/
def expThen (os rest : List Ord) (i : Nat) : Except Int (List Ord × List Int) → Except Int (List Ord × List Int)
  | .error e => .error e
  | .ok (out, org) => expOs os rest i out org
theorem expOs_cons {os rest : List Ord} {o : Ord} {i : Nat} {out : List Ord} {org : List Int} {ps : List Ord} (h : partsF o = some ps) : expOs os (o :: rest) i out org = expThen os rest (i + 1) (expPs os i (decide (1 < o.split)) ps out org) := by
  obtain ⟨r, hr⟩ : ∃ r, expPs os i (decide (1 < o.split)) ps out org = r := ⟨_, rfl⟩
  rw [expOs, h, hr]
  simp only [hr]
  cases r <;> rfl
theorem expPs_bad {os : List Ord} {i : Int} {p : Ord} {ps out : List Ord} {org : List Int} (h : namedE os out p.name ≠ 0) : expPs os i true (p :: ps) out org = .error (namedE os out p.name) := by rw [expPs, if_pos ⟨rfl, h⟩]
theorem expPs_good {os : List Ord} {i : Int} {p : Ord} {ps out : List Ord} {org : List Int} (h : namedE os out p.name = 0) : expPs os i true (p :: ps) out org = expPs os i true ps (out ++ [p]) (org ++ [i]) := by rw [expPs, if_neg (fun h' => h'.2 h)]
theorem expPs_one {os : List Ord} {i : Int} {p : Ord} {ps out : List Ord} {org : List Int} : expPs os i false (p :: ps) out org = expPs os i false ps (out ++ [p]) (org ++ [i]) := by rw [expPs, if_neg (fun h' => by cases h'.1)]
def maxOne (a : Int) : Int := if 1 < a then a else 1
def totalO (os : List Ord) : Int := (os.map fun o => maxOne o.split).sum
def expFin (x : Ins) : Except Int (List Ord × List Int) → Except Int (Ins × List Int)
  | .error e => .error e
  | .ok (out, org) => if 16 < (sprP x.apart org x.apart.length).length ∨ 16 < (sprP x.before org x.before.length).length then .error 4
    else .ok (⟨x.net, x.types, out, sprP x.apart org x.apart.length, sprP x.before org x.before.length⟩, org)
/-- What Expand answers. -/
def expF (x : Ins) : Except Int (Ins × List Int) := if 10 < totalO x.orders then .error 4 else expFin x (expOs x.orders x.orders 0 [] [])
def ExpOut (w : World) (r : Except Int (Ins × List Int)) (e : Ending) (w' : World) : Prop := match r with
  | .error k => e = .returned (.tuple #[InV nilI nilP, .slice none 0 0, .int .i64 k]) ∧ Below w.heap.size w w'
  | .ok (y, org) => ∃ P A c, e = .returned (.tuple #[InV y P, .slice A org.length c, .int .i64 0]) ∧ InAt w' w'.heap.size y P ∧ Ints w' w'.heap.size A org ∧ Below w.heap.size w w'

/-! What stays. -/
theorem IntsOff.keep {w w' : World} {P P' : Nat → Prop} {A : Option Addr} {l : List Int} (h : IntsOff w P A l) (hs : w.heap.size ≤ w'.heap.size) (hk : ∀ b, b < w.heap.size → P b → P' b ∧ w'.heap[b]? = w.heap[b]?) : IntsOff w' P' A l := by
  obtain ⟨h1, h2⟩ := h
  rcases Nat.eq_zero_or_pos l.length with h0 | h0
  · have : l = [] := List.eq_nil_of_length_eq_zero h0
    subst this
    exact ⟨⟨⟨rfl, fun h => absurd h (by decide)⟩, by simp⟩, fun h => absurd h (by decide)⟩
  · obtain ⟨ad, hA, hp⟩ := h2 h0
    obtain ⟨⟨hlen, hrd⟩, hl⟩ := h1
    obtain ⟨ad', hA', hb, hc⟩ := hrd h0
    obtain rfl : ad = ad' := Option.some.inj (hA.symm.trans hA')
    obtain ⟨k1, k2⟩ := hk _ hb hp
    refine ⟨⟨⟨hlen, fun _ => ⟨ad, hA, Nat.lt_of_lt_of_le hb hs, fun j u hu => ?_⟩⟩, hl⟩, fun _ => ⟨ad, hA, k1⟩⟩
    exact (World.cell?_of_block (by rw [block_of_add]; exact k2)).trans (hc j u hu)
theorem ElsIn.keep {X : Type} {f : X → El} {w w' : World} {P P' : Nat → Prop} {cs : List Value} {xs : List X} (h : ElsIn f w P cs xs) (hs : w.heap.size ≤ w'.heap.size) (hk : ∀ b, b < w.heap.size → P b → P' b ∧ w'.heap[b]? = w.heap[b]?) : ElsIn f w' P' cs xs := by
  induction h with
  | nil => exact .nil
  | snoc c _ hi ih => exact .snoc c ih (IntsOff.keep hi hs hk)
/-- The parts that are still to be read. -/
def PsAt (w : World) (Q : Nat → Prop) (A : Option Addr) (ps : List Ord) : Prop := ∀ (k : Nat) p, ps[k]? = some p → ∃ ad Ai ci, A = some ad ∧ Q ad.block ∧ ad.block < w.heap.size ∧ CellsAt w (ad.add (k * 16)) (OrdCells p Ai ci) ∧ IntsOff w Q Ai p.load
theorem PsAt.keep {w w' : World} {Q Q' : Nat → Prop} {A : Option Addr} {ps : List Ord} (h : PsAt w Q A ps) (hs : w.heap.size ≤ w'.heap.size) (hk : ∀ b, b < w.heap.size → Q b → Q' b ∧ w'.heap[b]? = w.heap[b]?) : PsAt w' Q' A ps := fun k p hp => by
  obtain ⟨ad, Ai, ci, h1, h2, h3, h4, h5⟩ := h k p hp
  obtain ⟨k1, k2⟩ := hk _ h3 h2
  exact ⟨ad, Ai, ci, h1, k1, Nat.lt_of_lt_of_le h3 hs, h4.heap (by rw [block_of_add]; exact k2), IntsOff.keep h5 hs hk⟩
theorem PsAt.of_own {w : World} {base c : Nat} {A : Option Addr} {P Q : Nat → Prop} {cs : List Value} {ps : List Ord} (hown : w.ownsRow base 75 16 (.slice A ps.length c) ps.length cs) (hE : ElsIn ordEl w P cs ps) (hPQ : ∀ b, b < w.heap.size → P b → Q b) (hQ : ∀ b, base ≤ b → Q b) : PsAt w Q A ps := fun k p hp => by
  obtain ⟨_, h2⟩ := hE.at_ (s := 16) (fun x A c => rfl)
  obtain ⟨Ai, ci, h3, h4⟩ := h2 k p hp
  have hk := (List.getElem?_eq_some_iff.1 hp).1
  rcases hown.2 with ⟨h5, h6⟩ | ⟨g, cap, cur, h5, h6, h7, h8⟩
  · omega
  · injection h5 with h5 _ _
    subst h5
    refine ⟨⟨g, 0, none⟩, Ai, ci, rfl, hQ g h6, (Array.getElem?_eq_some_iff.1 h7).1, fun j u hu => ?_, h3.weak hPQ⟩
    have := hown.cells (g := g) rfl _ _ (h4 j u hu)
    rw [add_of_add]
    exact this
/-- The blocks that Expand does not write. -/
def ExpQ (H R : Nat) (v1 v2 : Value) (b : Nat) : Prop := b ≠ H ∧ some b ≠ v1.ownBlock ∧ some b ≠ v2.ownBlock ∧ b ≠ R
theorem ExpQ.keep {H R : Nat} {v1 v2 : Value} {w w' : World} (hb : Below w.heap.size w w') : ∀ b, b < w.heap.size → ExpQ H R v1 v2 b → ExpQ H R v1 v2 b ∧ w'.heap[b]? = w.heap[b]? := fun b h hq => ⟨hq, hb.block b h⟩
/-- A struct in a box of its own. -/
def BxAt (w : World) (Q : Nat → Prop) (p : Nat) (o : Ord) (C : Option Addr) (c : Nat) : Prop := Q p ∧ OrBlk w p o C c
theorem BxAt.keep {w w' : World} {Q Q' : Nat → Prop} {p : Nat} {o : Ord} {C : Option Addr} {c : Nat} (h : BxAt w Q p o C c) (hk : ∀ b, b < w.heap.size → Q b → Q' b ∧ w'.heap[b]? = w.heap[b]?) : BxAt w' Q' p o C c := by
  obtain ⟨k1, k2⟩ := hk p (Array.getElem?_eq_some_iff.1 h.2).1 h.1
  exact ⟨k1, k2.trans h.2⟩
/-- Where Expand stands. -/
structure ExpSt (H R : Nat) (w : World) (bx : List Value) (ns : List Int) (os : List Ord) (wr : World) (B1 : Option Addr) (d1 : Nat) (B2 : Option Addr) (d2 : Nat) (cs : List Value) : Prop where
  own1 : wr.ownsRow (H + 1) 3 1 (.slice B1 ns.length d1) ns.length (ns.map (.int .i64))
  own2 : wr.ownsRow (H + 1) 75 16 (.slice B2 os.length d2) os.length cs
  els : ElsIn ordEl wr (ExpQ H R (.slice B1 ns.length d1) (.slice B2 os.length d2)) cs os
  box : SixAt wr H bx
  bel : Below H w wr
  sz : H + 1 ≤ wr.heap.size
section
variable {H R : Nat} {w : World} {bx : List Value} {ns : List Int} {os : List Ord} {wr wx : World} {B1 : Option Addr} {d1 : Nat} {B2 : Option Addr} {d2 : Nat} {cs : List Value}
theorem ExpSt.below (h : ExpSt H R w bx ns os wr B1 d1 B2 d2 cs) (hb : Below wr.heap.size wr wx) : ExpSt H R w bx ns os wx B1 d1 B2 d2 cs := by
  have := h.sz
  exact ⟨own_below h.own1 hb, own_below h.own2 hb, h.els.stay (row := none) (Stays.below hb) (fun b _ _ e => by cases e) (fun b _ hp => hp), h.box.below hb, h.bel.trans (hb.mono (by omega)), Nat.le_trans h.sz hb.size⟩
theorem ExpSt.push1 (h : ExpSt H R w bx ns os wr B1 d1 B2 d2 cs) {k : Int} {g c : Nat}
    (hown : wx.ownsRow (H + 1) 3 1 (.slice (some ⟨g, 0, none⟩) (ns.length + 1) c) (ns.length + 1) (ns.map (.int .i64) ++ [.int .i64 k])) (hg : wr.grownBy wx (Value.slice B1 ns.length d1).ownBlock) (hd : (Value.slice B1 ns.length d1).ownBlock = some g ∨ wr.heap.size ≤ g) :
    ExpSt H R w bx (ns ++ [k]) os wx (some ⟨g, 0, none⟩) c B2 d2 cs ∧ ∀ b, b < wr.heap.size → ExpQ H R (.slice B1 ns.length d1) (.slice B2 os.length d2) b → ExpQ H R (.slice (some ⟨g, 0, none⟩) (ns ++ [k]).length c) (.slice B2 os.length d2) b ∧ wx.heap[b]? = wr.heap[b]? := by
  have hb := fun q e => (World.ownsRow.lt h.own1 q e).1
  have hs := h.sz
  have hk : ∀ b, b < wr.heap.size → ExpQ H R (.slice B1 ns.length d1) (.slice B2 os.length d2) b → ExpQ H R (.slice (some ⟨g, 0, none⟩) (ns ++ [k]).length c) (.slice B2 os.length d2) b ∧ wx.heap[b]? = wr.heap[b]? := fun b hb hq => by
    refine ⟨⟨hq.1, fun e => ?_, hq.2.2⟩, hg.block b hb hq.2.1⟩
    have e : b = g := by injection e
    subst e
    rcases hd with hd | hd
    · exact hq.2.1 hd.symm
    · omega
  refine ⟨⟨by rw [List.length_append, List.map_append]; exact hown, own_grown h.own2 hg (own_ne_type h.own2 h.own1 ord_int), ElsIn.keep h.els hg.size hk, h.box.keep (hg.block H (by omega) (fun e => ?_)), h.bel.grown hg (by omega) (fun q e => ?_), Nat.le_trans hs hg.size⟩, hk⟩
  · have := hb _ e.symm; omega
  · have := hb _ e; omega
theorem ExpSt.push2 (h : ExpSt H R w bx ns os wr B1 d1 B2 d2 cs) {o : Ord} {C : Option Addr} {c0 g c : Nat} (hI : IntsOff wr (ExpQ H R (.slice B1 ns.length d1) (.slice B2 os.length d2)) C o.load)
    (hown : wx.ownsRow (H + 1) 75 16 (.slice (some ⟨g, 0, none⟩) (os.length + 1) c) (os.length + 1) (cs ++ OrdCells o C c0)) (hg : wr.grownBy wx (Value.slice B2 os.length d2).ownBlock) (hd : (Value.slice B2 os.length d2).ownBlock = some g ∨ wr.heap.size ≤ g) :
    ExpSt H R w bx ns (os ++ [o]) wx B1 d1 (some ⟨g, 0, none⟩) c (cs ++ OrdCells o C c0) ∧ ∀ b, b < wr.heap.size → ExpQ H R (.slice B1 ns.length d1) (.slice B2 os.length d2) b → ExpQ H R (.slice B1 ns.length d1) (.slice (some ⟨g, 0, none⟩) (os ++ [o]).length c) b ∧ wx.heap[b]? = wr.heap[b]? := by
  have hb := fun q e => (World.ownsRow.lt h.own2 q e).1
  have hs := h.sz
  have hk : ∀ b, b < wr.heap.size → ExpQ H R (.slice B1 ns.length d1) (.slice B2 os.length d2) b → ExpQ H R (.slice B1 ns.length d1) (.slice (some ⟨g, 0, none⟩) (os ++ [o]).length c) b ∧ wx.heap[b]? = wr.heap[b]? := fun b hb hq => by
    refine ⟨⟨hq.1, hq.2.1, fun e => ?_, hq.2.2.2⟩, hg.block b hb hq.2.2.1⟩
    have e : b = g := by injection e
    subst e
    rcases hd with hd | hd
    · exact hq.2.2.1 hd.symm
    · omega
  refine ⟨⟨own_grown h.own1 hg (own_ne_type h.own1 h.own2 (Ne.symm ord_int)), by rw [List.length_append]; exact hown, ElsIn.snoc c0 (ElsIn.keep h.els hg.size hk) (IntsOff.keep hI hg.size hk), h.box.keep (hg.block H (by omega) (fun e => ?_)), h.bel.grown hg (by omega) (fun q e => ?_), Nat.le_trans hs hg.size⟩, hk⟩
  · have := hb _ e.symm; omega
  · have := hb _ e; omega
theorem ExpSt.store (h : ExpSt H R w bx ns os wr B1 d1 B2 d2 cs) (i : Nat) (u : Value) : ExpSt H R w (bx.set i u) ns os (wr.setCell ⟨H, i, none⟩ u) B1 d1 B2 d2 cs ∧ ∀ b, b < wr.heap.size → ExpQ H R (.slice B1 ns.length d1) (.slice B2 os.length d2) b → ExpQ H R (.slice B1 ns.length d1) (.slice B2 os.length d2) b ∧ (wr.setCell ⟨H, i, none⟩ u).heap[b]? = wr.heap[b]? := by
  have hs := h.sz
  have hg := grownBy_set wr H i u
  have hk : ∀ b, b < wr.heap.size → ExpQ H R (.slice B1 ns.length d1) (.slice B2 os.length d2) b → ExpQ H R (.slice B1 ns.length d1) (.slice B2 os.length d2) b ∧ (wr.setCell ⟨H, i, none⟩ u).heap[b]? = wr.heap[b]? := fun b hb hq => ⟨hq, hg.block b hb (fun e => hq.1 (by injection e))⟩
  exact ⟨⟨ownsRow_setCell_below h.own1 (by show H < _; omega) u, ownsRow_setCell_below h.own2 (by show H < _; omega) u, ElsIn.keep h.els hg.size hk, h.box.set i u, h.bel.setCell (p := ⟨H, i, none⟩) (Nat.le_refl _) u, Nat.le_trans hs hg.size⟩, hk⟩
theorem ExpSt.orders (h : ExpSt H R w bx ns os wr B1 d1 B2 d2 cs) (hl : os.length ≤ 1000) (hf : ∀ o ∈ os, OrdFits o) : RowAt rOrd wr wr.heap.size B2 os :=
  h.els.row (r := rOrd) (fun o A c => rfl) h.own2 (fun o ho A c hi => rOrd_mk hi (hf o ho)) (by omega)
end
end Go.Proofs.Ytceceomaheobhaa.spl

import Derived.Test.YthefooacfcagbaaGreatDoorBase
import Derived.RangeFuncBox
import Derived.Deep.DeepCutAuto
import Derived.Deep.RegionHeld3
/- Rows of the call's own whose elements lead to other rows, nested to any depth. Portable. -/
namespace Go.Proofs.YthefooacfcagbaaGreatDoor.off
open Go.RowKit
open lib rd app els
set_option linter.unusedVariables false
theorem intsOff_keep {w w' : World} {P P' : Nat → Prop} {A : Option Addr} {l : List Int} (h : IntsOff w P A l) (hs : w.heap.size ≤ w'.heap.size) (hk : ∀ b, b < w.heap.size → P b → P' b ∧ w'.heap[b]? = w.heap[b]?) : IntsOff w' P' A l := by
 obtain ⟨h1, h2⟩ := h
 rcases Nat.eq_zero_or_pos l.length with h0 | h0
 ·have : l = [] := List.eq_nil_of_length_eq_zero h0
  subst this
  exact ⟨⟨⟨rfl, fun h => absurd h (by decide)⟩, by simp⟩, fun h => absurd h (by decide)⟩
 ·obtain ⟨ad, hA, hp⟩ := h2 h0
  obtain ⟨⟨hlen, hrd⟩, hl⟩ := h1
  obtain ⟨ad', hA', hb, hc⟩ := hrd h0
  obtain rfl : ad = ad' := Option.some.inj (hA.symm.trans hA')
  obtain ⟨k1, k2⟩ := hk _ hb hp
  refine ⟨⟨⟨hlen, fun _ => ⟨ad, hA, Nat.lt_of_lt_of_le hb hs, fun j u hu => ?_⟩⟩, hl⟩, fun _ => ⟨ad, hA, k1⟩⟩
  exact (World.cell?_of_block (by rw [block_of_add]; exact k2)).trans (hc j u hu)
structure Off (X : Type) where
 rd : Rd X
 at_ : World → (Nat → Prop) → List Value → X → Prop
 read : ∀ {w : World} {P : Nat → Prop} {cs : List Value} {x : X}, at_ w P cs x → rd.at_ w w.heap.size cs x
 keep : ∀ {w w' : World} {P P' : Nat → Prop} {cs : List Value} {x : X}, at_ w P cs x → w.heap.size ≤ w'.heap.size → (∀ b, b < w.heap.size → P b → P' b ∧ w'.heap[b]? = w.heap[b]?) → at_ w' P' cs x
def oInt : Off Int where
 rd := rInt
 at_ _ _ cs x := cs = [.int .i64 x] ∧ -9223372036854775808 ≤ x ∧ x ≤ 9223372036854775807
 read h := h
 keep h _ _ := h
def oBool : Off Bool where
 rd := rBool
 at_ _ _ cs x := cs = [.bool x]
 read h := h
 keep h _ _ := h
def oStr : Off ByteArray where
 rd := rStr
 at_ _ _ cs x := cs = [.string x] ∧ x.size ≤ 140737488351232
 read h := h
 keep h _ _ := h
def oInts : Off (List Int) where
 rd := rInts
 at_ w P cs x := ∃ A c, cs = [.slice A x.length c] ∧ IntsOff w P A x
 read h := by obtain ⟨A, c, h1, h2⟩ := h; exact ⟨A, c, h1, h2.1⟩
 keep h hs hk := by obtain ⟨A, c, h1, h2⟩ := h; exact ⟨A, c, h1, intsOff_keep h2 hs hk⟩
def oPair {X Y : Type} (r : Off X) (q : Off Y) : Off (X × Y) where
 rd := rPair r.rd q.rd
 at_ w P cs x := ∃ a b, cs = a ++ b ∧ r.at_ w P a x.1 ∧ q.at_ w P b x.2
 read h := by obtain ⟨a, b, h0, h1, h2⟩ := h; exact ⟨a, b, h0, r.read h1, q.read h2⟩
 keep h hs hk := by obtain ⟨a, b, h0, h1, h2⟩ := h; exact ⟨a, b, h0, r.keep h1 hs hk, q.keep h2 hs hk⟩
def oMap {X Y : Type} (r : Off X) (f : X → Y) : Off Y where
 rd := rMap r.rd f
 at_ w P cs y := ∃ x, f x = y ∧ r.at_ w P cs x
 read h := by obtain ⟨x, h0, h1⟩ := h; exact ⟨x, h0, r.read h1⟩
 keep h hs hk := by obtain ⟨x, h0, h1⟩ := h; exact ⟨x, h0, r.keep h1 hs hk⟩
theorem Off.weak {X : Type} (r : Off X) {w : World} {P P' : Nat → Prop} {cs : List Value} {x : X} (h : r.at_ w P cs x) (hP : ∀ b, b < w.heap.size → P b → P' b) : r.at_ w P' cs x := r.keep h (Nat.le_refl _) (fun b hb hp => ⟨hP b hb hp, rfl⟩)
theorem Off.below {X : Type} (r : Off X) {w w' : World} {P : Nat → Prop} {cs : List Value} {x : X} (h : r.at_ w P cs x) (hb : Below w.heap.size w w') : r.at_ w' P cs x := r.keep h hb.size (fun b hl hp => ⟨hp, hb.block b hl⟩)
def RowOff {X : Type} (r : Off X) (w : World) (P : Nat → Prop) (A : Option Addr) (l : List X) : Prop :=
 l.length ≤ 17592186043904 ∧ ∀ (i : Nat) (x : X), l[i]? = some x → ∃ ad cs, A = some ad ∧ P ad.block ∧ ad.block < w.heap.size ∧ r.at_ w P cs x ∧ ∀ (j : Nat) (u : Value), cs[j]? = some u → w.cell? (ad.add (i * r.rd.size + j)) = some u
section
variable {X : Type} {r : Off X} {w w' : World} {P P' : Nat → Prop} {A : Option Addr} {l : List X}
theorem RowOff.nil : RowOff r w P none [] := ⟨by simp, fun i x h => by simp at h⟩
theorem RowOff.row (h : RowOff r w P A l) : RowAt r.rd w w.heap.size A l := ⟨h.1, fun i x hi => by
 obtain ⟨ad, cs, h1, h2, h3, h4, h5⟩ := h.2 i x hi
 exact ⟨ad, cs, h1, h3, r.read h4, h5⟩⟩
theorem RowOff.keep (h : RowOff r w P A l) (hs : w.heap.size ≤ w'.heap.size) (hk : ∀ b, b < w.heap.size → P b → P' b ∧ w'.heap[b]? = w.heap[b]?) : RowOff r w' P' A l := ⟨h.1, fun i x hi => by
 obtain ⟨ad, cs, h1, h2, h3, h4, h5⟩ := h.2 i x hi
 obtain ⟨k1, k2⟩ := hk _ h3 h2
 exact ⟨ad, cs, h1, k1, Nat.lt_of_lt_of_le h3 hs, r.keep h4 hs hk, fun j u hu => (World.cell?_of_block (by rw [block_of_add]; exact k2)).trans (h5 j u hu)⟩⟩
theorem RowOff.below (h : RowOff r w P A l) (hb : Below w.heap.size w w') : RowOff r w' P A l := h.keep hb.size (fun b hl hp => ⟨hp, hb.block b hl⟩)
theorem RowOff.weak (h : RowOff r w P A l) (hP : ∀ b, b < w.heap.size → P b → P' b) : RowOff r w P' A l := h.keep (Nat.le_refl _) (fun b hb hp => ⟨hP b hb hp, rfl⟩)
end
def oSlice {X : Type} (r : Off X) : Off (List X) where
 rd := rSlice r.rd
 at_ w P cs l := ∃ A c, cs = [.slice A l.length c] ∧ RowOff r w P A l
 read h := by obtain ⟨A, c, h1, h2⟩ := h; exact ⟨A, c, h1, h2.row⟩
 keep h hs hk := by obtain ⟨A, c, h1, h2⟩ := h; exact ⟨A, c, h1, h2.keep hs hk⟩
def EG {X : Type} (r : Off X) (w : World) (P : Nat → Prop) (cs : List Value) (xs : List X) : Prop :=
 cs.length = xs.length * r.rd.size ∧ ∀ (i : Nat) (x : X), xs[i]? = some x → r.at_ w P ((cs.drop (i * r.rd.size)).take r.rd.size) x
section
variable {X : Type} {r : Off X} {w w' : World} {P P' : Nat → Prop} {cs : List Value} {xs : List X}
theorem mul_lt_end {i n s : Nat} (h : i < n) : i * s + s ≤ n * s := by
 have := Nat.mul_le_mul_right s h
 rw [Nat.succ_mul] at this
 exact this
theorem EG.nil : EG r w P [] [] := ⟨by simp, fun i x h => by simp at h⟩
theorem EG.snoc (h : EG r w P cs xs) {c : List Value} {x : X} (hx : r.at_ w P c x) : EG r w P (cs ++ c) (xs ++ [x]) := by
 have hl : c.length = r.rd.size := r.rd.len (r.read hx)
 refine ⟨by rw [List.length_append, List.length_append, h.1, hl, Nat.add_mul]; simp, fun i y hy => ?_⟩
 rcases Nat.lt_or_ge i xs.length with hi | hi
 ·rw [List.getElem?_append_left hi] at hy
  have hm := mul_lt_end (s := r.rd.size) hi
  rw [List.drop_append_of_le_length (by rw [h.1]; omega), List.take_append_of_le_length (by rw [List.length_drop, h.1]; omega)]
  exact h.2 i y hy
 ·rw [List.getElem?_append_right hi] at hy
  rcases Nat.eq_or_lt_of_le hi with rfl | hlt
  ·rw [Nat.sub_self] at hy
   simp at hy
   subst hy
   rw [← h.1, List.drop_append_of_le_length (Nat.le_refl _), List.drop_length, List.nil_append, List.take_of_length_le (by omega)]
   exact hx
  ·rw [List.getElem?_eq_none (by simp; omega)] at hy
   cases hy
theorem EG.keep (h : EG r w P cs xs) (hs : w.heap.size ≤ w'.heap.size) (hk : ∀ b, b < w.heap.size → P b → P' b ∧ w'.heap[b]? = w.heap[b]?) : EG r w' P' cs xs := ⟨h.1, fun i x hi => r.keep (h.2 i x hi) hs hk⟩
theorem EG.below (h : EG r w P cs xs) (hb : Below w.heap.size w w') : EG r w' P cs xs := h.keep hb.size (fun b hl hp => ⟨hp, hb.block b hl⟩)
theorem EG.weak (h : EG r w P cs xs) (hP : ∀ b, b < w.heap.size → P b → P' b) : EG r w P' cs xs := h.keep (Nat.le_refl _) (fun b hb hp => ⟨hP b hb hp, rfl⟩)
theorem EG.at_ (h : EG r w P cs xs) {i : Nat} {x : X} (hi : xs[i]? = some x) : ∃ c, r.at_ w P c x ∧ c.length = r.rd.size ∧ ∀ (j : Nat) u, c[j]? = some u → cs[i * r.rd.size + j]? = some u := by
 have hx := h.2 i x hi
 have hl := r.rd.len (r.read hx)
 refine ⟨_, hx, hl, fun j u hu => ?_⟩
 rw [List.getElem?_take] at hu
 split at hu
 ·rwa [List.getElem?_drop] at hu
 ·cases hu
theorem EG.push {v : Value} {g : Nat} {Q : Nat → Prop} {c : List Value} {x : X} (hE : EG r w (fun b => some b ≠ v.ownBlock ∧ Q b) cs xs) (hI : r.at_ w (fun b => some b ≠ v.ownBlock ∧ Q b) c x) (hg : w.grownBy w' v.ownBlock) (hg' : v.ownBlock = some g ∨ w.heap.size ≤ g) :
  EG r w' (fun b => some b ≠ some g ∧ Q b) (cs ++ c) (xs ++ [x]) := by
 have hk : ∀ b, b < w.heap.size → (some b ≠ v.ownBlock ∧ Q b) → (some b ≠ some g ∧ Q b) ∧ w'.heap[b]? = w.heap[b]? := fun b hb hp => ⟨⟨fun e => by
  injection e with e
  subst e
  rcases hg' with h | h
  ·exact hp.1 h.symm
  ·omega, hp.2⟩, hg.block b hb hp.1⟩
 exact (hE.keep hg.size hk).snoc (r.keep hI hg.size hk)
section
variable {base c : Nat} {e : TypeId} {A : Option Addr} (hown : w.ownsRow base e r.rd.size (.slice A xs.length c) xs.length cs)
include hown
theorem EG.row (h : EG r w P cs xs) (hl : xs.length ≤ 17592186043904) : RowAt r.rd w w.heap.size A xs := by
 refine ⟨hl, fun i x hi => ?_⟩
 obtain ⟨cc, h3, h4, h5⟩ := h.at_ hi
 rcases hown.2 with ⟨h6, h7⟩ | ⟨g, cap, cur, h6, h7, h8, h9⟩
 ·have := (List.getElem?_eq_some_iff.1 hi).1
  omega
 ·injection h6 with h6 _ _
  subst h6
  exact ⟨⟨g, 0, none⟩, cc, rfl, (Array.getElem?_eq_some_iff.1 h8).1, r.read h3, fun j u hu => hown.cells (g := g) rfl _ _ (h5 j u hu)⟩
theorem EG.off {Q : Nat → Prop} (h : EG r w P cs xs) (hl : xs.length ≤ 17592186043904) (hP : ∀ b, b < w.heap.size → P b → Q b) (hQ : ∀ b, base ≤ b → Q b) : RowOff r w Q A xs := by
 refine ⟨hl, fun i x hi => ?_⟩
 obtain ⟨cc, h3, h4, h5⟩ := h.at_ hi
 rcases hown.2 with ⟨h6, h7⟩ | ⟨g, cap, cur, h6, h7, h8, h9⟩
 ·have := (List.getElem?_eq_some_iff.1 hi).1
  omega
 ·injection h6 with h6 _ _
  subst h6
  exact ⟨⟨g, 0, none⟩, cc, rfl, hQ g h7, (Array.getElem?_eq_some_iff.1 h8).1, r.weak h3 hP, fun j u hu => hown.cells (g := g) rfl _ _ (h5 j u hu)⟩
end
end
end Go.Proofs.YthefooacfcagbaaGreatDoor.off

/- Structs in rows of the call's own that lead to other rows. -/
namespace Go.Proofs.YthefooacfcagbaaGreatDoor.typ
open Go.RowKit
open lib
open rd
open els off
set_option linter.unusedVariables false
def oPt : Off Pt := oMap (oPair oInt oInt) fun x => ⟨x.1, x.2⟩
theorem oPt_mk {w : World} {P : Nat → Prop} {t : Pt} (hf : PtFits t) : oPt.at_ w P (PtCells t) t := by
 exact ⟨(t.t, t.a), rfl, _, _, rfl, ⟨rfl, hf.1⟩, ⟨rfl, hf.2⟩⟩
def oArc : Off Arc := oMap (oPair oInt (oPair oInt (oPair oInt (oPair oInt (oPair (oSlice oPt) (oSlice oPt)))))) fun x => ⟨x.1, x.2.1, x.2.2.1, x.2.2.2.1, x.2.2.2.2.1, x.2.2.2.2.2⟩
theorem oArc_mk {w : World} {P : Nat → Prop} {t : Arc} {C0 : Option Addr} {c0 : Nat} {C1 : Option Addr} {c1 : Nat} (hr0 : RowOff oPt w P C0 t.travel) (hr1 : RowOff oPt w P C1 t.slow) (hf : ArcFits t) : oArc.at_ w P (ArcCells t C0 c0 C1 c1) t := by
 exact ⟨(t.frm, (t.to, (t.profile, (t.miles, (t.travel, t.slow))))), rfl, _, _, rfl, ⟨rfl, hf.1⟩, _, _, rfl, ⟨rfl, hf.2.1⟩, _, _, rfl, ⟨rfl, hf.2.2.1⟩, _, _, rfl, ⟨rfl, hf.2.2.2⟩, _, _, rfl, ⟨_, _, rfl, hr0⟩, ⟨_, _, rfl, hr1⟩⟩
def oTy : Off Ty := oMap (oPair oStr (oPair oInt (oPair oInt (oPair oInt (oPair oInts (oPair oInt (oPair oInt (oPair oInt (oPair oInt (oPair oInt (oPair oInt (oPair oInt (oPair oInt oInt))))))))))))) fun x => ⟨x.1, x.2.1, x.2.2.1, x.2.2.2.1, x.2.2.2.2.1, x.2.2.2.2.2.1, x.2.2.2.2.2.2.1, x.2.2.2.2.2.2.2.1, x.2.2.2.2.2.2.2.2.1, x.2.2.2.2.2.2.2.2.2.1, x.2.2.2.2.2.2.2.2.2.2.1, x.2.2.2.2.2.2.2.2.2.2.2.1, x.2.2.2.2.2.2.2.2.2.2.2.2.1, x.2.2.2.2.2.2.2.2.2.2.2.2.2⟩
theorem oTy_mk {w : World} {P : Nat → Prop} {t : Ty} {C0 : Option Addr} {c0 : Nat} (hr0 : IntsOff w P C0 t.cap) (hf : TyFits t) : oTy.at_ w P (TyCells t C0 c0) t := by
 exact ⟨(t.name, (t.count, (t.frm, (t.to, (t.cap, (t.skills, (t.profile, (t.opn, (t.close, (t.drive, (t.rest, (t.fixed, (t.mile, t.tick))))))))))))), rfl, _, _, rfl, ⟨rfl, hf.1⟩, _, _, rfl, ⟨rfl, hf.2.1⟩, _, _, rfl, ⟨rfl, hf.2.2.1⟩, _, _, rfl, ⟨rfl, hf.2.2.2.1⟩, _, _, rfl, ⟨_, _, rfl, hr0⟩, _, _, rfl, ⟨rfl, hf.2.2.2.2.1⟩, _, _, rfl, ⟨rfl, hf.2.2.2.2.2.1⟩, _, _, rfl, ⟨rfl, hf.2.2.2.2.2.2.1⟩, _, _, rfl, ⟨rfl, hf.2.2.2.2.2.2.2.1⟩, _, _, rfl, ⟨rfl, hf.2.2.2.2.2.2.2.2.1⟩, _, _, rfl, ⟨rfl, hf.2.2.2.2.2.2.2.2.2.1⟩, _, _, rfl, ⟨rfl, hf.2.2.2.2.2.2.2.2.2.2.1⟩, _, _, rfl, ⟨rfl, hf.2.2.2.2.2.2.2.2.2.2.2.1⟩, ⟨rfl, hf.2.2.2.2.2.2.2.2.2.2.2.2⟩⟩
def oStp : Off Stp := oMap (oPair oInt (oPair oInt (oPair oInt oInt))) fun x => ⟨x.1, x.2.1, x.2.2.1, x.2.2.2⟩
theorem oStp_mk {w : World} {P : Nat → Prop} {t : Stp} (hf : StpFits t) : oStp.at_ w P (StpCells t) t := by
 exact ⟨(t.place, (t.opn, (t.close, t.service))), rfl, _, _, rfl, ⟨rfl, hf.1⟩, _, _, rfl, ⟨rfl, hf.2.1⟩, _, _, rfl, ⟨rfl, hf.2.2.1⟩, ⟨rfl, hf.2.2.2⟩⟩
def oOrd : Off Ord := oMap (oPair oStr (oPair oInts (oPair oStp (oPair oStp (oPair oInt (oPair oInt (oPair oInt (oPair oInt (oPair oInt oBool))))))))) fun x => ⟨x.1, x.2.1, x.2.2.1, x.2.2.2.1, x.2.2.2.2.1, x.2.2.2.2.2.1, x.2.2.2.2.2.2.1, x.2.2.2.2.2.2.2.1, x.2.2.2.2.2.2.2.2.1, x.2.2.2.2.2.2.2.2.2⟩
theorem oOrd_mk {w : World} {P : Nat → Prop} {t : Ord} {C0 : Option Addr} {c0 : Nat} (hr0 : IntsOff w P C0 t.load) (hf : OrdFits t) : oOrd.at_ w P (OrdCells t C0 c0) t := by
 exact ⟨(t.name, (t.load, (t.pick, (t.drop, (t.skills, (t.penalty, (t.split, (t.last, (t.now, t.off))))))))), rfl, _, _, rfl, ⟨rfl, hf.1⟩, _, _, rfl, ⟨_, _, rfl, hr0⟩, _, _, rfl, oStp_mk (hf.2.1), _, _, rfl, oStp_mk (hf.2.2.1), _, _, rfl, ⟨rfl, hf.2.2.2.1⟩, _, _, rfl, ⟨rfl, hf.2.2.2.2.1⟩, _, _, rfl, ⟨rfl, hf.2.2.2.2.2.1⟩, _, _, rfl, ⟨rfl, hf.2.2.2.2.2.2.1⟩, _, _, rfl, ⟨rfl, hf.2.2.2.2.2.2.2⟩, rfl⟩
end Go.Proofs.YthefooacfcagbaaGreatDoor.typ

/- Results that lie in a block: the struct read in one step. Portable. -/
namespace Go.Proofs.YthefooacfcagbaaGreatDoor.big
open Go.RowKit
open lib app rd
set_option linter.unusedVariables false
theorem run_loadVarS {t : TypeId} {n : Nat} (T : StructOf t n) {w : World} {ad : Addr} {cs : List Value} (hc : CellsAt w ad cs) (hn : cs.length = n) : (loadVar t ad).run Tryz.prog w = .ok (.agg cs.toArray) w := by
 have h := run_loadS T hc hn
 unfold Instr.loadAt Instr.sureAddr at h
 rw [Sem.run_bind, Sem.run_pure, Result.andThen_ok] at h
 exact h
theorem res_cell {t : TypeId} {n a : Nat} (T : StructOf t n) {fn : Func} (h : fn.results = #[.cell a t]) {tmps : Array Value} {ad : Addr} {w : World} {cs : List Value} (ha : tmps.getD a undef = .pointer (some ad)) (hc : CellsAt w ad cs) (hn : cs.length = n) :
  (results fn tmps).run Tryz.prog w = .ok (.agg cs.toArray) w := by
 have hl := run_loadVarS T hc hn
 rw [Array.getD_eq_getD_getElem?] at ha
 unfold results
 rw [h]
 simp [ha, asAddr, hl]
theorem res_cell_tmp {t : TypeId} {n a b : Nat} (T : StructOf t n) {fn : Func} (h : fn.results = #[.cell a t, .tmp b]) {tmps : Array Value} {ad : Addr} {v : Value} {w : World} {cs : List Value} (ha : tmps.getD a undef = .pointer (some ad)) (hb : tmps.getD b undef = v) (hc : CellsAt w ad cs) (hn : cs.length = n) :
  (results fn tmps).run Tryz.prog w = .ok (.tuple #[.agg cs.toArray, v]) w := by
 have hl := run_loadVarS T hc hn
 rw [Array.getD_eq_getD_getElem?] at ha hb
 unfold results
 rw [h]
 simp [ha, hb, asAddr, hl]
end Go.Proofs.YthefooacfcagbaaGreatDoor.big

/- Blocks of the call's own; rows of structures under construction. -/
namespace Go.Proofs.YthefooacfcagbaaGreatDoor.gen
open Go.RowKit
open lib rd app els typ big off
set_option linter.unusedVariables false
set_option linter.unusedSimpArgs false
def Blk (w : World) (b : Nat) (t : TypeId) (cs : List Value) : Prop := w.heap[b]? = some (.cells cs.toArray t (0, 0))
section
variable {w w' : World} {b : Nat} {t : TypeId} {cs : List Value}
theorem Blk.lt (h : Blk w b t cs) : b < w.heap.size := (Array.getElem?_eq_some_iff.1 h).1
theorem Blk.cell (h : Blk w b t cs) {j : Nat} {u : Value} (hj : cs[j]? = some u) : w.cell? ⟨b, j, none⟩ = some u := by
 unfold World.cell?
 rw [h]
 simpa using hj
theorem Blk.cells (h : Blk w b t cs) : CellsAt w ⟨b, 0, none⟩ cs := fun j u hu => World.news_of_block (w := w) (B := b) h j u (by simpa using hu)
theorem Blk.frozen (h : Blk w b t cs) (j : Nat) : w.frozen? ⟨b, j, none⟩ = false := by simp [World.frozen?, show w.heap[b]? = _ from h]
theorem Blk.set (h : Blk w b t cs) (i : Nat) (u : Value) : Blk (w.setCell ⟨b, i, none⟩ u) b t (cs.set i u) := by
 have h1 := heap_setCell_same w b i _ _ u h
 unfold Blk
 rw [h1]
 simp
theorem Blk.kept {row : Option Nat} (h : Blk w b t cs) (hg : w.grownBy w' row) (hne : some b ≠ row) : Blk w' b t cs := (hg.block b h.lt hne).trans h
theorem Blk.new (w : World) (t : TypeId) (cs : List Value) : Blk (w.alloc (.cells cs.toArray t)) w.heap.size t cs := World.alloc_heap_new w _
theorem Blk.below (h : Blk w b t cs) (hb : Below w.heap.size w w') : Blk w' b t cs := (hb.block b h.lt).trans h
end
def Fr (K : Nat → Prop) (w w' : World) : Prop := w.heap.size ≤ w'.heap.size ∧ ∀ b, b < w.heap.size → K b → w'.heap[b]? = w.heap[b]?
theorem Fr.trans {K : Nat → Prop} {a b c : World} (h : Fr K a b) (k : Fr K b c) : Fr K a c := ⟨Nat.le_trans h.1 k.1, fun i hi hK => (k.2 i (Nat.lt_of_lt_of_le hi h.1) hK).trans (h.2 i hi hK)⟩
theorem Fr.below {K : Nat → Prop} {w w' : World} (h : Below w.heap.size w w') : Fr K w w' := ⟨h.size, fun b hb _ => h.block b hb⟩
theorem Fr.grown {K : Nat → Prop} {w w' : World} {row : Option Nat} (h : w.grownBy w' row) (hn : ∀ b, K b → some b ≠ row) : Fr K w w' := ⟨h.size, fun b hb hK => h.block b hb (hn b hK)⟩
theorem Fr.set {K : Nat → Prop} (w : World) {q : Nat} (i : Nat) (u : Value) (hn : ∀ b, K b → b ≠ q) : Fr K w (w.setCell ⟨q, i, none⟩ u) := ⟨by simp [World.setCell], fun b _ hK => Below.heap_setCell w ⟨q, i, none⟩ u b (hn b hK)⟩
theorem Fr.drew {K : Nat → Prop} (w : World) : Fr K w w.drew := ⟨Nat.le_refl _, fun _ _ _ => rfl⟩
theorem Fr.weak {K K' : Nat → Prop} {w w' : World} (h : Fr K w w') (hk : ∀ b, K' b → K b) : Fr K' w w' := ⟨h.1, fun b hb hK => h.2 b hb (hk b hK)⟩
structure Row {X : Type} (r : Off X) (e : TypeId) (base : Nat) (wr : World) (xs : List X) (A : Option Addr) (c : Nat) (cs : List Value) : Prop where
 own : wr.ownsRow base e r.rd.size (.slice A xs.length c) xs.length cs
 els : EG r wr (fun b => some b ≠ (Value.slice A xs.length c).ownBlock ∧ base ≤ b) cs xs
section
variable {X : Type} {r : Off X} {e : TypeId} {base : Nat} {wr wx : World} {xs : List X} {A : Option Addr} {c : Nat} {cs : List Value}
theorem Row.nil : Row r e base wr [] none 0 [] := ⟨World.ownsRow_nil _ _ _ _, EG.nil⟩
theorem Row.push (h : Row r e base wr xs A c cs) {x : X} {cx : List Value} {g c' : Nat} (hx : r.at_ wr (fun b => some b ≠ (Value.slice A xs.length c).ownBlock ∧ base ≤ b) cx x)
  (hown : wx.ownsRow base e r.rd.size (.slice (some ⟨g, 0, none⟩) (xs.length + 1) c') (xs.length + 1) (cs ++ cx)) (hg : wr.grownBy wx (Value.slice A xs.length c).ownBlock) (hd : (Value.slice A xs.length c).ownBlock = some g ∨ wr.heap.size ≤ g) :
  Row r e base wx (xs ++ [x]) (some ⟨g, 0, none⟩) c' (cs ++ cx) := ⟨by rw [List.length_append]; exact hown, h.els.push hx hg hd⟩
theorem Row.off (h : Row r e base wr xs A c cs) (hl : xs.length ≤ 17592186043904) : RowOff r wr (fun b => base ≤ b) A xs := h.els.off h.own hl (fun b _ hb => hb.2) (fun b hb => hb)
theorem Row.lo (h : Row r e base wr xs A c cs) {q : Nat} (e' : (Value.slice A xs.length c).ownBlock = some q) : base ≤ q := (World.ownsRow.lt h.own q e').1
end
theorem str_elem : ElemOf 22 9 (.string ⟨#[]⟩) 1 16 := ⟨Tryz.underlying22, by kernel_rfl, rfl, by decide, by decide⟩
theorem arc_elem : ElemOf 23 49 (.agg #[.int .i64 0, .int .i64 0, .int .i64 0, .int .i64 0, .slice none 0 0, .slice none 0 0]) 6 80 := ⟨Tryz.underlying23, by kernel_rfl, rfl, by decide, by decide⟩
theorem own_cap {w : World} {base : Nat} {e : TypeId} {size n c : Nat} {A : Option Addr} {xs : List Value} (h : w.ownsRow base e size (.slice A n c) n xs) : n ≤ c := by
 rcases h.2 with ⟨h1, h2⟩ | ⟨g, cap, cur, h1, h2, h3, h4, h5⟩
 ·injection h1
  omega
 ·injection h1 with _ _ h6
  omega
theorem step_storeL {t : TypeId} {n : Nat} (T : StructOf t n) {o : Oper} {a : Act} {w : World} {ops : Array Oper} {K : Act → World → Prop} {Q : Exit → Act → World → Prop} {E' : Prop} (hgd : o.guard = none) (p v : Operand) (ho : o.op = Op.store t p v)
  (g : Nat) (old cs : List Value) (hp : a.eval p = .pointer (some ⟨g, 0, none⟩)) (hv : a.eval v = .agg cs.toArray) (hb : w.heap[g]? = some (.cells old.toArray t (0, 0))) (hold : old.length = n) (hn : cs.length = n) (h1 : ∀ u ∈ cs, u.oneCell' = true)
  (h : ∀ w', w'.heap[g]? = some (.cells cs.toArray t (0, 0)) → (∀ k, k ≠ g → w'.heap[k]? = w.heap[k]?) → w'.heap.size = w.heap.size → Below g w w' → K (a.put o.dst undef) w') :
  if Region.wanted o (yielded ops a.tmps) = true then Oper.wp Tryz.prog o a w K Q else E' := by
 have hw : Region.wanted o (yielded ops a.tmps) = true := by simp [Region.wanted, hgd]
 rw [if_pos hw]
 have hr := run_storeVar_row (P := Tryz.prog) w g t t old.toArray cs.toArray hb (by rw [T.size]; simp [hn]) (by simp [hold, hn]) (Array.all_eq_true_iff_forall_mem.2 fun u hu => h1 u (by simpa using hu))
 have hr2 : (Instr.storeAt t (.pointer (some ⟨g, 0, none⟩)) (.agg cs.toArray)).run Tryz.prog w = .ok () (w.setRow g cs.toArray) := by
  simp only [Instr.storeAt, Instr.sureAddr, Sem.run_bind, Sem.run_pure, Result.andThen]
  exact hr
 have hot : ∀ k, k ≠ g → (w.setRow g cs.toArray).heap[k]? = w.heap[k]? := fun k hk => by
  simp only [World.setRow, Array.getElem?_modify]
  rw [if_neg (fun e => hk e.symm)]
 have hsz : (w.setRow g cs.toArray).heap.size = w.heap.size := by simp [World.setRow]
 unfold Oper.wp execOp
 simp only [ho, hp, hv, Sem.run_bind, hr2, Result.andThen_ok, Sem.run_pure]
 exact h _ (setRow_heap w g old.toArray cs.toArray t (0, 0) hb) hot hsz ⟨rfl, rfl, rfl, Nat.le_of_eq hsz.symm, fun k hk => hot k (by omega)⟩
theorem sStp : StructOf 41 4 := ⟨⟨_, Tryz.underlying41⟩, by kernel_rfl⟩
theorem sTy : StructOf 63 14 := ⟨⟨_, Tryz.underlying63⟩, by kernel_rfl⟩
theorem sArc : StructOf 49 6 := ⟨⟨_, Tryz.underlying49⟩, by kernel_rfl⟩
theorem sOrd : StructOf 66 16 := ⟨⟨_, Tryz.underlying66⟩, by kernel_rfl⟩
theorem sIns : StructOf 30 6 := ⟨⟨_, Tryz.underlying30⟩, by kernel_rfl⟩
theorem stp_one (s : Stp) : ∀ u ∈ StpCells s, u.oneCell' = true := fun u hu => by
 simp only [StpCells, List.mem_cons, List.not_mem_nil, or_false] at hu
 rcases hu with rfl | rfl | rfl | rfl <;> rfl
theorem ty_one (t : Ty) (C : Option Addr) (c : Nat) : ∀ u ∈ TyCells t C c, u.oneCell' = true := fun u hu => by
 simp only [TyCells, List.mem_cons, List.not_mem_nil, or_false] at hu
 rcases hu with rfl | rfl | rfl | rfl | rfl | rfl | rfl | rfl | rfl | rfl | rfl | rfl | rfl | rfl <;> rfl
theorem arc_one (t : Arc) (C : Option Addr) (c : Nat) (D : Option Addr) (d : Nat) : ∀ u ∈ ArcCells t C c D d, u.oneCell' = true := fun u hu => by
 simp only [ArcCells, List.mem_cons, List.not_mem_nil, or_false] at hu
 rcases hu with rfl | rfl | rfl | rfl | rfl | rfl <;> rfl
theorem ord_one (t : Ord) (C : Option Addr) (c : Nat) : ∀ u ∈ OrdCells t C c, u.oneCell' = true := fun u hu => by
 simp only [OrdCells, StpCells, List.cons_append, List.nil_append, List.mem_cons, List.not_mem_nil, or_false, List.mem_append] at hu
 rcases hu with rfl | rfl | rfl | rfl | rfl | rfl | rfl | rfl | rfl | rfl | rfl | rfl | rfl | rfl | rfl | rfl <;> rfl
end Go.Proofs.YthefooacfcagbaaGreatDoor.gen

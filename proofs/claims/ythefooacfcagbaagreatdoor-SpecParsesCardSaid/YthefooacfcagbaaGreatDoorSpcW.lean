import Derived.Test.YthefooacfcagbaaGreatDoorSpcZ
import Derived.Test.YthefooacfcagbaaGreatDoorC2
import Derived.Defers
import Derived.Recover
import Derived.Laws.Pointers
/- Instances that are read: six rows that grow. -/
namespace Go.Proofs.YthefooacfcagbaaGreatDoor.spc
open Go.RowKit
open lib rd app els typ big gen off
open ins (InP InAt InV)
open txt (in64 By strV strV_of decW decW_any Tabs elem_str toList_data push_one Strs numL number_any num_dec dec_num)
set_option linter.unusedVariables false
set_option linter.unusedSimpArgs false
theorem step_bsliceL {t e : TypeId} {z : Value} {size bytes : Nat} (E : ElemOf t e z size bytes) {ops : Array Oper} {o : Oper} {a : Act} {K : Act → World → Prop} {Q : Exit → Act → World → Prop} {E' : Prop} {w : World} (hgd : o.guard = none) (len : Nat) (parts : List (Nat × Operand)) (ho : o.op = Op.buildSlice t len parts.toArray)
  (vals : List (Nat × Value)) (cells zs : List Value) (hv : parts.map (fun p => (p.1, a.eval p.2)) = vals) (hl : 0 < len) (hs : len * size ≤ 1000) (hz : (List.range (len * size)).map (fun i => z.cells[i % z.cells.size]!) = zs)
  (hf : Instr.fill (fun i => some (i * size, size)) zs.toArray vals = some cells.toArray) (h : K (a.put o.dst (.slice (some ⟨w.heap.size, 0, none⟩) len len)) (w.alloc (.cells cells.toArray e))) : if Region.wanted o (yielded ops a.tmps) = true then Oper.wp Tryz.prog o a w K Q else E' := by
 have hw : Region.wanted o (yielded ops a.tmps) = true := by simp [Region.wanted, hgd]
 rw [if_pos hw]
 obtain ⟨i0, hi, hz0, hz1, hz2⟩ := info_parts E.info
 have hp := E.pos
 have hpos : 0 < len * size := Nat.mul_pos hl hp
 refine wp_buildSlice t e len parts.toArray ho cells.toArray i0 z E.sl hi hz0 (by rw [hz1]; omega) (by rw [hz1]; omega) ?_ h
 have e1 : (Array.range (len * i0.size)).map (fun i => z.cells[i % z.cells.size]!) = zs.toArray := by
  rw [hz1, ← hz]
  apply Array.ext'
  simp
 rw [e1, List.map_toArray, hz1]
 have e2 : (parts.map fun x => match x with | (i, x) => (i, a.eval x)) = vals := by rw [← hv]
 rw [e2]
 exact hf
theorem zs_ty : (List.range (1 * 14)).map (fun i => (Value.agg (TyCells zTy none 0).toArray).cells[i % (Value.agg (TyCells zTy none 0).toArray).cells.size]!) = TyCells zTy none 0 := by kernel_rfl
theorem zs_ord : (List.range (1 * 16)).map (fun i => (Value.agg (OrdCells zOr none 0).toArray).cells[i % (Value.agg (OrdCells zOr none 0).toArray).cells.size]!) = OrdCells zOr none 0 := by kernel_rfl
theorem ty_fill (q : Ty) (A : Option Addr) (d : Nat) : Instr.fill (fun i => some (i * 14, 14)) (TyCells zTy none 0).toArray [(0, .agg (TyCells q A d).toArray)] = some (TyCells q A d).toArray := by kernel_rfl
theorem ord_fill (q : Ord) (A : Option Addr) (d : Nat) : Instr.fill (fun i => some (i * 16, 16)) (OrdCells zOr none 0).toArray [(0, .agg (OrdCells q A d).toArray)] = some (OrdCells q A d).toArray := by kernel_rfl
theorem ty_elem : ElemOf 26 63 (.agg (TyCells zTy none 0).toArray) 14 136 := ⟨Tryz.underlying26, by kernel_rfl, rfl, by decide, by decide⟩
theorem ord_elem : ElemOf 27 66 (.agg (OrdCells zOr none 0).toArray) 16 152 := ⟨Tryz.underlying27, by kernel_rfl, rfl, by decide, by decide⟩
theorem two_elem : ElemOf 28 67 (.agg #[.int .i64 0, .int .i64 0]) 2 16 := ⟨Tryz.underlying28, by kernel_rfl, rfl, by decide, by decide⟩
theorem rowOff_pts {w : World} {base c : Nat} {A : Option Addr} {l : List Pt} {P : Nat → Prop} (h : w.ownsRow base 89 2 (.slice A l.length c) l.length (pcs l)) (hl : l.length ≤ 1000000) (hf : ∀ q ∈ l, PtFits q) (hP : ∀ g, base ≤ g → g < w.heap.size → P g) : RowOff oPt w P A l := by
 refine ⟨by omega, fun i x hi => ?_⟩
 rcases h.2 with ⟨h6, h7⟩ | ⟨g, cap, cur, h6, h7, h8, h9⟩
 ·have := (List.getElem?_eq_some_iff.1 hi).1
  omega
 ·injection h6 with h6 _ _
  subst h6
  have hlt := (Array.getElem?_eq_some_iff.1 h8).1
  refine ⟨⟨g, 0, none⟩, PtCells x, rfl, hP g h7 hlt, hlt, oPt_mk (hf x (List.mem_of_getElem? hi)), fun j u hu => h.cells (g := g) rfl _ _ ?_⟩
  have hj : j < 2 := (List.getElem?_eq_some_iff.1 hu).1
  rw [show oPt.rd.size = 2 from rfl, pcs_at hi j hj]
  exact hu
abbrev oTwo : Off (Int × Int) := oPair oInt oInt
def Avoid (G : Nat → Option Nat) (Z : Nat → Prop) (b : Nat) : Prop := Z b ∧ ∀ i, some b ≠ G i
structure GOk (G : Nat → Option Nat) (Z : Nat → Prop) (w : World) : Prop where
 zone : ∀ i g, G i = some g → Z g
 dis : ∀ i j g, i ≠ j → G i = some g → G j ≠ some g
 lt : ∀ i g, G i = some g → g < w.heap.size
def upd (G : Nat → Option Nat) (i g : Nat) : Nat → Option Nat := fun k => if k = i then some g else G k
theorem upd_same (G : Nat → Option Nat) (i g : Nat) : upd G i g i = some g := if_pos rfl
theorem upd_other (G : Nat → Option Nat) {i j : Nat} (g : Nat) (h : j ≠ i) : upd G i g j = G j := if_neg h
theorem GOk.upd {G : Nat → Option Nat} {Z : Nat → Prop} {w w' : World} {i g : Nat} (h : GOk G Z w) (hz : ∀ q, w.heap.size ≤ q → Z q) (hs : w.heap.size ≤ w'.heap.size) (hg : g < w'.heap.size) (hd : G i = some g ∨ w.heap.size ≤ g) : GOk (upd G i g) Z w' := by
 have key : ∀ j, j ≠ i → G j ≠ some g := fun j hj e => by
  rcases hd with h1 | h1
  ·exact h.dis i j g (fun e => hj e.symm) h1 e
  ·have := h.lt j g e
   omega
 have hZ : Z g := by
  rcases hd with h1 | h1
  ·exact h.zone i g h1
  ·exact hz g h1
 refine ⟨fun a g0 ha => ?_, fun a b g0 hab ha hb => ?_, fun a g0 ha => ?_⟩
 ·by_cases hai : a = i
  ·subst hai
   rw [upd_same] at ha
   obtain rfl := Option.some.inj ha
   exact hZ
  ·rw [upd_other G _ hai] at ha
   exact h.zone a g0 ha
 ·by_cases hai : a = i
  ·subst hai
   rw [upd_same] at ha
   obtain rfl := Option.some.inj ha
   rw [upd_other G _ (fun e => hab e.symm)] at hb
   exact key b (fun e => hab e.symm) hb
  ·rw [upd_other G _ hai] at ha
   by_cases hbi : b = i
   ·subst hbi
    rw [upd_same] at hb
    obtain rfl := Option.some.inj hb
    exact key a hai ha
   ·rw [upd_other G _ hbi] at hb
    exact h.dis a b g0 hab ha hb
 ·by_cases hai : a = i
  ·subst hai
   rw [upd_same] at ha
   obtain rfl := Option.some.inj ha
   exact hg
  ·rw [upd_other G _ hai] at ha
   exact Nat.lt_of_lt_of_le (h.lt a g0 ha) hs
structure RowG {X : Type} (r : Off X) (e : TypeId) (Z : Nat → Prop) (G : Nat → Option Nat) (i : Nat) (w : World) (xs : List X) (A : Option Addr) (c : Nat) : Prop where
 ex : ∃ cs, w.ownsRow 0 e r.rd.size (.slice A xs.length c) xs.length cs ∧ EG r w (Avoid G Z) cs xs
 own : G i = (Value.slice A xs.length c).ownBlock
section
variable {X : Type} {r : Off X} {e : TypeId} {i j g : Nat} {Z Z' : Nat → Prop} {G : Nat → Option Nat} {w w' : World} {xs : List X} {A : Option Addr} {c c' : Nat} {x : X} {cs cx : List Value}
theorem RowG.nil (hG : G i = none) : RowG r e Z G i w [] none 0 := ⟨⟨[], World.ownsRow_nil _ _ _ _, EG.nil⟩, hG⟩
theorem RowG.keep (h : RowG r e Z G i w xs A c) (hG : GOk G Z w) (hs : w.heap.size ≤ w'.heap.size) (hk : ∀ q, q < w.heap.size → Z q → Z' q ∧ w'.heap[q]? = w.heap[q]?) : RowG r e Z' G i w' xs A c := by
 obtain ⟨cs, h1, h2⟩ := h.ex
 refine ⟨⟨cs, ?_, h2.keep hs fun b hb hp => ⟨⟨(hk b hb hp.1).1, hp.2⟩, (hk b hb hp.1).2⟩⟩, h.own⟩
 rcases h1.2 with ⟨h6, h7⟩ | ⟨g, cap, cur, h6, h7, h8, h9⟩
 ·exact ⟨h1.1, .inl ⟨h6, h7⟩⟩
 ·have hg : G i = some g := by rw [h.own, h6]; rfl
  exact ⟨h1.1, .inr ⟨g, cap, cur, h6, h7, (hk g (hG.lt i g hg) (hG.zone i g hg)).2.trans h8, h9⟩⟩
theorem avoid_upd {b : Nat} (hb : b < w.heap.size) (hd : G i = some g ∨ w.heap.size ≤ g) (h : Avoid G Z b) : Avoid (upd G i g) Z b := by
 refine ⟨h.1, fun k e => ?_⟩
 by_cases hk : k = i
 ·subst hk
  rw [upd_same] at e
  obtain rfl := Option.some.inj e
  rcases hd with h1 | h1
  ·exact h.2 k h1.symm
  ·omega
 ·rw [upd_other G _ hk] at e
  exact h.2 k e
theorem RowG.push (h1 : EG r w (Avoid G Z) cs xs) (hx : r.at_ w (Avoid G Z) cx x) (hown : w'.ownsRow 0 e r.rd.size (.slice (some ⟨g, 0, none⟩) (xs.length + 1) c') (xs.length + 1) (cs ++ cx)) (hg : w.grownBy w' (G i)) (hd : G i = some g ∨ w.heap.size ≤ g) :
  RowG r e Z (upd G i g) i w' (xs ++ [x]) (some ⟨g, 0, none⟩) c' := by
 have hk : ∀ b, b < w.heap.size → Avoid G Z b → Avoid (upd G i g) Z b ∧ w'.heap[b]? = w.heap[b]? := fun b hb hp => ⟨avoid_upd hb hd hp, hg.block b hb (hp.2 i)⟩
 refine ⟨⟨cs ++ cx, by rw [List.length_append]; exact hown, (h1.keep hg.size hk).snoc (r.keep hx hg.size hk)⟩, ?_⟩
 rw [upd_same]
 rfl
theorem RowG.other (h : RowG r e Z G j w xs A c) (hji : j ≠ i) (hG : GOk G Z w) (hg : w.grownBy w' (G i)) (hd : G i = some g ∨ w.heap.size ≤ g) : RowG r e Z (upd G i g) j w' xs A c := by
 obtain ⟨cs, h1, h2⟩ := h.ex
 refine ⟨⟨cs, own_grown h1 hg ?_, h2.keep hg.size fun b hb hp => ⟨avoid_upd hb hd hp, hg.block b hb (hp.2 i)⟩⟩, by rw [upd_other G _ hji]; exact h.own⟩
 rw [← h.own]
 cases hq : G j with
 | none => exact .inl rfl
 | some q => exact .inr fun e => hG.dis j i q hji hq e.symm
end
theorem own_lt {w : World} {base g n c size : Nat} {e : TypeId} {xs : List Value} (h : w.ownsRow base e size (.slice (some ⟨g, 0, none⟩) n c) n xs) : g < w.heap.size := by
 rcases h.2 with ⟨h1, _⟩ | ⟨g1, c1, cu, h1, _, h3, _⟩
 ·cases h1
 ·injection h1 with h1
  obtain rfl := congrArg Addr.block (Option.some.inj h1)
  exact (Array.getElem?_eq_some_iff.1 h3).1
structure XG (G : Nat → Option Nat) (w : World) (Z : Nat → Prop) (x : Ins) (P : InP) : Prop where
 ok : GOk G Z w
 r0 : RowG oStr 9 Z G 0 w x.net.places P.a0 P.c0
 r1 : RowG oArc 49 Z G 1 w x.net.arcs P.a1 P.c1
 r2 : RowG oTy 63 Z G 2 w x.types P.a2 P.c2
 r3 : RowG oOrd 66 Z G 3 w x.orders P.a3 P.c3
 r4 : RowG oTwo 67 Z G 4 w x.apart P.a4 P.c4
 r5 : RowG oTwo 67 Z G 5 w x.before P.a5 P.c5
def nilP : InP := ⟨none, 0, none, 0, none, 0, none, 0, none, 0, none, 0⟩
theorem XG.start (w : World) (Z : Nat → Prop) : XG (fun _ => none) w Z nilX nilP := ⟨⟨fun _ _ h => (by cases h), fun _ _ _ _ h => (by cases h), fun _ _ h => (by cases h)⟩, RowG.nil rfl, RowG.nil rfl, RowG.nil rfl, RowG.nil rfl, RowG.nil rfl, RowG.nil rfl⟩
section
variable {G : Nat → Option Nat} {Z Z' : Nat → Prop} {w w' : World} {g c' : Nat} {x : Ins} {P : InP} {cs cx : List Value}
theorem XG.keep (h : XG G w Z x P) (hs : w.heap.size ≤ w'.heap.size) (hk : ∀ q, q < w.heap.size → Z q → Z' q ∧ w'.heap[q]? = w.heap[q]?) : XG G w' Z' x P :=
 ⟨⟨fun i g e => (hk g (h.ok.lt i g e) (h.ok.zone i g e)).1, h.ok.dis, fun i g e => Nat.lt_of_lt_of_le (h.ok.lt i g e) hs⟩, h.r0.keep h.ok hs hk, h.r1.keep h.ok hs hk, h.r2.keep h.ok hs hk, h.r3.keep h.ok hs hk, h.r4.keep h.ok hs hk, h.r5.keep h.ok hs hk⟩
theorem XG.below (h : XG G w Z x P) (hb : Below w.heap.size w w') : XG G w' Z x P := h.keep hb.size fun q hq hz => ⟨hz, hb.block q hq⟩
theorem XG.add0 (h : XG G w Z x P) (hz : ∀ q, w.heap.size ≤ q → Z q) {s : ByteArray} (hels : EG oStr w (Avoid G Z) cs x.net.places) (hx : oStr.at_ w (Avoid G Z) cx s) (hown : w'.ownsRow 0 9 1 (.slice (some ⟨g, 0, none⟩) (x.net.places.length + 1) c') (x.net.places.length + 1) (cs ++ cx)) (hg : w.grownBy w' (Value.slice P.a0 x.net.places.length P.c0).ownBlock) (hd : (Value.slice P.a0 x.net.places.length P.c0).ownBlock = some g ∨ w.heap.size ≤ g) :
  XG (upd G 0 g) w' Z (Lin.add x (.place s)) { P with a0 := some ⟨g, 0, none⟩, c0 := c' } :=
 ⟨h.ok.upd hz hg.size (own_lt hown) (by rw [h.r0.own]; exact hd), RowG.push hels hx hown (by rw [h.r0.own]; exact hg) (by rw [h.r0.own]; exact hd),
  h.r1.other (by decide) h.ok (by rw [h.r0.own]; exact hg) (by rw [h.r0.own]; exact hd),
  h.r2.other (by decide) h.ok (by rw [h.r0.own]; exact hg) (by rw [h.r0.own]; exact hd),
  h.r3.other (by decide) h.ok (by rw [h.r0.own]; exact hg) (by rw [h.r0.own]; exact hd),
  h.r4.other (by decide) h.ok (by rw [h.r0.own]; exact hg) (by rw [h.r0.own]; exact hd),
  h.r5.other (by decide) h.ok (by rw [h.r0.own]; exact hg) (by rw [h.r0.own]; exact hd)⟩
theorem XG.add1 (h : XG G w Z x P) (hz : ∀ q, w.heap.size ≤ q → Z q) {s : Arc} (hels : EG oArc w (Avoid G Z) cs x.net.arcs) (hx : oArc.at_ w (Avoid G Z) cx s) (hown : w'.ownsRow 0 49 6 (.slice (some ⟨g, 0, none⟩) (x.net.arcs.length + 1) c') (x.net.arcs.length + 1) (cs ++ cx)) (hg : w.grownBy w' (Value.slice P.a1 x.net.arcs.length P.c1).ownBlock) (hd : (Value.slice P.a1 x.net.arcs.length P.c1).ownBlock = some g ∨ w.heap.size ≤ g) :
  XG (upd G 1 g) w' Z (Lin.add x (.arc s)) { P with a1 := some ⟨g, 0, none⟩, c1 := c' } :=
 ⟨h.ok.upd hz hg.size (own_lt hown) (by rw [h.r1.own]; exact hd), h.r0.other (by decide) h.ok (by rw [h.r1.own]; exact hg) (by rw [h.r1.own]; exact hd),
  RowG.push hels hx hown (by rw [h.r1.own]; exact hg) (by rw [h.r1.own]; exact hd),
  h.r2.other (by decide) h.ok (by rw [h.r1.own]; exact hg) (by rw [h.r1.own]; exact hd),
  h.r3.other (by decide) h.ok (by rw [h.r1.own]; exact hg) (by rw [h.r1.own]; exact hd),
  h.r4.other (by decide) h.ok (by rw [h.r1.own]; exact hg) (by rw [h.r1.own]; exact hd),
  h.r5.other (by decide) h.ok (by rw [h.r1.own]; exact hg) (by rw [h.r1.own]; exact hd)⟩
theorem XG.add2 (h : XG G w Z x P) (hz : ∀ q, w.heap.size ≤ q → Z q) {s : Ty} (hels : EG oTy w (Avoid G Z) cs x.types) (hx : oTy.at_ w (Avoid G Z) cx s) (hown : w'.ownsRow 0 63 14 (.slice (some ⟨g, 0, none⟩) (x.types.length + 1) c') (x.types.length + 1) (cs ++ cx)) (hg : w.grownBy w' (Value.slice P.a2 x.types.length P.c2).ownBlock) (hd : (Value.slice P.a2 x.types.length P.c2).ownBlock = some g ∨ w.heap.size ≤ g) :
  XG (upd G 2 g) w' Z (Lin.add x (.type s)) { P with a2 := some ⟨g, 0, none⟩, c2 := c' } :=
 ⟨h.ok.upd hz hg.size (own_lt hown) (by rw [h.r2.own]; exact hd), h.r0.other (by decide) h.ok (by rw [h.r2.own]; exact hg) (by rw [h.r2.own]; exact hd),
  h.r1.other (by decide) h.ok (by rw [h.r2.own]; exact hg) (by rw [h.r2.own]; exact hd),
  RowG.push hels hx hown (by rw [h.r2.own]; exact hg) (by rw [h.r2.own]; exact hd),
  h.r3.other (by decide) h.ok (by rw [h.r2.own]; exact hg) (by rw [h.r2.own]; exact hd),
  h.r4.other (by decide) h.ok (by rw [h.r2.own]; exact hg) (by rw [h.r2.own]; exact hd),
  h.r5.other (by decide) h.ok (by rw [h.r2.own]; exact hg) (by rw [h.r2.own]; exact hd)⟩
theorem XG.add3 (h : XG G w Z x P) (hz : ∀ q, w.heap.size ≤ q → Z q) {s : Ord} (hels : EG oOrd w (Avoid G Z) cs x.orders) (hx : oOrd.at_ w (Avoid G Z) cx s) (hown : w'.ownsRow 0 66 16 (.slice (some ⟨g, 0, none⟩) (x.orders.length + 1) c') (x.orders.length + 1) (cs ++ cx)) (hg : w.grownBy w' (Value.slice P.a3 x.orders.length P.c3).ownBlock) (hd : (Value.slice P.a3 x.orders.length P.c3).ownBlock = some g ∨ w.heap.size ≤ g) :
  XG (upd G 3 g) w' Z (Lin.add x (.order s)) { P with a3 := some ⟨g, 0, none⟩, c3 := c' } :=
 ⟨h.ok.upd hz hg.size (own_lt hown) (by rw [h.r3.own]; exact hd), h.r0.other (by decide) h.ok (by rw [h.r3.own]; exact hg) (by rw [h.r3.own]; exact hd),
  h.r1.other (by decide) h.ok (by rw [h.r3.own]; exact hg) (by rw [h.r3.own]; exact hd),
  h.r2.other (by decide) h.ok (by rw [h.r3.own]; exact hg) (by rw [h.r3.own]; exact hd),
  RowG.push hels hx hown (by rw [h.r3.own]; exact hg) (by rw [h.r3.own]; exact hd),
  h.r4.other (by decide) h.ok (by rw [h.r3.own]; exact hg) (by rw [h.r3.own]; exact hd),
  h.r5.other (by decide) h.ok (by rw [h.r3.own]; exact hg) (by rw [h.r3.own]; exact hd)⟩
theorem XG.add4 (h : XG G w Z x P) (hz : ∀ q, w.heap.size ≤ q → Z q) {s : Int × Int} (hels : EG oTwo w (Avoid G Z) cs x.apart) (hx : oTwo.at_ w (Avoid G Z) cx s) (hown : w'.ownsRow 0 67 2 (.slice (some ⟨g, 0, none⟩) (x.apart.length + 1) c') (x.apart.length + 1) (cs ++ cx)) (hg : w.grownBy w' (Value.slice P.a4 x.apart.length P.c4).ownBlock) (hd : (Value.slice P.a4 x.apart.length P.c4).ownBlock = some g ∨ w.heap.size ≤ g) :
  XG (upd G 4 g) w' Z (Lin.add x (.apart s)) { P with a4 := some ⟨g, 0, none⟩, c4 := c' } :=
 ⟨h.ok.upd hz hg.size (own_lt hown) (by rw [h.r4.own]; exact hd), h.r0.other (by decide) h.ok (by rw [h.r4.own]; exact hg) (by rw [h.r4.own]; exact hd),
  h.r1.other (by decide) h.ok (by rw [h.r4.own]; exact hg) (by rw [h.r4.own]; exact hd),
  h.r2.other (by decide) h.ok (by rw [h.r4.own]; exact hg) (by rw [h.r4.own]; exact hd),
  h.r3.other (by decide) h.ok (by rw [h.r4.own]; exact hg) (by rw [h.r4.own]; exact hd),
  RowG.push hels hx hown (by rw [h.r4.own]; exact hg) (by rw [h.r4.own]; exact hd),
  h.r5.other (by decide) h.ok (by rw [h.r4.own]; exact hg) (by rw [h.r4.own]; exact hd)⟩
theorem XG.add5 (h : XG G w Z x P) (hz : ∀ q, w.heap.size ≤ q → Z q) {s : Int × Int} (hels : EG oTwo w (Avoid G Z) cs x.before) (hx : oTwo.at_ w (Avoid G Z) cx s) (hown : w'.ownsRow 0 67 2 (.slice (some ⟨g, 0, none⟩) (x.before.length + 1) c') (x.before.length + 1) (cs ++ cx)) (hg : w.grownBy w' (Value.slice P.a5 x.before.length P.c5).ownBlock) (hd : (Value.slice P.a5 x.before.length P.c5).ownBlock = some g ∨ w.heap.size ≤ g) :
  XG (upd G 5 g) w' Z (Lin.add x (.before s)) { P with a5 := some ⟨g, 0, none⟩, c5 := c' } :=
 ⟨h.ok.upd hz hg.size (own_lt hown) (by rw [h.r5.own]; exact hd), h.r0.other (by decide) h.ok (by rw [h.r5.own]; exact hg) (by rw [h.r5.own]; exact hd),
  h.r1.other (by decide) h.ok (by rw [h.r5.own]; exact hg) (by rw [h.r5.own]; exact hd),
  h.r2.other (by decide) h.ok (by rw [h.r5.own]; exact hg) (by rw [h.r5.own]; exact hd),
  h.r3.other (by decide) h.ok (by rw [h.r5.own]; exact hg) (by rw [h.r5.own]; exact hd),
  h.r4.other (by decide) h.ok (by rw [h.r5.own]; exact hg) (by rw [h.r5.own]; exact hd),
  RowG.push hels hx hown (by rw [h.r5.own]; exact hg) (by rw [h.r5.own]; exact hd)⟩
def Sm (x : Ins) : Prop := x.net.places.length ≤ 1000000 ∧ x.net.arcs.length ≤ 1000000 ∧ x.types.length ≤ 1000000 ∧ x.orders.length ≤ 1000000 ∧ x.apart.length ≤ 1000000 ∧ x.before.length ≤ 1000000
theorem RowG.cap {X : Type} {r : Off X} {e : TypeId} {i : Nat} {xs : List X} {A : Option Addr} {c : Nat} (h : RowG r e Z G i w xs A c) : xs.length ≤ c := by
 obtain ⟨cs, h1, _⟩ := h.ex
 exact gen.own_cap h1
theorem RowG.row {X : Type} {r : Off X} {e : TypeId} {i : Nat} {xs : List X} {A : Option Addr} {c : Nat} (h : RowG r e Z G i w xs A c) (hl : xs.length ≤ 1000000) : RowAt r.rd w w.heap.size A xs := by
 obtain ⟨cs, h1, h2⟩ := h.ex
 exact h2.row h1 (by omega)
theorem XG.at_ (h : XG G w Z x P) (hs : Sm x) : InAt w w.heap.size x P := by
 obtain ⟨s0, s1, s2, s3, s4, s5⟩ := hs
 exact ⟨h.r0.row s0, h.r1.row s1, h.r2.row s2, h.r3.row s3, h.r4.row s4, h.r5.row s5, h.r2.cap, h.r3.cap, h.r4.cap, h.r5.cap⟩
end
def xCs (x : Ins) (P : InP) : List Value := [.slice P.a0 x.net.places.length P.c0, .slice P.a1 x.net.arcs.length P.c1, .slice P.a2 x.types.length P.c2, .slice P.a3 x.orders.length P.c3, .slice P.a4 x.apart.length P.c4, .slice P.a5 x.before.length P.c5]
theorem xCs_one (x : Ins) (P : InP) : ∀ u ∈ xCs x P, u.oneCell' = true := fun u hu => by
 simp only [xCs, List.mem_cons, List.not_mem_nil, or_false] at hu
 rcases hu with rfl | rfl | rfl | rfl | rfl | rfl <;> rfl
def XB (w : World) (xb : Nat) (x : Ins) (P : InP) : Prop := ∃ G, XG G w (fun q => xb < q) x P ∧ Blk w xb 30 (xCs x P)
end Go.Proofs.YthefooacfcagbaaGreatDoor.spc

/- spec.line's deferred closure; spec.rank. -/
namespace Go.Proofs.YthefooacfcagbaaGreatDoor.spc
open Go.RowKit
open lib rd app els typ big gen off
open ins (InP InAt InV)
open txt (in64 By strV strV_of decW decW_any Tabs elem_str toList_data push_one Strs numL number_any num_dec dec_num)
set_option linter.unusedVariables false
set_option linter.unusedSimpArgs false
theorem as_wrong (w : World) : (Instr.typeAssert (.iface 107 (.agg #[])) 20 107 true).run Tryz.prog w = .ok (.tuple #[.agg #[], .bool true]) w := by kernel_rfl
theorem as_none (w : World) : (Instr.typeAssert .nilIface 20 107 true).run Tryz.prog w = .ok (.tuple #[.agg #[], .bool false]) w := by kernel_rfl
set_option maxRecDepth 100000 in
theorem catch_panicking (p : Addr) (x : Int) (older : List PanicEntry) (w : World) (hb : p.block < w.heap.size) (hc : w.cell? p = some (.int .i64 x)) (hz : w.frozen? p = false) :
  CallsD Tryz.prog 60 #[.pointer (some p)] (.panicking (pnV :: older)) w fun e u' w' =>
   e = .returned (.tuple #[]) ∧ u' = .panicking ({ pnV with recovered := true } :: older) ∧ w' = (w.alloc (.cells #[] 107)).setCell p (.int .i64 0) := by
 have h1 := as_wrong
 refine callsD_of_wpS Tryz.func60 rfl fun c₀ cs hu => ?_
 apply wpS_seq
 apply wpS_region
 simp [wpOpsS, go_sem, recoverD, hu, pnV, Tryz.ntmps60, Exit.thenS, as_wrong]
 have hc' : (w.alloc (.cells #[] 107)).cell? p = some (.int .i64 x) := (World.cell?_alloc_lt w _ p hb).trans hc
 have hz' : (w.alloc (.cells #[] 107)).frozen? p = false := (World.frozen?_of_block (((Below.refl w.heap.size w).alloc (Nat.le_refl _) _).block p.block hb)).trans hz
 apply wpS_seq
 apply wpS_region
 simp [wpOpsS, go_sem, Exit.thenS]
 refine wpS_cond (t := true) (by simp [Act.eval, Array.replicate]) ?_
 simp only [if_true]
 apply wpS_region
 simp [wpOpsS, go_sem, hc', hz', bodyPostS, results, Tryz.results60]
set_option maxRecDepth 100000 in
theorem catch_idle (p : Addr) (w : World) :
  CallsD Tryz.prog 60 #[.pointer (some p)] .returning w fun e u' w' => e = .returned (.tuple #[]) ∧ u' = .returning ∧ w' = w.alloc (.cells #[] 107) := by
 refine callsD_of_wpS Tryz.func60 rfl fun c₀ cs hu => ?_
 apply wpS_seq
 apply wpS_region
 simp [wpOpsS, go_sem, recoverD, hu, pnV, Tryz.ntmps60, Exit.thenS, as_none]
 apply wpS_seq
 apply wpS_region
 simp [wpOpsS, go_sem, Exit.thenS]
 refine wpS_cond (t := false) (by simp [Act.eval, Array.replicate]) ?_
 simp only [Bool.false_eq_true, if_false]
 refine wpS_of_wp (wp_skip ?_)
 cases c₀
 simp_all [bodyPostS, results, Tryz.results60]
def rankK (y : By) : Nat → List By → Nat
 | _, [] => 0
 | k, x :: L => if x = y then k + 1 else rankK y (k + 1) L
def kws : List By := [kwP, kwA, kwT, kwO, kwX, kwB, kwE]
def rankF (y : By) : Nat := rankK y 0 kws
theorem rankK_drop {y x : By} {k : Nat} {L : List By} (h : L[k]? = some x) : rankK y k (L.drop k) = if x = y then k + 1 else rankK y (k + 1) (L.drop (k + 1)) := by
 obtain ⟨hk, e⟩ := List.getElem?_eq_some_iff.1 h
 rw [List.drop_eq_getElem_cons hk, rankK, e]
theorem rank_kw (r : Lin) : ∀ y L, r.words = y :: L → rankF y = r.rank := fun y L e => by
 cases r <;> (simp only [Lin.words, List.cons.injEq] at e; rw [← e.1]; rfl)
set_option maxRecDepth 20000 in
theorem rank_any (y : By) (w : World) :
  Calls Tryz.prog 30 #[.string ⟨y.toArray⟩] w fun e w' => e = .returned (.int .i64 (rankF y)) ∧ Below w.heap.size w w' := by
 obtain ⟨r, hr⟩ : ∃ r, rankF y = r := ⟨_, rfl⟩
 have H0 : Hid (r = rankK y 0 (kws.drop 0)) := Lib.hid hr.symm
 rw [hr]
 clear hr
 obtain ⟨W0, hW0⟩ : ∃ W0, w.alloc (.cells #[.string ⟨#[112, 108, 97, 99, 101]⟩, .string ⟨#[97, 114, 99]⟩, .string ⟨#[116, 121, 112, 101]⟩, .string ⟨#[111, 114, 100, 101, 114]⟩, .string ⟨#[97, 112, 97, 114, 116]⟩, .string ⟨#[98, 101, 102, 111, 114, 101]⟩, .string ⟨#[101, 110, 100]⟩] 9) = W0 := ⟨_, rfl⟩
 have HW0 := Lib.hid hW0
 have HBK : Hid (Blk W0 w.heap.size 9 (kws.map strV)) := Lib.hid (by rw [← hW0]; exact Blk.new w _ _)
 have HB0 : Hid (Below w.heap.size w W0) := Lib.hid (by rw [← hW0]; exact (Below.refl _ _).alloc (Nat.le_refl _) _)
 have hz0 := HBK.out.lt
 clear hW0
 go_enter Tryz.func30, Tryz.ntmps30
 go_upto_region 2 with fail
 rw [HW0.out]
 clear HW0
 go_loopw [7] (fun i wr => Below W0.heap.size W0 wr ∧ ∃ k : Nat, k ≤ 7 ∧ i = .int .i64 k ∧ Hid (r = rankK y k (kws.drop k))) (fun i _ => 7 - (intOf i).toNat)
 case atStart => exact ⟨Below.refl _ _, 0, by omega, rfl, H0⟩
 case round =>
  obtain ⟨hb, k, hk, rfl, hr⟩ := hrel
  have HBV := Lib.hid (HB0.out.trans (hb.mono HB0.out.size))
  by_cases hlt : k < 7
  ·obtain ⟨x, hx⟩ : ∃ x, kws[k]? = some x := ⟨_, List.getElem?_eq_getElem (by simpa [kws] using hlt)⟩
   have hcell : wr.cell? ⟨w.heap.size, k, none⟩ = some (.string ⟨x.toArray⟩) := (hb.cell (p := ⟨w.heap.size, k, none⟩) hz0).trans (HBK.out.cell (j := k) (u := strV x) (by rw [List.getElem?_map, hx]; rfl))
   have HR := Lib.hid (rankK_drop (y := y) hx)
   have hkn : (k : Int) < 7 := by omega
   have hk0 : (0 : Int) ≤ (k : Int) := by omega
   have HBB := Lib.hid hb
   clear hx hb
   by_cases hxy : x = y
   ·subst hxy
    have HF : Hid (r = k + 1) := Lib.hid (by rw [hr.out, HR.out, if_pos rfl])
    clear hr HR
    go_wp2
    go_ret
    exact ⟨by rw [HF.out]; rfl, HBV.out⟩
   ·have hb1 : (x == y) = false := beq_eq_false_iff_ne.2 hxy
    have HF : Hid (r = rankK y (k + 1) (kws.drop (k + 1))) := Lib.hid (by rw [hr.out, HR.out, if_neg hxy])
    clear hr HR hxy
    go_wp2
    go_roundw
    case rel => exact ⟨HBB.out, k + 1, by omega, by go_num, HF⟩
    case measure => simp [intOf]; omega
  ·have hke : k = 7 := by omega
   subst hke
   have HF : Hid (r = 0) := Lib.hid (by rw [hr.out]; rfl)
   clear hr
   go_wp2
   go_ret
   exact ⟨by rw [HF.out]; rfl, HBV.out⟩
set_option maxRecDepth 20000 in
theorem rrank_any (y : By) (w : World) :
  Calls Tryz.prog 38 #[.string ⟨y.toArray⟩] w fun e w' => e = .returned (.int .i64 (rankF y)) ∧ Below w.heap.size w w' := by
 obtain ⟨r, hr⟩ : ∃ r, rankF y = r := ⟨_, rfl⟩
 have H0 : Hid (r = rankK y 0 (kws.drop 0)) := Lib.hid hr.symm
 rw [hr]
 clear hr
 obtain ⟨W0, hW0⟩ : ∃ W0, w.alloc (.cells #[.string ⟨#[112, 108, 97, 99, 101]⟩, .string ⟨#[97, 114, 99]⟩, .string ⟨#[116, 121, 112, 101]⟩, .string ⟨#[111, 114, 100, 101, 114]⟩, .string ⟨#[97, 112, 97, 114, 116]⟩, .string ⟨#[98, 101, 102, 111, 114, 101]⟩, .string ⟨#[101, 110, 100]⟩] 9) = W0 := ⟨_, rfl⟩
 have HW0 := Lib.hid hW0
 have HBK : Hid (Blk W0 w.heap.size 9 (kws.map strV)) := Lib.hid (by rw [← hW0]; exact Blk.new w _ _)
 have HB0 : Hid (Below w.heap.size w W0) := Lib.hid (by rw [← hW0]; exact (Below.refl _ _).alloc (Nat.le_refl _) _)
 have hz0 := HBK.out.lt
 clear hW0
 go_enter Tryz.func38, Tryz.ntmps38
 go_upto_region 3 with fail
 rw [HW0.out]
 clear HW0
 go_loopw [4] (fun i wr => Below W0.heap.size W0 wr ∧ ∃ k : Nat, k ≤ 7 ∧ i = .int .i64 k ∧ Hid (r = rankK y k (kws.drop k))) (fun i _ => 7 - (intOf i).toNat)
 case atStart => exact ⟨Below.refl _ _, 0, by omega, rfl, H0⟩
 case round =>
  obtain ⟨hb, k, hk, rfl, hr⟩ := hrel
  have HBV := Lib.hid (HB0.out.trans (hb.mono HB0.out.size))
  by_cases hlt : k < 7
  ·obtain ⟨x, hx⟩ : ∃ x, kws[k]? = some x := ⟨_, List.getElem?_eq_getElem (by simpa [kws] using hlt)⟩
   have hcell : wr.cell? ⟨w.heap.size, k, none⟩ = some (.string ⟨x.toArray⟩) := (hb.cell (p := ⟨w.heap.size, k, none⟩) hz0).trans (HBK.out.cell (j := k) (u := strV x) (by rw [List.getElem?_map, hx]; rfl))
   have HR := Lib.hid (rankK_drop (y := y) hx)
   have hkn : (k : Int) < 7 := by omega
   have hk0 : (0 : Int) ≤ (k : Int) := by omega
   have HBB := Lib.hid hb
   clear hx hb
   by_cases hxy : x = y
   ·subst hxy
    have HF : Hid (r = k + 1) := Lib.hid (by rw [hr.out, HR.out, if_pos rfl])
    clear hr HR
    go_wp2
    go_ret
    exact ⟨by rw [HF.out]; rfl, HBV.out⟩
   ·have hb1 : (x == y) = false := beq_eq_false_iff_ne.2 hxy
    have HF : Hid (r = rankK y (k + 1) (kws.drop (k + 1))) := Lib.hid (by rw [hr.out, HR.out, if_neg hxy])
    clear hr HR hxy
    go_wp2
    go_roundw
    case rel => exact ⟨HBB.out, k + 1, by omega, by go_num, HF⟩
    case measure => simp [intOf]; omega
  ·have hke : k = 7 := by omega
   subst hke
   have HF : Hid (r = 0) := Lib.hid (by rw [hr.out]; rfl)
   clear hr
   go_wp2
   go_ret
   exact ⟨by rw [HF.out]; rfl, HBV.out⟩
end Go.Proofs.YthefooacfcagbaaGreatDoor.spc

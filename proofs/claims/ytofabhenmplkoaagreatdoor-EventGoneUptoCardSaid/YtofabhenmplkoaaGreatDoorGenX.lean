import Derived.Test.YtofabhenmplkoaaGreatDoorBase
import Derived.Test.YtofabhenmplkoaaGreatDoorZ4
import Derived.Test.YtofabhenmplkoaaGreatDoorZ3
import Derived.Test.YtofabhenmplkoaaGreatDoorRows
import Derived.RegionTactic
import Derived.RangeFuncBox
import Derived.Laws.BitsLemmas
import Derived.Deep.DeepCutAuto
import Derived.Deep.RegionHeld3
import Derived.Test.YtofabhenmplkoaaGreatDoorFltX
import Derived.Deep.MidRow
import Derived.Laws.OwnMore
set_option linter.unusedVariables false
set_option linter.unusedSimpArgs false
/- Events, read from memory. -/
namespace Go.Proofs.YtofabhenmplkoaaGreatDoor.typ
open Go.RowKit
open lib
open rd
structure Evt where
 at_ : Int
 kind : Int
 a : Int
 b : Int
 n : Int
 order : Ord
def z8 (t : Evt) (C0 : Option Addr) (c0 : Nat) : List Value := [.int .i64 t.at_, .int .i64 t.kind, .int .i64 t.a, .int .i64 t.b, .int .i64 t.n, .string t.order.name, .slice C0 t.order.load.length c0, .int .i64 t.order.pick.place, .int .i64 t.order.pick.opn, .int .i64 t.order.pick.close, .int .i64 t.order.pick.service, .int .i64 t.order.drop.place, .int .i64 t.order.drop.opn, .int .i64 t.order.drop.close, .int .i64 t.order.drop.service, .int .i64 t.order.skills, .int .i64 t.order.penalty, .int .i64 t.order.split, .int .i64 t.order.last, .int .i64 t.order.now, .bool t.order.off]
def yN (t : Evt) : Prop := (-9223372036854775808 ≤ t.at_ ∧ t.at_ ≤ 9223372036854775807) ∧ (-9223372036854775808 ≤ t.kind ∧ t.kind ≤ 9223372036854775807) ∧ (-9223372036854775808 ≤ t.a ∧ t.a ≤ 9223372036854775807) ∧ (-9223372036854775808 ≤ t.b ∧ t.b ≤ 9223372036854775807) ∧ (-9223372036854775808 ≤ t.n ∧ t.n ≤ 9223372036854775807) ∧ yL t.order
end Go.Proofs.YtofabhenmplkoaaGreatDoor.typ

/- Events: what can be applied, and what an instance is after it. -/
namespace Go.Proofs.YtofabhenmplkoaaGreatDoor.evt
open typ ins
def lateF (l : List Pt) (t n : Int) : Except Int (List Pt) := match l.getLast? with
 | none => .ok [⟨t, n⟩]
 | some p => if t < p.t then .error 2 else if t = p.t then (if 4096 < p.a + n then .error 2 else .ok (l.dropLast ++ [⟨p.t, p.a + n⟩])) else if 16 ≤ l.length then .error 4 else .ok (l ++ [⟨t, n⟩])
def way (a : Arc) (f t : Int) : Bool := a.frm == f && a.to == t
def slwTo (l : List Arc) (f t at_ n : Int) : Nat → Except Int (List Arc × Bool)
 | 0 => .ok ([], false)
 | k + 1 => match slwTo l f t at_ n k with
  | .error e => .error e
  | .ok (r, b) => match l[k]? with
   | none => .ok (r, b)
   | some a => if way a f t then match lateF a.slow at_ n with
     | .error e => .error e
     | .ok s => .ok (r ++ [{ a with slow := s }], true)
    else .ok (r ++ [a], b)
def plB (N : Net) (i : Int) : Bool := decide (0 ≤ i) && decide (i < N.places.length)
def tkB (t : Int) : Bool := decide (0 ≤ t ∧ t ≤ 4096)
def slwF (N : Net) (f t at_ n : Int) : Except Int Net :=
 if ¬ (plB N f = true ∧ plB N t = true) then .error 11
 else if ¬ (tkB at_ = true ∧ tkB n = true) then .error 2
 else match slwTo N.arcs f t at_ n N.arcs.length with
  | .error e => .error e
  | .ok (r, b) => if b then .ok ⟨N.places, r⟩ else .error 12
theorem slwTo_succ {l : List Arc} {f t at_ n : Int} {k : Nat} {a : Arc} (h : l[k]? = some a) {r : List Arc} {b : Bool} (hk : slwTo l f t at_ n k = .ok (r, b)) :
  slwTo l f t at_ n (k + 1) = if way a f t then (match lateF a.slow at_ n with | .error e => .error e | .ok s => .ok (r ++ [{ a with slow := s }], true)) else .ok (r ++ [a], b) := by
 rw [slwTo, hk, h]
theorem slwTo_err {l : List Arc} {f t at_ n : Int} {k : Nat} {e : Int} (hk : slwTo l f t at_ n k = .error e) : ∀ j, slwTo l f t at_ n (k + j) = .error e
 | 0 => hk
 | j + 1 => by rw [← Nat.add_assoc, slwTo, slwTo_err hk j]
def stpZ (s : Stp) : Bool := s.place == 0 && (s.opn == 0 && (s.close == 0 && s.service == 0))
def yQ (o : Ord) : Bool := decide (o.name.toList = []) && (((o.load.length : Int) == 0) && (stpZ o.pick && (stpZ o.drop && ((o.skills == 0) && ((o.penalty == 0) && ((o.split == 0) && ((o.last == 0) && ((o.now == 0) && !o.off))))))))
def yP (e : Evt) : Bool :=
 if e.kind = 1 then e.a == 0 && (e.b == 0 && e.n == 0) else if e.kind = 3 then yQ e.order else if e.kind = 5 then e.b == 0 && yQ e.order else e.b == 0 && (e.n == 0 && yQ e.order)
def alwF (now : Int) (e : Evt) : Int :=
 if ¬ tkB e.at_ = true then 2 else if e.at_ < now then 32 else if ¬ (1 ≤ e.kind ∧ e.kind ≤ 5) then 8 else if ¬ yP e = true then 2 else 0
def shfB (s : Stp) (n : Int) : Bool := decide (s.place = -1 ∨ (-4096 ≤ n ∧ n ≤ 4096 ∧ 0 ≤ s.opn + n ∧ s.close + n ≤ 4096))
def shfS (s : Stp) (n : Int) : Stp := if s.place = -1 then s else { s with opn := s.opn + n, close := s.close + n }
def shfO (o : Ord) (n : Int) : Ord := { o with pick := shfS o.pick n, drop := shfS o.drop n }
def thrF (x : Ins) (k : Int) : Int := if k < 0 ∨ (x.orders.length : Int) ≤ k then 7 else match x.orders[k.toNat]? with
 | none => 7
 | some o => if o.off then 9 else 0
def hapF (x : Ins) (e : Evt) : Except Int Ins :=
 if e.kind = 1 then (if e.order.off then .error 9 else if (addR x e.order).2 = 0 then .ok (addR x e.order).1 else .error (addR x e.order).2)
 else if e.kind = 3 then (if ¬ (1 ≤ e.n ∧ e.n ≤ 4096) then .error 2 else match slwF x.net e.a e.b e.at_ e.n with
  | .error k => .error k
  | .ok N => .ok { x with net := N })
 else if e.kind = 4 then (if e.a < 0 ∨ (x.types.length : Int) ≤ e.a then .error 7 else match x.types[e.a.toNat]? with
  | none => .error 7
  | some t => if t.count = 0 then .error 22 else .ok { x with types := x.types.set e.a.toNat { t with count := t.count - 1 } })
 else if ¬ thrF x e.a = 0 then .error (thrF x e.a) else match x.orders[e.a.toNat]? with
  | none => .error 7
  | some o => if e.kind = 2 then .ok { x with orders := x.orders.set e.a.toNat { o with off := true } }
   else if shfB o.pick e.n && shfB o.drop e.n then .ok { x with orders := x.orders.set e.a.toNat (shfO o e.n) } else .error 2
def chkF (x : Ins) (now : Int) (e : Evt) : Int := if ¬ alwF now e = 0 then alwF now e else match hapF x e with
 | .error k => k
 | .ok _ => 0
end Go.Proofs.YtofabhenmplkoaaGreatDoor.evt

/- Two lemmas that many texts need. -/
namespace Go.Proofs.YtofabhenmplkoaaGreatDoor.ins
open Go.RowKit
open lib rd typ els sets ord app
theorem zT (x : Ins) (P : InP) : ∀ u ∈ insCs x P, u.oneCell' = true := fun u hu => by
 simp only [insCs, List.mem_cons, List.not_mem_nil, or_false] at hu
 rcases hu with rfl | rfl | rfl | rfl | rfl | rfl <;> rfl
end Go.Proofs.YtofabhenmplkoaaGreatDoor.ins

/- Plain facts on the random numbers: the generator of Lehmer, one step back, and a shuffle as a permutation. -/
namespace Go.Proofs.YtofabhenmplkoaaGreatDoor.rnd
def good (a : Int) : Int := if a.tmod 2147483647 < 0 then a.tmod 2147483647 + 2147483647 else if a.tmod 2147483647 = 0 then 1 else a.tmod 2147483647
def nxt (a : Int) : Int := good a * 48271 % 2147483647
def bel (a n : Int) : Int := if n < 1 then 0 else (nxt a - 1) % n
def upto (n : Nat) : List Int := (List.range n).map (fun k : Nat => (k : Int))
end Go.Proofs.YtofabhenmplkoaaGreatDoor.rnd

/- Instances that are drawn: what they are. -/
namespace Go.Proofs.YtofabhenmplkoaaGreatDoor.gen
open typ txt
def frm (s a b : Int) : Int := a + rnd.bel s (b - a + 1)
def nx : Nat → Int → Int
 | 0, s => s
 | k + 1, s => rnd.nxt (nx k s)
def ordN (i : Nat) : ByteArray := ⟨#[111]⟩ ++ decS i
def kindF (s : Int) (dims : Nat) : Int := frm (nx dims s) 0 2
end Go.Proofs.YtofabhenmplkoaaGreatDoor.gen

/- Contracts of the random package and of its reference: the next state, a number below n, a shuffle. -/
namespace Go.Proofs.YtofabhenmplkoaaGreatDoor.rnd
open Go.RowKit
open lib
theorem own_there {w : World} {base g n cap : Nat} {xs : List Value} (h : w.ownsRow base 3 1 (.slice (some ⟨g, 0, none⟩) n cap) n xs) (i : Nat) (u : Value) (k : Nat) (hk : k < n) : ∃ v, (w.setCell ⟨g, i, none⟩ u).cell? ⟨g, k, none⟩ = some v := by
 have h1 := (h.stored i u).1
 have hl := h1.1
 rw [h1.cellAt k (by omega)]
 exact ⟨_, List.getElem?_eq_getElem (by omega)⟩
end Go.Proofs.YtofabhenmplkoaaGreatDoor.rnd

/- Drawers of numbers: a box whose number turns with each draw; blocks of the call's own. -/
namespace Go.Proofs.YtofabhenmplkoaaGreatDoor.gen
open Go.RowKit
open lib rd app typ txt big
def Blk (w : World) (b : Nat) (t : TypeId) (cs : List Value) : Prop := w.heap[b]? = some (.cells cs.toArray t (0, 0))
section
variable {w w' : World} {b : Nat} {t : TypeId} {cs : List Value}
theorem Blk.lt (h : Blk w b t cs) : b < w.heap.size := (Array.getElem?_eq_some_iff.1 h).1
theorem Blk.cell (h : Blk w b t cs) {j : Nat} {u : Value} (hj : cs[j]? = some u) : w.cell? ⟨b, j, none⟩ = some u := by
 unfold World.cell?
 rw [h]
 simpa using hj
theorem Blk.cells (h : Blk w b t cs) : CellsAt w ⟨b, 0, none⟩ cs := fun j u hu => World.news_of_block (w := w) (B := b) h j u (by simpa using hu)
theorem Blk.frozen (h : Blk w b t cs) (j : Nat) : w.frozen? ⟨b, j, none⟩ = false := by simp [World.frozen?, show w.heap[b]? = _ from h]
theorem Blk.set (h : Blk w b t cs) (i : Nat) (u : Value) : Blk (w.setCell ⟨b, i, none⟩ u) b t (cs.set i u) := by
 have h1 := heap_setCell_same w b i _ _ u h
 unfold Blk
 rw [h1]
 simp
theorem Blk.kept {row : Option Nat} (h : Blk w b t cs) (hg : w.grownBy w' row) (hne : some b ≠ row) : Blk w' b t cs := (hg.block b h.lt hne).trans h
theorem Blk.new (w : World) (t : TypeId) (cs : List Value) : Blk (w.alloc (.cells cs.toArray t)) w.heap.size t cs := World.alloc_heap_new w _
theorem Blk.below (h : Blk w b t cs) (hb : Below w.heap.size w w') : Blk w' b t cs := (hb.block b h.lt).trans h
end
def DrawOut (t : TypeId) (p : Nat) (v : Value) (s' : Int) (w : World) (e : Ending) (w' : World) : Prop := e = .returned v ∧ Boxed w' p t (.int .i64 s') ∧ w.grownBy w' (some p)
structure GS (w : World) (p : Nat) (t : TypeId) (s : Int) (wx : World) : Prop where
 box : Boxed wx p t (.int .i64 s)
 grown : w.grownBy wx (some p)
 lt : p < w.heap.size
section
variable {w wx wy : World} {p : Nat} {t : TypeId} {s s' : Int}
theorem GS.start (h : Boxed w p t (.int .i64 s)) : GS w p t s w := ⟨h, World.grownBy.refl _ _, h.lt⟩
theorem GS.size (h : GS w p t s wx) : w.heap.size ≤ wx.heap.size := h.grown.size
theorem GS.alloc (h : GS w p t s wx) (o : Obj) : GS w p t s (wx.alloc o) := ⟨h.box.alloc o, h.grown.trans (World.grownBy_alloc wx o _), h.lt⟩
theorem GS.set (h : GS w p t s wx) {b : Nat} (hb : w.heap.size ≤ b) (i : Nat) (u : Value) : GS w p t s (wx.setCell ⟨b, i, none⟩ u) :=
 ⟨(Below.heap_setCell wx ⟨b, i, none⟩ u p (show p ≠ b by have := h.lt; omega)).trans h.box, ⟨h.grown.os, h.grown.tape, h.grown.output, Nat.le_trans h.grown.size (by simp [World.setCell]), fun k hk hne => (Below.heap_setCell wx ⟨b, i, none⟩ u k (show k ≠ b by omega)).trans (h.grown.block k hk hne)⟩, h.lt⟩
theorem GS.draw (h : GS w p t s wx) (hb : Boxed wy p t (.int .i64 s')) (hg : wx.grownBy wy (some p)) : GS w p t s' wy := ⟨hb, h.grown.trans hg, h.lt⟩
theorem GS.drew (h : GS w p t s wx) : GS w p t s wx.drew := ⟨h.box, ⟨h.grown.os, h.grown.tape, h.grown.output, h.grown.size, h.grown.block⟩, h.lt⟩
theorem GS.below (h : GS w p t s wx) (hb : Below wx.heap.size wx wy) : GS w p t s wy :=
 ⟨(hb.block p (Nat.lt_of_lt_of_le h.lt h.size)).trans h.box, ⟨hb.os.trans h.grown.os, hb.tape.trans h.grown.tape, hb.output.trans h.grown.output, Nat.le_trans h.size hb.size, fun k hk hne => (hb.block k (Nat.lt_of_lt_of_le hk h.size)).trans (h.grown.block k hk hne)⟩, h.lt⟩
theorem GS.grow (h : GS w p t s wx) {row : Option Nat} (hg : wx.grownBy wy row) (hr : ∀ k, row = some k → w.heap.size ≤ k) : GS w p t s wy :=
 ⟨h.box.kept hg (fun e => by have := hr p e.symm; have := h.lt; omega), ⟨hg.os.trans h.grown.os, hg.tape.trans h.grown.tape, hg.output.trans h.grown.output, Nat.le_trans h.size hg.size, fun k hk hne => (hg.block k (Nat.lt_of_lt_of_le hk h.size) (fun e => by have := hr k e.symm; omega)).trans (h.grown.block k hk hne)⟩, h.lt⟩
theorem GS.store (h : GS w p t s wx) {g : Nat} (hg : w.heap.size ≤ g) (hk : ∀ k, k ≠ g → wy.heap[k]? = wx.heap[k]?) (hb : Below g wx wy) : GS w p t s wy :=
 ⟨(hk p (by have := h.lt; omega)).trans h.box, ⟨hb.os.trans h.grown.os, hb.tape.trans h.grown.tape, hb.output.trans h.grown.output, Nat.le_trans h.size hb.size, fun k hl hne => (hk k (by omega)).trans (h.grown.block k hl hne)⟩, h.lt⟩
theorem GS.out (h : GS w p t s wx) (v : Value) : DrawOut t p v s w (.returned v) wx := ⟨rfl, h.box, h.grown⟩
end
end Go.Proofs.YtofabhenmplkoaaGreatDoor.gen

/- Events: their kinds' words, and which fields are clean. The program. -/
namespace Go.Proofs.YtofabhenmplkoaaGreatDoor.evt
open Go.RowKit
open lib rd app els typ big ins ord gen
theorem stEvt : StructOf 37 21 := ⟨⟨_, Tryz.underlying37⟩, by kernel_rfl⟩
def wordS (k : Int) : ByteArray := if k = 1 then ⟨#[111, 114, 100, 101, 114]⟩ else if k = 2 then ⟨#[99, 97, 110, 99, 101, 108]⟩ else if k = 3 then ⟨#[100, 101, 108, 97, 121]⟩ else if k = 4 then ⟨#[98, 114, 101, 97, 107]⟩ else if k = 5 then ⟨#[115, 104, 105, 102, 116]⟩ else ⟨#[]⟩
set_option maxRecDepth 20000 in
theorem word_any (k : Int) (w : World) : Calls Tryz.prog 62 #[.int .i64 k] w fun e w' => e = .returned (.string (wordS k)) ∧ Below w.heap.size w w' := by
 have HB : Hid (∀ o, Below w.heap.size w (w.alloc o)) := Lib.hid (fun o => (Below.refl _ _).alloc (Nat.le_refl _) _)
 by_cases h0 : k < 0
 ·have HW : Hid (wordS k = ⟨#[]⟩) := Lib.hid (by unfold wordS; rw [if_neg (by omega), if_neg (by omega), if_neg (by omega), if_neg (by omega), if_neg (by omega)])
  go_enter Tryz.func62, Tryz.ntmps62
  go_wp2
  go_ret
  exact ⟨by rw [HW.out]; rfl, HB.out _⟩
 by_cases h6 : 6 ≤ k
 ·have HW : Hid (wordS k = ⟨#[]⟩) := Lib.hid (by unfold wordS; rw [if_neg (by omega), if_neg (by omega), if_neg (by omega), if_neg (by omega), if_neg (by omega)])
  go_enter Tryz.func62, Tryz.ntmps62
  go_wp2
  go_ret
  exact ⟨by rw [HW.out]; rfl, HB.out _⟩
 have hk : k = 0 ∨ k = 1 ∨ k = 2 ∨ k = 3 ∨ k = 4 ∨ k = 5 := by omega
 clear h0 h6
 rcases hk with rfl | rfl | rfl | rfl | rfl | rfl
 all_goals go_enter Tryz.func62, Tryz.ntmps62
 all_goals go_wp2
 all_goals go_ret
 all_goals exact ⟨rfl, HB.out _⟩
set_option maxRecDepth 20000 in
set_option maxHeartbeats 4000000 in
theorem zero_any (o : Ord) (C : Option Addr) (c : Nat) (w : World) : Calls Tryz.prog 120 #[.agg (zA o C c).toArray] w fun e w' => e = .returned (.bool (yQ o)) ∧ Below w.heap.size w w' := by
 show Calls Tryz.prog 120 #[.agg #[.string o.name, .slice C o.load.length c, .int .i64 o.pick.place, .int .i64 o.pick.opn, .int .i64 o.pick.close, .int .i64 o.pick.service, .int .i64 o.drop.place, .int .i64 o.drop.opn, .int .i64 o.drop.close, .int .i64 o.drop.service, .int .i64 o.skills, .int .i64 o.penalty, .int .i64 o.split, .int .i64 o.last, .int .i64 o.now, .bool o.off]] w _
 obtain ⟨W0, hW0⟩ : ∃ W0, w.alloc (.cells (zA o C c).toArray 35) = W0 := ⟨_, rfl⟩
 have hB0 : Below w.heap.size w W0 := by rw [← hW0]; exact (Below.refl _ _).alloc (Nat.le_refl _) _
 have b0 : Blk W0 w.heap.size 35 (zA o C c) := by rw [← hW0]; exact Blk.new w _ _
 have hW1 : w.alloc (.cells #[.string o.name, .slice C o.load.length c, .int .i64 o.pick.place, .int .i64 o.pick.opn, .int .i64 o.pick.close, .int .i64 o.pick.service, .int .i64 o.drop.place, .int .i64 o.drop.opn, .int .i64 o.drop.close, .int .i64 o.drop.service, .int .i64 o.skills, .int .i64 o.penalty, .int .i64 o.split, .int .i64 o.last, .int .i64 o.now, .bool o.off] 35) = W0 := hW0
 have HW1 := Lib.hid hW1
 have c0 := b0.cell (j := 0) rfl
 have c1 := b0.cell (j := 1) rfl
 have c2 := b0.cell (j := 2) rfl
 have c3 := b0.cell (j := 3) rfl
 have c4 := b0.cell (j := 4) rfl
 have c5 := b0.cell (j := 5) rfl
 have c6 := b0.cell (j := 6) rfl
 have c7 := b0.cell (j := 7) rfl
 have c8 := b0.cell (j := 8) rfl
 have c9 := b0.cell (j := 9) rfl
 have c10 := b0.cell (j := 10) rfl
 have c11 := b0.cell (j := 11) rfl
 have c12 := b0.cell (j := 12) rfl
 have c13 := b0.cell (j := 13) rfl
 have c14 := b0.cell (j := 14) rfl
 have c15 := b0.cell (j := 15) rfl
 clear hW0 hW1 b0
 obtain ⟨q2, hq2⟩ : ∃ q, ((o.load.length : Int) == 0) = q := ⟨_, rfl⟩
 obtain ⟨q5, hq5⟩ : ∃ q, (o.skills == 0) = q := ⟨_, rfl⟩
 obtain ⟨q6, hq6⟩ : ∃ q, (o.penalty == 0) = q := ⟨_, rfl⟩
 obtain ⟨q7, hq7⟩ : ∃ q, (o.split == 0) = q := ⟨_, rfl⟩
 obtain ⟨q8, hq8⟩ : ∃ q, (o.last == 0) = q := ⟨_, rfl⟩
 obtain ⟨q9, hq9⟩ : ∃ q, (o.now == 0) = q := ⟨_, rfl⟩
 have HR0 : Hid (yQ o = (decide (o.name.toList = []) && (q2 && ((o.pick.place == 0 && (o.pick.opn == 0 && (o.pick.close == 0 && o.pick.service == 0))) && ((o.drop.place == 0 && (o.drop.opn == 0 && (o.drop.close == 0 && o.drop.service == 0))) && (q5 && (q6 && (q7 && (q8 && (q9 && !o.off)))))))))) := Lib.hid (by
  unfold yQ stpZ
  rw [hq2, hq5, hq6, hq7, hq8, hq9])
 go_enter Tryz.func120, Tryz.ntmps120
 go_upto_region 1 with fail
 rw [HW1.out]
 clear HW1
 by_cases h1 : ¬ o.name.toList = []
 ·have HR : Hid (yQ o = false) := Lib.hid (by rw [HR0.out, decide_eq_false h1]; rfl)
  go_wp2_with fail
  go_ret
  exact ⟨by rw [HR.out]; rfl, hB0⟩
 have h1 : o.name.toList = [] := Decidable.not_not.1 h1
 cases q2
 ·have HR : Hid (yQ o = false) := Lib.hid (by rw [HR0.out]; simp)
  go_wp2_with fail
  go_ret
  exact ⟨by rw [HR.out]; rfl, hB0⟩
 by_cases h : ¬ o.pick.place = 0
 ·have HR : Hid (yQ o = false) := Lib.hid (by rw [HR0.out]; simp [h])
  go_wp2_with fail
  go_ret
  exact ⟨by rw [HR.out]; rfl, hB0⟩
 have hpickplace : o.pick.place = 0 := Decidable.not_not.1 h
 clear h
 by_cases h : ¬ o.pick.opn = 0
 ·have HR : Hid (yQ o = false) := Lib.hid (by rw [HR0.out]; simp [h])
  go_wp2_with fail
  go_ret
  exact ⟨by rw [HR.out]; rfl, hB0⟩
 have hpickopn : o.pick.opn = 0 := Decidable.not_not.1 h
 clear h
 by_cases h : ¬ o.pick.close = 0
 ·have HR : Hid (yQ o = false) := Lib.hid (by rw [HR0.out]; simp [h])
  go_wp2_with fail
  go_ret
  exact ⟨by rw [HR.out]; rfl, hB0⟩
 have hpickclose : o.pick.close = 0 := Decidable.not_not.1 h
 clear h
 by_cases h : ¬ o.pick.service = 0
 ·have HR : Hid (yQ o = false) := Lib.hid (by rw [HR0.out]; simp [h])
  go_wp2_with fail
  go_ret
  exact ⟨by rw [HR.out]; rfl, hB0⟩
 have hpickservice : o.pick.service = 0 := Decidable.not_not.1 h
 clear h
 by_cases h : ¬ o.drop.place = 0
 ·have HR : Hid (yQ o = false) := Lib.hid (by rw [HR0.out]; simp [h])
  go_wp2_with fail
  go_ret
  exact ⟨by rw [HR.out]; rfl, hB0⟩
 have hdropplace : o.drop.place = 0 := Decidable.not_not.1 h
 clear h
 by_cases h : ¬ o.drop.opn = 0
 ·have HR : Hid (yQ o = false) := Lib.hid (by rw [HR0.out]; simp [h])
  go_wp2_with fail
  go_ret
  exact ⟨by rw [HR.out]; rfl, hB0⟩
 have hdropopn : o.drop.opn = 0 := Decidable.not_not.1 h
 clear h
 by_cases h : ¬ o.drop.close = 0
 ·have HR : Hid (yQ o = false) := Lib.hid (by rw [HR0.out]; simp [h])
  go_wp2_with fail
  go_ret
  exact ⟨by rw [HR.out]; rfl, hB0⟩
 have hdropclose : o.drop.close = 0 := Decidable.not_not.1 h
 clear h
 by_cases h : ¬ o.drop.service = 0
 ·have HR : Hid (yQ o = false) := Lib.hid (by rw [HR0.out]; simp [h])
  go_wp2_with fail
  go_ret
  exact ⟨by rw [HR.out]; rfl, hB0⟩
 have hdropservice : o.drop.service = 0 := Decidable.not_not.1 h
 clear h
 cases q5
 ·have HR : Hid (yQ o = false) := Lib.hid (by rw [HR0.out]; simp)
  go_wp2_with fail
  go_ret
  exact ⟨by rw [HR.out]; rfl, hB0⟩
 cases q6
 ·have HR : Hid (yQ o = false) := Lib.hid (by rw [HR0.out]; simp)
  go_wp2_with fail
  go_ret
  exact ⟨by rw [HR.out]; rfl, hB0⟩
 cases q7
 ·have HR : Hid (yQ o = false) := Lib.hid (by rw [HR0.out]; simp)
  go_wp2_with fail
  go_ret
  exact ⟨by rw [HR.out]; rfl, hB0⟩
 cases q8
 ·have HR : Hid (yQ o = false) := Lib.hid (by rw [HR0.out]; simp)
  go_wp2_with fail
  go_ret
  exact ⟨by rw [HR.out]; rfl, hB0⟩
 cases q9
 ·have HR : Hid (yQ o = false) := Lib.hid (by rw [HR0.out]; simp)
  go_wp2_with fail
  go_ret
  exact ⟨by rw [HR.out]; rfl, hB0⟩
 have HR : Hid (yQ o = !o.off) := Lib.hid (by rw [HR0.out]; simp [h1, hpickplace, hpickopn, hpickclose, hpickservice, hdropplace, hdropopn, hdropclose, hdropservice])
 go_wp2_with fail
 go_ret
 exact ⟨by rw [HR.out]; rfl, hB0⟩
end Go.Proofs.YtofabhenmplkoaaGreatDoor.evt

/- Events: which fields are clean; what their numbers allow. The program. -/
namespace Go.Proofs.YtofabhenmplkoaaGreatDoor.evt
open Go.RowKit
open lib rd app els typ big ins ord gen
theorem ord_evt {w : World} {b : Nat} {e : Evt} {C : Option Addr} {c : Nat} (h : Blk w b 37 (z8 e C c)) : CellsAt w ⟨b, 5, none⟩ (zA e.order C c) := fun j u hu => by
 have h1 := h.cells (j + 5) u (by show (zA e.order C c)[j]? = some u; exact hu)
 rw [Addr.add_mid] at h1 ⊢
 rw [show 5 + j = 0 + (j + 5) by omega]
 exact h1
set_option maxRecDepth 20000 in
set_option maxHeartbeats 4000000 in
theorem clean_any (e : Evt) (C : Option Addr) (c : Nat) (w : World) : Calls Tryz.prog 63 #[.agg (z8 e C c).toArray] w fun en w' => en = .returned (.bool (yP e)) ∧ Below w.heap.size w w' := by
 show Calls Tryz.prog 63 #[.agg #[.int .i64 e.at_, .int .i64 e.kind, .int .i64 e.a, .int .i64 e.b, .int .i64 e.n, .string e.order.name, .slice C e.order.load.length c, .int .i64 e.order.pick.place, .int .i64 e.order.pick.opn, .int .i64 e.order.pick.close, .int .i64 e.order.pick.service, .int .i64 e.order.drop.place, .int .i64 e.order.drop.opn, .int .i64 e.order.drop.close, .int .i64 e.order.drop.service, .int .i64 e.order.skills, .int .i64 e.order.penalty, .int .i64 e.order.split, .int .i64 e.order.last, .int .i64 e.order.now, .bool e.order.off]] w _
 obtain ⟨W0, hW0⟩ : ∃ W0, w.alloc (.cells (z8 e C c).toArray 37) = W0 := ⟨_, rfl⟩
 have hB0 : Below w.heap.size w W0 := by rw [← hW0]; exact (Below.refl _ _).alloc (Nat.le_refl _) _
 have z0 := hB0.size
 have b0 : Blk W0 w.heap.size 37 (z8 e C c) := by rw [← hW0]; exact Blk.new w _ _
 have HE0 := Lib.hid b0
 have hW1 : w.alloc (.cells #[.int .i64 e.at_, .int .i64 e.kind, .int .i64 e.a, .int .i64 e.b, .int .i64 e.n, .string e.order.name, .slice C e.order.load.length c, .int .i64 e.order.pick.place, .int .i64 e.order.pick.opn, .int .i64 e.order.pick.close, .int .i64 e.order.pick.service, .int .i64 e.order.drop.place, .int .i64 e.order.drop.opn, .int .i64 e.order.drop.close, .int .i64 e.order.drop.service, .int .i64 e.order.skills, .int .i64 e.order.penalty, .int .i64 e.order.split, .int .i64 e.order.last, .int .i64 e.order.now, .bool e.order.off] 37) = W0 := hW0
 have HW1 := Lib.hid hW1
 have c0 := b0.cell (j := 0) rfl
 have c1 := b0.cell (j := 1) rfl
 have c2 := b0.cell (j := 2) rfl
 have c3 := b0.cell (j := 3) rfl
 have c4 := b0.cell (j := 4) rfl
 clear hW0 hW1 b0
 obtain ⟨k1, hk1⟩ : ∃ q, (e.kind == 1) = q := ⟨_, rfl⟩
 obtain ⟨k3, hk3⟩ : ∃ q, (e.kind == 3) = q := ⟨_, rfl⟩
 obtain ⟨k5, hk5⟩ : ∃ q, (e.kind == 5) = q := ⟨_, rfl⟩
 obtain ⟨qa, hqa⟩ : ∃ q, (e.a == 0) = q := ⟨_, rfl⟩
 obtain ⟨qb, hqb⟩ : ∃ q, (e.b == 0) = q := ⟨_, rfl⟩
 obtain ⟨qn, hqn⟩ : ∃ q, (e.n == 0) = q := ⟨_, rfl⟩
 have HR0 : Hid (yP e = (if k1 = true then qa && (qb && qn) else if k3 = true then yQ e.order else if k5 = true then qb && yQ e.order else qb && (qn && yQ e.order))) := Lib.hid (by
  unfold yP
  rw [← hk1, ← hk3, ← hk5, ← hqa, ← hqb, ← hqn]
  simp only [beq_iff_eq])
 go_enter Tryz.func63, Tryz.ntmps63
 go_upto_region 1 with fail
 rw [HW1.out]
 clear HW1
 cases k1
 ·cases k3
  ·cases k5
   ·cases qb
    ·have HR : Hid (yP e = false) := Lib.hid (by rw [HR0.out]; rfl)
     go_wp2_with fail
     go_ret
     exact ⟨by rw [HR.out]; rfl, hB0⟩
    cases qn
    ·have HR : Hid (yP e = false) := Lib.hid (by rw [HR0.out]; rfl)
     go_wp2_with fail
     go_ret
     exact ⟨by rw [HR.out]; rfl, hB0⟩
    have HR : Hid (yP e = yQ e.order) := Lib.hid (by rw [HR0.out]; rfl)
    go_wp2_with ((with_reducible refine zH stOrd' _ rfl ⟨w.heap.size, 5, none⟩ (zA e.order C c) ?_ ?_ ?_ ?_ ?_); exact rfl; exact rfl; exact (ord_evt HE0.out); exact rfl)
    refine (zero_any e.order C c _).mono ?_
    rintro e2 w2 ⟨rfl, b2⟩
    have HB2 := Lib.hid (hB0.trans (b2.mono z0))
    clear b2
    go_wp2_with fail
    go_ret
    exact ⟨by rw [HR.out]; rfl, HB2.out⟩
   ·cases qb
    ·have HR : Hid (yP e = false) := Lib.hid (by rw [HR0.out]; rfl)
     go_wp2_with fail
     go_ret
     exact ⟨by rw [HR.out]; rfl, hB0⟩
    have HR : Hid (yP e = yQ e.order) := Lib.hid (by rw [HR0.out]; rfl)
    go_wp2_with ((with_reducible refine zH stOrd' _ rfl ⟨w.heap.size, 5, none⟩ (zA e.order C c) ?_ ?_ ?_ ?_ ?_); exact rfl; exact rfl; exact (ord_evt HE0.out); exact rfl)
    refine (zero_any e.order C c _).mono ?_
    rintro e2 w2 ⟨rfl, b2⟩
    have HB2 := Lib.hid (hB0.trans (b2.mono z0))
    clear b2
    go_wp2_with fail
    go_ret
    exact ⟨by rw [HR.out]; rfl, HB2.out⟩
  ·have HR : Hid (yP e = yQ e.order) := Lib.hid (by rw [HR0.out]; rfl)
   go_wp2_with ((with_reducible refine zH stOrd' _ rfl ⟨w.heap.size, 5, none⟩ (zA e.order C c) ?_ ?_ ?_ ?_ ?_); exact rfl; exact rfl; exact (ord_evt HE0.out); exact rfl)
   refine (zero_any e.order C c _).mono ?_
   rintro e2 w2 ⟨rfl, b2⟩
   have HB2 := Lib.hid (hB0.trans (b2.mono z0))
   clear b2
   go_wp2_with fail
   go_ret
   exact ⟨by rw [HR.out]; rfl, HB2.out⟩
 ·cases qa
  ·have HR : Hid (yP e = false) := Lib.hid (by rw [HR0.out]; rfl)
   go_wp2_with fail
   go_ret
   exact ⟨by rw [HR.out]; rfl, hB0⟩
  cases qb
  ·have HR : Hid (yP e = false) := Lib.hid (by rw [HR0.out]; rfl)
   go_wp2_with fail
   go_ret
   exact ⟨by rw [HR.out]; rfl, hB0⟩
  have HR : Hid (yP e = qn) := Lib.hid (by rw [HR0.out]; rfl)
  cases qn
  ·skip
   go_wp2_with fail
   go_ret
   exact ⟨by rw [HR.out]; rfl, hB0⟩
  ·skip
   go_wp2_with fail
   go_ret
   exact ⟨by rw [HR.out]; rfl, hB0⟩
theorem word_emp (k : Int) : (wordS k).toList.isEmpty = decide ¬(1 ≤ k ∧ k ≤ 5) := by
 by_cases h : 1 ≤ k ∧ k ≤ 5
 ·have hk : k = 1 ∨ k = 2 ∨ k = 3 ∨ k = 4 ∨ k = 5 := by omega
  rcases hk with rfl | rfl | rfl | rfl | rfl <;> decide +kernel
 ·rw [decide_eq_true h]
  unfold wordS
  rw [if_neg (by omega), if_neg (by omega), if_neg (by omega), if_neg (by omega), if_neg (by omega)]
  decide +kernel
set_option maxRecDepth 20000 in
set_option maxHeartbeats 4000000 in
theorem allowed_any (now : Int) (e : Evt) (C : Option Addr) (c : Nat) (w : World) : Calls Tryz.prog 45 #[.int .i64 now, .agg (z8 e C c).toArray] w fun en w' => en = .returned (.int .i64 (alwF now e)) ∧ Below w.heap.size w w' := by
 show Calls Tryz.prog 45 #[.int .i64 now, .agg #[.int .i64 e.at_, .int .i64 e.kind, .int .i64 e.a, .int .i64 e.b, .int .i64 e.n, .string e.order.name, .slice C e.order.load.length c, .int .i64 e.order.pick.place, .int .i64 e.order.pick.opn, .int .i64 e.order.pick.close, .int .i64 e.order.pick.service, .int .i64 e.order.drop.place, .int .i64 e.order.drop.opn, .int .i64 e.order.drop.close, .int .i64 e.order.drop.service, .int .i64 e.order.skills, .int .i64 e.order.penalty, .int .i64 e.order.split, .int .i64 e.order.last, .int .i64 e.order.now, .bool e.order.off]] w _
 obtain ⟨W0, hW0⟩ : ∃ W0, w.alloc (.cells (z8 e C c).toArray 37) = W0 := ⟨_, rfl⟩
 have hB0 : Below w.heap.size w W0 := by rw [← hW0]; exact (Below.refl _ _).alloc (Nat.le_refl _) _
 have z0 := hB0.size
 have b0 : Blk W0 w.heap.size 37 (z8 e C c) := by rw [← hW0]; exact Blk.new w _ _
 have HE0 := Lib.hid b0
 have hW1 : w.alloc (.cells #[.int .i64 e.at_, .int .i64 e.kind, .int .i64 e.a, .int .i64 e.b, .int .i64 e.n, .string e.order.name, .slice C e.order.load.length c, .int .i64 e.order.pick.place, .int .i64 e.order.pick.opn, .int .i64 e.order.pick.close, .int .i64 e.order.pick.service, .int .i64 e.order.drop.place, .int .i64 e.order.drop.opn, .int .i64 e.order.drop.close, .int .i64 e.order.drop.service, .int .i64 e.order.skills, .int .i64 e.order.penalty, .int .i64 e.order.split, .int .i64 e.order.last, .int .i64 e.order.now, .bool e.order.off] 37) = W0 := hW0
 have HW1 := Lib.hid hW1
 have c0 := b0.cell (j := 0) rfl
 have c1 := b0.cell (j := 1) rfl
 have c2 := b0.cell (j := 2) rfl
 have c3 := b0.cell (j := 3) rfl
 have c4 := b0.cell (j := 4) rfl
 clear hW0 hW1 b0
 go_enter Tryz.func45, Tryz.ntmps45
 go_upto_region 1 with fail
 rw [HW1.out]
 clear HW1
 by_cases h1 : e.at_ < 0
 ·have HR : Hid (alwF now e = 2) := Lib.hid (by unfold alwF tkB; rw [if_pos (by simp; omega)])
  go_wp2_with fail
  go_ret
  exact ⟨by rw [HR.out]; rfl, hB0⟩
 by_cases h2 : 4096 < e.at_
 ·have HR : Hid (alwF now e = 2) := Lib.hid (by unfold alwF tkB; rw [if_pos (by simp; omega)])
  go_wp2_with fail
  go_ret
  exact ⟨by rw [HR.out]; rfl, hB0⟩
 have HT : Hid (¬ ¬ tkB e.at_ = true) := Lib.hid (by unfold tkB; simp; omega)
 by_cases h3 : e.at_ < now
 ·have HR : Hid (alwF now e = 32) := Lib.hid (by unfold alwF; rw [if_neg HT.out, if_pos h3])
  go_wp2_with fail
  go_ret
  exact ⟨by rw [HR.out]; rfl, hB0⟩
 have HT2 : Hid (alwF now e = if ¬ (1 ≤ e.kind ∧ e.kind ≤ 5) then 8 else if ¬ yP e = true then 2 else 0) := Lib.hid (by unfold alwF; rw [if_neg HT.out, if_neg h3])
 go_wp2_with fail
 refine (word_any e.kind _).mono ?_
 rintro e2 w2 ⟨rfl, b2⟩
 have HB2 := Lib.hid (hB0.trans (b2.mono z0))
 have HE2 := Lib.hid (HE0.out.below b2)
 have hwe := word_emp e.kind
 clear b2 h1 h2 h3
 by_cases h4 : 1 ≤ e.kind ∧ e.kind ≤ 5
 ·rw [decide_eq_false (fun h => h h4)] at hwe
  have HT3 : Hid (alwF now e = if ¬ yP e = true then 2 else 0) := Lib.hid (by rw [HT2.out, if_neg (fun h => h h4)])
  obtain ⟨s, hs⟩ : ∃ s, wordS e.kind = s := ⟨_, rfl⟩
  rw [hs] at hwe ⊢
  clear h4 hs
  go_wp2_with ((with_reducible refine zH stEvt _ rfl ⟨w.heap.size, 0, none⟩ (z8 e C c) ?_ ?_ ?_ ?_ ?_); exact rfl; exact rfl; exact HE2.out.cells; exact rfl)
  refine (clean_any e C c _).mono ?_
  rintro e3 w3 ⟨rfl, b3⟩
  have HB3 := Lib.hid (HB2.out.trans (b3.mono HB2.out.size))
  clear b3
  obtain ⟨q, hq⟩ : ∃ q, yP e = q := ⟨_, rfl⟩
  rw [hq]
  have HR : Hid (alwF now e = if ¬ q = true then 2 else 0) := Lib.hid (by rw [HT3.out, hq])
  cases q
  ·go_wp2_with fail
   go_ret
   exact ⟨by rw [HR.out]; rfl, HB3.out⟩
  ·go_wp2_with fail
   go_ret
   exact ⟨by rw [HR.out]; rfl, HB3.out⟩
 ·rw [decide_eq_true h4] at hwe
  have HR : Hid (alwF now e = 8) := Lib.hid (by rw [HT2.out, if_pos h4])
  obtain ⟨s, hs⟩ : ∃ s, wordS e.kind = s := ⟨_, rfl⟩
  rw [hs] at hwe ⊢
  clear h4 hs
  go_wp2_with fail
  go_ret
  exact ⟨by rw [HR.out]; rfl, HB2.out⟩
end Go.Proofs.YtofabhenmplkoaaGreatDoor.evt

/- Contracts of Shift, of the program and of the reference: portable part of WinB. -/
namespace Go.Proofs.YtofabhenmplkoaaGreatDoor.win
open Go.RowKit
def shiftB (p o c n : Int) : Bool := decide (p = -1 ∨ (-4096 ≤ n ∧ n ≤ 4096 ∧ 0 ≤ o + n ∧ c + n ≤ 4096))
def shiftE (p o c n : Int) : Int := if shiftB p o c n = true then 0 else 2
def shiftV (p o c v n : Int) : Value := if shiftB p o c n = true then (if p = -1 then stop p o c v else stop p (o + n) (c + n) v) else stop 0 0 0 0
theorem shift_stay (o c v n : Int) : shiftV (-1) o c v n = stop (-1) o c v ∧ shiftE (-1) o c n = 0 := by
 have e1 : shiftB (-1) o c n = true := by unfold shiftB; simp
 unfold shiftV shiftE
 rw [if_pos e1, if_pos e1, if_pos rfl]
 exact ⟨rfl, rfl⟩
theorem shift_yes {p o c v n : Int} (hp : ¬ p = -1) (h : -4096 ≤ n ∧ n ≤ 4096 ∧ 0 ≤ o + n ∧ c + n ≤ 4096) : shiftV p o c v n = stop p (o + n) (c + n) v ∧ shiftE p o c n = 0 := by
 have e1 : shiftB p o c n = true := by unfold shiftB; simpa [hp] using h
 unfold shiftV shiftE
 rw [if_pos e1, if_pos e1, if_neg hp]
 exact ⟨rfl, rfl⟩
theorem shift_no {p o c v n : Int} (hp : ¬ p = -1) (h : ¬ (-4096 ≤ n ∧ n ≤ 4096 ∧ 0 ≤ o + n ∧ c + n ≤ 4096)) : shiftV p o c v n = stop 0 0 0 0 ∧ shiftE p o c n = 2 := by
 have e1 : ¬ shiftB p o c n = true := by
  unfold shiftB
  intro h1
  simp only [decide_eq_true_eq] at h1
  omega
 unfold shiftV shiftE
 rw [if_neg e1, if_neg e1]
 exact ⟨rfl, rfl⟩
set_option maxHeartbeats 1000000 in
theorem shift_any (p o c v n : Int) (hg : (p = -1 ∧ o = 0 ∧ c = 0 ∧ v = 0) ∨ Good p o c v) (hn : -9223372036854775808 ≤ n ∧ n ≤ 9223372036854775807) (w : World) : Calls Tryz.prog 207 #[stop p o c v, .int .i64 n] w fun e w' => e = .returned (.tuple #[shiftV p o c v n, .int .i64 (shiftE p o c n)]) ∧ Below w.heap.size w w' := by
 by_cases hp : p = -1
 ·clear hg
  subst hp
  go_enter Tryz.func207, Tryz.ntmps207
  go_wp2
  (have e := shift_stay o c v n; refine bodyPost_ret (v := .tuple #[shiftV (-1) o c v n, .int .i64 (shiftE (-1) o c n)]) (by rw [e.1, e.2]; simp [results, Tryz.results207, go_sem]) rfl ⟨rfl, by repeat (first | exact Below.refl _ _ | refine Below.drew ?_ | refine Below.alloc ?_ (by simp <;> omega) _ | refine Below.setCell ?_ (by simp <;> omega) _)⟩)
 ·have hg : Good p o c v := by
   rcases hg with h | h
   ·exact absurd h.1 hp
   ·exact h
  obtain ⟨g1, g2, g3, g4, g5, g6⟩ := hg
  by_cases h1 : n < -4096
  ·go_enter Tryz.func207, Tryz.ntmps207
   go_wp2
   all_goals (have e := shift_no (o := o) (c := c) (v := v) (n := n) hp (by omega); refine bodyPost_ret (v := .tuple #[shiftV p o c v n, .int .i64 (shiftE p o c n)]) (by rw [e.1, e.2]; simp [results, Tryz.results207, go_sem]) rfl ⟨rfl, by repeat (first | exact Below.refl _ _ | refine Below.drew ?_ | refine Below.alloc ?_ (by simp <;> omega) _ | refine Below.setCell ?_ (by simp <;> omega) _)⟩)
  by_cases h2 : 4096 < n
  ·go_enter Tryz.func207, Tryz.ntmps207
   go_wp2
   all_goals (have e := shift_no (o := o) (c := c) (v := v) (n := n) hp (by omega); refine bodyPost_ret (v := .tuple #[shiftV p o c v n, .int .i64 (shiftE p o c n)]) (by rw [e.1, e.2]; simp [results, Tryz.results207, go_sem]) rfl ⟨rfl, by repeat (first | exact Below.refl _ _ | refine Below.drew ?_ | refine Below.alloc ?_ (by simp <;> omega) _ | refine Below.setCell ?_ (by simp <;> omega) _)⟩)
  ·go_enter Tryz.func207, Tryz.ntmps207
   go_wp2_with (go_at_call 240; refine (tick_any _ _).mono ?_; rintro e w' ⟨rfl, rfl⟩)
   ·have q1 := tick_t (n := o + n) (by assumption)
    have q2 := tick_f (n := c + n) (by simpa using ‹(!tickB (c + n)) = true›)
    (have e := shift_no (o := o) (c := c) (v := v) (n := n) hp (by omega); refine bodyPost_ret (v := .tuple #[shiftV p o c v n, .int .i64 (shiftE p o c n)]) (by rw [e.1, e.2]; simp [results, Tryz.results207, go_sem]) rfl ⟨rfl, by repeat (first | exact Below.refl _ _ | refine Below.drew ?_ | refine Below.alloc ?_ (by simp <;> omega) _ | refine Below.setCell ?_ (by simp <;> omega) _)⟩)
   ·have q1 := tick_t (n := o + n) (by assumption)
    have q2 := tick_t (n := c + n) (by simpa using ‹(!tickB (c + n)) = false›)
    (have e := shift_yes (o := o) (c := c) (v := v) (n := n) hp (by omega); refine bodyPost_ret (v := .tuple #[shiftV p o c v n, .int .i64 (shiftE p o c n)]) (by rw [e.1, e.2]; simp [results, Tryz.results207, go_sem]) rfl ⟨rfl, by repeat (first | exact Below.refl _ _ | refine Below.drew ?_ | refine Below.alloc ?_ (by simp <;> omega) _ | refine Below.setCell ?_ (by simp <;> omega) _)⟩)
   ·have q1 := tick_f (n := o + n) (by assumption)
    (have e := shift_no (o := o) (c := c) (v := v) (n := n) hp (by omega); refine bodyPost_ret (v := .tuple #[shiftV p o c v n, .int .i64 (shiftE p o c n)]) (by rw [e.1, e.2]; simp [results, Tryz.results207, go_sem]) rfl ⟨rfl, by repeat (first | exact Below.refl _ _ | refine Below.drew ?_ | refine Below.alloc ?_ (by simp <;> omega) _ | refine Below.setCell ?_ (by simp <;> omega) _)⟩)
set_option maxHeartbeats 1000000 in
theorem rshift_any (p o c v n : Int) (hg : (p = -1 ∧ o = 0 ∧ c = 0 ∧ v = 0) ∨ Good p o c v) (hn : -9223372036854775808 ≤ n ∧ n ≤ 9223372036854775807) (w : World) : Calls Tryz.prog 111 #[stop p o c v, .int .i64 n] w fun e w' => e = .returned (.tuple #[shiftV p o c v n, .int .i64 (shiftE p o c n)]) ∧ Below w.heap.size w w' := by
 by_cases hp : p = -1
 ·clear hg
  subst hp
  go_enter Tryz.func111, Tryz.ntmps111
  go_wp2
  (have e := shift_stay o c v n; refine bodyPost_ret (v := .tuple #[shiftV (-1) o c v n, .int .i64 (shiftE (-1) o c n)]) (by rw [e.1, e.2]; simp [results, Tryz.results111, go_sem]) rfl ⟨rfl, by repeat (first | exact Below.refl _ _ | refine Below.drew ?_ | refine Below.alloc ?_ (by simp <;> omega) _ | refine Below.setCell ?_ (by simp <;> omega) _)⟩)
 ·have hg : Good p o c v := by
   rcases hg with h | h
   ·exact absurd h.1 hp
   ·exact h
  obtain ⟨g1, g2, g3, g4, g5, g6⟩ := hg
  by_cases h1 : n < -4096
  ·go_enter Tryz.func111, Tryz.ntmps111
   go_wp2
   all_goals (have e := shift_no (o := o) (c := c) (v := v) (n := n) hp (by omega); refine bodyPost_ret (v := .tuple #[shiftV p o c v n, .int .i64 (shiftE p o c n)]) (by rw [e.1, e.2]; simp [results, Tryz.results111, go_sem]) rfl ⟨rfl, by repeat (first | exact Below.refl _ _ | refine Below.drew ?_ | refine Below.alloc ?_ (by simp <;> omega) _ | refine Below.setCell ?_ (by simp <;> omega) _)⟩)
  by_cases h2 : 4096 < n
  ·go_enter Tryz.func111, Tryz.ntmps111
   go_wp2
   all_goals (have e := shift_no (o := o) (c := c) (v := v) (n := n) hp (by omega); refine bodyPost_ret (v := .tuple #[shiftV p o c v n, .int .i64 (shiftE p o c n)]) (by rw [e.1, e.2]; simp [results, Tryz.results111, go_sem]) rfl ⟨rfl, by repeat (first | exact Below.refl _ _ | refine Below.drew ?_ | refine Below.alloc ?_ (by simp <;> omega) _ | refine Below.setCell ?_ (by simp <;> omega) _)⟩)
  ·go_enter Tryz.func111, Tryz.ntmps111
   go_wp2
   all_goals first
    | (have e := shift_yes (o := o) (c := c) (v := v) (n := n) hp (by omega); refine bodyPost_ret (v := .tuple #[shiftV p o c v n, .int .i64 (shiftE p o c n)]) (by rw [e.1, e.2]; simp [results, Tryz.results111, go_sem]) rfl ⟨rfl, by repeat (first | exact Below.refl _ _ | refine Below.drew ?_ | refine Below.alloc ?_ (by simp <;> omega) _ | refine Below.setCell ?_ (by simp <;> omega) _)⟩)
    | (have e := shift_no (o := o) (c := c) (v := v) (n := n) hp (by omega); refine bodyPost_ret (v := .tuple #[shiftV p o c v n, .int .i64 (shiftE p o c n)]) (by rw [e.1, e.2]; simp [results, Tryz.results111, go_sem]) rfl ⟨rfl, by repeat (first | exact Below.refl _ _ | refine Below.drew ?_ | refine Below.alloc ?_ (by simp <;> omega) _ | refine Below.setCell ?_ (by simp <;> omega) _)⟩)
end Go.Proofs.YtofabhenmplkoaaGreatDoor.win

/- Results that lie in a block: the struct read in one step. Portable. -/
namespace Go.Proofs.YtofabhenmplkoaaGreatDoor.big
open Go.RowKit
open lib app rd
theorem run_loadVarS {t : TypeId} {n : Nat} (T : StructOf t n) {w : World} {ad : Addr} {cs : List Value} (hc : CellsAt w ad cs) (hn : cs.length = n) : (loadVar t ad).run Tryz.prog w = .ok (.agg cs.toArray) w := by
 have h := run_loadS T hc hn
 unfold Instr.loadAt Instr.sureAddr at h
 rw [Sem.run_bind, Sem.run_pure, Result.andThen_ok] at h
 exact h
theorem zK {t : TypeId} {n a b : Nat} (T : StructOf t n) {fn : Func} (h : fn.results = #[.cell a t, .tmp b]) {tmps : Array Value} {ad : Addr} {v : Value} {w : World} {cs : List Value} (ha : tmps.getD a undef = .pointer (some ad)) (hb : tmps.getD b undef = v) (hc : CellsAt w ad cs) (hn : cs.length = n) :
  (results fn tmps).run Tryz.prog w = .ok (.tuple #[.agg cs.toArray, v]) w := by
 have hl := run_loadVarS T hc hn
 rw [Array.getD_eq_getD_getElem?] at ha hb
 unfold results
 rw [h]
 simp [ha, hb, asAddr, hl]
end Go.Proofs.YtofabhenmplkoaaGreatDoor.big

/- Stops that are drawn, on both sides. -/
namespace Go.Proofs.YtofabhenmplkoaaGreatDoor.gen
open Go.RowKit
open lib rd app typ txt big
theorem stStp : StructOf 33 4 := ⟨⟨_, Tryz.underlying33⟩, by kernel_rfl⟩
end Go.Proofs.YtofabhenmplkoaaGreatDoor.gen

/- Rows of the call's own whose elements lead to other rows, nested to any depth. Portable. -/
namespace Go.Proofs.YtofabhenmplkoaaGreatDoor.off
open Go.RowKit
open lib rd app els
theorem zU {w w' : World} {P P' : Nat → Prop} {A : Option Addr} {l : List Int} (h : yM w P A l) (hs : w.heap.size ≤ w'.heap.size) (hk : ∀ b, b < w.heap.size → P b → P' b ∧ w'.heap[b]? = w.heap[b]?) : yM w' P' A l := by
 obtain ⟨h1, h2⟩ := h
 rcases Nat.eq_zero_or_pos l.length with h0 | h0
 ·have : l = [] := List.eq_nil_of_length_eq_zero h0
  subst this
  exact ⟨⟨⟨rfl, fun h => absurd h (by decide)⟩, by simp⟩, fun h => absurd h (by decide)⟩
 ·obtain ⟨ad, hA, hp⟩ := h2 h0
  obtain ⟨⟨hlen, hrd⟩, hl⟩ := h1
  obtain ⟨ad', hA', hb, hc⟩ := hrd h0
  obtain rfl : ad = ad' := Option.some.inj (hA.symm.trans hA')
  obtain ⟨k1, k2⟩ := hk _ hb hp
  refine ⟨⟨⟨hlen, fun _ => ⟨ad, hA, Nat.lt_of_lt_of_le hb hs, fun j u hu => ?_⟩⟩, hl⟩, fun _ => ⟨ad, hA, k1⟩⟩
  exact (World.cell?_of_block (by rw [block_of_add]; exact k2)).trans (hc j u hu)
structure Off (X : Type) where
 rd : Rd X
 at_ : World → (Nat → Prop) → List Value → X → Prop
 read : ∀ {w : World} {P : Nat → Prop} {cs : List Value} {x : X}, at_ w P cs x → rd.at_ w w.heap.size cs x
 keep : ∀ {w w' : World} {P P' : Nat → Prop} {cs : List Value} {x : X}, at_ w P cs x → w.heap.size ≤ w'.heap.size → (∀ b, b < w.heap.size → P b → P' b ∧ w'.heap[b]? = w.heap[b]?) → at_ w' P' cs x
def oInt : Off Int where
 rd := rInt
 at_ _ _ cs x := cs = [.int .i64 x] ∧ -9223372036854775808 ≤ x ∧ x ≤ 9223372036854775807
 read h := h
 keep h _ _ := h
def oBool : Off Bool where
 rd := rBool
 at_ _ _ cs x := cs = [.bool x]
 read h := h
 keep h _ _ := h
def oStr : Off ByteArray where
 rd := rStr
 at_ _ _ cs x := cs = [.string x] ∧ x.size ≤ 140737488351232
 read h := h
 keep h _ _ := h
def oInts : Off (List Int) where
 rd := rInts
 at_ w P cs x := ∃ A c, cs = [.slice A x.length c] ∧ yM w P A x
 read h := by obtain ⟨A, c, h1, h2⟩ := h; exact ⟨A, c, h1, h2.1⟩
 keep h hs hk := by obtain ⟨A, c, h1, h2⟩ := h; exact ⟨A, c, h1, zU h2 hs hk⟩
def oPair {X Y : Type} (r : Off X) (q : Off Y) : Off (X × Y) where
 rd := rPair r.rd q.rd
 at_ w P cs x := ∃ a b, cs = a ++ b ∧ r.at_ w P a x.1 ∧ q.at_ w P b x.2
 read h := by obtain ⟨a, b, h0, h1, h2⟩ := h; exact ⟨a, b, h0, r.read h1, q.read h2⟩
 keep h hs hk := by obtain ⟨a, b, h0, h1, h2⟩ := h; exact ⟨a, b, h0, r.keep h1 hs hk, q.keep h2 hs hk⟩
def oMap {X Y : Type} (r : Off X) (f : X → Y) : Off Y where
 rd := rMap r.rd f
 at_ w P cs y := ∃ x, f x = y ∧ r.at_ w P cs x
 read h := by obtain ⟨x, h0, h1⟩ := h; exact ⟨x, h0, r.read h1⟩
 keep h hs hk := by obtain ⟨x, h0, h1⟩ := h; exact ⟨x, h0, r.keep h1 hs hk⟩
theorem Off.weak {X : Type} (r : Off X) {w : World} {P P' : Nat → Prop} {cs : List Value} {x : X} (h : r.at_ w P cs x) (hP : ∀ b, b < w.heap.size → P b → P' b) : r.at_ w P' cs x := r.keep h (Nat.le_refl _) (fun b hb hp => ⟨hP b hb hp, rfl⟩)
theorem Off.below {X : Type} (r : Off X) {w w' : World} {P : Nat → Prop} {cs : List Value} {x : X} (h : r.at_ w P cs x) (hb : Below w.heap.size w w') : r.at_ w' P cs x := r.keep h hb.size (fun b hl hp => ⟨hp, hb.block b hl⟩)
def yK {X : Type} (r : Off X) (w : World) (P : Nat → Prop) (A : Option Addr) (l : List X) : Prop :=
 l.length ≤ 17592186043904 ∧ ∀ (i : Nat) (x : X), l[i]? = some x → ∃ ad cs, A = some ad ∧ P ad.block ∧ ad.block < w.heap.size ∧ r.at_ w P cs x ∧ ∀ (j : Nat) (u : Value), cs[j]? = some u → w.cell? (ad.add (i * r.rd.size + j)) = some u
section
variable {X : Type} {r : Off X} {w w' : World} {P P' : Nat → Prop} {A : Option Addr} {l : List X}
theorem yK.nil : yK r w P none [] := ⟨by simp, fun i x h => by simp at h⟩
theorem yK.row (h : yK r w P A l) : RowAt r.rd w w.heap.size A l := ⟨h.1, fun i x hi => by
 obtain ⟨ad, cs, h1, h2, h3, h4, h5⟩ := h.2 i x hi
 exact ⟨ad, cs, h1, h3, r.read h4, h5⟩⟩
theorem yK.keep (h : yK r w P A l) (hs : w.heap.size ≤ w'.heap.size) (hk : ∀ b, b < w.heap.size → P b → P' b ∧ w'.heap[b]? = w.heap[b]?) : yK r w' P' A l := ⟨h.1, fun i x hi => by
 obtain ⟨ad, cs, h1, h2, h3, h4, h5⟩ := h.2 i x hi
 obtain ⟨k1, k2⟩ := hk _ h3 h2
 exact ⟨ad, cs, h1, k1, Nat.lt_of_lt_of_le h3 hs, r.keep h4 hs hk, fun j u hu => (World.cell?_of_block (by rw [block_of_add]; exact k2)).trans (h5 j u hu)⟩⟩
theorem yK.below (h : yK r w P A l) (hb : Below w.heap.size w w') : yK r w' P A l := h.keep hb.size (fun b hl hp => ⟨hp, hb.block b hl⟩)
theorem yK.weak (h : yK r w P A l) (hP : ∀ b, b < w.heap.size → P b → P' b) : yK r w P' A l := h.keep (Nat.le_refl _) (fun b hb hp => ⟨hP b hb hp, rfl⟩)
end
def oSlice {X : Type} (r : Off X) : Off (List X) where
 rd := rSlice r.rd
 at_ w P cs l := ∃ A c, cs = [.slice A l.length c] ∧ yK r w P A l
 read h := by obtain ⟨A, c, h1, h2⟩ := h; exact ⟨A, c, h1, h2.row⟩
 keep h hs hk := by obtain ⟨A, c, h1, h2⟩ := h; exact ⟨A, c, h1, h2.keep hs hk⟩
def EG {X : Type} (r : Off X) (w : World) (P : Nat → Prop) (cs : List Value) (xs : List X) : Prop :=
 cs.length = xs.length * r.rd.size ∧ ∀ (i : Nat) (x : X), xs[i]? = some x → r.at_ w P ((cs.drop (i * r.rd.size)).take r.rd.size) x
section
variable {X : Type} {r : Off X} {w w' : World} {P P' : Nat → Prop} {cs : List Value} {xs : List X}
theorem mul_lt_end {i n s : Nat} (h : i < n) : i * s + s ≤ n * s := by
 have := Nat.mul_le_mul_right s h
 rw [Nat.succ_mul] at this
 exact this
theorem EG.nil : EG r w P [] [] := ⟨by simp, fun i x h => by simp at h⟩
theorem EG.snoc (h : EG r w P cs xs) {c : List Value} {x : X} (hx : r.at_ w P c x) : EG r w P (cs ++ c) (xs ++ [x]) := by
 have hl : c.length = r.rd.size := r.rd.len (r.read hx)
 refine ⟨by rw [List.length_append, List.length_append, h.1, hl, Nat.add_mul]; simp, fun i y hy => ?_⟩
 rcases Nat.lt_or_ge i xs.length with hi | hi
 ·rw [List.getElem?_append_left hi] at hy
  have hm := mul_lt_end (s := r.rd.size) hi
  rw [List.drop_append_of_le_length (by rw [h.1]; omega), List.take_append_of_le_length (by rw [List.length_drop, h.1]; omega)]
  exact h.2 i y hy
 ·rw [List.getElem?_append_right hi] at hy
  rcases Nat.eq_or_lt_of_le hi with rfl | hlt
  ·rw [Nat.sub_self] at hy
   simp at hy
   subst hy
   rw [← h.1, List.drop_append_of_le_length (Nat.le_refl _), List.drop_length, List.nil_append, List.take_of_length_le (by omega)]
   exact hx
  ·rw [List.getElem?_eq_none (by simp; omega)] at hy
   cases hy
theorem EG.keep (h : EG r w P cs xs) (hs : w.heap.size ≤ w'.heap.size) (hk : ∀ b, b < w.heap.size → P b → P' b ∧ w'.heap[b]? = w.heap[b]?) : EG r w' P' cs xs := ⟨h.1, fun i x hi => r.keep (h.2 i x hi) hs hk⟩
theorem EG.below (h : EG r w P cs xs) (hb : Below w.heap.size w w') : EG r w' P cs xs := h.keep hb.size (fun b hl hp => ⟨hp, hb.block b hl⟩)
theorem EG.weak (h : EG r w P cs xs) (hP : ∀ b, b < w.heap.size → P b → P' b) : EG r w P' cs xs := h.keep (Nat.le_refl _) (fun b hb hp => ⟨hP b hb hp, rfl⟩)
theorem EG.at_ (h : EG r w P cs xs) {i : Nat} {x : X} (hi : xs[i]? = some x) : ∃ c, r.at_ w P c x ∧ c.length = r.rd.size ∧ ∀ (j : Nat) u, c[j]? = some u → cs[i * r.rd.size + j]? = some u := by
 have hx := h.2 i x hi
 have hl := r.rd.len (r.read hx)
 refine ⟨_, hx, hl, fun j u hu => ?_⟩
 rw [List.getElem?_take] at hu
 split at hu
 ·rwa [List.getElem?_drop] at hu
 ·cases hu
theorem EG.mod (h : EG r w P cs xs) {i j : Nat} {x' : X} (hi : i < xs.length) (hj : j < r.rd.size) {u : Value} (hx : r.at_ w P (((cs.drop (i * r.rd.size)).take r.rd.size).set j u) x') : EG r w P (cs.set (i * r.rd.size + j) u) (xs.set i x') := by
 refine ⟨by rw [List.length_set, List.length_set]; exact h.1, fun k y hk => ?_⟩
 rw [List.getElem?_set] at hk
 by_cases hik : i = k
 ·subst hik
  rw [if_pos rfl, if_pos hi] at hk
  cases hk
  have e : (List.take r.rd.size (List.drop (i * r.rd.size) (cs.set (i * r.rd.size + j) u))) = (List.take r.rd.size (List.drop (i * r.rd.size) cs)).set j u := by
   apply List.ext_getElem?
   intro n
   rw [List.getElem?_take, List.getElem?_drop, List.getElem?_set, List.getElem?_set, List.length_take, List.length_drop, List.getElem?_take, List.getElem?_drop]
   have hm := mul_lt_end (s := r.rd.size) hi
   have hc := h.1
   by_cases hn : n < r.rd.size
   ·rw [if_pos hn, if_pos hn]
    by_cases hjn : j = n
    ·subst hjn
     rw [if_pos rfl, if_pos rfl, if_pos (by omega), if_pos (by omega)]
    ·rw [if_neg (by omega), if_neg hjn]
   ·rw [if_neg hn, if_neg (by omega), if_neg hn]
  rw [e]
  exact hx
 ·rw [if_neg hik] at hk
  have hkl := (List.getElem?_eq_some_iff.1 hk).1
  have e : (List.take r.rd.size (List.drop (k * r.rd.size) (cs.set (i * r.rd.size + j) u))) = (List.take r.rd.size (List.drop (k * r.rd.size) cs)) := by
   apply List.ext_getElem?
   intro n
   rw [List.getElem?_take, List.getElem?_drop, List.getElem?_set, List.getElem?_take, List.getElem?_drop]
   by_cases hn : n < r.rd.size
   ·rw [if_pos hn, if_pos hn, if_neg]
    intro e
    rcases Nat.lt_or_ge i k with hlt | hge
    ·have := mul_lt_end (s := r.rd.size) hlt
     omega
    ·have := mul_lt_end (s := r.rd.size) (show k < i by omega)
     omega
   ·rw [if_neg hn, if_neg hn]
  rw [e]
  exact h.2 k y hk
theorem EG.push {v : Value} {g : Nat} {Q : Nat → Prop} {c : List Value} {x : X} (hE : EG r w (fun b => some b ≠ v.ownBlock ∧ Q b) cs xs) (hI : r.at_ w (fun b => some b ≠ v.ownBlock ∧ Q b) c x) (hg : w.grownBy w' v.ownBlock) (hg' : v.ownBlock = some g ∨ w.heap.size ≤ g) :
  EG r w' (fun b => some b ≠ some g ∧ Q b) (cs ++ c) (xs ++ [x]) := by
 have hk : ∀ b, b < w.heap.size → (some b ≠ v.ownBlock ∧ Q b) → (some b ≠ some g ∧ Q b) ∧ w'.heap[b]? = w.heap[b]? := fun b hb hp => ⟨⟨fun e => by
  injection e with e
  subst e
  rcases hg' with h | h
  ·exact hp.1 h.symm
  ·omega, hp.2⟩, hg.block b hb hp.1⟩
 exact (hE.keep hg.size hk).snoc (r.keep hI hg.size hk)
section
variable {base c : Nat} {e : TypeId} {A : Option Addr} (hown : w.ownsRow base e r.rd.size (.slice A xs.length c) xs.length cs)
include hown
theorem EG.row (h : EG r w P cs xs) (hl : xs.length ≤ 17592186043904) : RowAt r.rd w w.heap.size A xs := by
 refine ⟨hl, fun i x hi => ?_⟩
 obtain ⟨cc, h3, h4, h5⟩ := h.at_ hi
 rcases hown.2 with ⟨h6, h7⟩ | ⟨g, cap, cur, h6, h7, h8, h9⟩
 ·have := (List.getElem?_eq_some_iff.1 hi).1
  omega
 ·injection h6 with h6 _ _
  subst h6
  exact ⟨⟨g, 0, none⟩, cc, rfl, (Array.getElem?_eq_some_iff.1 h8).1, r.read h3, fun j u hu => hown.cells (g := g) rfl _ _ (h5 j u hu)⟩
theorem EG.off {Q : Nat → Prop} (h : EG r w P cs xs) (hl : xs.length ≤ 17592186043904) (hP : ∀ b, b < w.heap.size → P b → Q b) (hQ : ∀ b, base ≤ b → Q b) : yK r w Q A xs := by
 refine ⟨hl, fun i x hi => ?_⟩
 obtain ⟨cc, h3, h4, h5⟩ := h.at_ hi
 rcases hown.2 with ⟨h6, h7⟩ | ⟨g, cap, cur, h6, h7, h8, h9⟩
 ·have := (List.getElem?_eq_some_iff.1 hi).1
  omega
 ·injection h6 with h6 _ _
  subst h6
  exact ⟨⟨g, 0, none⟩, cc, rfl, hQ g h7, (Array.getElem?_eq_some_iff.1 h8).1, r.weak h3 hP, fun j u hu => hown.cells (g := g) rfl _ _ (h5 j u hu)⟩
end
end
end Go.Proofs.YtofabhenmplkoaaGreatDoor.off

/- Travel functions that are drawn, on both sides; an arc of the reference. -/
namespace Go.Proofs.YtofabhenmplkoaaGreatDoor.gen
open Go.RowKit
open lib rd app typ txt big off
theorem pt_elem : ElemOf 57 140 (.agg #[.int .i64 0, .int .i64 0]) 2 16 := ⟨Tryz.underlying57, by kernel_rfl, rfl, by decide, by decide⟩
def pcs (l : List Pt) : List Value := l.flatMap PtCells
theorem pcs_append (l l' : List Pt) : pcs (l ++ l') = pcs l ++ pcs l' := by unfold pcs; rw [List.flatMap_append]
theorem pcs_at {l : List Pt} {i : Nat} {q : Pt} (h : l[i]? = some q) (j : Nat) (hj : j < 2) : (pcs l)[i * 2 + j]? = (PtCells q)[j]? := flat_at (g := PtCells) (s := 2) (fun _ => rfl) l i q h j hj
theorem own_draw {w w' : World} {base p : Nat} {e : TypeId} {size n : Nat} {v : Value} {xs : List Value} (h : w.ownsRow base e size v n xs) (hp : p < base) (hg : w.grownBy w' (some p)) : w'.ownsRow base e size v n xs := by
 refine own_grown h hg (Or.inr (fun e => ?_))
 have := (World.ownsRow.lt h p e).1
 omega
end Go.Proofs.YtofabhenmplkoaaGreatDoor.gen

/- Structs in rows of the call's own that lead to other rows. -/
namespace Go.Proofs.YtofabhenmplkoaaGreatDoor.typ
open Go.RowKit
open lib
open rd
open els off
def oPt : Off Pt := oMap (oPair oInt oInt) fun x => ⟨x.1, x.2⟩
theorem oPt_at {w : World} {P : Nat → Prop} {cs : List Value} {t : Pt} (h : oPt.at_ w P cs t) : cs = PtCells t ∧ PtFits t := by
 obtain ⟨⟨f0, f1⟩, rfl, _, _, rfl, ⟨rfl, hf0⟩, ⟨rfl, hf1⟩⟩ := h
 exact ⟨rfl, hf0, hf1⟩
theorem oPt_mk {w : World} {P : Nat → Prop} {t : Pt} (hf : PtFits t) : oPt.at_ w P (PtCells t) t := by
 exact ⟨(t.t, t.a), rfl, _, _, rfl, ⟨rfl, hf.1⟩, ⟨rfl, hf.2⟩⟩
def oArc : Off Arc := oMap (oPair oInt (oPair oInt (oPair oInt (oPair oInt (oPair (oSlice oPt) (oSlice oPt)))))) fun x => ⟨x.1, x.2.1, x.2.2.1, x.2.2.2.1, x.2.2.2.2.1, x.2.2.2.2.2⟩
theorem oArc_at {w : World} {P : Nat → Prop} {cs : List Value} {t : Arc} (h : oArc.at_ w P cs t) : ∃ C0 c0 C1 c1, cs = zB t C0 c0 C1 c1 ∧ yK oPt w P C0 t.travel ∧ yK oPt w P C1 t.slow ∧ ArcFits t := by
 obtain ⟨⟨f0, f1, f2, f3, f4, f5⟩, rfl, _, _, rfl, ⟨rfl, hf0⟩, _, _, rfl, ⟨rfl, hf1⟩, _, _, rfl, ⟨rfl, hf2⟩, _, _, rfl, ⟨rfl, hf3⟩, _, _, rfl, ⟨A0, d0, rfl, hr0⟩, ⟨A1, d1, rfl, hr1⟩⟩ := h
 exact ⟨A0, d0, A1, d1, rfl, hr0, hr1, hf0, hf1, hf2, hf3⟩
theorem oArc_mk {w : World} {P : Nat → Prop} {t : Arc} {C0 : Option Addr} {c0 : Nat} {C1 : Option Addr} {c1 : Nat} (hr0 : yK oPt w P C0 t.travel) (hr1 : yK oPt w P C1 t.slow) (hf : ArcFits t) : oArc.at_ w P (zB t C0 c0 C1 c1) t := by
 exact ⟨(t.frm, (t.to, (t.profile, (t.miles, (t.travel, t.slow))))), rfl, _, _, rfl, ⟨rfl, hf.1⟩, _, _, rfl, ⟨rfl, hf.2.1⟩, _, _, rfl, ⟨rfl, hf.2.2.1⟩, _, _, rfl, ⟨rfl, hf.2.2.2⟩, _, _, rfl, ⟨_, _, rfl, hr0⟩, ⟨_, _, rfl, hr1⟩⟩
def oTy : Off Ty := oMap (oPair oStr (oPair oInt (oPair oInt (oPair oInt (oPair oInts (oPair oInt (oPair oInt (oPair oInt (oPair oInt (oPair oInt (oPair oInt (oPair oInt (oPair oInt oInt))))))))))))) fun x => ⟨x.1, x.2.1, x.2.2.1, x.2.2.2.1, x.2.2.2.2.1, x.2.2.2.2.2.1, x.2.2.2.2.2.2.1, x.2.2.2.2.2.2.2.1, x.2.2.2.2.2.2.2.2.1, x.2.2.2.2.2.2.2.2.2.1, x.2.2.2.2.2.2.2.2.2.2.1, x.2.2.2.2.2.2.2.2.2.2.2.1, x.2.2.2.2.2.2.2.2.2.2.2.2.1, x.2.2.2.2.2.2.2.2.2.2.2.2.2⟩
theorem oTy_at {w : World} {P : Nat → Prop} {cs : List Value} {t : Ty} (h : oTy.at_ w P cs t) : ∃ C0 c0, cs = zG t C0 c0 ∧ yM w P C0 t.cap ∧ TyFits t := by
 obtain ⟨⟨f0, f1, f2, f3, f4, f5, f6, f7, f8, f9, f10, f11, f12, f13⟩, rfl, _, _, rfl, ⟨rfl, hf0⟩, _, _, rfl, ⟨rfl, hf1⟩, _, _, rfl, ⟨rfl, hf2⟩, _, _, rfl, ⟨rfl, hf3⟩, _, _, rfl, ⟨A0, d0, rfl, hr0⟩, _, _, rfl, ⟨rfl, hf5⟩, _, _, rfl, ⟨rfl, hf6⟩, _, _, rfl, ⟨rfl, hf7⟩, _, _, rfl, ⟨rfl, hf8⟩, _, _, rfl, ⟨rfl, hf9⟩, _, _, rfl, ⟨rfl, hf10⟩, _, _, rfl, ⟨rfl, hf11⟩, _, _, rfl, ⟨rfl, hf12⟩, ⟨rfl, hf13⟩⟩ := h
 exact ⟨A0, d0, rfl, hr0, hf0, hf1, hf2, hf3, hf5, hf6, hf7, hf8, hf9, hf10, hf11, hf12, hf13⟩
theorem oTy_mk {w : World} {P : Nat → Prop} {t : Ty} {C0 : Option Addr} {c0 : Nat} (hr0 : yM w P C0 t.cap) (hf : TyFits t) : oTy.at_ w P (zG t C0 c0) t := by
 exact ⟨(t.name, (t.count, (t.frm, (t.to, (t.cap, (t.skills, (t.profile, (t.opn, (t.close, (t.drive, (t.rest, (t.fixed, (t.mile, t.tick))))))))))))), rfl, _, _, rfl, ⟨rfl, hf.1⟩, _, _, rfl, ⟨rfl, hf.2.1⟩, _, _, rfl, ⟨rfl, hf.2.2.1⟩, _, _, rfl, ⟨rfl, hf.2.2.2.1⟩, _, _, rfl, ⟨_, _, rfl, hr0⟩, _, _, rfl, ⟨rfl, hf.2.2.2.2.1⟩, _, _, rfl, ⟨rfl, hf.2.2.2.2.2.1⟩, _, _, rfl, ⟨rfl, hf.2.2.2.2.2.2.1⟩, _, _, rfl, ⟨rfl, hf.2.2.2.2.2.2.2.1⟩, _, _, rfl, ⟨rfl, hf.2.2.2.2.2.2.2.2.1⟩, _, _, rfl, ⟨rfl, hf.2.2.2.2.2.2.2.2.2.1⟩, _, _, rfl, ⟨rfl, hf.2.2.2.2.2.2.2.2.2.2.1⟩, _, _, rfl, ⟨rfl, hf.2.2.2.2.2.2.2.2.2.2.2.1⟩, ⟨rfl, hf.2.2.2.2.2.2.2.2.2.2.2.2⟩⟩
def oStp : Off Stp := oMap (oPair oInt (oPair oInt (oPair oInt oInt))) fun x => ⟨x.1, x.2.1, x.2.2.1, x.2.2.2⟩
theorem oStp_at {w : World} {P : Nat → Prop} {cs : List Value} {t : Stp} (h : oStp.at_ w P cs t) : cs = zF t ∧ StpFits t := by
 obtain ⟨⟨f0, f1, f2, f3⟩, rfl, _, _, rfl, ⟨rfl, hf0⟩, _, _, rfl, ⟨rfl, hf1⟩, _, _, rfl, ⟨rfl, hf2⟩, ⟨rfl, hf3⟩⟩ := h
 exact ⟨rfl, hf0, hf1, hf2, hf3⟩
theorem oStp_mk {w : World} {P : Nat → Prop} {t : Stp} (hf : StpFits t) : oStp.at_ w P (zF t) t := by
 exact ⟨(t.place, (t.opn, (t.close, t.service))), rfl, _, _, rfl, ⟨rfl, hf.1⟩, _, _, rfl, ⟨rfl, hf.2.1⟩, _, _, rfl, ⟨rfl, hf.2.2.1⟩, ⟨rfl, hf.2.2.2⟩⟩
def oOrd : Off Ord := oMap (oPair oStr (oPair oInts (oPair oStp (oPair oStp (oPair oInt (oPair oInt (oPair oInt (oPair oInt (oPair oInt oBool))))))))) fun x => ⟨x.1, x.2.1, x.2.2.1, x.2.2.2.1, x.2.2.2.2.1, x.2.2.2.2.2.1, x.2.2.2.2.2.2.1, x.2.2.2.2.2.2.2.1, x.2.2.2.2.2.2.2.2.1, x.2.2.2.2.2.2.2.2.2⟩
theorem oOrd_at {w : World} {P : Nat → Prop} {cs : List Value} {t : Ord} (h : oOrd.at_ w P cs t) : ∃ C0 c0, cs = zA t C0 c0 ∧ yM w P C0 t.load ∧ yL t := by
 obtain ⟨⟨f0, f1, f2, f3, f4, f5, f6, f7, f8, f9⟩, rfl, _, _, rfl, ⟨rfl, hf0⟩, _, _, rfl, ⟨A0, d0, rfl, hr0⟩, _, _, rfl, hn2, _, _, rfl, hn3, _, _, rfl, ⟨rfl, hf4⟩, _, _, rfl, ⟨rfl, hf5⟩, _, _, rfl, ⟨rfl, hf6⟩, _, _, rfl, ⟨rfl, hf7⟩, _, _, rfl, ⟨rfl, hf8⟩, rfl⟩ := h
 obtain ⟨rfl, hf2⟩ := oStp_at hn2
 obtain ⟨rfl, hf3⟩ := oStp_at hn3
 exact ⟨A0, d0, rfl, hr0, hf0, hf2, hf3, hf4, hf5, hf6, hf7, hf8⟩
theorem oOrd_mk {w : World} {P : Nat → Prop} {t : Ord} {C0 : Option Addr} {c0 : Nat} (hr0 : yM w P C0 t.load) (hf : yL t) : oOrd.at_ w P (zA t C0 c0) t := by
 exact ⟨(t.name, (t.load, (t.pick, (t.drop, (t.skills, (t.penalty, (t.split, (t.last, (t.now, t.off))))))))), rfl, _, _, rfl, ⟨rfl, hf.1⟩, _, _, rfl, ⟨_, _, rfl, hr0⟩, _, _, rfl, oStp_mk (hf.2.1), _, _, rfl, oStp_mk (hf.2.2.1), _, _, rfl, ⟨rfl, hf.2.2.2.1⟩, _, _, rfl, ⟨rfl, hf.2.2.2.2.1⟩, _, _, rfl, ⟨rfl, hf.2.2.2.2.2.1⟩, _, _, rfl, ⟨rfl, hf.2.2.2.2.2.2.1⟩, _, _, rfl, ⟨rfl, hf.2.2.2.2.2.2.2⟩, rfl⟩
end Go.Proofs.YtofabhenmplkoaaGreatDoor.typ

/- Networks that are drawn: the program. -/
namespace Go.Proofs.YtofabhenmplkoaaGreatDoor.gen
open Go.RowKit
open lib rd app els typ txt big off
def Fr (K : Nat → Prop) (w w' : World) : Prop := w.heap.size ≤ w'.heap.size ∧ ∀ b, b < w.heap.size → K b → w'.heap[b]? = w.heap[b]?
theorem Fr.trans {K : Nat → Prop} {a b c : World} (h : Fr K a b) (k : Fr K b c) : Fr K a c := ⟨Nat.le_trans h.1 k.1, fun i hi hK => (k.2 i (Nat.lt_of_lt_of_le hi h.1) hK).trans (h.2 i hi hK)⟩
theorem Fr.below {K : Nat → Prop} {w w' : World} (h : Below w.heap.size w w') : Fr K w w' := ⟨h.size, fun b hb _ => h.block b hb⟩
theorem Fr.grown {K : Nat → Prop} {w w' : World} {row : Option Nat} (h : w.grownBy w' row) (hn : ∀ b, K b → some b ≠ row) : Fr K w w' := ⟨h.size, fun b hb hK => h.block b hb (hn b hK)⟩
theorem Fr.set {K : Nat → Prop} (w : World) {q : Nat} (i : Nat) (u : Value) (hn : ∀ b, K b → b ≠ q) : Fr K w (w.setCell ⟨q, i, none⟩ u) := ⟨by simp [World.setCell], fun b _ hK => Below.heap_setCell w ⟨q, i, none⟩ u b (hn b hK)⟩
theorem Fr.drew {K : Nat → Prop} (w : World) : Fr K w w.drew := ⟨Nat.le_refl _, fun _ _ _ => rfl⟩
theorem Fr.weak {K K' : Nat → Prop} {w w' : World} (h : Fr K w w') (hk : ∀ b, K' b → K b) : Fr K' w w' := ⟨h.1, fun b hb hK => h.2 b hb (hk b hK)⟩
theorem Blk.fr {K : Nat → Prop} {w w' : World} {b : Nat} {t : TypeId} {cs : List Value} (h : Blk w b t cs) (hf : Fr K w w') (hb : K b) : Blk w' b t cs := (hf.2 b h.lt hb).trans h
theorem own_fr {w w' : World} {base : Nat} {e : TypeId} {size n : Nat} {v : Value} {xs : List Value} (h : w.ownsRow base e size v n xs) (hf : Fr (fun b => base ≤ b) w w') : w'.ownsRow base e size v n xs := by
 rcases h.2 with ⟨h6, h7⟩ | ⟨g, cap, cur, h6, h7, h8, h9⟩
 ·exact ⟨h.1, .inl ⟨h6, h7⟩⟩
 ·exact ⟨h.1, .inr ⟨g, cap, cur, h6, h7, (hf.2 g (Array.getElem?_eq_some_iff.1 h8).1 h7).trans h8, h9⟩⟩
structure Row {X : Type} (r : Off X) (e : TypeId) (base : Nat) (wr : World) (xs : List X) (A : Option Addr) (c : Nat) (cs : List Value) : Prop where
 own : wr.ownsRow base e r.rd.size (.slice A xs.length c) xs.length cs
 els : EG r wr (fun b => some b ≠ (Value.slice A xs.length c).ownBlock ∧ base ≤ b) cs xs
section
variable {X : Type} {r : Off X} {e : TypeId} {base : Nat} {wr wx : World} {xs : List X} {A : Option Addr} {c : Nat} {cs : List Value}
theorem Row.nil : Row r e base wr [] none 0 [] := ⟨World.ownsRow_nil _ _ _ _, EG.nil⟩
theorem Row.fr (h : Row r e base wr xs A c cs) (hf : Fr (fun b => base ≤ b) wr wx) : Row r e base wx xs A c cs := ⟨own_fr h.own hf, h.els.keep hf.1 (fun b hb hp => ⟨hp, hf.2 b hb hp.2⟩)⟩
theorem Row.push (h : Row r e base wr xs A c cs) {x : X} {cx : List Value} {g c' : Nat} (hx : r.at_ wr (fun b => some b ≠ (Value.slice A xs.length c).ownBlock ∧ base ≤ b) cx x)
  (hown : wx.ownsRow base e r.rd.size (.slice (some ⟨g, 0, none⟩) (xs.length + 1) c') (xs.length + 1) (cs ++ cx)) (hg : wr.grownBy wx (Value.slice A xs.length c).ownBlock) (hd : (Value.slice A xs.length c).ownBlock = some g ∨ wr.heap.size ≤ g) :
  Row r e base wx (xs ++ [x]) (some ⟨g, 0, none⟩) c' (cs ++ cx) := ⟨by rw [List.length_append]; exact hown, h.els.push hx hg hd⟩
theorem Row.off (h : Row r e base wr xs A c cs) (hl : xs.length ≤ 17592186043904) : yK r wr (fun b => base ≤ b) A xs := h.els.off h.own hl (fun b _ hb => hb.2) (fun b hb => hb)
theorem Row.lo (h : Row r e base wr xs A c cs) {q : Nat} (e' : (Value.slice A xs.length c).ownBlock = some q) : base ≤ q := (World.ownsRow.lt h.own q e').1
end
theorem arc_elem : ElemOf 23 59 (.agg #[.int .i64 0, .int .i64 0, .int .i64 0, .int .i64 0, .slice none 0 0, .slice none 0 0]) 6 80 := ⟨Tryz.underlying23, by kernel_rfl, rfl, by decide, by decide⟩
theorem rowOff_pts {w : World} {base c : Nat} {A : Option Addr} {l : List Pt} {P : Nat → Prop} (h : w.ownsRow base 140 2 (.slice A l.length c) l.length (pcs l)) (hl : l.length ≤ 1000) (hf : ∀ q ∈ l, PtFits q) (hP : ∀ g, base ≤ g → g < w.heap.size → P g) : yK oPt w P A l := by
 refine ⟨by omega, fun i x hi => ?_⟩
 rcases h.2 with ⟨h6, h7⟩ | ⟨g, cap, cur, h6, h7, h8, h9⟩
 ·have := (List.getElem?_eq_some_iff.1 hi).1
  omega
 ·injection h6 with h6 _ _
  subst h6
  have hlt := (Array.getElem?_eq_some_iff.1 h8).1
  refine ⟨⟨g, 0, none⟩, PtCells x, rfl, hP g h7 hlt, hlt, oPt_mk (hf x (List.mem_of_getElem? hi)), fun j u hu => h.cells (g := g) rfl _ _ ?_⟩
  have hj : j < 2 := (List.getElem?_eq_some_iff.1 hu).1
  rw [show oPt.rd.size = 2 from rfl, pcs_at hi j hj]
  exact hu
theorem stNet : StructOf 25 2 := ⟨⟨_, Tryz.underlying25⟩, by kernel_rfl⟩
def netC (A0 : Option Addr) (n0 c0 : Nat) (A1 : Option Addr) (n1 c1 : Nat) : List Value := [.slice A0 n0 c0, .slice A1 n1 c1]
theorem yD (A0 : Option Addr) (n0 c0 : Nat) (A1 : Option Addr) (n1 c1 : Nat) : ∀ u ∈ netC A0 n0 c0 A1 n1 c1, u.oneCell' = true := fun u hu => by
 simp only [netC, List.mem_cons, List.not_mem_nil, or_false] at hu
 rcases hu with rfl | rfl <;> rfl
end Go.Proofs.YtofabhenmplkoaaGreatDoor.gen

/- Orders that are drawn: the program. -/
namespace Go.Proofs.YtofabhenmplkoaaGreatDoor.gen
open Go.RowKit
open lib rd app els typ txt big off ins ord
theorem exec_buildL {t : TypeId} {z : Value} {places : Array (Nat × Nat)} (T : BuildOf t z places) {ρ : Operand → Value} {o : Oper} {w : World} (parts : List (Nat × Operand)) (ho : o.op = Op.build t parts.toArray) (vals : List (Nat × Value)) (cells : List Value)
  (hv : parts.map (fun p => (p.1, ρ p.2)) = vals) (hf : Instr.fill (places[·]?) z.cells vals = some cells.toArray) : Sem.run Tryz.prog (execOp ρ o) w = .ok (.value (.agg cells.toArray)) w := by
 have hr : (Instr.build t (parts.toArray.map fun p => (p.1, ρ p.2))).run Tryz.prog w = .ok (.agg cells.toArray) w := run_buildF T (by rw [List.map_toArray, hv]; exact hf) w
 unfold execOp
 simp only [ho, Sem.run_bind, hr, Result.andThen_ok, Sem.run_pure]
def zOrd : List Value := [.string ⟨#[]⟩, .slice none 0 0, .int .i64 0, .int .i64 0, .int .i64 0, .int .i64 0, .int .i64 0, .int .i64 0, .int .i64 0, .int .i64 0, .int .i64 0, .int .i64 0, .int .i64 0, .int .i64 0, .int .i64 0, .bool false]
theorem bOrd : BuildOf 35 (.agg zOrd.toArray) #[(0, 1), (1, 1), (2, 4), (6, 4), (10, 1), (11, 1), (12, 1), (13, 1), (14, 1), (15, 1)] := ⟨⟨_, Tryz.underlying35, fun w => by kernel_rfl⟩, fun w => by kernel_rfl⟩
theorem GS.bel {W wx : World} {p B : Nat} {t : TypeId} {s : Int} (h : GS W p t s wx) (hB : B ≤ p) : Below B W wx := (Below.refl _ _).grown h.grown (by have := h.lt; omega) (fun k e => by injection e; omega)
structure OSt (T : TypeId) (W0 W5 : World) (rb p B1 ob : Nat) (s : Int) (cs : List Value) (A : Option Addr) (k c : Nat) (l : List Value) (wx : World) : Prop where
 gs : GS W5 p T s wx
 blk : Blk wx ob 35 cs
 own : wx.ownsRow B1 3 1 (.slice A k c) k l
 fr : Fr (fun q => q < W0.heap.size ∧ q ≠ rb) W0 wx
 size : B1 ≤ wx.heap.size
def OPl (W0 W5 : World) (p B1 ob : Nat) : Prop := W0.heap.size = p ∧ p < W5.heap.size ∧ W5.heap.size ≤ ob ∧ ob < B1
section
variable {T : TypeId} {W0 W5 wx wy : World} {rb p B1 ob : Nat} {s s' : Int} {cs : List Value} {A : Option Addr} {k c : Nat} {l : List Value}
theorem OSt.set (h : OSt T W0 W5 rb p B1 ob s cs A k c l wx) (hl : OPl W0 W5 p B1 ob) (i : Nat) (u : Value) : OSt T W0 W5 rb p B1 ob s (cs.set i u) A k c l (wx.setCell ⟨ob, i, none⟩ u) := by
 obtain ⟨h1, h2, h3, h4⟩ := hl
 exact ⟨h.gs.set h3 i u, h.blk.set i u, own_fr h.own (Fr.set (q := ob) wx i u (fun q hq => by have h' : B1 ≤ q := hq; omega)), h.fr.trans (Fr.set (q := ob) wx i u (fun q hq => by have := hq.1; omega)), by have := h.size; simp [World.setCell]; omega⟩
theorem OSt.drew (h : OSt T W0 W5 rb p B1 ob s cs A k c l wx) : OSt T W0 W5 rb p B1 ob s cs A k c l wx.drew := ⟨h.gs.drew, h.blk, h.own, h.fr.trans (Fr.drew wx), h.size⟩
theorem OSt.draw (h : OSt T W0 W5 rb p B1 ob s cs A k c l wx) (hl : OPl W0 W5 p B1 ob) (hb : Boxed wy p T (.int .i64 s')) (hg : wx.grownBy wy (some p)) : OSt T W0 W5 rb p B1 ob s' cs A k c l wy := by
 obtain ⟨h1, h2, h3, h4⟩ := hl
 exact ⟨h.gs.draw hb hg, h.blk.kept hg (fun e => by injection e; omega), own_draw h.own (by omega) hg, h.fr.trans (Fr.grown hg (fun q hq e => by have := hq.1; injection e; omega)), Nat.le_trans h.size hg.size⟩
end
end Go.Proofs.YtofabhenmplkoaaGreatDoor.gen

/- Events: orders that are there, orders that are shifted. The program. -/
namespace Go.Proofs.YtofabhenmplkoaaGreatDoor.evt
open Go.RowKit
open lib rd app els typ big ins ord gen
set_option maxRecDepth 20000 in
set_option maxHeartbeats 4000000 in
theorem there_any (x : Ins) (P : InP) (k : Int) (w : World) (h : InAt w w.heap.size x P) : Calls Tryz.prog 164 #[InV x P, .int .i64 k] w fun e w' => e = .returned (.int .i64 (thrF x k)) ∧ Below w.heap.size w w' := by
 have hlen := h.orders.1
 obtain ⟨W0, hW0⟩ : ∃ W0, w.alloc (.cells (insCs x P).toArray 30) = W0 := ⟨_, rfl⟩
 have hB0 : Below w.heap.size w W0 := by rw [← hW0]; exact (Below.refl _ _).alloc (Nat.le_refl _) _
 have z0 := hB0.size
 have b0 : SixAt W0 w.heap.size (insCs x P) := by rw [← hW0]; exact World.alloc_heap_new w _
 have HX := Lib.hid (fun w' (h' : Below W0.heap.size W0 w') => (b0.below h'))
 have HI := Lib.hid (fun w' (h' : Below W0.heap.size W0 w') => (h.go hB0).go h')
 have hW1 : w.alloc (.cells #[.slice P.a0 x.net.places.length P.c0, .slice P.a1 x.net.arcs.length P.c1, .slice P.a2 x.types.length P.c2, .slice P.a3 x.orders.length P.c3, .slice P.a4 x.apart.length P.c4, .slice P.a5 x.before.length P.c5] 30) = W0 := hW0
 have HW1 := Lib.hid hW1
 have C0 := Below.refl W0.heap.size W0
 clear hW0 hW1 b0
 simp only [InV]
 obtain ⟨N, hN⟩ : ∃ N, x.orders.length = N := ⟨_, rfl⟩
 have HN := Lib.hid hN
 have x3 : W0.cell? ⟨w.heap.size, 3, none⟩ = some (.slice P.a3 N P.c3) := by rw [← hN]; exact (HX.out _ C0).cell (j := 3) rfl
 rw [hN] at HW1 hlen ⊢
 have HOR := Lib.hid (h.orders.below hB0)
 clear h hN
 go_enter Tryz.func164, Tryz.ntmps164
 go_upto_region 1 with fail
 rw [HW1.out]
 clear HW1
 by_cases h1 : k < 0
 ·have HR : Hid (thrF x k = 7) := Lib.hid (by unfold thrF; rw [if_pos (.inl h1)])
  go_wp2_with fail
  go_ret
  exact ⟨by rw [HR.out]; rfl, hB0⟩
 by_cases h2 : (N : Int) ≤ k
 ·have HR : Hid (thrF x k = 7) := Lib.hid (by unfold thrF; rw [if_pos (.inr (by rw [HN.out]; exact h2))])
  go_wp2_with fail
  go_ret
  exact ⟨by rw [HR.out]; rfl, hB0⟩
 obtain ⟨j, rfl⟩ : ∃ j : Nat, k = j := ⟨k.toNat, by omega⟩
 obtain ⟨o, ho⟩ : ∃ o, x.orders[j]? = some o := ⟨_, List.getElem?_eq_getElem (by rw [HN.out]; omega)⟩
 have HR0 : Hid (thrF x j = if o.off then 9 else 0) := Lib.hid (by
  unfold thrF
  rw [if_neg (by rw [HN.out]; omega), Int.toNat_natCast, ho])
 obtain ⟨ad, cs0, hA, hadb, hat, hcs⟩ := HOR.out.elem ho
 obtain ⟨C, cc, rfl, hI, hf⟩ := rOrd_at hat
 have y1 : W0.cell? ⟨(ad.add (j * 16)).block, (ad.add (j * 16)).off + 15, none⟩ = some (.bool o.off) := by rw [← add_split, ← add_of_add]; exact hcs 15 _ rfl
 have hj0 : (0 : Int) ≤ (j : Int) := by omega
 have hjn : (j : Int) < (N : Int) := by omega
 rw [hA] at x3
 clear hcs hat hI hf ho h1 h2
 obtain ⟨b, hb⟩ : ∃ b, o.off = b := ⟨_, rfl⟩
 rw [hb] at HR0 y1
 clear hb
 cases b
 ·go_wp2_with fail
  go_ret
  exact ⟨by rw [HR0.out]; rfl, hB0⟩
 ·go_wp2_with fail
  go_ret
  exact ⟨by rw [HR0.out]; rfl, hB0⟩
def zeroS : Stp := ⟨0, 0, 0, 0⟩
def shfT (s : Stp) (n : Int) : Stp := if shfB s n = true then shfS s n else zeroS
def shfR (o : Ord) (n : Int) : Ord × Int := if shfB o.pick n = true then ({ o with pick := shfS o.pick n, drop := shfT o.drop n }, if shfB o.drop n = true then 0 else 2) else ({ o with pick := zeroS }, 2)
def goodS (s : Stp) : Prop := (s.place = -1 ∧ s.opn = 0 ∧ s.close = 0 ∧ s.service = 0) ∨ win.Good s.place s.opn s.close s.service
theorem shfT_eq (s : Stp) (n : Int) : win.shiftV s.place s.opn s.close s.service n = .agg #[.int .i64 (shfT s n).place, .int .i64 (shfT s n).opn, .int .i64 (shfT s n).close, .int .i64 (shfT s n).service] ∧ win.shiftE s.place s.opn s.close n = if shfB s n = true then 0 else 2 := by
 have e : win.shiftB s.place s.opn s.close n = shfB s n := rfl
 unfold win.shiftV win.shiftE shfT shfS
 rw [e]
 split
 ·split <;> exact ⟨rfl, rfl⟩
 ·exact ⟨rfl, rfl⟩
theorem blk_other {w : World} {b q : Nat} {t : TypeId} {cs : List Value} (h : Blk w b t cs) (hne : b ≠ q) (i : Nat) (u : Value) : Blk (w.setCell ⟨q, i, none⟩ u) b t cs := (Below.heap_setCell _ _ _ _ hne).trans h
set_option maxRecDepth 20000 in
set_option maxHeartbeats 4000000 in
theorem shifted_any (o : Ord) (C : Option Addr) (c : Nat) (n : Int) (w : World) (hp : goodS o.pick) (hd : goodS o.drop) (hn : -9223372036854775808 ≤ n ∧ n ≤ 9223372036854775807) :
  Calls Tryz.prog 166 #[.agg (zA o C c).toArray, .int .i64 n] w fun e w' => e = .returned (.tuple #[.agg (zA (shfR o n).1 C c).toArray, .int .i64 (shfR o n).2]) ∧ Below w.heap.size w w' := by
 show Calls Tryz.prog 166 #[.agg #[.string o.name, .slice C o.load.length c, .int .i64 o.pick.place, .int .i64 o.pick.opn, .int .i64 o.pick.close, .int .i64 o.pick.service, .int .i64 o.drop.place, .int .i64 o.drop.opn, .int .i64 o.drop.close, .int .i64 o.drop.service, .int .i64 o.skills, .int .i64 o.penalty, .int .i64 o.split, .int .i64 o.last, .int .i64 o.now, .bool o.off], .int .i64 n] w _
 obtain ⟨W0, hW0⟩ : ∃ W0, (w.alloc (.cells (zA o C c).toArray 35)).alloc (.cells gen.zOrd.toArray 35) = W0 := ⟨_, rfl⟩
 have hB0 : Below w.heap.size w W0 := by rw [← hW0]; exact ((Below.refl _ _).alloc (Nat.le_refl _) _).alloc (by simp) _
 have z0 : W0.heap.size = w.heap.size + 2 := by rw [← hW0]; simp
 have b0 : Blk W0 w.heap.size 35 (zA o C c) := by
  rw [← hW0]
  exact (Blk.new w _ _).kept (World.grownBy_alloc _ _ none) (by simp)
 have b1 : Blk W0 (w.heap.size + 1) 35 gen.zOrd := by
  rw [← hW0]
  have h := Blk.new (w.alloc (.cells (zA o C c).toArray 35)) 35 gen.zOrd
  rw [show (w.alloc (.cells (zA o C c).toArray 35)).heap.size = w.heap.size + 1 by simp] at h
  exact h
 have hW1 : (w.alloc (.cells #[.string o.name, .slice C o.load.length c, .int .i64 o.pick.place, .int .i64 o.pick.opn, .int .i64 o.pick.close, .int .i64 o.pick.service, .int .i64 o.drop.place, .int .i64 o.drop.opn, .int .i64 o.drop.close, .int .i64 o.drop.service, .int .i64 o.skills, .int .i64 o.penalty, .int .i64 o.split, .int .i64 o.last, .int .i64 o.now, .bool o.off] 35)).alloc (.cells #[.string ⟨#[]⟩, .slice none 0 0, .int .i64 0, .int .i64 0, .int .i64 0, .int .i64 0, .int .i64 0, .int .i64 0, .int .i64 0, .int .i64 0, .int .i64 0, .int .i64 0, .int .i64 0, .int .i64 0, .int .i64 0, .bool false] 35) = W0 := hW0
 have HW1 := Lib.hid hW1
 have HX := Lib.hid b0
 have HY := Lib.hid b1
 obtain ⟨s1, hs1⟩ : ∃ s, shfT o.pick n = s := ⟨_, rfl⟩
 obtain ⟨s2, hs2⟩ : ∃ s, shfT o.drop n = s := ⟨_, rfl⟩
 obtain ⟨v1, hv1⟩ : ∃ b, shfB o.pick n = b := ⟨_, rfl⟩
 obtain ⟨v2, hv2⟩ : ∃ b, shfB o.drop n = b := ⟨_, rfl⟩
 have HP : Hid (∀ w, Calls Tryz.prog 207 #[.agg #[.int .i64 o.pick.place, .int .i64 o.pick.opn, .int .i64 o.pick.close, .int .i64 o.pick.service], .int .i64 n] w fun e w' => e = .returned (.tuple #[.agg #[.int .i64 s1.place, .int .i64 s1.opn, .int .i64 s1.close, .int .i64 s1.service], .int .i64 (if v1 = true then 0 else 2)]) ∧ Below w.heap.size w w') := Lib.hid (fun w => by
  have h := win.shift_any o.pick.place o.pick.opn o.pick.close o.pick.service n hp hn w
  rw [(shfT_eq o.pick n).1, (shfT_eq o.pick n).2, hs1, hv1] at h
  exact h)
 have HD : Hid (∀ w, Calls Tryz.prog 207 #[.agg #[.int .i64 o.drop.place, .int .i64 o.drop.opn, .int .i64 o.drop.close, .int .i64 o.drop.service], .int .i64 n] w fun e w' => e = .returned (.tuple #[.agg #[.int .i64 s2.place, .int .i64 s2.opn, .int .i64 s2.close, .int .i64 s2.service], .int .i64 (if v2 = true then 0 else 2)]) ∧ Below w.heap.size w w') := Lib.hid (fun w => by
  have h := win.shift_any o.drop.place o.drop.opn o.drop.close o.drop.service n hd hn w
  rw [(shfT_eq o.drop n).1, (shfT_eq o.drop n).2, hs2, hv2] at h
  exact h)
 have HR : Hid (shfR o n = if v1 = true then ({ o with pick := s1, drop := s2 }, if v2 = true then 0 else 2) else ({ o with pick := s1 }, 2)) := Lib.hid (by
  rw [← hs1, ← hs2, ← hv1, ← hv2]
  unfold shfR
  by_cases h : shfB o.pick n = true
  ·rw [if_pos h, if_pos h, show shfT o.pick n = shfS o.pick n by unfold shfT; rw [if_pos h]]
  ·rw [if_neg h, if_neg h, show shfT o.pick n = zeroS by unfold shfT; rw [if_neg h]])
 obtain ⟨r, hr⟩ : ∃ r, shfR o n = r := ⟨_, rfl⟩
 rw [hr] at HR ⊢
 have c2 := b0.cell (j := 2) rfl
 have c3 := b0.cell (j := 3) rfl
 have c4 := b0.cell (j := 4) rfl
 have c5 := b0.cell (j := 5) rfl
 clear hp hd hn hW0 hW1 b0 b1 hs1 hs2 hv1 hv2 hr
 go_enter Tryz.func166, Tryz.ntmps166
 go_upto_region 1 with fail
 rw [HW1.out]
 clear HW1
 go_wp2_with fail
 refine (HP.out W0).mono ?_
 rintro e w1 ⟨rfl, b1⟩
 have HB1 := Lib.hid (hB0.trans (b1.mono (by omega)))
 have HY1 := Lib.hid (HY.out.below b1)
 have X1 := HX.out.below b1
 have p0 := X1.cell (j := 2) rfl
 have p1 := X1.cell (j := 3) rfl
 have p2 := X1.cell (j := 4) rfl
 have p3 := X1.cell (j := 5) rfl
 have g0 := X1.frozen 2
 have g1 := X1.frozen 3
 have g2 := X1.frozen 4
 have g3 := X1.frozen 5
 go_upto_region 3 with fail
 clear p0 p1 p2 p3 g0 g1 g2 g3
 obtain ⟨W4, hW4⟩ : ∃ W, (((w1.setCell ⟨w.heap.size, 2, none⟩ (.int .i64 s1.place)).setCell ⟨w.heap.size, 3, none⟩ (.int .i64 s1.opn)).setCell ⟨w.heap.size, 4, none⟩ (.int .i64 s1.close)).setCell ⟨w.heap.size, 5, none⟩ (.int .i64 s1.service) = W := ⟨_, rfl⟩
 rw [hW4]
 have X4 : Hid (Blk W4 w.heap.size 35 (zA { o with pick := s1 } C c)) := Lib.hid (by rw [← hW4]; exact (((X1.set 2 (.int .i64 s1.place)).set 3 (.int .i64 s1.opn)).set 4 (.int .i64 s1.close)).set 5 (.int .i64 s1.service))
 have Y4 : Hid (Blk W4 (w.heap.size + 1) 35 gen.zOrd) := Lib.hid (by rw [← hW4]; exact blk_other (blk_other (blk_other (blk_other HY1.out (by omega) _ _) (by omega) _ _) (by omega) _ _) (by omega) _ _)
 have B4 : Hid (Below w.heap.size w W4) := Lib.hid (by rw [← hW4]; exact (((HB1.out.setCell (p := ⟨w.heap.size, 2, none⟩) (Nat.le_refl _) _).setCell (p := ⟨w.heap.size, 3, none⟩) (Nat.le_refl _) _).setCell (p := ⟨w.heap.size, 4, none⟩) (Nat.le_refl _) _).setCell (p := ⟨w.heap.size, 5, none⟩) (Nat.le_refl _) _)
 clear hW4
 clear b1 X1
 cases v1
 ·have HRR : Hid (r = ({ o with pick := s1 }, 2)) := Lib.hid (by rw [HR.out]; rfl)
  go_wp2_with (first
   | ((with_reducible refine zH stOrd' _ rfl ⟨w.heap.size, 0, none⟩ (zA { o with pick := s1 } C c) ?_ ?_ ?_ ?_ ?_); exact rfl; exact rfl; exact X4.out.cells; exact rfl)
   | ((with_reducible refine zJ stOrd' rfl _ _ rfl (w.heap.size + 1) gen.zOrd (zA { o with pick := s1 } C c) ?_ ?_ ?_ ?_ ?_ (zR _ _ _) ?_); exact rfl; exact rfl; exact Y4.out; exact rfl; exact rfl; intro wz k1 k2 k3 k4; have K := lib.h4 k1 k2 k3 k4; clear k1 k2 k3 k4))
  have HRz : Blk wz (w.heap.size + 1) 35 (zA { o with pick := s1 } C c) := K.out.1
  refine bodyPost_ret (v := .tuple #[.agg (zA { o with pick := s1 } C c).toArray, .int .i64 2]) (big.zK stOrd' Tryz.results166 rfl rfl HRz.cells rfl) rfl ?_
  rw [HRR.out]
  exact ⟨rfl, B4.out.trans (K.out.2.2.2.mono (by omega))⟩
 ·have HR2 : Hid (r = ({ o with pick := s1, drop := s2 }, if v2 = true then 0 else 2)) := Lib.hid (by rw [HR.out]; rfl)
  have c6 := X4.out.cell (j := 6) rfl
  have c7 := X4.out.cell (j := 7) rfl
  have c8 := X4.out.cell (j := 8) rfl
  have c9 := X4.out.cell (j := 9) rfl
  go_wp2_with fail
  refine (HD.out W4).mono ?_
  rintro e w5 ⟨rfl, b5⟩
  have z5 := b5.size
  have HB5 := Lib.hid (B4.out.trans (b5.mono B4.out.size))
  have HY5 := Lib.hid (Y4.out.below b5)
  have X5 := X4.out.below b5
  have p0 := X5.cell (j := 6) rfl
  have p1 := X5.cell (j := 7) rfl
  have p2 := X5.cell (j := 8) rfl
  have p3 := X5.cell (j := 9) rfl
  have g0 := X5.frozen 6
  have g1 := X5.frozen 7
  have g2 := X5.frozen 8
  have g3 := X5.frozen 9
  go_upto_region 6 with fail
  clear p0 p1 p2 p3 g0 g1 g2 g3
  obtain ⟨W6, hW4⟩ : ∃ W, (((w5.setCell ⟨w.heap.size, 6, none⟩ (.int .i64 s2.place)).setCell ⟨w.heap.size, 7, none⟩ (.int .i64 s2.opn)).setCell ⟨w.heap.size, 8, none⟩ (.int .i64 s2.close)).setCell ⟨w.heap.size, 9, none⟩ (.int .i64 s2.service) = W := ⟨_, rfl⟩
  rw [hW4]
  have X6 : Hid (Blk W6 w.heap.size 35 (zA { o with pick := s1, drop := s2 } C c)) := Lib.hid (by rw [← hW4]; exact (((X5.set 6 (.int .i64 s2.place)).set 7 (.int .i64 s2.opn)).set 8 (.int .i64 s2.close)).set 9 (.int .i64 s2.service))
  have Y6 : Hid (Blk W6 (w.heap.size + 1) 35 gen.zOrd) := Lib.hid (by rw [← hW4]; exact blk_other (blk_other (blk_other (blk_other HY5.out (by omega) _ _) (by omega) _ _) (by omega) _ _) (by omega) _ _)
  have B6 : Hid (Below w.heap.size w W6) := Lib.hid (by rw [← hW4]; exact (((HB5.out.setCell (p := ⟨w.heap.size, 6, none⟩) (Nat.le_refl _) _).setCell (p := ⟨w.heap.size, 7, none⟩) (Nat.le_refl _) _).setCell (p := ⟨w.heap.size, 8, none⟩) (Nat.le_refl _) _).setCell (p := ⟨w.heap.size, 9, none⟩) (Nat.le_refl _) _)
  clear hW4
  clear b5 X5
  cases v2
  ·have HRR : Hid (r = ({ o with pick := s1, drop := s2 }, 2)) := Lib.hid (by rw [HR2.out]; rfl)
   go_wp2_with (first
    | ((with_reducible refine zH stOrd' _ rfl ⟨w.heap.size, 0, none⟩ (zA { o with pick := s1, drop := s2 } C c) ?_ ?_ ?_ ?_ ?_); exact rfl; exact rfl; exact X6.out.cells; exact rfl)
    | ((with_reducible refine zJ stOrd' rfl _ _ rfl (w.heap.size + 1) gen.zOrd (zA { o with pick := s1, drop := s2 } C c) ?_ ?_ ?_ ?_ ?_ (zR _ _ _) ?_); exact rfl; exact rfl; exact Y6.out; exact rfl; exact rfl; intro wz k1 k2 k3 k4; have K := lib.h4 k1 k2 k3 k4; clear k1 k2 k3 k4))
   have HRz : Blk wz (w.heap.size + 1) 35 (zA { o with pick := s1, drop := s2 } C c) := K.out.1
   refine bodyPost_ret (v := .tuple #[.agg (zA { o with pick := s1, drop := s2 } C c).toArray, .int .i64 2]) (big.zK stOrd' Tryz.results166 rfl rfl HRz.cells rfl) rfl ?_
   rw [HRR.out]
   exact ⟨rfl, B6.out.trans (K.out.2.2.2.mono (by omega))⟩
  ·have HRR : Hid (r = ({ o with pick := s1, drop := s2 }, 0)) := Lib.hid (by rw [HR2.out]; rfl)
   go_wp2_with (first
    | ((with_reducible refine zH stOrd' _ rfl ⟨w.heap.size, 0, none⟩ (zA { o with pick := s1, drop := s2 } C c) ?_ ?_ ?_ ?_ ?_); exact rfl; exact rfl; exact X6.out.cells; exact rfl)
    | ((with_reducible refine zJ stOrd' rfl _ _ rfl (w.heap.size + 1) gen.zOrd (zA { o with pick := s1, drop := s2 } C c) ?_ ?_ ?_ ?_ ?_ (zR _ _ _) ?_); exact rfl; exact rfl; exact Y6.out; exact rfl; exact rfl; intro wz k1 k2 k3 k4; have K := lib.h4 k1 k2 k3 k4; clear k1 k2 k3 k4))
   have HRz : Blk wz (w.heap.size + 1) 35 (zA { o with pick := s1, drop := s2 } C c) := K.out.1
   refine bodyPost_ret (v := .tuple #[.agg (zA { o with pick := s1, drop := s2 } C c).toArray, .int .i64 0]) (big.zK stOrd' Tryz.results166 rfl rfl HRz.cells rfl) rfl ?_
   rw [HRR.out]
   exact ⟨rfl, B6.out.trans (K.out.2.2.2.mono (by omega))⟩
end Go.Proofs.YtofabhenmplkoaaGreatDoor.evt

/- A struct stored anywhere in a row of the call's own; rows copied from others, of which an element is replaced. Portable. -/
namespace Go.Proofs.YtofabhenmplkoaaGreatDoor.off
open Go.RowKit
open lib rd app els big ins
def setM : List Value → Nat → List Value → List Value
 | xs, _, [] => xs
 | xs, o, v :: r => setM (xs.set o v) (o + 1) r
theorem setM_len : ∀ (vs xs : List Value) (o : Nat), (setM xs o vs).length = xs.length
 | [], xs, o => rfl
 | v :: r, xs, o => by rw [setM, setM_len r, List.length_set]
theorem setM_at : ∀ (vs xs : List Value) (o : Nat), o + vs.length ≤ xs.length → ∀ n : Nat, (setM xs o vs)[n]? = if o ≤ n ∧ n < o + vs.length then vs[n - o]? else xs[n]?
 | [], xs, o, h, n => by
  rw [setM, if_neg (by simp)]
 | v :: r, xs, o, h, n => by
  rw [List.length_cons] at h
  rw [setM, setM_at r (xs.set o v) (o + 1) (by rw [List.length_set]; omega) n, List.length_cons]
  by_cases h1 : o + 1 ≤ n ∧ n < o + 1 + r.length
  ·rw [if_pos h1, if_pos (by omega), show n - o = (n - (o + 1)) + 1 by omega, List.getElem?_cons_succ]
  ·rw [if_neg h1]
   by_cases h2 : n = o
   ·subst h2
    rw [if_pos (by omega), Nat.sub_self, List.getElem?_cons_zero, List.getElem?_set, if_pos rfl, if_pos (by omega)]
   ·rw [if_neg (by omega), List.getElem?_set, if_neg (by omega)]
theorem own_setCells {base : Nat} {e : TypeId} {size g n cap : Nat} : ∀ (vs : List Value) (o : Nat) (w : World) (xs : List Value), w.ownsRow base e size (.slice (some ⟨g, 0, none⟩) n cap) n xs →
  (w.setCells g o vs).ownsRow base e size (.slice (some ⟨g, 0, none⟩) n cap) n (setM xs o vs) ∧ w.grownBy (w.setCells g o vs) (some g)
 | [], o, w, xs, h => ⟨h, World.grownBy.refl _ _⟩
 | v :: r, o, w, xs, h => by
  obtain ⟨h1, h2⟩ := h.stored o v
  obtain ⟨h3, h4⟩ := own_setCells r (o + 1) _ _ h1
  exact ⟨h3, h2.trans h4⟩
theorem own_there {w : World} {base : Nat} {e : TypeId} {size g n cap o k : Nat} {xs : List Value} (h : w.ownsRow base e size (.slice (some ⟨g, 0, none⟩) n cap) n xs) (hk : o + k ≤ xs.length) : w.there g o k := fun j hj => by
 have hl := h.1
 refine ⟨?_, h.frozenAt _⟩
 rw [h.cellAt (o + j) (by omega), List.getElem?_eq_getElem (by omega)]
 rfl
theorem yJ {t : TypeId} {n : Nat} (T : StructOf t n) {ops : Array Oper} {rest : List Oper} {o : Oper} {a : Act} {Q : Exit → Act → World → Prop} {w : World} (hgd : o.guard = none) (p v : Operand) (ho : o.op = Op.store t p v)
  (g k : Nat) (cs : List Value) (hp : a.eval p = .pointer (some ⟨g, k, none⟩)) (hv : a.eval v = .agg cs.toArray) (ht : w.there g k n) (hn : cs.length = n) (h1 : ∀ u ∈ cs, u.oneCell' = true)
  (h : wpList Tryz.prog ops Q rest (a.put o.dst undef) (w.setCells g k cs)) : wpList Tryz.prog ops Q (o :: rest) a w :=
 wpList_store_mid hgd t p v ho g k cs.toArray hp hv (by simpa [hn] using ht) (by rw [T.size]; simp [hn]) (all_oneCell_toArray h1) (by simpa using h)
theorem yF {t : TypeId} {n : Nat} (T : StructOf t n) {o : Oper} {a : Act} {w : World} {ops : Array Oper} {K : Act → World → Prop} {Q : Exit → Act → World → Prop} {E' : Prop} (hgd : o.guard = none) (p v : Operand) (ho : o.op = Op.store t p v)
  (g k : Nat) (cs : List Value) (hp : a.eval p = .pointer (some ⟨g, k, none⟩)) (hv : a.eval v = .agg cs.toArray) (ht : w.there g k n) (hn : cs.length = n) (h1 : ∀ u ∈ cs, u.oneCell' = true)
  (h : K (a.put o.dst undef) (w.setCells g k cs)) : if Region.wanted o (yielded ops a.tmps) = true then Oper.wp Tryz.prog o a w K Q else E' := by
 have hw : Region.wanted o (yielded ops a.tmps) = true := by simp [Region.wanted, hgd]
 rw [if_pos hw]
 exact wp_store_mid t p v ho g k cs.toArray hp hv (by simpa [hn] using ht) (by rw [T.size]; simp [hn]) (all_oneCell_toArray h1) (by simpa using h)
section
variable {X : Type} {r : Off X} {w : World} {P : Nat → Prop} {cs : List Value} {xs : List X}
theorem EG.put (h : EG r w P cs xs) {i : Nat} {x' : X} (hi : i < xs.length) {c : List Value} (hc : c.length = r.rd.size) (hx : r.at_ w P c x') : EG r w P (setM cs (i * r.rd.size) c) (xs.set i x') := by
 have hm := mul_lt_end (s := r.rd.size) hi
 have hl := h.1
 refine ⟨by rw [setM_len, List.length_set]; exact h.1, fun k y hk => ?_⟩
 rw [List.getElem?_set] at hk
 by_cases hik : i = k
 ·subst hik
  rw [if_pos rfl, if_pos hi] at hk
  cases hk
  have e : (List.take r.rd.size (List.drop (i * r.rd.size) (setM cs (i * r.rd.size) c))) = c := by
   apply List.ext_getElem?
   intro n
   rw [List.getElem?_take, List.getElem?_drop]
   by_cases hn : n < r.rd.size
   ·rw [if_pos hn, setM_at _ _ _ (by omega), if_pos (by omega), show i * r.rd.size + n - i * r.rd.size = n by omega]
   ·rw [if_neg hn, List.getElem?_eq_none (by omega)]
  rw [e]
  exact hx
 ·rw [if_neg hik] at hk
  have hkl := (List.getElem?_eq_some_iff.1 hk).1
  have e : (List.take r.rd.size (List.drop (k * r.rd.size) (setM cs (i * r.rd.size) c))) = (List.take r.rd.size (List.drop (k * r.rd.size) cs)) := by
   apply List.ext_getElem?
   intro n
   rw [List.getElem?_take, List.getElem?_drop, List.getElem?_take, List.getElem?_drop]
   by_cases hn : n < r.rd.size
   ·rw [if_pos hn, if_pos hn, setM_at _ _ _ (by omega), if_neg]
    rcases Nat.lt_or_ge i k with hlt | hge
    ·have := mul_lt_end (s := r.rd.size) hlt
     omega
    ·have := mul_lt_end (s := r.rd.size) (show k < i by omega)
     omega
   ·rw [if_neg hn, if_neg hn]
  rw [e]
  exact h.2 k y hk
theorem EG.of_cells {B : Nat} (h : CellsOf r.rd w B xs cs) (hr : ∀ c x, r.rd.at_ w B c x → r.at_ w P c x) : EG r w P cs xs := ⟨h.1, fun i x hi => by
 obtain ⟨c, h1, h2⟩ := h.2 i x hi
 have hl := r.rd.len h1
 have hm := mul_lt_end (s := r.rd.size) (List.getElem?_eq_some_iff.1 hi).1
 have hc := h.1
 have e : (List.take r.rd.size (List.drop (i * r.rd.size) cs)) = c := by
  apply List.ext_getElem?
  intro n
  rw [List.getElem?_take, List.getElem?_drop]
  by_cases hn : n < r.rd.size
  ·rw [if_pos hn, List.getElem?_eq_getElem (show n < c.length by omega)]
   exact h2 n _ (List.getElem?_eq_getElem _)
  ·rw [if_neg hn, List.getElem?_eq_none (by omega)]
 rw [e]
 exact hr c x h1⟩
end
theorem yK.of_row {X : Type} {r : Off X} {w : World} {P : Nat → Prop} {B : Nat} {A : Option Addr} {l : List X} (h : RowAt r.rd w B A l) (hB : B ≤ w.heap.size) (hP : ∀ b, b < B → P b) (hr : ∀ c x, r.rd.at_ w B c x → r.at_ w P c x) : yK r w P A l := ⟨h.1, fun i x hi => by
 obtain ⟨ad, cs, h1, h2, h3, h4⟩ := h.2 i x hi
 exact ⟨ad, cs, h1, hP _ h2, Nat.lt_of_lt_of_le h2 hB, hr cs x h3, h4⟩⟩
end Go.Proofs.YtofabhenmplkoaaGreatDoor.off

/- Rows of orders, types and arcs that are copied: what is read, as elements of rows of the call's own; slices.Clone. -/
namespace Go.Proofs.YtofabhenmplkoaaGreatDoor.typ
open Go.RowKit
open lib rd app els off big ins ord gen
theorem oOrd_low {w : World} {B : Nat} {P : Nat → Prop} (hB : B ≤ w.heap.size) (hP : ∀ b, b < B → P b) {c : List Value} {x : Ord} (h : rOrd.at_ w B c x) : oOrd.at_ w P c x := by
 obtain ⟨C, cc, rfl, hI, hf⟩ := rOrd_at h
 exact oOrd_mk (yM.low hI hB hP) hf
theorem oTy_low {w : World} {B : Nat} {P : Nat → Prop} (hB : B ≤ w.heap.size) (hP : ∀ b, b < B → P b) {c : List Value} {x : Ty} (h : rTy.at_ w B c x) : oTy.at_ w P c x := by
 obtain ⟨C, cc, rfl, hI, hf⟩ := rTy_at h
 exact oTy_mk (yM.low hI hB hP) hf
theorem oPt_low {w : World} {B : Nat} {P : Nat → Prop} {c : List Value} {x : Pt} (h : rPt.at_ w B c x) : oPt.at_ w P c x := by
 obtain ⟨rfl, hf⟩ := rPt_at h
 exact oPt_mk hf
theorem oArc_low {w : World} {B : Nat} {P : Nat → Prop} (hB : B ≤ w.heap.size) (hP : ∀ b, b < B → P b) {c : List Value} {x : Arc} (h : rArc.at_ w B c x) : oArc.at_ w P c x := by
 obtain ⟨C0, c0, C1, c1, rfl, h0, h1, hf⟩ := rArc_at h
 exact oArc_mk (yK.of_row h0 hB hP (fun _ _ => oPt_low)) (yK.of_row h1 hB hP (fun _ _ => oPt_low)) hf
theorem ord_ones {w : World} {B : Nat} : ∀ (cs : List Value) (x : Ord), rOrd.at_ w B cs x → ∀ u ∈ cs, u.oneCell' = true := fun cs x h => by
 obtain ⟨C, cc, rfl, _⟩ := rOrd_at h
 exact zR x C cc
theorem ty_ones {w : World} {B : Nat} : ∀ (cs : List Value) (x : Ty), rTy.at_ w B cs x → ∀ u ∈ cs, u.oneCell' = true := fun cs x h => by
 obtain ⟨C, cc, rfl, _⟩ := rTy_at h
 exact tyCells_one x C cc
set_option maxRecDepth 20000 in
theorem cloneO_any (A : Option Addr) (c : Nat) (l : List Ord) (B : Nat) (w : World) (hB : B ≤ w.heap.size) (h : RowAt rOrd w B A l) (hl : l.length ≤ 1000000) :
  Calls Tryz.prog 165 #[.slice A l.length c] w fun e w' => ∃ A' c' CS, e = .returned (.slice A' l.length c') ∧ w'.ownsRow w.heap.size 35 16 (.slice A' l.length c') l.length CS ∧ EG oOrd w' (fun b => b < B) CS l ∧ Below w.heap.size w w' := by
 have B0 : Below w.heap.size w (w.alloc (.cells #[] 35)) := (Below.refl _ _).alloc (Nat.le_refl _) _
 obtain ⟨CS, hcs, hca, hcb, hone⟩ := RowAt.cells (r := rOrd) (by decide) h
 have HE : Hid (EG oOrd w (fun b => b < B) CS l) := Lib.hid (EG.of_cells hcs (fun _ _ => oOrd_low hB (fun _ h => h)))
 have HONE := Lib.hid (hone (fun u => u.oneCell' = true) (ord_ones))
 obtain ⟨m, hm⟩ : ∃ m, l.length = m := ⟨_, rfl⟩
 have hlen : CS.length = m * 16 := by rw [← hm]; exact hcs.1
 have HC : Hid (Reads (w.alloc (.cells #[] 35)) w.heap.size 16 A m CS) := Lib.hid ⟨hlen, fun h0 => by
  obtain ⟨ad, h1, h2⟩ := hcb (by omega)
  exact ⟨ad, h1, Nat.lt_of_lt_of_le h2 hB, (hca ad h1).below B0 (Nat.lt_of_lt_of_le h2 hB)⟩⟩
 have HM := Lib.hid hm
 have HZ : Hid (A = none → m = 0) := Lib.hid (fun hA => by
  rcases Nat.eq_zero_or_pos m with h0 | h0
  ·exact h0
  ·obtain ⟨ad, h1, _⟩ := hcb (by omega)
   rw [hA] at h1
   cases h1)
 rw [hm] at hl ⊢
 have HLN := Lib.hid hlen
 clear h hm hcs hca hcb hone hlen
 rcases A with _ | ad
 ·have hm0 : m = 0 := HZ.out rfl
  subst hm0
  have hC0 : CS = [] := List.eq_nil_of_length_eq_zero (by rw [HLN.out])
  subst hC0
  have he : ∀ w : World, (binOp .eql 27 (.slice none 0 c) (.slice none 0 0)).run Tryz.prog w = .ok (.bool true) w := fun _ => rfl
  go_enter Tryz.func165, Tryz.ntmps165
  go_wp2
  go_ret
  exact ⟨none, 0, rfl, [], World.ownsRow_nil _ _ _ _, HE.out, Below.refl _ _⟩
 ·have HE0 : Hid ((w.alloc (.cells #[] 35)).ownsRow w.heap.size 35 16 (.slice (some ⟨w.heap.size, 0, none⟩) 0 0) 0 []) := Lib.hid (World.ownsRow_made w #[] 0 (Nat.le_refl _) (by decide) rfl)
  have HBA : Hid (w.heap.size ≤ (w.alloc (.cells #[] 35)).heap.size) := Lib.hid B0.size
  have HB := Lib.hid B0
  clear B0
  have he : ∀ w : World, (binOp .eql 27 (.slice (some ad) m c) (.slice none 0 0)).run Tryz.prog w = .ok (.bool false) w := fun _ => rfl
  go_enter Tryz.func165, Tryz.ntmps165
  go_wp2_with (at_builtin; go_loud (refine zX ord_elem _ _ rfl w.heap.size (.slice (some ⟨w.heap.size, 0, none⟩) 0 0) 0 [] rfl HE0.out w.heap.size (some ad) m c CS rfl HC.out HONE.out (by omega) HBA.out rfl ?_); intro A5 c5 w5 hown5 hg5; have HK := Lib.hid (And.intro hown5 hg5); clear hown5 hg5)
  go_ret
  have hb : Below w.heap.size w w5 := HB.out.grown HK.out.2 HBA.out (fun q e => own_base HE0.out q e)
  refine ⟨A5, c5, CS, rfl, ?_, HE.out.below hb, hb⟩
  have h := HK.out.1
  rw [Nat.zero_add, List.nil_append] at h
  exact h
set_option maxRecDepth 20000 in
theorem cloneT_any (A : Option Addr) (c : Nat) (l : List Ty) (B : Nat) (w : World) (hB : B ≤ w.heap.size) (h : RowAt rTy w B A l) (hl : l.length ≤ 1000000) :
  Calls Tryz.prog 105 #[.slice A l.length c] w fun e w' => ∃ A' c' CS, e = .returned (.slice A' l.length c') ∧ w'.ownsRow w.heap.size 56 14 (.slice A' l.length c') l.length CS ∧ EG oTy w' (fun b => b < B) CS l ∧ Below w.heap.size w w' := by
 have B0 : Below w.heap.size w (w.alloc (.cells #[] 56)) := (Below.refl _ _).alloc (Nat.le_refl _) _
 obtain ⟨CS, hcs, hca, hcb, hone⟩ := RowAt.cells (r := rTy) (by decide) h
 have HE : Hid (EG oTy w (fun b => b < B) CS l) := Lib.hid (EG.of_cells hcs (fun _ _ => oTy_low hB (fun _ h => h)))
 have HONE := Lib.hid (hone (fun u => u.oneCell' = true) (ty_ones))
 obtain ⟨m, hm⟩ : ∃ m, l.length = m := ⟨_, rfl⟩
 have hlen : CS.length = m * 14 := by rw [← hm]; exact hcs.1
 have HC : Hid (Reads (w.alloc (.cells #[] 56)) w.heap.size 14 A m CS) := Lib.hid ⟨hlen, fun h0 => by
  obtain ⟨ad, h1, h2⟩ := hcb (by omega)
  exact ⟨ad, h1, Nat.lt_of_lt_of_le h2 hB, (hca ad h1).below B0 (Nat.lt_of_lt_of_le h2 hB)⟩⟩
 have HM := Lib.hid hm
 have HZ : Hid (A = none → m = 0) := Lib.hid (fun hA => by
  rcases Nat.eq_zero_or_pos m with h0 | h0
  ·exact h0
  ·obtain ⟨ad, h1, _⟩ := hcb (by omega)
   rw [hA] at h1
   cases h1)
 rw [hm] at hl ⊢
 have HLN := Lib.hid hlen
 clear h hm hcs hca hcb hone hlen
 rcases A with _ | ad
 ·have hm0 : m = 0 := HZ.out rfl
  subst hm0
  have hC0 : CS = [] := List.eq_nil_of_length_eq_zero (by rw [HLN.out])
  subst hC0
  have he : ∀ w : World, (binOp .eql 26 (.slice none 0 c) (.slice none 0 0)).run Tryz.prog w = .ok (.bool true) w := fun _ => rfl
  go_enter Tryz.func105, Tryz.ntmps105
  go_wp2
  go_ret
  exact ⟨none, 0, rfl, [], World.ownsRow_nil _ _ _ _, HE.out, Below.refl _ _⟩
 ·have HE0 : Hid ((w.alloc (.cells #[] 56)).ownsRow w.heap.size 56 14 (.slice (some ⟨w.heap.size, 0, none⟩) 0 0) 0 []) := Lib.hid (World.ownsRow_made w #[] 0 (Nat.le_refl _) (by decide) rfl)
  have HBA : Hid (w.heap.size ≤ (w.alloc (.cells #[] 56)).heap.size) := Lib.hid B0.size
  have HB := Lib.hid B0
  clear B0
  have he : ∀ w : World, (binOp .eql 26 (.slice (some ad) m c) (.slice none 0 0)).run Tryz.prog w = .ok (.bool false) w := fun _ => rfl
  go_enter Tryz.func105, Tryz.ntmps105
  go_wp2_with (at_builtin; go_loud (refine zX ty_elem _ _ rfl w.heap.size (.slice (some ⟨w.heap.size, 0, none⟩) 0 0) 0 [] rfl HE0.out w.heap.size (some ad) m c CS rfl HC.out HONE.out (by omega) HBA.out rfl ?_); intro A5 c5 w5 hown5 hg5; have HK := Lib.hid (And.intro hown5 hg5); clear hown5 hg5)
  go_ret
  have hb : Below w.heap.size w w5 := HB.out.grown HK.out.2 HBA.out (fun q e => own_base HE0.out q e)
  refine ⟨A5, c5, CS, rfl, ?_, HE.out.below hb, hb⟩
  have h := HK.out.1
  rw [Nat.zero_add, List.nil_append] at h
  exact h
end Go.Proofs.YtofabhenmplkoaaGreatDoor.typ

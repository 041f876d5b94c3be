/- Joined texts: Lib Rd RdArg OwnR Typ OrdT InsT App AppN Arr SetP BitP SchP LoadP EqG Els Note Right WinK Eqs OrdW TxtA TxtB DecA DecB Flts Idx Big Ld Mrk OutP. -/
import Derived.Test.YthefooacfcagbaaGreatDoorRows
import Derived.OrdersHeld
import Derived.Deep.RegionHeld3
import Derived.WalkKit
import Derived.WalkSpells
import Derived.WalkLawsBesides
import Derived.Lib.Hide
import Derived.Laws.OwnMore
import Derived.Deep.AppendLies
import Derived.Deep.Draws
import Derived.Maps.AppendAt
import Derived.Laws.MakeOwn
import Derived.ProofKit
import Derived.OpenShut
import Derived.SizedLaws
import Derived.Deep.Matrix
import Derived.Deep.Slices
import Derived.ChangeArms
import Derived.ArgAppend
import Derived.RangeFuncBox
import Derived.OwnWalk
import Derived.ChangeKeysEq
import Derived.Laws.BitsLemmas
import Derived.Deep.QuietTactic
import Derived.BigQuiet
import Derived.Laws.IdiomStrings
import Derived.Laws.Tables
import Derived.Great.BuildSlice
import Derived.Laws.Rows
import Derived.Laws.Cells
import Derived.Maps.OwnSet
import Derived.Maps.OwnOps
import Derived.Maps.Views
import Derived.DeepKeys4
namespace Go.Proofs.YthefooacfcagbaaGreatDoor.lib
open Go.RowKit
set_option linter.unusedVariables false
theorem ret_int {k : IntKind} {a b : Int} (h : a = b) : Ending.returned (.int k a) = .returned (.int k b) := by rw [h]
theorem ret_bool {a b : Bool} (h : a = b) : Ending.returned (.bool a) = .returned (.bool b) := by rw [h]
theorem block_of_add (a : Addr) (n : Nat) : (a.add n).block = a.block := by unfold Addr.add; split <;> rfl
theorem add_of_add (a : Addr) (i j : Nat) : (a.add i).add j = a.add (i + j) := by
 unfold Addr.add
 by_cases hi : i = 0 <;> by_cases hj : j = 0 <;> simp [hi, hj, Nat.add_assoc]
def Reads (w : World) (B size : Nat) (A : Option Addr) (n : Nat) (xs : List Value) : Prop :=
 xs.length = n * size ∧ (0 < n → ∃ ad, A = some ad ∧ ad.block < B ∧ ∀ j u, xs[j]? = some u → w.cell? (ad.add j) = some u)
section
variable {w w' : World} {B B' size n : Nat} {A : Option Addr} {xs : List Value}
theorem Reads.none_ : Reads w B size A 0 [] := ⟨by simp, fun h => absurd h (by omega)⟩
theorem Reads.at_ {k : Nat} (h : Reads w B 1 A n xs) (hk : k < n) : ∃ ad u, A = some ad ∧ ad.block < B ∧ xs[k]? = some u ∧ w.cell? (ad.add k) = some u := by
 obtain ⟨ad, e, hb, hc⟩ := h.2 (by omega)
 have hl : k < xs.length := by have := h.1; omega
 exact ⟨ad, xs[k], e, hb, List.getElem?_eq_getElem hl, hc k _ (List.getElem?_eq_getElem hl)⟩
theorem Reads.keep (h : Reads w B size A n xs) (hk : ∀ p : Addr, p.block < B → w'.cell? p = w.cell? p) : Reads w' B size A n xs :=
 ⟨h.1, fun hn => by
  obtain ⟨ad, e, hb, hc⟩ := h.2 hn
  exact ⟨ad, e, hb, fun j u hu => (hk _ (by rw [block_of_add]; exact hb)).trans (hc j u hu)⟩⟩
theorem Reads.more (h : Reads w B size A n xs) (hB : B ≤ B') : Reads w B' size A n xs :=
 ⟨h.1, fun hn => by
  obtain ⟨ad, e, hb, hc⟩ := h.2 hn
  exact ⟨ad, e, by omega, hc⟩⟩
theorem Reads.below (h : Reads w B size A n xs) (hb : Below B w w') : Reads w' B size A n xs := h.keep fun _ hp => hb.cell hp
theorem Reads.drew (h : Reads w B size A n xs) : Reads w.drew B size A n xs := h
theorem Reads.drewN (h : Reads w B size A n xs) (k : Nat) : Reads (w.drewN k) B size A n xs := h
theorem Reads.alloc (h : Reads w B size A n xs) (hB : B ≤ w.heap.size) (o : Obj) : Reads (w.alloc o) B size A n xs := h.keep fun p hp => World.cell?_alloc_lt w o p (by omega)
theorem Reads.setCell (h : Reads w B size A n xs) {p : Addr} (hB : B ≤ p.block) (u : Value) : Reads (w.setCell p u) B size A n xs :=
 h.keep fun q hq => World.cell?_setCell_other w p q u (fun e => by subst e; omega)
theorem Reads.of_own {base : Nat} {e : TypeId} {c : Nat} (h : w.ownsRow base e size (.slice A n c) n xs) : Reads w w.heap.size size A n xs := by
 refine ⟨h.1, fun hn => ?_⟩
 obtain ⟨g, cap, hv, _, hlt⟩ := h.form hn
 have hA : A = some ⟨g, 0, none⟩ := by injection hv
 subst hA
 exact ⟨_, rfl, hlt, h.cells (g := g) rfl⟩
end
theorem own_form {w : World} {base : Nat} {e : TypeId} {size n : Nat} {v : Value} {xs : List Value} (h : w.ownsRow base e size v n xs) : ∃ A c, v = .slice A n c := by
 rcases h.2 with ⟨rfl, rfl⟩ | ⟨g, cap, cur, rfl, _⟩
 ·exact ⟨none, 0, rfl⟩
 ·exact ⟨_, _, rfl⟩
theorem own_base {w : World} {base : Nat} {e : TypeId} {size n : Nat} {v : Value} {xs : List Value} (h : w.ownsRow base e size v n xs) : ∀ k, v.ownBlock = some k → base ≤ k := by
 rcases h.2 with ⟨rfl, _⟩ | ⟨g, cap, cur, rfl, hg, _⟩
 ·intro k hk; simp [Value.ownBlock] at hk
 ·intro k hk
  simp [Value.ownBlock] at hk
  omega
theorem int_info : (Tryz.prog.info? 3).map (fun i => (i.zero, i.size, i.bytes)) = some (some (.int .i64 0), 1, 8) := by kernel_rfl
theorem push_int {ops : Array Oper} {rest : List Oper} {o : Oper} {a : Act} {Q : Exit → Act → World → Prop} {w : World} (hgd : o.guard = none) (s x : Operand)
  (ho : o.op = .call { callee := .builtin .append, args := #[s, x], argTypes := #[61, 61] })
  (base : Nat) (v : Value) (n : Nat) (xs : List Int) (hs : a.eval s = v) (hown : w.ownsRow base 3 1 v n (xs.map (.int .i64)))
  (u : Int) (hx : a.eval x = .slice (some ⟨w.heap.size, 0, none⟩) 1 1) (hn : n < 17592186044416) (hbase : base ≤ w.heap.size)
  (h : ∀ A c w', w'.ownsRow base 3 1 (.slice A (n + 1) c) (n + 1) ((xs ++ [u]).map (.int .i64)) → Below base w w' → w.heap.size < w'.heap.size → wpList Tryz.prog ops Q rest (a.put o.dst (.slice A (n + 1) c)) w') :
  wpList Tryz.prog ops Q (o :: rest) a (w.alloc (.cells #[.int .i64 u] 3)) := by
 obtain ⟨i0, hi, hz0, hz1, hz2⟩ := info_parts int_info
 refine wpList_append_own _ hgd s x _ ho base 3 i0 (.int .i64 0) 1 8 Tryz.underlying61 hi hz0 hz1 hz2 rfl (by decide) v n (xs.map (.int .i64)) hs (hown.alloc _) ⟨w.heap.size, 0, none⟩ 1 1 [.int .i64 u] hx rfl (cell_one_new _ _ _) ?_ (by unfold maxLen; omega) (by omega) (by simp; omega) ?_
 ·intro u hu
  simp at hu
  subst hu
  rfl
 intro v' w1 hown' hg _
 obtain ⟨A, c, rfl⟩ := own_form hown'
 refine h A c w1 (by simpa using hown') ?_ ?_
 ·exact ((Below.refl base w).alloc hbase _).grown hg (by simp; omega) (own_base hown)
 ·have := hg.size; simp at this; omega
def Ints (w : World) (B : Nat) (A : Option Addr) (l : List Int) : Prop := Reads w B 1 A l.length (l.map (.int .i64)) ∧ l.length ≤ 17592186043904
theorem Ints.at_ {w : World} {B : Nat} {A : Option Addr} {l : List Int} (h : Ints w B A l) {k : Nat} (hk : k < l.length) : ∃ ad x, A = some ad ∧ ad.block < B ∧ l[k]? = some x ∧ w.cell? (ad.add k) = some (.int .i64 x) := by
 obtain ⟨ad, u, hA, hb, hx, hc⟩ := h.1.at_ hk
 rw [List.getElem?_map, List.getElem?_eq_getElem hk] at hx
 injection hx with hx
 subst hx
 exact ⟨ad, l[k], hA, hb, List.getElem?_eq_getElem hk, hc⟩
theorem Ints.len {w : World} {B : Nat} {A : Option Addr} {l : List Int} (h : Ints w B A l) : l.length ≤ 17592186043904 := h.2
theorem Ints.below {w w' : World} {B : Nat} {A : Option Addr} {l : List Int} (h : Ints w B A l) (hb : Below B w w') : Ints w' B A l := ⟨h.1.below hb, h.2⟩
theorem Ints.more {w : World} {B B' : Nat} {A : Option Addr} {l : List Int} (h : Ints w B A l) (hB : B ≤ B') : Ints w B' A l := ⟨h.1.more hB, h.2⟩
theorem Ints.alloc {w : World} {B : Nat} {A : Option Addr} {l : List Int} (h : Ints w B A l) (hB : B ≤ w.heap.size) (o : Obj) : Ints (w.alloc o) B A l := ⟨h.1.alloc hB o, h.2⟩
theorem Ints.of_own {w : World} {base c : Nat} {A : Option Addr} {l : List Int} {e : TypeId} (h : w.ownsRow base e 1 (.slice A l.length c) l.length (l.map (.int .i64))) (hl : l.length ≤ 17592186043904) : Ints w w.heap.size A l := ⟨Reads.of_own h, hl⟩
theorem Ints.lit (w : World) (l : List Int) (hl : l.length ≤ 17592186043904) : Ints (w.alloc (.cells (l.map (.int .i64)).toArray 3)) (w.heap.size + 1) (some ⟨w.heap.size, 0, none⟩) l :=
 ⟨⟨by simp, fun _ => ⟨_, rfl, Nat.lt_succ_self _, fun j u hu => by
  have h := World.news_of_block (w := w.alloc (.cells (l.map (.int .i64)).toArray 3)) (B := w.heap.size) (heap_alloc_new w _) j u (by simpa using hu)
  exact h⟩⟩, hl⟩
theorem Ints.nil {w : World} {B : Nat} : Ints w B none [] := ⟨Reads.none_, by simp⟩
def Rows2 (w : World) (B : Nat) (A : Option Addr) (ls : List (List Int)) : Prop :=
 ls.length ≤ 17592186043904 ∧ ∃ vs : List Value, Reads w B 1 A ls.length vs ∧ ∀ (i : Nat) (l : List Int), ls[i]? = some l → ∃ Ai ci, vs[i]? = some (.slice Ai l.length ci) ∧ Ints w B Ai l
theorem Rows2.at_ {w : World} {B : Nat} {A : Option Addr} {ls : List (List Int)} (h : Rows2 w B A ls) {k : Nat} (hk : k < ls.length) :
  ∃ ad l Ai ci, A = some ad ∧ ad.block < B ∧ ls[k]? = some l ∧ w.cell? (ad.add k) = some (.slice Ai l.length ci) ∧ Ints w B Ai l := by
 obtain ⟨_, vs, hr, hi⟩ := h
 obtain ⟨ad, u, hA, hb, hx, hc⟩ := hr.at_ hk
 have hl : ls[k]? = some ls[k] := List.getElem?_eq_getElem hk
 obtain ⟨Ai, ci, h1, h2⟩ := hi k _ hl
 rw [hx] at h1
 injection h1 with h1
 subst h1
 exact ⟨ad, _, Ai, ci, hA, hb, hl, hc, h2⟩
theorem Rows2.below {w w' : World} {B : Nat} {A : Option Addr} {ls : List (List Int)} (h : Rows2 w B A ls) (hb : Below B w w') : Rows2 w' B A ls := by
 obtain ⟨h0, vs, hr, hi⟩ := h
 refine ⟨h0, vs, hr.below hb, fun i l hl => ?_⟩
 obtain ⟨Ai, ci, h1, h2⟩ := hi i l hl
 exact ⟨Ai, ci, h1, h2.below hb⟩
theorem Rows2.more {w : World} {B B' : Nat} {A : Option Addr} {ls : List (List Int)} (h : Rows2 w B A ls) (hB : B ≤ B') : Rows2 w B' A ls := by
 obtain ⟨h0, vs, hr, hi⟩ := h
 refine ⟨h0, vs, hr.more hB, fun i l hl => ?_⟩
 obtain ⟨Ai, ci, h1, h2⟩ := hi i l hl
 exact ⟨Ai, ci, h1, h2.more hB⟩
theorem Rows2.nil {w : World} {B : Nat} : Rows2 w B none [] := ⟨by simp, [], Reads.none_, fun i l h => by simp at h⟩
theorem drop_at' {α : Type} {l : List α} {k : Nat} {x : α} (h : l[k]? = some x) : l.drop k = x :: l.drop (k + 1) := by
 obtain ⟨hk, rfl⟩ := List.getElem?_eq_some_iff.1 h
 exact List.drop_eq_getElem_cons hk
theorem drop_at {l : List Int} {k : Nat} {x : Int} (h : l[k]? = some x) : l.drop k = x :: l.drop (k + 1) := by
 obtain ⟨hk, rfl⟩ := List.getElem?_eq_some_iff.1 h
 exact List.drop_eq_getElem_cons hk
theorem bel_drewN {B : Nat} {a w : World} (h : Below B a w) (n : Nat) : Below B a (w.drewN n) := ⟨h.os, h.tape, h.output, h.size, h.block⟩
end Go.Proofs.YthefooacfcagbaaGreatDoor.lib
namespace Go.Proofs.YthefooacfcagbaaGreatDoor.rd
open Go.RowKit Go.ChangeShapes Go.WideShapes Go.ChangeAt Go.Deep
open lib
set_option linter.unusedVariables false
structure Rd (X : Type) where
 size : Nat
 at_ : World → Nat → List Value → X → Prop
 len : ∀ {w : World} {B : Nat} {cs : List Value} {x : X}, at_ w B cs x → cs.length = size
 keep : ∀ {w w' : World} {B : Nat} {cs : List Value} {x : X}, (∀ p : Addr, p.block < B → w'.cell? p = w.cell? p) → at_ w B cs x → at_ w' B cs x
 more : ∀ {w : World} {B B' : Nat} {cs : List Value} {x : X}, B ≤ B' → at_ w B cs x → at_ w B' cs x
def rInt : Rd Int where
 size := 1
 at_ _ _ cs x := cs = [.int .i64 x] ∧ -9223372036854775808 ≤ x ∧ x ≤ 9223372036854775807
 len h := by rw [h.1]; rfl
 keep _ h := h
 more _ h := h
def rBool : Rd Bool where
 size := 1
 at_ _ _ cs x := cs = [.bool x]
 len h := by rw [h]; rfl
 keep _ h := h
 more _ h := h
def rStr : Rd ByteArray where
 size := 1
 at_ _ _ cs x := cs = [.string x] ∧ x.size ≤ 140737488351232
 len h := by rw [h.1]; rfl
 keep _ h := h
 more _ h := h
theorem Ints.keep {w w' : World} {B : Nat} {A : Option Addr} {l : List Int} (hk : ∀ p : Addr, p.block < B → w'.cell? p = w.cell? p) (h : Ints w B A l) : Ints w' B A l := ⟨h.1.keep hk, h.2⟩
def rInts : Rd (List Int) where
 size := 1
 at_ w B cs x := ∃ A c, cs = [.slice A x.length c] ∧ Ints w B A x
 len h := by obtain ⟨A, c, rfl, _⟩ := h; rfl
 keep hk h := by obtain ⟨A, c, h1, h2⟩ := h; exact ⟨A, c, h1, Ints.keep hk h2⟩
 more hB h := by obtain ⟨A, c, h1, h2⟩ := h; exact ⟨A, c, h1, h2.more hB⟩
def rPair {X Y : Type} (r : Rd X) (q : Rd Y) : Rd (X × Y) where
 size := r.size + q.size
 at_ w B cs x := ∃ a b, cs = a ++ b ∧ r.at_ w B a x.1 ∧ q.at_ w B b x.2
 len h := by obtain ⟨a, b, rfl, h1, h2⟩ := h; rw [List.length_append, r.len h1, q.len h2]
 keep hk h := by obtain ⟨a, b, h0, h1, h2⟩ := h; exact ⟨a, b, h0, r.keep hk h1, q.keep hk h2⟩
 more hB h := by obtain ⟨a, b, h0, h1, h2⟩ := h; exact ⟨a, b, h0, r.more hB h1, q.more hB h2⟩
def rMap {X Y : Type} (r : Rd X) (f : X → Y) : Rd Y where
 size := r.size
 at_ w B cs y := ∃ x, f x = y ∧ r.at_ w B cs x
 len h := by obtain ⟨x, _, h1⟩ := h; exact r.len h1
 keep hk h := by obtain ⟨x, h0, h1⟩ := h; exact ⟨x, h0, r.keep hk h1⟩
 more hB h := by obtain ⟨x, h0, h1⟩ := h; exact ⟨x, h0, r.more hB h1⟩
def RowAt {X : Type} (r : Rd X) (w : World) (B : Nat) (A : Option Addr) (l : List X) : Prop :=
 l.length ≤ 17592186043904 ∧ ∀ (i : Nat) (x : X), l[i]? = some x → ∃ ad cs, A = some ad ∧ ad.block < B ∧ r.at_ w B cs x ∧ ∀ (j : Nat) (u : Value), cs[j]? = some u → w.cell? (ad.add (i * r.size + j)) = some u
section
variable {X : Type} {r : Rd X} {w w' : World} {B B' : Nat} {A : Option Addr} {l : List X}
theorem RowAt.len (h : RowAt r w B A l) : l.length ≤ 17592186043904 := h.1
theorem RowAt.nil : RowAt r w B none [] := ⟨by simp, fun i x h => by simp at h⟩
theorem RowAt.keep (hk : ∀ p : Addr, p.block < B → w'.cell? p = w.cell? p) (h : RowAt r w B A l) : RowAt r w' B A l :=
 ⟨h.1, fun i x hi => by
  obtain ⟨ad, cs, h1, h2, h3, h4⟩ := h.2 i x hi
  exact ⟨ad, cs, h1, h2, r.keep hk h3, fun j u hu => (hk _ (by rw [block_of_add]; exact h2)).trans (h4 j u hu)⟩⟩
theorem RowAt.more (hB : B ≤ B') (h : RowAt r w B A l) : RowAt r w B' A l :=
 ⟨h.1, fun i x hi => by
  obtain ⟨ad, cs, h1, h2, h3, h4⟩ := h.2 i x hi
  exact ⟨ad, cs, h1, by omega, r.more hB h3, h4⟩⟩
theorem RowAt.below (h : RowAt r w B A l) (hb : Below B w w') : RowAt r w' B A l := h.keep fun _ hp => hb.cell hp
theorem RowAt.take (h : RowAt r w B A l) (n : Nat) : RowAt r w B A (l.take n) :=
 ⟨Nat.le_trans (List.length_take_le' _ _) h.1, fun i x hi => by
  rw [List.getElem?_take] at hi
  split at hi
  ·exact h.2 i x hi
  ·cases hi⟩
end
def rSlice {X : Type} (r : Rd X) : Rd (List X) where
 size := 1
 at_ w B cs l := ∃ A c, cs = [.slice A l.length c] ∧ RowAt r w B A l
 len h := by obtain ⟨A, c, rfl, _⟩ := h; rfl
 keep hk h := by obtain ⟨A, c, h1, h2⟩ := h; exact ⟨A, c, h1, h2.keep hk⟩
 more hB h := by obtain ⟨A, c, h1, h2⟩ := h; exact ⟨A, c, h1, h2.more hB⟩
theorem add_split (a : Addr) (n j : Nat) : a.add (n + (j + 1)) = ⟨(a.add n).block, (a.add n).off + (j + 1), none⟩ := by
 unfold Addr.add
 by_cases hn : n = 0
 ·subst hn; simp
 ·rw [if_neg hn, if_neg (by omega)]
  simp [Nat.add_assoc]
end Go.Proofs.YthefooacfcagbaaGreatDoor.rd
namespace Go.Proofs.YthefooacfcagbaaGreatDoor.rd
open Go.RowKit Go.ChangeShapes Go.WideShapes Go.ChangeAt Go.Deep
open lib
set_option linter.unusedVariables false
end Go.Proofs.YthefooacfcagbaaGreatDoor.rd
namespace Go.Proofs.YthefooacfcagbaaGreatDoor.rd
open Go.RowKit
open lib
set_option linter.unusedVariables false
theorem flat_at {α β : Type} {g : α → List β} {s : Nat} (hg : ∀ x, (g x).length = s) : ∀ (l : List α) (i : Nat) (x : α), l[i]? = some x → ∀ j, j < s → (l.flatMap g)[i * s + j]? = (g x)[j]?
 | [], i, x, h, j, hj => by simp at h
 | y :: l, 0, x, h, j, hj => by
  simp at h
  subst h
  rw [Nat.zero_mul, Nat.zero_add, List.flatMap_cons, List.getElem?_append_left (by rw [hg]; exact hj)]
 | y :: l, i + 1, x, h, j, hj => by
  rw [List.getElem?_cons_succ] at h
  rw [List.flatMap_cons, List.getElem?_append_right (by rw [hg, Nat.succ_mul]; omega), hg, show (i + 1) * s + j - s = i * s + j by rw [Nat.succ_mul]; omega]
  exact flat_at hg l i x h j hj
theorem rowAt_own {X : Type} {r : Rd X} {w : World} {base c : Nat} {e : TypeId} {A : Option Addr} {l : List X} {cells : X → List Value} (hg : ∀ x, (cells x).length = r.size) (h : w.ownsRow base e r.size (.slice A l.length c) l.length (l.flatMap cells))
  (hr : ∀ x ∈ l, r.at_ w w.heap.size (cells x) x) (hl : l.length ≤ 17592186043904) (hz : 0 < r.size) : RowAt r w w.heap.size A l := by
 refine ⟨hl, fun i x hi => ?_⟩
 rcases h.2 with ⟨h1, h2⟩ | ⟨g, cap, cur, h1, h2, h3, h4⟩
 ·have := (List.getElem?_eq_some_iff.1 hi).1
  omega
 ·injection h1 with h1 _ _
  subst h1
  refine ⟨⟨g, 0, none⟩, cells x, rfl, (Array.getElem?_eq_some_iff.1 h3).1, hr x (List.mem_of_getElem? hi), fun j u hu => ?_⟩
  have hj : j < r.size := by rw [← hg x]; exact (List.getElem?_eq_some_iff.1 hu).1
  have hfl := flat_at hg l i x hi j hj
  rw [hu] at hfl
  exact h.cells (g := g) rfl _ _ hfl
theorem two_new (w : World) (a b : Value) (t : TypeId) (j : Nat) (u : Value) (h : [a, b][j]? = some u) : (w.alloc (.cells #[a, b] t)).cell? ((⟨w.heap.size, 0, none⟩ : Addr).add j) = some u :=
 World.news_of_block (w := w.alloc (.cells #[a, b] t)) (B := w.heap.size) (heap_alloc_new w _) j u (by simpa using h)
theorem one_new (w : World) (a : Value) (t : TypeId) (j : Nat) (u : Value) (h : [a][j]? = some u) : (w.alloc (.cells #[a] t)).cell? ((⟨w.heap.size, 0, none⟩ : Addr).add j) = some u :=
 World.news_of_block (w := w.alloc (.cells #[a] t)) (B := w.heap.size) (heap_alloc_new w _) j u (by simpa using h)
theorem row_two {X : Type} {r : Rd X} {w : World} {cs cs' : List Value} {x x' : X} {t : TypeId} (h : r.at_ (w.alloc (.cells (cs ++ cs').toArray t)) (w.heap.size + 1) cs x) (h' : r.at_ (w.alloc (.cells (cs ++ cs').toArray t)) (w.heap.size + 1) cs' x') :
  RowAt r (w.alloc (.cells (cs ++ cs').toArray t)) (w.heap.size + 1) (some ⟨w.heap.size, 0, none⟩) [x, x'] := by
 have hl := r.len h
 have hl' := r.len h'
 have hnew := fun j u hu => World.news_of_block (w := w.alloc (.cells (cs ++ cs').toArray t)) (B := w.heap.size) (heap_alloc_new w _) j u hu
 refine ⟨by simp, fun i y hi => ?_⟩
 rcases i with _ | _ | i
 ·simp at hi
  subst hi
  refine ⟨_, cs, rfl, Nat.lt_succ_self _, h, fun j u hu => ?_⟩
  rw [Nat.zero_mul, Nat.zero_add]
  exact hnew j u (by rw [List.getElem?_append_left (List.getElem?_eq_some_iff.1 hu).1]; exact hu)
 ·simp at hi
  subst hi
  refine ⟨_, cs', rfl, Nat.lt_succ_self _, h', fun j u hu => ?_⟩
  rw [Nat.zero_add, Nat.one_mul]
  exact hnew (r.size + j) u (by rw [List.getElem?_append_right (by omega), hl, Nat.add_sub_cancel_left]; exact hu)
 ·simp at hi
end Go.Proofs.YthefooacfcagbaaGreatDoor.rd
namespace Go.Proofs.YthefooacfcagbaaGreatDoor.typ
open Go.RowKit
open lib
open rd
set_option linter.unusedVariables false
structure Ty where
 name : ByteArray
 count : Int
 frm : Int
 to : Int
 cap : List Int
 skills : Int
 profile : Int
 opn : Int
 close : Int
 drive : Int
 rest : Int
 fixed : Int
 mile : Int
 tick : Int
def rTy : Rd Ty := rMap (rPair rStr (rPair rInt (rPair rInt (rPair rInt (rPair rInts (rPair rInt (rPair rInt (rPair rInt (rPair rInt (rPair rInt (rPair rInt (rPair rInt (rPair rInt rInt))))))))))))) fun x => ⟨x.1, x.2.1, x.2.2.1, x.2.2.2.1, x.2.2.2.2.1, x.2.2.2.2.2.1, x.2.2.2.2.2.2.1, x.2.2.2.2.2.2.2.1, x.2.2.2.2.2.2.2.2.1, x.2.2.2.2.2.2.2.2.2.1, x.2.2.2.2.2.2.2.2.2.2.1, x.2.2.2.2.2.2.2.2.2.2.2.1, x.2.2.2.2.2.2.2.2.2.2.2.2.1, x.2.2.2.2.2.2.2.2.2.2.2.2.2⟩
def TyCells (t : Ty) (C0 : Option Addr) (c0 : Nat) : List Value := [.string t.name, .int .i64 t.count, .int .i64 t.frm, .int .i64 t.to, .slice C0 t.cap.length c0, .int .i64 t.skills, .int .i64 t.profile, .int .i64 t.opn, .int .i64 t.close, .int .i64 t.drive, .int .i64 t.rest, .int .i64 t.fixed, .int .i64 t.mile, .int .i64 t.tick]
def TyFits (t : Ty) : Prop := t.name.size ≤ 140737488351232 ∧ (-9223372036854775808 ≤ t.count ∧ t.count ≤ 9223372036854775807) ∧ (-9223372036854775808 ≤ t.frm ∧ t.frm ≤ 9223372036854775807) ∧ (-9223372036854775808 ≤ t.to ∧ t.to ≤ 9223372036854775807) ∧ (-9223372036854775808 ≤ t.skills ∧ t.skills ≤ 9223372036854775807) ∧ (-9223372036854775808 ≤ t.profile ∧ t.profile ≤ 9223372036854775807) ∧ (-9223372036854775808 ≤ t.opn ∧ t.opn ≤ 9223372036854775807) ∧ (-9223372036854775808 ≤ t.close ∧ t.close ≤ 9223372036854775807) ∧ (-9223372036854775808 ≤ t.drive ∧ t.drive ≤ 9223372036854775807) ∧ (-9223372036854775808 ≤ t.rest ∧ t.rest ≤ 9223372036854775807) ∧ (-9223372036854775808 ≤ t.fixed ∧ t.fixed ≤ 9223372036854775807) ∧ (-9223372036854775808 ≤ t.mile ∧ t.mile ≤ 9223372036854775807) ∧ (-9223372036854775808 ≤ t.tick ∧ t.tick ≤ 9223372036854775807)
theorem rTy_at {w : World} {B : Nat} {cs : List Value} {t : Ty} (h : rTy.at_ w B cs t) : ∃ C0 c0, cs = TyCells t C0 c0 ∧ Ints w B C0 t.cap ∧ TyFits t := by
 obtain ⟨⟨f0, f1, f2, f3, f4, f5, f6, f7, f8, f9, f10, f11, f12, f13⟩, rfl, _, _, rfl, ⟨rfl, hf0⟩, _, _, rfl, ⟨rfl, hf1⟩, _, _, rfl, ⟨rfl, hf2⟩, _, _, rfl, ⟨rfl, hf3⟩, _, _, rfl, ⟨A0, d0, rfl, hr0⟩, _, _, rfl, ⟨rfl, hf5⟩, _, _, rfl, ⟨rfl, hf6⟩, _, _, rfl, ⟨rfl, hf7⟩, _, _, rfl, ⟨rfl, hf8⟩, _, _, rfl, ⟨rfl, hf9⟩, _, _, rfl, ⟨rfl, hf10⟩, _, _, rfl, ⟨rfl, hf11⟩, _, _, rfl, ⟨rfl, hf12⟩, ⟨rfl, hf13⟩⟩ := h
 exact ⟨A0, d0, rfl, hr0, hf0, hf1, hf2, hf3, hf5, hf6, hf7, hf8, hf9, hf10, hf11, hf12, hf13⟩
def TyAt (w : World) (ea : Addr) (t : Ty) (C0 : Option Addr) (c0 : Nat) : Prop := w.cell? ea = some (.string t.name) ∧ w.cell? ⟨ea.block, ea.off + 1, none⟩ = some (.int .i64 t.count) ∧ w.cell? ⟨ea.block, ea.off + 2, none⟩ = some (.int .i64 t.frm) ∧ w.cell? ⟨ea.block, ea.off + 3, none⟩ = some (.int .i64 t.to) ∧ w.cell? ⟨ea.block, ea.off + 4, none⟩ = some (.slice C0 t.cap.length c0) ∧ w.cell? ⟨ea.block, ea.off + 5, none⟩ = some (.int .i64 t.skills) ∧ w.cell? ⟨ea.block, ea.off + 6, none⟩ = some (.int .i64 t.profile) ∧ w.cell? ⟨ea.block, ea.off + 7, none⟩ = some (.int .i64 t.opn) ∧ w.cell? ⟨ea.block, ea.off + 8, none⟩ = some (.int .i64 t.close) ∧ w.cell? ⟨ea.block, ea.off + 9, none⟩ = some (.int .i64 t.drive) ∧ w.cell? ⟨ea.block, ea.off + 10, none⟩ = some (.int .i64 t.rest) ∧ w.cell? ⟨ea.block, ea.off + 11, none⟩ = some (.int .i64 t.fixed) ∧ w.cell? ⟨ea.block, ea.off + 12, none⟩ = some (.int .i64 t.mile) ∧ w.cell? ⟨ea.block, ea.off + 13, none⟩ = some (.int .i64 t.tick)
theorem row_Ty {w : World} {B : Nat} {A : Option Addr} {l : List Ty} (h : RowAt rTy w B A l) {i : Nat} {t : Ty} (hi : l[i]? = some t) : ∃ (ad : Addr) (C0 : Option Addr) (c0 : Nat), A = some ad ∧ ad.block < B ∧ TyAt w (ad.add (i * 14)) t C0 c0 ∧ Ints w B C0 t.cap ∧ TyFits t := by
 obtain ⟨ad, cs, hA, hb, hr, hc⟩ := h.2 i t hi
 obtain ⟨C0, c0, rfl, hrest⟩ := rTy_at hr
 exact ⟨ad, C0, c0, hA, hb, ⟨hc 0 _ rfl, by rw [← add_split]; exact hc 1 _ rfl, by rw [← add_split]; exact hc 2 _ rfl, by rw [← add_split]; exact hc 3 _ rfl, by rw [← add_split]; exact hc 4 _ rfl, by rw [← add_split]; exact hc 5 _ rfl, by rw [← add_split]; exact hc 6 _ rfl, by rw [← add_split]; exact hc 7 _ rfl, by rw [← add_split]; exact hc 8 _ rfl, by rw [← add_split]; exact hc 9 _ rfl, by rw [← add_split]; exact hc 10 _ rfl, by rw [← add_split]; exact hc 11 _ rfl, by rw [← add_split]; exact hc 12 _ rfl, by rw [← add_split]; exact hc 13 _ rfl⟩, hrest⟩
structure Flt where
 err : Int
 at_ : ByteArray
def rFlt : Rd Flt := rMap (rPair rInt rStr) fun x => ⟨x.1, x.2⟩
def FltCells (t : Flt) : List Value := [.int .i64 t.err, .string t.at_]
def FltFits (t : Flt) : Prop := (-9223372036854775808 ≤ t.err ∧ t.err ≤ 9223372036854775807) ∧ t.at_.size ≤ 140737488351232
theorem rFlt_at {w : World} {B : Nat} {cs : List Value} {t : Flt} (h : rFlt.at_ w B cs t) : cs = FltCells t ∧ FltFits t := by
 obtain ⟨⟨f0, f1⟩, rfl, _, _, rfl, ⟨rfl, hf0⟩, ⟨rfl, hf1⟩⟩ := h
 exact ⟨rfl, hf0, hf1⟩
theorem rFlt_mk {w : World} {B : Nat} {t : Flt} (hf : FltFits t) : rFlt.at_ w B (FltCells t) t := by
 exact ⟨(t.err, t.at_), rfl, _, _, rfl, ⟨rfl, hf.1⟩, ⟨rfl, hf.2⟩⟩
def FltAt (w : World) (ea : Addr) (t : Flt) : Prop := w.cell? ea = some (.int .i64 t.err) ∧ w.cell? ⟨ea.block, ea.off + 1, none⟩ = some (.string t.at_)
theorem row_Flt {w : World} {B : Nat} {A : Option Addr} {l : List Flt} (h : RowAt rFlt w B A l) {i : Nat} {t : Flt} (hi : l[i]? = some t) : ∃ (ad : Addr), A = some ad ∧ ad.block < B ∧ FltAt w (ad.add (i * 2)) t ∧ FltFits t := by
 obtain ⟨ad, cs, hA, hb, hr, hc⟩ := h.2 i t hi
 obtain ⟨rfl, hrest⟩ := rFlt_at hr
 exact ⟨ad, hA, hb, ⟨hc 0 _ rfl, by rw [← add_split]; exact hc 1 _ rfl⟩, hrest⟩
structure Pt where
 t : Int
 a : Int
def rPt : Rd Pt := rMap (rPair rInt rInt) fun x => ⟨x.1, x.2⟩
def PtCells (t : Pt) : List Value := [.int .i64 t.t, .int .i64 t.a]
def PtFits (t : Pt) : Prop := (-9223372036854775808 ≤ t.t ∧ t.t ≤ 9223372036854775807) ∧ (-9223372036854775808 ≤ t.a ∧ t.a ≤ 9223372036854775807)
theorem rPt_at {w : World} {B : Nat} {cs : List Value} {t : Pt} (h : rPt.at_ w B cs t) : cs = PtCells t ∧ PtFits t := by
 obtain ⟨⟨f0, f1⟩, rfl, _, _, rfl, ⟨rfl, hf0⟩, ⟨rfl, hf1⟩⟩ := h
 exact ⟨rfl, hf0, hf1⟩
def PtAt (w : World) (ea : Addr) (t : Pt) : Prop := w.cell? ea = some (.int .i64 t.t) ∧ w.cell? ⟨ea.block, ea.off + 1, none⟩ = some (.int .i64 t.a)
theorem row_Pt {w : World} {B : Nat} {A : Option Addr} {l : List Pt} (h : RowAt rPt w B A l) {i : Nat} {t : Pt} (hi : l[i]? = some t) : ∃ (ad : Addr), A = some ad ∧ ad.block < B ∧ PtAt w (ad.add (i * 2)) t ∧ PtFits t := by
 obtain ⟨ad, cs, hA, hb, hr, hc⟩ := h.2 i t hi
 obtain ⟨rfl, hrest⟩ := rPt_at hr
 exact ⟨ad, hA, hb, ⟨hc 0 _ rfl, by rw [← add_split]; exact hc 1 _ rfl⟩, hrest⟩
structure Arc where
 frm : Int
 to : Int
 profile : Int
 miles : Int
 travel : List Pt
 slow : List Pt
def rArc : Rd Arc := rMap (rPair rInt (rPair rInt (rPair rInt (rPair rInt (rPair (rSlice rPt) (rSlice rPt)))))) fun x => ⟨x.1, x.2.1, x.2.2.1, x.2.2.2.1, x.2.2.2.2.1, x.2.2.2.2.2⟩
def ArcCells (t : Arc) (C0 : Option Addr) (c0 : Nat) (C1 : Option Addr) (c1 : Nat) : List Value := [.int .i64 t.frm, .int .i64 t.to, .int .i64 t.profile, .int .i64 t.miles, .slice C0 t.travel.length c0, .slice C1 t.slow.length c1]
def ArcFits (t : Arc) : Prop := (-9223372036854775808 ≤ t.frm ∧ t.frm ≤ 9223372036854775807) ∧ (-9223372036854775808 ≤ t.to ∧ t.to ≤ 9223372036854775807) ∧ (-9223372036854775808 ≤ t.profile ∧ t.profile ≤ 9223372036854775807) ∧ (-9223372036854775808 ≤ t.miles ∧ t.miles ≤ 9223372036854775807)
theorem rArc_at {w : World} {B : Nat} {cs : List Value} {t : Arc} (h : rArc.at_ w B cs t) : ∃ C0 c0 C1 c1, cs = ArcCells t C0 c0 C1 c1 ∧ RowAt rPt w B C0 t.travel ∧ RowAt rPt w B C1 t.slow ∧ ArcFits t := by
 obtain ⟨⟨f0, f1, f2, f3, f4, f5⟩, rfl, _, _, rfl, ⟨rfl, hf0⟩, _, _, rfl, ⟨rfl, hf1⟩, _, _, rfl, ⟨rfl, hf2⟩, _, _, rfl, ⟨rfl, hf3⟩, _, _, rfl, ⟨A0, d0, rfl, hr0⟩, ⟨A1, d1, rfl, hr1⟩⟩ := h
 exact ⟨A0, d0, A1, d1, rfl, hr0, hr1, hf0, hf1, hf2, hf3⟩
def ArcAt (w : World) (ea : Addr) (t : Arc) (C0 : Option Addr) (c0 : Nat) (C1 : Option Addr) (c1 : Nat) : Prop := w.cell? ea = some (.int .i64 t.frm) ∧ w.cell? ⟨ea.block, ea.off + 1, none⟩ = some (.int .i64 t.to) ∧ w.cell? ⟨ea.block, ea.off + 2, none⟩ = some (.int .i64 t.profile) ∧ w.cell? ⟨ea.block, ea.off + 3, none⟩ = some (.int .i64 t.miles) ∧ w.cell? ⟨ea.block, ea.off + 4, none⟩ = some (.slice C0 t.travel.length c0) ∧ w.cell? ⟨ea.block, ea.off + 5, none⟩ = some (.slice C1 t.slow.length c1)
theorem row_Arc {w : World} {B : Nat} {A : Option Addr} {l : List Arc} (h : RowAt rArc w B A l) {i : Nat} {t : Arc} (hi : l[i]? = some t) : ∃ (ad : Addr) (C0 : Option Addr) (c0 : Nat) (C1 : Option Addr) (c1 : Nat), A = some ad ∧ ad.block < B ∧ ArcAt w (ad.add (i * 6)) t C0 c0 C1 c1 ∧ RowAt rPt w B C0 t.travel ∧ RowAt rPt w B C1 t.slow ∧ ArcFits t := by
 obtain ⟨ad, cs, hA, hb, hr, hc⟩ := h.2 i t hi
 obtain ⟨C0, c0, C1, c1, rfl, hrest⟩ := rArc_at hr
 exact ⟨ad, C0, c0, C1, c1, hA, hb, ⟨hc 0 _ rfl, by rw [← add_split]; exact hc 1 _ rfl, by rw [← add_split]; exact hc 2 _ rfl, by rw [← add_split]; exact hc 3 _ rfl, by rw [← add_split]; exact hc 4 _ rfl, by rw [← add_split]; exact hc 5 _ rfl⟩, hrest⟩
structure Net where
 places : List ByteArray
 arcs : List Arc
end Go.Proofs.YthefooacfcagbaaGreatDoor.typ
namespace Go.Proofs.YthefooacfcagbaaGreatDoor.typ
open Go.RowKit
open lib
open rd
set_option linter.unusedVariables false
structure Stp where
 place : Int
 opn : Int
 close : Int
 service : Int
def rStp : Rd Stp := rMap (rPair rInt (rPair rInt (rPair rInt rInt))) fun x => ⟨x.1, x.2.1, x.2.2.1, x.2.2.2⟩
def StpCells (t : Stp) : List Value := [.int .i64 t.place, .int .i64 t.opn, .int .i64 t.close, .int .i64 t.service]
def StpFits (t : Stp) : Prop := (-9223372036854775808 ≤ t.place ∧ t.place ≤ 9223372036854775807) ∧ (-9223372036854775808 ≤ t.opn ∧ t.opn ≤ 9223372036854775807) ∧ (-9223372036854775808 ≤ t.close ∧ t.close ≤ 9223372036854775807) ∧ (-9223372036854775808 ≤ t.service ∧ t.service ≤ 9223372036854775807)
theorem rStp_at {w : World} {B : Nat} {cs : List Value} {t : Stp} (h : rStp.at_ w B cs t) : cs = StpCells t ∧ StpFits t := by
 obtain ⟨⟨f0, f1, f2, f3⟩, rfl, _, _, rfl, ⟨rfl, hf0⟩, _, _, rfl, ⟨rfl, hf1⟩, _, _, rfl, ⟨rfl, hf2⟩, ⟨rfl, hf3⟩⟩ := h
 exact ⟨rfl, hf0, hf1, hf2, hf3⟩
structure Ord where
 name : ByteArray
 load : List Int
 pick : Stp
 drop : Stp
 skills : Int
 penalty : Int
 split : Int
 last : Int
 now : Int
 off : Bool
def rOrd : Rd Ord := rMap (rPair rStr (rPair rInts (rPair rStp (rPair rStp (rPair rInt (rPair rInt (rPair rInt (rPair rInt (rPair rInt rBool))))))))) fun x => ⟨x.1, x.2.1, x.2.2.1, x.2.2.2.1, x.2.2.2.2.1, x.2.2.2.2.2.1, x.2.2.2.2.2.2.1, x.2.2.2.2.2.2.2.1, x.2.2.2.2.2.2.2.2.1, x.2.2.2.2.2.2.2.2.2⟩
def OrdCells (t : Ord) (C0 : Option Addr) (c0 : Nat) : List Value := [.string t.name, .slice C0 t.load.length c0, .int .i64 t.pick.place, .int .i64 t.pick.opn, .int .i64 t.pick.close, .int .i64 t.pick.service, .int .i64 t.drop.place, .int .i64 t.drop.opn, .int .i64 t.drop.close, .int .i64 t.drop.service, .int .i64 t.skills, .int .i64 t.penalty, .int .i64 t.split, .int .i64 t.last, .int .i64 t.now, .bool t.off]
def OrdFits (t : Ord) : Prop := t.name.size ≤ 140737488351232 ∧ StpFits t.pick ∧ StpFits t.drop ∧ (-9223372036854775808 ≤ t.skills ∧ t.skills ≤ 9223372036854775807) ∧ (-9223372036854775808 ≤ t.penalty ∧ t.penalty ≤ 9223372036854775807) ∧ (-9223372036854775808 ≤ t.split ∧ t.split ≤ 9223372036854775807) ∧ (-9223372036854775808 ≤ t.last ∧ t.last ≤ 9223372036854775807) ∧ (-9223372036854775808 ≤ t.now ∧ t.now ≤ 9223372036854775807)
theorem rOrd_at {w : World} {B : Nat} {cs : List Value} {t : Ord} (h : rOrd.at_ w B cs t) : ∃ C0 c0, cs = OrdCells t C0 c0 ∧ Ints w B C0 t.load ∧ OrdFits t := by
 obtain ⟨⟨f0, f1, f2, f3, f4, f5, f6, f7, f8, f9⟩, rfl, _, _, rfl, ⟨rfl, hf0⟩, _, _, rfl, ⟨A0, d0, rfl, hr0⟩, _, _, rfl, hn2, _, _, rfl, hn3, _, _, rfl, ⟨rfl, hf4⟩, _, _, rfl, ⟨rfl, hf5⟩, _, _, rfl, ⟨rfl, hf6⟩, _, _, rfl, ⟨rfl, hf7⟩, _, _, rfl, ⟨rfl, hf8⟩, rfl⟩ := h
 obtain ⟨rfl, hf2⟩ := rStp_at hn2
 obtain ⟨rfl, hf3⟩ := rStp_at hn3
 exact ⟨A0, d0, rfl, hr0, hf0, hf2, hf3, hf4, hf5, hf6, hf7, hf8⟩
def OrdAt (w : World) (ea : Addr) (t : Ord) (C0 : Option Addr) (c0 : Nat) : Prop := w.cell? ea = some (.string t.name) ∧ w.cell? ⟨ea.block, ea.off + 1, none⟩ = some (.slice C0 t.load.length c0) ∧ w.cell? ⟨ea.block, ea.off + 2, none⟩ = some (.int .i64 t.pick.place) ∧ w.cell? ⟨ea.block, ea.off + 3, none⟩ = some (.int .i64 t.pick.opn) ∧ w.cell? ⟨ea.block, ea.off + 4, none⟩ = some (.int .i64 t.pick.close) ∧ w.cell? ⟨ea.block, ea.off + 5, none⟩ = some (.int .i64 t.pick.service) ∧ w.cell? ⟨ea.block, ea.off + 6, none⟩ = some (.int .i64 t.drop.place) ∧ w.cell? ⟨ea.block, ea.off + 7, none⟩ = some (.int .i64 t.drop.opn) ∧ w.cell? ⟨ea.block, ea.off + 8, none⟩ = some (.int .i64 t.drop.close) ∧ w.cell? ⟨ea.block, ea.off + 9, none⟩ = some (.int .i64 t.drop.service) ∧ w.cell? ⟨ea.block, ea.off + 10, none⟩ = some (.int .i64 t.skills) ∧ w.cell? ⟨ea.block, ea.off + 11, none⟩ = some (.int .i64 t.penalty) ∧ w.cell? ⟨ea.block, ea.off + 12, none⟩ = some (.int .i64 t.split) ∧ w.cell? ⟨ea.block, ea.off + 13, none⟩ = some (.int .i64 t.last) ∧ w.cell? ⟨ea.block, ea.off + 14, none⟩ = some (.int .i64 t.now) ∧ w.cell? ⟨ea.block, ea.off + 15, none⟩ = some (.bool t.off)
theorem row_Ord {w : World} {B : Nat} {A : Option Addr} {l : List Ord} (h : RowAt rOrd w B A l) {i : Nat} {t : Ord} (hi : l[i]? = some t) : ∃ (ad : Addr) (C0 : Option Addr) (c0 : Nat), A = some ad ∧ ad.block < B ∧ OrdAt w (ad.add (i * 16)) t C0 c0 ∧ Ints w B C0 t.load ∧ OrdFits t := by
 obtain ⟨ad, cs, hA, hb, hr, hc⟩ := h.2 i t hi
 obtain ⟨C0, c0, rfl, hrest⟩ := rOrd_at hr
 exact ⟨ad, C0, c0, hA, hb, ⟨hc 0 _ rfl, by rw [← add_split]; exact hc 1 _ rfl, by rw [← add_split]; exact hc 2 _ rfl, by rw [← add_split]; exact hc 3 _ rfl, by rw [← add_split]; exact hc 4 _ rfl, by rw [← add_split]; exact hc 5 _ rfl, by rw [← add_split]; exact hc 6 _ rfl, by rw [← add_split]; exact hc 7 _ rfl, by rw [← add_split]; exact hc 8 _ rfl, by rw [← add_split]; exact hc 9 _ rfl, by rw [← add_split]; exact hc 10 _ rfl, by rw [← add_split]; exact hc 11 _ rfl, by rw [← add_split]; exact hc 12 _ rfl, by rw [← add_split]; exact hc 13 _ rfl, by rw [← add_split]; exact hc 14 _ rfl, by rw [← add_split]; exact hc 15 _ rfl⟩, hrest⟩
end Go.Proofs.YthefooacfcagbaaGreatDoor.typ
namespace Go.Proofs.YthefooacfcagbaaGreatDoor.typ
open Go.RowKit
open lib
open rd
set_option linter.unusedVariables false
structure Ins where
 net : Net
 types : List Ty
 orders : List Ord
 apart : List (Int × Int)
 before : List (Int × Int)
end Go.Proofs.YthefooacfcagbaaGreatDoor.typ
namespace Go.Proofs.YthefooacfcagbaaGreatDoor.app
open Go.RowKit
open lib
set_option linter.unusedVariables false
structure ElemOf (t e : TypeId) (z : Value) (size bytes : Nat) : Prop where
 sl : Tryz.prog.underlying t = some (.slice e)
 info : (Tryz.prog.info? e).map (fun i => (i.zero, i.size, i.bytes)) = some (some z, size, bytes)
 zs : z.cells.size = size
 pos : 0 < size
 by_ : bytes ≤ 100000
theorem run_app {t e : TypeId} {z : Value} {size bytes : Nat} (E : ElemOf t e z size bytes) (w : World) (base : Nat) (A : Option Addr) (n cap : Nat) (xs : List Value) (hown : w.ownsRow base e size (.slice A n cap) n xs)
  (ad : Addr) (c : Nat) (news : List Value) (hl : news.length = size) (hnews : ∀ j u, news[j]? = some u → w.cell? (ad.add j) = some u) (h1 : ∀ u ∈ news, u.oneCell' = true) (hn : (n + 1) * bytes ≤ 140737488355328) (hm : n + 1 ≤ maxLen) (hbase : base ≤ w.heap.size) (ty : TypeId) :
  ∃ g' c' w', (Builtin.append_ #[t, t] ty #[.slice A n cap, .slice (some ad) 1 c]).run Tryz.prog w = .ok (.slice (some ⟨g', 0, none⟩) (n + 1) c') w' ∧
   w'.ownsRow base e size (.slice (some ⟨g', 0, none⟩) (n + 1) c') (n + 1) (xs ++ news) ∧ w.grownBy w' (Value.slice A n cap).ownBlock ∧ ((Value.slice A n cap).ownBlock = some g' ∨ w.heap.size ≤ g') := by
 obtain ⟨i0, hi, hz0, hz1, hz2⟩ := info_parts E.info
 have hl' : news.length = 1 * size := by omega
 obtain ⟨v', w', hr, h2, h3, _⟩ := run_append_own (P := Tryz.prog) w base t ty e i0 z size bytes E.sl hi hz0 hz1 hz2 E.zs E.pos _ n _ hown ad 1 c news hl' hnews h1 hm hn hbase
 obtain ⟨g', c', rfl⟩ := ownsRow_succ h2
 refine ⟨g', c', w', hr, h2, h3, ?_⟩
 by_cases hroom : n + 1 ≤ cap
 ·rcases hown.2 with ⟨h, hz⟩ | ⟨g0, cap0, cur, h, _, hg, hnc, _, hcs, _⟩
  ·injection h with _ _ e3
   omega
  ·injection h with e1 e2 e3
   subst e1
   subst e3
   left
   have hsp := E.pos
   have hr2 := run_append_room (P := Tryz.prog) w t ty e i0 E.sl hi g0 n cap cur hg ad 1 c news (by rw [hz1]; exact hl') hnews h1 hroom (by
    rw [hz1, hcs, hl', ← Nat.add_mul]
    exact Nat.mul_le_mul_right _ hroom)
   rw [hr] at hr2
   simp only [Result.ok.injEq, Value.slice.injEq, Option.some.injEq, Addr.mk.injEq] at hr2
   show some g0 = some g'
   rw [hr2.1.1.1]
 ·right
  rcases hown.2 with ⟨h, hz⟩ | ⟨g0, cap0, cur, h, _, hg, hnc, _, hcs, _⟩
  ·injection h with e1 e2 e3
   subst e1; subst e3; subst hz
   have hx0 : xs = [] := by have := hown.1; simpa using this
   subst hx0
   obtain ⟨v2, w2, hr2, s2, s3, _⟩ := run_append_own (P := Tryz.prog) w w.heap.size t ty e i0 z size bytes E.sl hi hz0 hz1 hz2 E.zs E.pos _ 0 _ (World.ownsRow_nil w w.heap.size e size) ad 1 c news hl' hnews h1 hm hn (Nat.le_refl _)
   rw [hr] at hr2
   injection hr2 with hv hw
   subst hv
   subst hw
   exact own_base s2 g' rfl
  ·injection h with e1 e2 e3
   subst e1
   obtain ⟨v2, w2, hr2, r1, r2⟩ := run_append_arg_grows (P := Tryz.prog) w t ty e i0 z size bytes E.sl hi hz0 hz1 hz2 E.zs E.pos ⟨g0, 0, none⟩ n cap xs hown.1 (hown.cells (g := g0) rfl) ad 1 c news hl' hnews (by omega) hm hn
   rw [hr] at hr2
   injection hr2 with hv hw
   subst hv
   subst hw
   exact own_base r1 g' rfl
section
variable {t e : TypeId} {z : Value} {size bytes : Nat} (E : ElemOf t e z size bytes) {o : Oper} {a : Act} {w : World} (s x : Operand)
 (ho : o.op = .call { callee := .builtin .append, args := #[s, x], argTypes := #[t, t] })
 (base : Nat) (A : Option Addr) (n cap : Nat) (xs : List Value) (hs : a.eval s = .slice A n cap) (hown : w.ownsRow base e size (.slice A n cap) n xs)
 (ad : Addr) (c : Nat) (news : List Value) (hx : a.eval x = .slice (some ad) 1 c) (hl : news.length = size) (hnews : ∀ j u, news[j]? = some u → w.cell? (ad.add j) = some u) (h1 : ∀ u ∈ news, u.oneCell' = true) (hn : n ≤ 1000000000) (hbase : base ≤ w.heap.size)
include E ho hs hown hx hl hnews h1 hn hbase
theorem wp_app {K : Act → World → Prop} {Q : Exit → Act → World → Prop}
  (h : ∀ g' c' w', w'.ownsRow base e size (.slice (some ⟨g', 0, none⟩) (n + 1) c') (n + 1) (xs ++ news) → w.grownBy w' (Value.slice A n cap).ownBlock → ((Value.slice A n cap).ownBlock = some g' ∨ w.heap.size ≤ g') → K (a.put o.dst (.slice (some ⟨g', 0, none⟩) (n + 1) c')) w') :
  o.wp Tryz.prog a w K Q := by
 have hb := E.by_
 have hmul : (n + 1) * bytes ≤ (n + 1) * 100000 := Nat.mul_le_mul_left _ hb
 obtain ⟨g', c', w', hr, h2, h3, h4⟩ := run_app E w base A n cap xs hown ad c news hl hnews h1 (by omega) (by unfold maxLen; omega) hbase o.type
 unfold Oper.wp execOp
 simp only [ho, resolve, invoke, builtin, Sem.run_bind, Sem.run_pure, Result.andThen_ok, List.map_toArray, List.map_cons, List.map_nil, hs, hx, hr]
 exact h g' c' w' h2 h3 h4
theorem wpList_app {ops : Array Oper} {rest : List Oper} {Q : Exit → Act → World → Prop} (hgd : o.guard = none)
  (h : ∀ g' c' w', w'.ownsRow base e size (.slice (some ⟨g', 0, none⟩) (n + 1) c') (n + 1) (xs ++ news) → w.grownBy w' (Value.slice A n cap).ownBlock → ((Value.slice A n cap).ownBlock = some g' ∨ w.heap.size ≤ g') → wpList Tryz.prog ops Q rest (a.put o.dst (.slice (some ⟨g', 0, none⟩) (n + 1) c')) w') :
  wpList Tryz.prog ops Q (o :: rest) a w :=
 wpList_plain hgd fun _ hK => wp_app E s x ho base A n cap xs hs hown ad c news hx hl hnews h1 hn hbase fun g' c' w' h2 h3 h4 => hK _ _ (h g' c' w' h2 h3 h4)
theorem step_app {ops : Array Oper} {K : Act → World → Prop} {Q : Exit → Act → World → Prop} {E' : Prop} (hgd : o.guard = none)
  (h : ∀ g' c' w', w'.ownsRow base e size (.slice (some ⟨g', 0, none⟩) (n + 1) c') (n + 1) (xs ++ news) → w.grownBy w' (Value.slice A n cap).ownBlock → ((Value.slice A n cap).ownBlock = some g' ∨ w.heap.size ≤ g') → K (a.put o.dst (.slice (some ⟨g', 0, none⟩) (n + 1) c')) w') :
  if Region.wanted o (yielded ops a.tmps) = true then Oper.wp Tryz.prog o a w K Q else E' := by
 have hw : Region.wanted o (yielded ops a.tmps) = true := by simp [Region.wanted, hgd]
 rw [if_pos hw]
 exact wp_app E s x ho base A n cap xs hs hown ad c news hx hl hnews h1 hn hbase h
end
theorem own_grown {w w' : World} {base : Nat} {e : TypeId} {size n : Nat} {v : Value} {xs : List Value} (h : w.ownsRow base e size v n xs) {row : Option Nat} (hg : w.grownBy w' row) (hne : v.ownBlock = none ∨ v.ownBlock ≠ row) : w'.ownsRow base e size v n xs := h.kept hg hne
theorem own_below {w w' : World} {base : Nat} {e : TypeId} {size n : Nat} {v : Value} {xs : List Value} (h : w.ownsRow base e size v n xs) (hb : Below w.heap.size w w') : w'.ownsRow base e size v n xs := by
 rcases h.2 with ⟨h6, h7⟩ | ⟨g, cap, cur, h6, h7, h8, h9⟩
 ·exact ⟨h.1, .inl ⟨h6, h7⟩⟩
 ·exact ⟨h.1, .inr ⟨g, cap, cur, h6, h7, (hb.block g (Array.getElem?_eq_some_iff.1 h8).1).trans h8, h9⟩⟩
theorem own_less {w : World} {base base' : Nat} {e : TypeId} {size n : Nat} {v : Value} {xs : List Value} (h : w.ownsRow base e size v n xs) (hb : base' ≤ base) : w.ownsRow base' e size v n xs := by
 rcases h.2 with ⟨h1, h2⟩ | ⟨g, cap, cur, h1, h2, h3⟩
 ·exact ⟨h.1, .inl ⟨h1, h2⟩⟩
 ·exact ⟨h.1, .inr ⟨g, cap, cur, h1, Nat.le_trans hb h2, h3⟩⟩
end Go.Proofs.YthefooacfcagbaaGreatDoor.app
namespace Go.Proofs.YthefooacfcagbaaGreatDoor.app
open Go.RowKit
open lib
set_option linter.unusedVariables false
theorem run_appN {t e : TypeId} {z : Value} {size bytes : Nat} (E : ElemOf t e z size bytes) (w : World) (base : Nat) (v : Value) (n : Nat) (xs : List Value) (hown : w.ownsRow base e size v n xs)
  (B : Nat) (A : Option Addr) (m c : Nat) (news : List Value) (hr : Reads w B size A m news) (h1 : ∀ u ∈ news, u.oneCell' = true) (hn : n + m ≤ 1000000000) (hbase : base ≤ w.heap.size) (ty : TypeId) :
  ∃ A' c' w', (Builtin.append_ #[t, t] ty #[v, .slice A m c]).run Tryz.prog w = .ok (.slice A' (n + m) c') w' ∧ w'.ownsRow base e size (.slice A' (n + m) c') (n + m) (xs ++ news) ∧ w.grownBy w' v.ownBlock := by
 obtain ⟨i0, hi, hz0, hz1, hz2⟩ := info_parts E.info
 have hb := E.by_
 have hbytes : (n + m) * bytes ≤ 140737488355328 := Nat.le_trans (Nat.mul_le_mul hn hb) (by decide)
 rcases A with _ | ad
 ·have hm : m = 0 := by
   rcases Nat.eq_zero_or_pos m with h | h
   ·exact h
   ·obtain ⟨ad, h2, _⟩ := hr.2 h
    cases h2
  subst hm
  obtain rfl : news = [] := List.eq_nil_of_length_eq_zero (by have := hr.1; omega)
  have hrun : (Builtin.append_ #[t, t] ty #[v, .slice none 0 c]).run Tryz.prog w = .ok v w := by
   rcases hown.2 with ⟨rfl, rfl⟩ | ⟨g, cap, cur, rfl, _, _, hnc, _⟩
   ·simp [Builtin.append_, run_underlying E.sl, sizeOf, typeInfo, hi, Builtin.lenOf, Builtin.firstCells]
   ·simp [Builtin.append_, run_underlying E.sl, sizeOf, typeInfo, hi, Builtin.lenOf, Builtin.firstCells, hnc, storeCells]
  obtain ⟨A', c', rfl⟩ := own_form hown
  exact ⟨A', c', w, hrun, by rw [List.append_nil]; exact hown, World.grownBy.refl w _⟩
 ·have hcells : ∀ j u, news[j]? = some u → w.cell? (ad.add j) = some u := fun j u hu => by
   rcases Nat.eq_zero_or_pos m with h | h
   ·subst h
    obtain rfl : news = [] := List.eq_nil_of_length_eq_zero (by have := hr.1; omega)
    cases hu
   ·obtain ⟨ad', h2, _, h3⟩ := hr.2 h
    obtain rfl := Option.some.inj h2
    exact h3 j u hu
  obtain ⟨v', w', hrun, h2, h3, _⟩ := run_append_own (P := Tryz.prog) w base t ty e i0 z size bytes E.sl hi hz0 hz1 hz2 E.zs E.pos v n xs hown ad m c news hr.1 hcells h1 (by unfold maxLen; omega) hbytes hbase
  obtain ⟨A', c', rfl⟩ := own_form h2
  exact ⟨A', c', w', hrun, h2, h3⟩
section
variable {t e : TypeId} {z : Value} {size bytes : Nat} (E : ElemOf t e z size bytes) {o : Oper} {a : Act} {w : World} (s x : Operand)
 (ho : o.op = .call { callee := .builtin .append, args := #[s, x], argTypes := #[t, t] })
 (base : Nat) (v : Value) (n : Nat) (xs : List Value) (hs : a.eval s = v) (hown : w.ownsRow base e size v n xs)
 (B : Nat) (A : Option Addr) (m c : Nat) (news : List Value) (hx : a.eval x = .slice A m c) (hr : Reads w B size A m news) (h1 : ∀ u ∈ news, u.oneCell' = true) (hn : n + m ≤ 1000000000) (hbase : base ≤ w.heap.size)
include E ho hs hown hx hr h1 hn hbase
theorem wp_appN {K : Act → World → Prop} {Q : Exit → Act → World → Prop}
  (h : ∀ A' c' w', w'.ownsRow base e size (.slice A' (n + m) c') (n + m) (xs ++ news) → w.grownBy w' v.ownBlock → K (a.put o.dst (.slice A' (n + m) c')) w') : o.wp Tryz.prog a w K Q := by
 obtain ⟨A', c', w', hr, h2, h3⟩ := run_appN E w base v n xs hown B A m c news hr h1 hn hbase o.type
 unfold Oper.wp execOp
 simp only [ho, resolve, invoke, builtin, Sem.run_bind, Sem.run_pure, Result.andThen_ok, List.map_toArray, List.map_cons, List.map_nil, hs, hx, hr]
 exact h A' c' w' h2 h3
theorem wpList_appN {ops : Array Oper} {rest : List Oper} {Q : Exit → Act → World → Prop} (hgd : o.guard = none)
  (h : ∀ A' c' w', w'.ownsRow base e size (.slice A' (n + m) c') (n + m) (xs ++ news) → w.grownBy w' v.ownBlock → wpList Tryz.prog ops Q rest (a.put o.dst (.slice A' (n + m) c')) w') : wpList Tryz.prog ops Q (o :: rest) a w :=
 wpList_plain hgd fun _ hK => wp_appN E s x ho base v n xs hs hown B A m c news hx hr h1 hn hbase fun A' c' w' h2 h3 => hK _ _ (h A' c' w' h2 h3)
theorem step_appN {ops : Array Oper} {K : Act → World → Prop} {Q : Exit → Act → World → Prop} {E' : Prop} (hgd : o.guard = none)
  (h : ∀ A' c' w', w'.ownsRow base e size (.slice A' (n + m) c') (n + m) (xs ++ news) → w.grownBy w' v.ownBlock → K (a.put o.dst (.slice A' (n + m) c')) w') :
  if Region.wanted o (yielded ops a.tmps) = true then Oper.wp Tryz.prog o a w K Q else E' := by
 have hw : Region.wanted o (yielded ops a.tmps) = true := by simp [Region.wanted, hgd]
 rw [if_pos hw]
 exact wp_appN E s x ho base v n xs hs hown B A m c news hx hr h1 hn hbase h
end
end Go.Proofs.YthefooacfcagbaaGreatDoor.app
namespace Go.Proofs.YthefooacfcagbaaGreatDoor.arr
open Go.RowKit
set_option linter.unusedVariables false
theorem plain_int : Tryz.prog.plainKey 3 = true := by kernel_rfl
theorem cells_int : Tryz.prog.cellsOf 3 = 1 := by kernel_rfl
theorem run_items (w : World) (d : Nat) (xs ys : List Int) (n : Nat) (hx : xs.length = n) (hy : ys.length = n) : ∀ (m j : Nat), j + m = n →
  (Op.eqItems (d + 1) 3 1 (xs.map (.int .i64)).toArray (ys.map (.int .i64)).toArray (List.range' j m)).run Tryz.prog w = .ok (decide (xs.drop j = ys.drop j)) w
 | 0, j, h => by
  rw [List.drop_of_length_le (by omega), List.drop_of_length_le (by omega)]
  simp [Op.eqItems]
 | m + 1, j, h => by
  have ih := run_items w d xs ys n hx hy m (j + 1) (by omega)
  obtain ⟨x, hxj⟩ : ∃ x, xs[j]? = some x := ⟨_, List.getElem?_eq_getElem (by omega)⟩
  obtain ⟨y, hyj⟩ : ∃ y, ys[j]? = some y := ⟨_, List.getElem?_eq_getElem (by omega)⟩
  have p1 := run_part_plain (P := Tryz.prog) w plain_int (xs := (xs.map (Value.int .i64)).toArray) (off := j * 1) (v := .int .i64 x) (by simp [hxj])
  have p2 := run_part_plain (P := Tryz.prog) w plain_int (xs := (ys.map (Value.int .i64)).toArray) (off := j * 1) (v := .int .i64 y) (by simp [hyj])
  have p3 := run_equalIn_int (P := Tryz.prog) w d 3 .i64 .i64 x y Tryz.underlying3
  have e : decide (xs.drop j = ys.drop j) = ((x == y) && decide (xs.drop (j + 1) = ys.drop (j + 1))) := by
   rw [lib.drop_at hxj, lib.drop_at hyj, Bool.eq_iff_iff]
   simp
  rw [List.range'_succ]
  simp only [Op.eqItems, Sem.run_bind, p1, p2, p3, Result.andThen_ok]
  rw [e]
  cases x == y
  ·simp
  ·simpa using ih
theorem run_eq_ints {t : TypeId} {n : Nat} {i : TypeInfo} (w : World) (d : Nat) (ht : Tryz.prog.underlying t = some (.array n 3)) (hi : Tryz.prog.info? 3 = some i) (xs ys : List Int) (hx : xs.length = n) (hy : ys.length = n) :
  (Op.equalIn (d + 1 + 1) t (.agg (xs.map (.int .i64)).toArray) (.agg (ys.map (.int .i64)).toArray)).run Tryz.prog w = .ok (decide (xs = ys)) w := by
 rw [run_equalIn_array (P := Tryz.prog) w (d + 1) _ _ ht hi, cells_int, List.range_eq_range', run_items w d xs ys n hx hy n 0 (by omega)]
 rfl
end Go.Proofs.YthefooacfcagbaaGreatDoor.arr
namespace Go.Proofs.YthefooacfcagbaaGreatDoor.sets
set_option linter.unusedVariables false
def pow2 (j : Nat) : Int := ((2 ^ j : Nat) : Int)
def hasN (s : Int) (i : Nat) : Bool := decide (s / pow2 i % 2 = 1)
def hasB (s i : Int) : Bool := decide (0 ≤ i ∧ i ≤ 62 ∧ hasN s i.toNat = true)
end Go.Proofs.YthefooacfcagbaaGreatDoor.sets
namespace Go.Proofs.YthefooacfcagbaaGreatDoor.sets
set_option linter.unusedVariables false
end Go.Proofs.YthefooacfcagbaaGreatDoor.sets
namespace Go.Proofs.YthefooacfcagbaaGreatDoor.sch
open sets
set_option linter.unusedVariables false
section
variable {X : Type}
def suchN (p : X → Bool) (l : List X) : Nat → Nat
 | 0 => 0
 | k + 1 => suchN p l k ||| (match l[k]? with | some o => if p o = true then 2 ^ k else 0 | none => 0)
end
def p2 (k : Nat) : Nat := 2 ^ k
attribute [irreducible] suchN p2
end Go.Proofs.YthefooacfcagbaaGreatDoor.sch
namespace Go.Proofs.YthefooacfcagbaaGreatDoor.loads
set_option linter.unusedVariables false
def rightB (a : List Int) (d : Int) : Bool := (a.all fun x => decide (0 ≤ x ∧ x ≤ 1000)) && decide ((a.length : Int) = d)
def sameB (a b : List Int) : Bool := decide (a = b)
theorem all_take {p : Int → Bool} {l : List Int} {k : Nat} {x : Int} (h : l[k]? = some x) : (l.drop k).all p = (p x && (l.drop (k + 1)).all p) := by
 obtain ⟨hk, rfl⟩ := List.getElem?_eq_some_iff.1 h
 rw [List.drop_eq_getElem_cons hk, List.all_cons]
def zeros (d : Nat) : List Int := List.replicate d 0
end Go.Proofs.YthefooacfcagbaaGreatDoor.loads
namespace Go.Proofs.YthefooacfcagbaaGreatDoor.eqg
open Go.RowKit
open lib rd
set_option linter.unusedVariables false
section
variable {X : Type}
def eqGo (p : X → X → Bool) : List X → List X → Bool
 | x :: xs, y :: ys => p x y && eqGo p xs ys
 | _, _ => true
def eqL (p : X → X → Bool) (a b : List X) : Bool := decide (a.length = b.length) && eqGo p a b
theorem eqGo_step {p : X → X → Bool} {a b : List X} {k : Nat} {x y : X} (hx : a[k]? = some x) (hy : b[k]? = some y) : eqGo p (a.drop k) (b.drop k) = (p x y && eqGo p (a.drop (k + 1)) (b.drop (k + 1))) := by
 rw [drop_at' hx, drop_at' hy]
 rfl
theorem eqGo_nil {p : X → X → Bool} {b : List X} : eqGo p [] b = true := by cases b <;> rfl
theorem eqGo_end {p : X → X → Bool} {a b : List X} {k : Nat} (h : a.length ≤ k) : eqGo p (a.drop k) (b.drop k) = true := by
 rw [List.drop_of_length_le h]
 exact eqGo_nil
theorem eqL_no {p : X → X → Bool} {a b : List X} (h : a.length ≠ b.length) : eqL p a b = false := by unfold eqL; rw [decide_eq_false h]; rfl
theorem eqL_go {p : X → X → Bool} {a b : List X} (h : a.length = b.length) : eqL p a b = eqGo p (a.drop 0) (b.drop 0) := by unfold eqL; rw [decide_eq_true h]; rfl
theorem eqGo_self {p : X → X → Bool} (h : ∀ x, p x x = true) : ∀ a : List X, eqGo p a a = true
 | [] => rfl
 | x :: xs => by simp only [eqGo, h x, eqGo_self h xs, Bool.and_self]
theorem eqL_self {p : X → X → Bool} (h : ∀ x, p x x = true) (a : List X) : eqL p a a = true := by
 unfold eqL
 rw [eqGo_self h]
 simp
end
def twoEq (x y : Int × Int) : Bool := x.1 == y.1 && x.2 == y.2
theorem twoEq_self (x : Int × Int) : twoEq x x = true := by unfold twoEq; simp
theorem row_Str {w : World} {B : Nat} {A : Option Addr} {l : List ByteArray} (h : RowAt rStr w B A l) {i : Nat} {t : ByteArray} (hi : l[i]? = some t) : ∃ ad : Addr, A = some ad ∧ ad.block < B ∧ w.cell? (ad.add i) = some (.string t) ∧ t.size ≤ 140737488351232 := by
 obtain ⟨ad, cs, hA, hb, ⟨rfl, hs⟩, hc⟩ := h.2 i t hi
 have := hc 0 _ rfl
 rw [show i * rStr.size + 0 = i by simp [rStr]] at this
 exact ⟨ad, hA, hb, this, hs⟩
theorem row_Two {w : World} {B : Nat} {A : Option Addr} {l : List (Int × Int)} (h : RowAt (rPair rInt rInt) w B A l) {i : Nat} {t : Int × Int} (hi : l[i]? = some t) :
  ∃ ad : Addr, A = some ad ∧ ad.block < B ∧ (w.cell? (ad.add (i * 2)) = some (.int .i64 t.1) ∧ w.cell? ⟨(ad.add (i * 2)).block, (ad.add (i * 2)).off + 1, none⟩ = some (.int .i64 t.2)) ∧ (-9223372036854775808 ≤ t.1 ∧ t.1 ≤ 9223372036854775807) ∧ (-9223372036854775808 ≤ t.2 ∧ t.2 ≤ 9223372036854775807) := by
 obtain ⟨ad, cs, hA, hb, ⟨_, _, rfl, ⟨rfl, h1⟩, ⟨rfl, h2⟩⟩, hc⟩ := h.2 i t hi
 refine ⟨ad, hA, hb, ⟨hc 0 _ rfl, ?_⟩, h1, h2⟩
 rw [← add_split]
 exact hc 1 _ rfl
end Go.Proofs.YthefooacfcagbaaGreatDoor.eqg
namespace Go.Proofs.YthefooacfcagbaaGreatDoor.els
open Go.RowKit
open lib rd app
set_option linter.unusedVariables false
structure El where
 pre : List Value
 nums : List Int
 post : List Value
def El.cells (e : El) (A : Option Addr) (c : Nat) : List Value := e.pre ++ (.slice A e.nums.length c :: e.post)
def IntsOff (w : World) (P : Nat → Prop) (A : Option Addr) (l : List Int) : Prop := Ints w w.heap.size A l ∧ (0 < l.length → ∃ ad, A = some ad ∧ P ad.block)
theorem IntsOff.low {w : World} {B : Nat} {P : Nat → Prop} {A : Option Addr} {l : List Int} (h : Ints w B A l) (hB : B ≤ w.heap.size) (hP : ∀ b, b < B → P b) : IntsOff w P A l := by
 refine ⟨h.more hB, fun hl => ?_⟩
 obtain ⟨ad, _, hA, hb, _⟩ := h.at_ hl
 exact ⟨ad, hA, hP _ hb⟩
theorem IntsOff.own {w : World} {base c : Nat} {P : Nat → Prop} {A : Option Addr} {l : List Int} {e : TypeId} (h : w.ownsRow base e 1 (.slice A l.length c) l.length (l.map (.int .i64))) (hl : l.length ≤ 17592186043904) (hP : ∀ b, base ≤ b → P b) : IntsOff w P A l := by
 refine ⟨Ints.of_own h hl, fun h0 => ?_⟩
 rcases h.2 with ⟨h5, h6⟩ | ⟨g, cap, cur, h5, h6, h7⟩
 ·omega
 ·injection h5 with h5 _ _
  exact ⟨_, h5, hP g h6⟩
theorem IntsOff.weak {w : World} {P P' : Nat → Prop} {A : Option Addr} {l : List Int} (h : IntsOff w P A l) (hP : ∀ b, b < w.heap.size → P b → P' b) : IntsOff w P' A l := by
 refine ⟨h.1, fun h0 => ?_⟩
 obtain ⟨ad, hA, hp⟩ := h.2 h0
 obtain ⟨ad', _, hA', hb, _⟩ := h.1.at_ h0
 obtain rfl : ad = ad' := Option.some.inj (hA.symm.trans hA')
 exact ⟨ad, hA, hP _ hb hp⟩
def Stays (w w' : World) (row : Option Nat) : Prop := w.heap.size ≤ w'.heap.size ∧ ∀ p : Addr, p.block < w.heap.size → some p.block ≠ row → w'.cell? p = w.cell? p
theorem Stays.grown {w w' : World} {row : Option Nat} (h : w.grownBy w' row) : Stays w w' row := ⟨h.size, fun p hp hr => by
 cases hc : w.cell? p with
 | some v => exact h.cell hc (by first | exact hr | exact fun e => hr e.symm)
 | none =>
  have h2 := h.block p.block hp (by first | exact hr | exact fun e => hr e.symm)
  unfold World.cell? at hc ⊢
  rw [h2]
  exact hc⟩
theorem Stays.below {w w' : World} {row : Option Nat} (h : Below w.heap.size w w') : Stays w w' row := ⟨h.size, fun p hp _ => h.cell hp⟩
theorem IntsOff.stay {w w' : World} {row : Option Nat} {P P' : Nat → Prop} {A : Option Addr} {l : List Int} (h : IntsOff w P A l) (hs : Stays w w' row) (hne : ∀ b, b < w.heap.size → P b → some b ≠ row) (hP : ∀ b, b < w.heap.size → P b → P' b) : IntsOff w' P' A l := by
 obtain ⟨h1, h2⟩ := h
 rcases Nat.eq_zero_or_pos l.length with h0 | h0
 ·have : l = [] := List.eq_nil_of_length_eq_zero h0
  subst this
  exact ⟨⟨⟨rfl, fun h => absurd h (by decide)⟩, by simp⟩, fun h => absurd h (by decide)⟩
 ·obtain ⟨ad, hA, hp⟩ := h2 h0
  obtain ⟨⟨hlen, hrd⟩, hl⟩ := h1
  obtain ⟨ad', hA', hb, hc⟩ := hrd h0
  obtain rfl : ad = ad' := Option.some.inj (hA.symm.trans hA')
  refine ⟨⟨⟨hlen, fun _ => ⟨ad, hA, Nat.lt_of_lt_of_le hb hs.1, fun j u hu => ?_⟩⟩, hl⟩, fun _ => ⟨ad, hA, hP _ hb hp⟩⟩
  exact (hs.2 _ (by rw [block_of_add]; exact hb) (by rw [block_of_add]; exact hne _ hb hp)).trans (hc j u hu)
inductive ElsIn {X : Type} (f : X → El) (w : World) (P : Nat → Prop) : List Value → List X → Prop
 | nil : ElsIn f w P [] []
 | snoc {cs : List Value} {xs : List X} {x : X} {A : Option Addr} (c : Nat) : ElsIn f w P cs xs → IntsOff w P A (f x).nums → ElsIn f w P (cs ++ (f x).cells A c) (xs ++ [x])
section
variable {X : Type} {f : X → El}
theorem ElsIn.stay {w w' : World} {row : Option Nat} {P P' : Nat → Prop} {cs : List Value} {xs : List X} (h : ElsIn f w P cs xs) (hs : Stays w w' row) (hne : ∀ b, b < w.heap.size → P b → some b ≠ row) (hP : ∀ b, b < w.heap.size → P b → P' b) : ElsIn f w' P' cs xs := by
 induction h with
 | nil => exact .nil
 | snoc c _ hi ih => exact .snoc c ih (hi.stay hs hne hP)
theorem ElsIn.at_ {s : Nat} (hs : ∀ x A c, ((f x).cells A c).length = s) {w : World} {P : Nat → Prop} {cs : List Value} {xs : List X} (h : ElsIn f w P cs xs) :
  cs.length = xs.length * s ∧ ∀ (i : Nat) x, xs[i]? = some x → ∃ A c, IntsOff w P A (f x).nums ∧ ∀ (j : Nat) u, ((f x).cells A c)[j]? = some u → cs[i * s + j]? = some u := by
 induction h with
 | nil => exact ⟨by simp, fun i x hi => by simp at hi⟩
 | @snoc cs xs x A c _ hi ih =>
  obtain ⟨h1, h2⟩ := ih
  refine ⟨by rw [List.length_append, hs, h1, List.length_append, Nat.add_mul]; simp, fun i y hy => ?_⟩
  rcases Nat.lt_or_ge i xs.length with hlt | hge
  ·rw [List.getElem?_append_left hlt] at hy
   obtain ⟨A', c', h3, h4⟩ := h2 i y hy
   refine ⟨A', c', h3, fun j u hu => ?_⟩
   have hj : j < s := by rw [← hs y A' c']; exact (List.getElem?_eq_some_iff.1 hu).1
   rw [List.getElem?_append_left, h4 j u hu]
   rw [h1]
   have : (i + 1) * s ≤ xs.length * s := Nat.mul_le_mul_right _ hlt
   rw [Nat.succ_mul] at this
   omega
  ·rw [List.getElem?_append_right hge] at hy
   rcases Nat.eq_or_lt_of_le hge with rfl | hlt
   ·rw [Nat.sub_self] at hy
    simp at hy
    subst hy
    refine ⟨A, c, hi, fun j u hu => ?_⟩
    rw [List.getElem?_append_right (by rw [h1]; omega), h1, Nat.add_sub_cancel_left]
    exact hu
   ·rw [List.getElem?_eq_none (by simp; omega)] at hy; cases hy
theorem ElsIn.row {r : Rd X} {w : World} {base c : Nat} {e : TypeId} {A : Option Addr} {P : Nat → Prop} {cs : List Value} {xs : List X} (h : ElsIn f w P cs xs) (hs : ∀ x A c, ((f x).cells A c).length = r.size)
  (hown : w.ownsRow base e r.size (.slice A xs.length c) xs.length cs) (hr : ∀ x ∈ xs, ∀ A c, Ints w w.heap.size A (f x).nums → r.at_ w w.heap.size ((f x).cells A c) x) (hl : xs.length ≤ 17592186043904) : RowAt r w w.heap.size A xs := by
 obtain ⟨_, h2⟩ := h.at_ hs
 refine ⟨hl, fun i x hi => ?_⟩
 obtain ⟨A', c', h3, h4⟩ := h2 i x hi
 rcases hown.2 with ⟨h5, h6⟩ | ⟨g, cap, cur, h5, h6, h7, h8⟩
 ·have := (List.getElem?_eq_some_iff.1 hi).1
  omega
 ·injection h5 with h5 _ _
  subst h5
  exact ⟨⟨g, 0, none⟩, _, rfl, (Array.getElem?_eq_some_iff.1 h7).1, hr x (List.mem_of_getElem? hi) A' c' h3.1, fun j u hu => hown.cells (g := g) rfl _ _ (h4 j u hu)⟩
end
end Go.Proofs.YthefooacfcagbaaGreatDoor.els
namespace Go.Proofs.YthefooacfcagbaaGreatDoor.note
open Go.RowKit
open lib rd
set_option linter.unusedVariables false
theorem errno_info : (Tryz.prog.info? 33).map (fun i => (i.zero, i.size, i.bytes)) = some (some (.int .i64 0), 1, 8) := by kernel_rfl
theorem push_errno {ops : Array Oper} {rest : List Oper} {o : Oper} {a : Act} {Q : Exit → Act → World → Prop} {w : World} (hgd : o.guard = none) (s x : Operand)
  (ho : o.op = .call { callee := .builtin .append, args := #[s, x], argTypes := #[126, 126] })
  (base : Nat) (v : Value) (n : Nat) (xs : List Int) (hs : a.eval s = v) (hown : w.ownsRow base 33 1 v n (xs.map (.int .i64)))
  (u : Int) (hx : a.eval x = .slice (some ⟨w.heap.size, 0, none⟩) 1 1) (hn : n < 17592186044416) (hbase : base ≤ w.heap.size)
  (h : ∀ A c w', w'.ownsRow base 33 1 (.slice A (n + 1) c) (n + 1) ((xs ++ [u]).map (.int .i64)) → Below base w w' → w.heap.size < w'.heap.size → wpList Tryz.prog ops Q rest (a.put o.dst (.slice A (n + 1) c)) w') :
  wpList Tryz.prog ops Q (o :: rest) a (w.alloc (.cells #[.int .i64 u] 33)) := by
 obtain ⟨i0, hi, hz0, hz1, hz2⟩ := info_parts errno_info
 refine wpList_append_own _ hgd s x _ ho base 33 i0 (.int .i64 0) 1 8 Tryz.underlying126 hi hz0 hz1 hz2 rfl (by decide) v n (xs.map (.int .i64)) hs (hown.alloc _) ⟨w.heap.size, 0, none⟩ 1 1 [.int .i64 u] hx rfl (cell_one_new _ _ _) ?_ (by unfold maxLen; omega) (by omega) (by simp; omega) ?_
 ·intro u hu
  simp at hu
  subst hu
  rfl
 intro v' w1 hown' hg _
 obtain ⟨A, c, rfl⟩ := own_form hown'
 refine h A c w1 (by simpa using hown') ?_ ?_
 ·exact ((Below.refl base w).alloc hbase _).grown hg (by simp; omega) (own_base hown)
 ·have := hg.size; simp at this; omega
def BoxRow (w : World) (b base : Nat) (xs : List Int) : Prop :=
 ∃ A c, Boxed w b 126 (.slice A xs.length c) ∧ w.ownsRow base 33 1 (.slice A xs.length c) xs.length (xs.map (.int .i64)) ∧ b < base ∧ base ≤ w.heap.size ∧ xs.length ≤ 100
theorem BoxRow.below {w w' : World} {b base : Nat} {xs : List Int} (h : BoxRow w b base xs) (hb : Below w.heap.size w w') : BoxRow w' b base xs := by
 obtain ⟨A, c, h1, h2, h3, h4, h5⟩ := h
 refine ⟨A, c, (hb.block b (by omega)).trans h1, ?_, h3, Nat.le_trans h4 hb.size, h5⟩
 rcases h2.2 with ⟨h6, h7⟩ | ⟨g, cap, cur, h6, h7, h8, h9⟩
 ·exact ⟨h2.1, .inl ⟨h6, h7⟩⟩
 ·exact ⟨h2.1, .inr ⟨g, cap, cur, h6, h7, (hb.block g (Array.getElem?_eq_some_iff.1 h8).1).trans h8, h9⟩⟩
def AddOut (w : World) (b base : Nat) (xs : List Int) (e : Ending) (w' : World) : Prop :=
 e = .returned (.tuple #[]) ∧ BoxRow w' b base xs ∧ Below b w w' ∧ (∀ k, b < k → k < base → w'.heap[k]? = w.heap[k]?) ∧ w.heap.size ≤ w'.heap.size
def pushIf (xs : List Int) (right : Bool) (u : Int) : List Int := if right then xs else xs ++ [u]
theorem pushIf_len (xs : List Int) (r : Bool) (u : Int) : (pushIf xs r u).length ≤ xs.length + 1 := by unfold pushIf; split <;> simp
theorem pushIf_mem {xs : List Int} {r : Bool} {u x : Int} (h : x ∈ pushIf xs r u) : x ∈ xs ∨ x = u := by
 unfold pushIf at h
 split at h
 ·exact .inl h
 ·rw [List.mem_append] at h
  rcases h with h | h
  ·exact .inl h
  ·exact .inr (by simpa using h)
def ErrsOut (w : World) (xs : List Int) (e : Ending) (w' : World) : Prop :=
 ∃ A c, e = .returned (.slice A xs.length c) ∧ w'.ownsRow w.heap.size 33 1 (.slice A xs.length c) xs.length (xs.map (.int .i64)) ∧ Below w.heap.size w w'
def inB (n a b : Int) : Bool := decide (a ≤ n) && decide (n ≤ b)
theorem inB_bd {n a b : Int} (h : inB n a b = true) : a ≤ n ∧ n ≤ b := by unfold inB at h; simpa using h
def IdxOut (b : Bool) (w : World) (e : Ending) (w' : World) : Prop := ∃ r : Int, e = .returned (.int .i64 r) ∧ decide (0 ≤ r) = b ∧ Below w.heap.size w w'
theorem any_at {α : Type} {p : α → Bool} {l : List α} {k : Nat} {x : α} (h : l[k]? = some x) : (l.drop k).any p = (p x || (l.drop (k + 1)).any p) := by rw [drop_at' h]; rfl
theorem any_end {α : Type} {p : α → Bool} {l : List α} {k : Nat} (h : l.length ≤ k) : (l.drop k).any p = false := by rw [List.drop_of_length_le h]; rfl
theorem all_at {α : Type} {p : α → Bool} {l : List α} {k : Nat} {x : α} (h : l[k]? = some x) : (l.drop k).all p = (p x && (l.drop (k + 1)).all p) := by rw [drop_at' h]; rfl
theorem all_end {α : Type} {p : α → Bool} {l : List α} {k : Nat} (h : l.length ≤ k) : (l.drop k).all p = true := by rw [List.drop_of_length_le h]; rfl
def sameS (a b : ByteArray) : Bool := a.toList == b.toList
end Go.Proofs.YthefooacfcagbaaGreatDoor.note
namespace Go.Proofs.YthefooacfcagbaaGreatDoor.loads
open Go.RowKit
open lib
set_option linter.unusedVariables false
theorem right_any (A : Option Addr) (c : Nat) (l : List Int) (d : Int) (w : World) (B : Nat) (hl : Ints w B A l) :
  Calls Tryz.prog 126 #[.slice A l.length c, .int .i64 d] w fun e w' => e = .returned (.bool (rightB l d)) ∧ w = w' := by
 have hlen := hl.len
 go_enter Tryz.func126, Tryz.ntmps126
 go_wp2
 go_loop [6, 9] (fun _ i => ∃ k : Nat, k ≤ l.length ∧ i = .int .i64 k ∧ Hid ((l.all fun x => decide (0 ≤ x ∧ x ≤ 1000)) = ((l.drop k).all fun x => decide (0 ≤ x ∧ x ≤ 1000)))) (fun _ i => l.length - (intOf i).toNat)
 case atStart => exact ⟨0, by omega, rfl, Lib.hid rfl⟩
 case round =>
  obtain ⟨k, hk, rfl, hr⟩ := hrel
  by_cases hlt : k < l.length
  ·obtain ⟨ad, x, rfl, hadb, hx, hcx⟩ := hl.at_ hlt
   have HX := Lib.hid (all_take (p := fun x => decide (0 ≤ x ∧ x ≤ 1000)) hx)
   clear hx
   go_wp2
   ·go_ret
    exact ⟨ret_bool (by unfold rightB; rw [hr.out, HX.out, decide_eq_false (by omega)]; rfl), rfl⟩
   ·go_round
    case rel => exact ⟨k + 1, by omega, by go_num, Lib.hid (by rw [hr.out, HX.out, decide_eq_true (by omega)]; rfl)⟩
    case measure => simp [intOf]; omega
   ·go_ret
    exact ⟨ret_bool (by unfold rightB; rw [hr.out, HX.out, decide_eq_false (by omega)]; rfl), rfl⟩
  ·have hkn : k = l.length := by omega
   subst hkn
   clear hlt
   go_wp2
   go_ret
   exact ⟨ret_bool (by unfold rightB; rw [hr.out, List.drop_length, Bool.eq_iff_iff]; simp), rfl⟩
end Go.Proofs.YthefooacfcagbaaGreatDoor.loads
namespace Go.Proofs.YthefooacfcagbaaGreatDoor.win
open Go.RowKit
set_option linter.unusedVariables false
abbrev stop (p o c v : Int) : Value := .agg #[.int .i64 p, .int .i64 o, .int .i64 c, .int .i64 v]
def Good (p o c v : Int) : Prop := 0 ≤ p ∧ 0 ≤ o ∧ o ≤ c ∧ c ≤ 4096 ∧ 0 ≤ v ∧ v ≤ 4096
instance (p o c v : Int) : Decidable (Good p o c v) := by unfold Good; exact inferInstance
def chk (p o c v : Int) : Int := if (p = -1 ∧ o = 0 ∧ c = 0 ∧ v = 0) ∨ Good p o c v then 0 else 2
def tickB (n : Int) : Bool := decide (0 ≤ n ∧ n ≤ 4096)
theorem tick_t {n : Int} (h : tickB n = true) : 0 ≤ n ∧ n ≤ 4096 := by simpa [tickB] using h
theorem tick_f {n : Int} (h : ¬ tickB n = true) : n < 0 ∨ 4096 < n := by
 simp [tickB] at h
 omega
theorem ret_int {k : IntKind} {a b : Int} (h : a = b) : Ending.returned (.int k a) = .returned (.int k b) := by rw [h]
theorem ret_bool {a b : Bool} (h : a = b) : Ending.returned (.bool a) = .returned (.bool b) := by rw [h]
theorem tick_any (n : Int) (w : World) : Calls Tryz.prog 166 #[.int .i64 n] w fun e w' => e = .returned (.bool (tickB n)) ∧ w = w' := by
 go_enter Tryz.func166, Tryz.ntmps166
 go_wp2
 all_goals go_ret
 all_goals exact ⟨ret_bool (by unfold tickB; first | rfl | (simp; omega) | (simp <;> omega)), rfl⟩
set_option maxHeartbeats 1000000 in
theorem check_any (p o c v : Int) (w : World) : Calls Tryz.prog 128 #[stop p o c v] w fun e w' => e = .returned (.int .i64 (chk p o c v)) ∧ Below w.heap.size w w' := by
 go_enter Tryz.func128, Tryz.ntmps128
 go_wp2_with (go_at_call 166; refine (tick_any _ _).mono ?_; rintro e w' ⟨rfl, rfl⟩)
 all_goals go_ret
 all_goals refine ⟨ret_int ?_, by repeat (first | exact Below.refl _ _ | refine Below.alloc ?_ (by simp) _ | refine Below.setCell ?_ (by simp) _)⟩
 all_goals try have q1 := tick_t (n := o) (by assumption)
 all_goals try have q2 := tick_t (n := c) (by assumption)
 all_goals try have q3 := tick_t (n := v) (by assumption)
 all_goals try have q1 := tick_f (n := o) (by assumption)
 all_goals try have q2 := tick_f (n := c) (by assumption)
 all_goals try have q3 := tick_f (n := v) (by assumption)
 all_goals try have q3 := tick_f (n := v) (by simpa using ‹tickB v = false›)
 all_goals unfold chk Good
 all_goals try simp only [beq_iff_eq, beq_eq_false_iff_ne, ne_eq] at *
 all_goals (split <;> first | rfl | omega)
end Go.Proofs.YthefooacfcagbaaGreatDoor.win
namespace Go.Proofs.YthefooacfcagbaaGreatDoor.eqs
open Go.RowKit
open lib rd
set_option linter.unusedVariables false
def sameB (a b : List Int) : Bool := decide (a = b)
theorem same_step {a b : List Int} {k : Nat} {x y : Int} (hx : a[k]? = some x) (hy : b[k]? = some y) : decide (a.drop k = b.drop k) = (decide (x = y) && decide (a.drop (k + 1) = b.drop (k + 1))) := by
 rw [drop_at hx, drop_at hy, Bool.eq_iff_iff]
 simp
end Go.Proofs.YthefooacfcagbaaGreatDoor.eqs
namespace Go.Proofs.YthefooacfcagbaaGreatDoor.ord
open Go.RowKit
open lib rd typ
set_option linter.unusedVariables false
theorem within_any (a b c : Int) (w : World) : Calls Tryz.prog 127 #[.int .i64 a, .int .i64 b, .int .i64 c] w fun e w' => e = .returned (.bool (decide (b ≤ a) && decide (a ≤ c))) ∧ w = w' := by
 by_cases h : b ≤ a
 all_goals
  go_enter Tryz.func127, Tryz.ntmps127
  go_wp2
  go_ret
  exact ⟨ret_bool (by first | (simp [h]; done) | (simp; omega)), rfl⟩
theorem in_any (a b c : Int) (w : World) : Calls Tryz.prog 139 #[.int .i64 a, .int .i64 b, .int .i64 c] w fun e w' => e = .returned (.bool (decide (b ≤ a) && decide (a ≤ c))) ∧ w = w' := by
 by_cases h : b ≤ a
 all_goals
  go_enter Tryz.func139, Tryz.ntmps139
  go_wp2
  go_ret
  exact ⟨ret_bool (by first | (simp [h]; done) | (simp; omega)), rfl⟩
end Go.Proofs.YthefooacfcagbaaGreatDoor.ord
namespace Go.Proofs.YthefooacfcagbaaGreatDoor.txt
open Go.RowKit
open lib
set_option linter.unusedVariables false
def digB (c : Int) : Bool := decide (48 ≤ c ∧ c ≤ 57)
def letB (c : Int) : Bool := decide ((97 ≤ c ∧ c ≤ 122) ∨ (65 ≤ c ∧ c ≤ 90) ∨ c = 95)
def chrB (c : UInt8) : Bool := letB (c.toNat : Int) || digB (c.toNat : Int)
def nameB (s : ByteArray) : Bool := decide (1 ≤ s.size ∧ s.size ≤ 16) && !digB ((s.data.toList.headD 0).toNat : Int) && s.data.toList.all chrB
theorem digit_any (c : Int) (w : World) : Calls Tryz.prog 114 #[.int .u8 c] w fun e w' => e = .returned (.bool (digB c)) ∧ w = w' := by
 by_cases h1 : 48 ≤ c
 ·by_cases h2 : c ≤ 57
  ·have h : digB c = true := by unfold digB; rw [decide_eq_true ⟨h1, h2⟩]
   rw [h]
   go_enter Tryz.func114, Tryz.ntmps114
   go_wp2
   go_ret
   exact ⟨ret_bool (by simp <;> omega), rfl⟩
  ·have h : digB c = false := by unfold digB; rw [decide_eq_false (by omega)]
   rw [h]
   go_enter Tryz.func114, Tryz.ntmps114
   go_wp2
   go_ret
   exact ⟨ret_bool (by simp <;> omega), rfl⟩
 ·have h : digB c = false := by unfold digB; rw [decide_eq_false (by omega)]
  rw [h]
  go_enter Tryz.func114, Tryz.ntmps114
  go_wp2
  go_ret
  exact ⟨ret_bool (by simp <;> omega), rfl⟩
theorem rdigit_any (c : Int) (w : World) : Calls Tryz.prog 167 #[.int .u8 c] w fun e w' => e = .returned (.bool (digB c)) ∧ w = w' := by
 by_cases h1 : 48 ≤ c
 ·by_cases h2 : c ≤ 57
  ·have h : digB c = true := by unfold digB; rw [decide_eq_true ⟨h1, h2⟩]
   rw [h]
   go_enter Tryz.func167, Tryz.ntmps167
   go_wp2
   go_ret
   exact ⟨ret_bool (by simp <;> omega), rfl⟩
  ·have h : digB c = false := by unfold digB; rw [decide_eq_false (by omega)]
   rw [h]
   go_enter Tryz.func167, Tryz.ntmps167
   go_wp2
   go_ret
   exact ⟨ret_bool (by simp <;> omega), rfl⟩
 ·have h : digB c = false := by unfold digB; rw [decide_eq_false (by omega)]
  rw [h]
  go_enter Tryz.func167, Tryz.ntmps167
  go_wp2
  go_ret
  exact ⟨ret_bool (by simp <;> omega), rfl⟩
theorem letter_any (c : Int) (w : World) : Calls Tryz.prog 115 #[.int .u8 c] w fun e w' => e = .returned (.bool (letB c)) ∧ w = w' := by
 obtain ⟨R, hR⟩ : ∃ R, letB c = R := ⟨_, rfl⟩
 rw [hR]
 have HR : Hid (letB c = R) := Lib.hid hR
 clear hR
 by_cases h1 : 97 ≤ c
 ·by_cases h2 : c ≤ 122
  all_goals
   go_enter Tryz.func115, Tryz.ntmps115
   go_wp2
   all_goals go_ret
   all_goals exact ⟨ret_bool (by rw [← HR.out]; unfold letB; rw [Bool.eq_iff_iff]; simp; omega), rfl⟩
 ·by_cases h3 : 65 ≤ c
  ·by_cases h4 : c ≤ 90
   all_goals
    go_enter Tryz.func115, Tryz.ntmps115
    go_wp2
    all_goals go_ret
    all_goals exact ⟨ret_bool (by rw [← HR.out]; unfold letB; rw [Bool.eq_iff_iff]; simp; omega), rfl⟩
  ·go_enter Tryz.func115, Tryz.ntmps115
   go_wp2
   all_goals go_ret
   all_goals exact ⟨ret_bool (by rw [← HR.out]; unfold letB; rw [Bool.eq_iff_iff]; simp; omega), rfl⟩
theorem rletter_any (c : Int) (w : World) : Calls Tryz.prog 168 #[.int .u8 c] w fun e w' => e = .returned (.bool (letB c)) ∧ w = w' := by
 obtain ⟨R, hR⟩ : ∃ R, letB c = R := ⟨_, rfl⟩
 rw [hR]
 have HR : Hid (letB c = R) := Lib.hid hR
 clear hR
 by_cases h1 : 97 ≤ c
 ·by_cases h2 : c ≤ 122
  all_goals
   go_enter Tryz.func168, Tryz.ntmps168
   go_wp2
   all_goals go_ret
   all_goals exact ⟨ret_bool (by rw [← HR.out]; unfold letB; rw [Bool.eq_iff_iff]; simp; omega), rfl⟩
 ·by_cases h3 : 65 ≤ c
  ·by_cases h4 : c ≤ 90
   all_goals
    go_enter Tryz.func168, Tryz.ntmps168
    go_wp2
    all_goals go_ret
    all_goals exact ⟨ret_bool (by rw [← HR.out]; unfold letB; rw [Bool.eq_iff_iff]; simp; omega), rfl⟩
  ·go_enter Tryz.func168, Tryz.ntmps168
   go_wp2
   all_goals go_ret
   all_goals exact ⟨ret_bool (by rw [← HR.out]; unfold letB; rw [Bool.eq_iff_iff]; simp; omega), rfl⟩
theorem loop_len (s : ByteArray) : ∀ (m i : Nat) (r : List UInt8), s.size - i = m → (ByteArray.toList.loop s i r).length = r.length + m
 | 0, i, r, h => by
  rw [ByteArray.toList.loop, if_neg (by omega)]
  simp
 | m + 1, i, r, h => by
  rw [ByteArray.toList.loop, if_pos (by omega), loop_len s m (i + 1) _ (by omega)]
  simp; omega
theorem isEmpty_eq (s : ByteArray) : s.toList.isEmpty = decide (s.size = 0) := by
 have h := loop_len s s.size 0 [] (by omega)
 have e : s.toList.length = s.size := by simpa [ByteArray.toList] using h
 rw [Bool.eq_iff_iff, List.isEmpty_iff_length_eq_zero, e, decide_eq_true_eq]
end Go.Proofs.YthefooacfcagbaaGreatDoor.txt
namespace Go.Proofs.YthefooacfcagbaaGreatDoor.txt
open Go.RowKit
open lib
set_option linter.unusedVariables false
theorem all_step (s : ByteArray) (k : Nat) (h : k < s.size) : (s.data.toList.drop k).all chrB = (chrB s[k] && (s.data.toList.drop (k + 1)).all chrB) := by
 have hl : k < s.data.toList.length := by simpa using h
 rw [List.drop_eq_getElem_cons hl, List.all_cons]
 congr 1
theorem head_at (s : ByteArray) (h : 0 < s.size) : s.data.toList.headD 0 = s[0] := by
 have hl : 0 < s.data.toList.length := by simpa using h
 rw [List.headD_eq_head?_getD, List.head?_eq_getElem?, List.getElem?_eq_getElem hl]
 rfl
set_option maxHeartbeats 1000000 in
theorem name_any (s : ByteArray) (hm : s.size ≤ 140737488351232) (w : World) : Calls Tryz.prog 80 #[.string s] w fun e w' => e = .returned (.bool (nameB s)) ∧ w = w' := by
 obtain ⟨R, hR⟩ : ∃ R, nameB s = R := ⟨_, rfl⟩
 rw [hR]
 have HR : Hid (nameB s = R) := Lib.hid hR
 clear hR
 have hE := isEmpty_eq s
 by_cases h0 : 1 ≤ s.size
 ·rw [decide_eq_false (by omega)] at hE
  have hE2 : ¬ s.toList = [] := by intro e; rw [e] at hE; cases hE
  have g3 : (0 : Int) < (s.size : Int) := by omega
  have g4 : (1 : Int) ≤ (s.size : Int) := by omega
  by_cases h1 : s.size ≤ 16
  ·have g2 : ¬ (16 : Int) < (s.size : Int) := by omega
   have hlt0 : 0 < s.size := by omega
   cases hd : digB (s[0].toNat : Int)
   ·have HN : Hid (R = s.data.toList.all chrB) := Lib.hid (by
     rw [← HR.out]
     unfold nameB
     rw [decide_eq_true ⟨h0, h1⟩, head_at s hlt0, hd]
     rfl)
    clear h0 h1
    go_enter Tryz.func80, Tryz.ntmps80
    go_wp2_with (go_at_call 114; refine (digit_any _ _).mono ?_; rintro e w1 ⟨rfl, rfl⟩)
    go_loop [3, 18] (fun _ i => ∃ k : Nat, k ≤ s.size ∧ i = .int .i64 k ∧ Hid (R = (s.data.toList.drop k).all chrB)) (fun _ i => s.size - (intOf i).toNat)
    case atStart => exact ⟨0, by omega, rfl, HN⟩
    case round =>
     obtain ⟨k, hk, rfl, hr⟩ := hrel
     by_cases hlt : k < s.size
     ·have hst := Lib.hid (all_step s k hlt)
      cases hl : letB (s[k].toNat : Int)
      ·cases hg : digB (s[k].toNat : Int)
       ·have HF : Hid (R = false) := Lib.hid (by rw [hr.out, hst.out]; unfold chrB; rw [hl, hg]; rfl)
        go_wp2_with (first | (go_at_call 115; refine (letter_any _ _).mono ?_; rintro e w1 ⟨rfl, rfl⟩) | (go_at_call 114; refine (digit_any _ _).mono ?_; rintro e w1 ⟨rfl, rfl⟩))
        go_ret
        exact ⟨ret_bool HF.out.symm, rfl⟩
       ·have HF : Hid (R = (s.data.toList.drop (k + 1)).all chrB) := Lib.hid (by rw [hr.out, hst.out]; unfold chrB; rw [hl, hg]; rfl)
        go_wp2_with (first | (go_at_call 115; refine (letter_any _ _).mono ?_; rintro e w1 ⟨rfl, rfl⟩) | (go_at_call 114; refine (digit_any _ _).mono ?_; rintro e w1 ⟨rfl, rfl⟩))
        go_round
        case rel => exact ⟨k + 1, by omega, by go_num, HF⟩
        case measure => simp [intOf]; omega
      ·have HF : Hid (R = (s.data.toList.drop (k + 1)).all chrB) := Lib.hid (by rw [hr.out, hst.out]; unfold chrB; rw [hl]; rfl)
       go_wp2_with (first | (go_at_call 115; refine (letter_any _ _).mono ?_; rintro e w1 ⟨rfl, rfl⟩) | (go_at_call 114; refine (digit_any _ _).mono ?_; rintro e w1 ⟨rfl, rfl⟩))
       go_round
       case rel => exact ⟨k + 1, by omega, by go_num, HF⟩
       case measure => simp [intOf]; omega
     ·have HF : Hid (R = true) := Lib.hid (by rw [hr.out, List.drop_of_length_le (by simp; omega)]; rfl)
      go_wp2
      go_ret
      exact ⟨ret_bool HF.out.symm, rfl⟩
   ·have HN : Hid (R = false) := Lib.hid (by
     rw [← HR.out]
     unfold nameB
     rw [head_at s hlt0, hd]
     simp)
    clear h0 h1
    go_enter Tryz.func80, Tryz.ntmps80
    go_wp2_with (go_at_call 114; refine (digit_any _ _).mono ?_; rintro e w1 ⟨rfl, rfl⟩)
    go_ret
    exact ⟨ret_bool HN.out.symm, rfl⟩
  ·have HN : Hid (R = false) := Lib.hid (by
    rw [← HR.out]
    unfold nameB
    rw [decide_eq_false (by omega)]
    rfl)
   have g2 : (16 : Int) < (s.size : Int) := by omega
   clear h0 h1
   go_enter Tryz.func80, Tryz.ntmps80
   go_wp2
   go_ret
   exact ⟨ret_bool HN.out.symm, rfl⟩
 ·have HN : Hid (R = false) := Lib.hid (by
   rw [← HR.out]
   unfold nameB
   rw [decide_eq_false (by omega)]
   rfl)
  rw [decide_eq_true (by omega)] at hE
  have hE2 : s.toList = [] := List.isEmpty_iff.1 hE
  have hz : (s.size : Int) < 1 := by omega
  clear h0 hE
  go_enter Tryz.func80, Tryz.ntmps80
  go_wp2
  go_ret
  exact ⟨ret_bool HN.out.symm, rfl⟩
set_option maxHeartbeats 1000000 in
theorem rname_any (s : ByteArray) (hm : s.size ≤ 140737488351232) (w : World) : Calls Tryz.prog 133 #[.string s] w fun e w' => e = .returned (.bool (nameB s)) ∧ w = w' := by
 obtain ⟨R, hR⟩ : ∃ R, nameB s = R := ⟨_, rfl⟩
 rw [hR]
 have HR : Hid (nameB s = R) := Lib.hid hR
 clear hR
 have hE := isEmpty_eq s
 by_cases h0 : 1 ≤ s.size
 ·rw [decide_eq_false (by omega)] at hE
  have hE2 : ¬ s.toList = [] := by intro e; rw [e] at hE; cases hE
  have g3 : (0 : Int) < (s.size : Int) := by omega
  have g4 : (1 : Int) ≤ (s.size : Int) := by omega
  by_cases h1 : s.size ≤ 16
  ·have g2 : ¬ (16 : Int) < (s.size : Int) := by omega
   have hlt0 : 0 < s.size := by omega
   cases hd : digB (s[0].toNat : Int)
   ·have HN : Hid (R = s.data.toList.all chrB) := Lib.hid (by
     rw [← HR.out]
     unfold nameB
     rw [decide_eq_true ⟨h0, h1⟩, head_at s hlt0, hd]
     rfl)
    clear h0 h1
    go_enter Tryz.func133, Tryz.ntmps133
    go_wp2_with (go_at_call 167; refine (rdigit_any _ _).mono ?_; rintro e w1 ⟨rfl, rfl⟩)
    go_loop [3] (fun i => ∃ k : Nat, k ≤ s.size ∧ i = .int .i64 k ∧ Hid (R = (s.data.toList.drop k).all chrB)) (fun i => s.size - (intOf i).toNat)
    case atStart => exact ⟨0, by omega, rfl, HN⟩
    case round =>
     obtain ⟨k, hk, rfl, hr⟩ := hrel
     by_cases hlt : k < s.size
     ·have hst := Lib.hid (all_step s k hlt)
      cases hl : letB (s[k].toNat : Int)
      ·cases hg : digB (s[k].toNat : Int)
       ·have HF : Hid (R = false) := Lib.hid (by rw [hr.out, hst.out]; unfold chrB; rw [hl, hg]; rfl)
        go_wp2_with (first | (go_at_call 168; refine (rletter_any _ _).mono ?_; rintro e w1 ⟨rfl, rfl⟩) | (go_at_call 167; refine (rdigit_any _ _).mono ?_; rintro e w1 ⟨rfl, rfl⟩))
        go_ret
        exact ⟨ret_bool HF.out.symm, rfl⟩
       ·have HF : Hid (R = (s.data.toList.drop (k + 1)).all chrB) := Lib.hid (by rw [hr.out, hst.out]; unfold chrB; rw [hl, hg]; rfl)
        go_wp2_with (first | (go_at_call 168; refine (rletter_any _ _).mono ?_; rintro e w1 ⟨rfl, rfl⟩) | (go_at_call 167; refine (rdigit_any _ _).mono ?_; rintro e w1 ⟨rfl, rfl⟩))
        go_round
        case rel => exact ⟨k + 1, by omega, by go_num, HF⟩
        case measure => simp [intOf]; omega
      ·have HF : Hid (R = (s.data.toList.drop (k + 1)).all chrB) := Lib.hid (by rw [hr.out, hst.out]; unfold chrB; rw [hl]; rfl)
       go_wp2_with (first | (go_at_call 168; refine (rletter_any _ _).mono ?_; rintro e w1 ⟨rfl, rfl⟩) | (go_at_call 167; refine (rdigit_any _ _).mono ?_; rintro e w1 ⟨rfl, rfl⟩))
       go_round
       case rel => exact ⟨k + 1, by omega, by go_num, HF⟩
       case measure => simp [intOf]; omega
     ·have HF : Hid (R = true) := Lib.hid (by rw [hr.out, List.drop_of_length_le (by simp; omega)]; rfl)
      go_wp2
      go_ret
      exact ⟨ret_bool HF.out.symm, rfl⟩
   ·have HN : Hid (R = false) := Lib.hid (by
     rw [← HR.out]
     unfold nameB
     rw [head_at s hlt0, hd]
     simp)
    clear h0 h1
    go_enter Tryz.func133, Tryz.ntmps133
    go_wp2_with (go_at_call 167; refine (rdigit_any _ _).mono ?_; rintro e w1 ⟨rfl, rfl⟩)
    go_ret
    exact ⟨ret_bool HN.out.symm, rfl⟩
  ·have HN : Hid (R = false) := Lib.hid (by
    rw [← HR.out]
    unfold nameB
    rw [decide_eq_false (by omega)]
    rfl)
   have g2 : (16 : Int) < (s.size : Int) := by omega
   clear h0 h1
   go_enter Tryz.func133, Tryz.ntmps133
   go_wp2
   go_ret
   exact ⟨ret_bool HN.out.symm, rfl⟩
 ·have HN : Hid (R = false) := Lib.hid (by
   rw [← HR.out]
   unfold nameB
   rw [decide_eq_false (by omega)]
   rfl)
  rw [decide_eq_true (by omega)] at hE
  have hE2 : s.toList = [] := List.isEmpty_iff.1 hE
  have hz : (s.size : Int) < 1 := by omega
  clear h0 hE
  go_enter Tryz.func133, Tryz.ntmps133
  go_wp2
  go_ret
  exact ⟨ret_bool HN.out.symm, rfl⟩
end Go.Proofs.YthefooacfcagbaaGreatDoor.txt
namespace Go.Proofs.YthefooacfcagbaaGreatDoor.txt
open Go.RowKit
open lib
set_option linter.unusedVariables false
def decD (n : Nat) : UInt8 := (48 + n % 10).toUInt8
def decF : Nat → Nat → ByteArray
 | 0, _ => ⟨#[]⟩
 | f + 1, n => if n < 10 then ⟨#[decD n]⟩ else decF f (n / 10) ++ ⟨#[decD n]⟩
def decS (n : Nat) : ByteArray := if n < 10 then ⟨#[(48 + n).toUInt8]⟩ else if n < 100 then ⟨#[(48 + n / 10).toUInt8, (48 + n % 10).toUInt8]⟩ else decF 20 n
theorem decF_size : ∀ f n, (decF f n).size ≤ f
 | 0, _ => Nat.le_refl _
 | f + 1, n => by
  unfold decF
  split
  ·exact Nat.succ_le_succ (Nat.zero_le _)
  ·rw [ByteArray.size_append]
   exact Nat.succ_le_succ (decF_size f _)
theorem decS_size (n : Nat) : (decS n).size ≤ 20 := by
 unfold decS
 split
 ·exact (by decide : 1 ≤ 20)
 ·split
  ·exact (by decide : 2 ≤ 20)
  ·exact decF_size 20 n
theorem decF_one {f n : Nat} (h : n < 10) : decF (f + 1) n = ⟨#[decD n]⟩ := by
 unfold decF
 rw [if_pos h]
theorem decF_more {f n : Nat} (h : ¬ n < 10) : decF (f + 1) n = decF f (n / 10) ++ ⟨#[decD n]⟩ := by
 rw [decF, if_neg h]
theorem decS_F (n : Nat) : decS n = decF 20 n := by
 unfold decS
 split
 ·rename_i h
  rw [decF_one h]
  unfold decD
  rw [Nat.mod_eq_of_lt h]
 ·rename_i h
  split
  ·rename_i h2
   rw [decF_more h, decF_one (by omega)]
   unfold decD
   rw [Nat.mod_eq_of_lt (show n / 10 < 10 by omega)]
   rfl
  ·rfl
theorem ret_str {a b : ByteArray} (h : a = b) : Ending.returned (.string a) = .returned (.string b) := by rw [h]
def agn : Value → Nat
 | .bool true => 1
 | _ => 0
theorem conv_one (w : World) (z : Int) (b : UInt8) (hb : (b.toNat : Int) = z) : (convert 55 9 (.slice (some ⟨w.heap.size, 0, none⟩) 1 1)).run Tryz.prog (w.alloc (.cells #[.int .u8 z] 5)) = .ok (.string ⟨#[b]⟩) (w.alloc (.cells #[.int .u8 z] 5)) := by
 refine run_convert_bytes_back (P := Tryz.prog) _ 55 9 5 ⟨w.heap.size, 0, none⟩ 1 [b] Tryz.underlying55 Tryz.underlying5 Tryz.underlying9 ?_
 intro j hj
 obtain rfl : j = 0 := by simpa using hj
 have hc := (cell_one_new w (.int .u8 z) 5)
 simp only [List.getElem_cons_zero]
 rw [hb]
 simpa using hc 0 (.int .u8 z) rfl
theorem byte_of {b : UInt8} {n : Nat} (h : (b.toNat : Int) = 48 + (n : Int)) (hn : n < 10) : b = (48 + n).toUInt8 := by
 apply UInt8.toNat_inj.1
 rw [Nat.toUInt8_eq, UInt8.toNat_ofNat']
 omega
theorem byte_ex (m : Nat) : ∃ b : UInt8, (b.toNat : Int) = 48 + (m : Int) % 10 := ⟨(48 + m % 10).toUInt8, by rw [Nat.toUInt8_eq, UInt8.toNat_ofNat']; omega⟩
theorem dec_step {n m f : Nat} {s : ByteArray} {b : UInt8} (h : decF 20 n = decF (f + 1) m ++ s) (hb : (b.toNat : Int) = 48 + (m : Int) % 10) (h10 : ¬ m < 10) : decF 20 n = decF f (m / 10) ++ (⟨#[b]⟩ ++ s) := by
 have e := byte_of (n := m % 10) (b := b) (by omega) (by omega)
 rw [h, decF_more h10, ByteArray.append_assoc]
 unfold decD
 rw [e]
theorem dec_last {n m f : Nat} {s : ByteArray} {b : UInt8} (h : decF 20 n = decF (f + 1) m ++ s) (hb : (b.toNat : Int) = 48 + (m : Int) % 10) (h10 : m < 10) : decF 20 n = ⟨#[b]⟩ ++ s := by
 have e := byte_of (n := m % 10) (b := b) (by omega) (by omega)
 rw [h, decF_one h10]
 unfold decD
 rw [e]
set_option maxRecDepth 100000 in
theorem rdec_any (n : Nat) (hn : n < 1000000000000000000) (w : World) : Calls Tryz.prog 18 #[.int .i64 n] w fun e w' => e = .returned (.string (decS n)) ∧ Below w.heap.size w w' := by
 have hn' : (n : Int) < 1000000000000000000 := by omega
 have hn0 : (0 : Int) ≤ n := by omega
 rw [decS_F n]
 obtain ⟨R, hR⟩ : ∃ R, decF 20 n = R := ⟨_, rfl⟩
 have hR2 := decF_size 20 n
 rw [hR] at hR2 ⊢
 have H0 : Hid (decF 20 n = decF (19 + 1) n ++ ⟨#[]⟩) := Lib.hid (by show decF 20 n = decF 20 n ++ ByteArray.empty; rw [ByteArray.append_empty])
 have HR := Lib.hid hR
 clear hR
 go_enter Tryz.func18, Tryz.ntmps18
 go_wp2
 go_loopw [3, 4, 5, 6] (fun s l g _ wr => Below w.heap.size w wr ∧ ∃ m : Nat, l = .int .i64 m ∧ m < 1000000000000000000 ∧ ((g = .bool true ∧ ∃ (f : Nat) (t : ByteArray), Hid (decF 20 n = decF (f + 1) m ++ t) ∧ Hid (m < 10 ^ (f + 1)) ∧ t.size + f ≤ 40 ∧ s = .string t) ∨ (g = .bool false ∧ m = 0 ∧ s = .string R))) (fun _ l g _ _ => 2 * (intOf l).toNat + agn g)
 case atStart => exact ⟨Below.refl _ _, n, rfl, hn, .inl ⟨rfl, 19, ⟨#[]⟩, H0, Lib.hid (by omega), by decide, rfl⟩⟩
 case round =>
  obtain ⟨hb, m, rfl, hm, hc⟩ := hrel
  obtain ⟨b, hbz⟩ := byte_ex m
  have kc := conv_one wr (48 + (m : Int) % 10) b hbz
  have HB := Lib.hid hbz
  have hneg : ¬ ((m : Int) % 10 < 0) := by omega
  have hbw := hb.size
  have hn2 : (0 : Int) ≤ (m : Int) / 10 := by omega
  clear hbz
  rcases hc with ⟨rfl, f, t, hmn, hmf, ht, rfl⟩ | ⟨rfl, rfl, rfl⟩
  ·have ht2 : t.size ≤ 40 := by omega
   by_cases h10 : m < 10
   ·have hz : ((m : Int) / 10) = 0 := by omega
    have hd : Hid (R = ⟨#[b]⟩ ++ t) := Lib.hid (by rw [← HR.out]; exact dec_last hmn.out HB.out h10)
    go_wp2
    go_roundw
    case rel => exact ⟨hb.alloc hbw _, 0, by go_num, by omega, .inr ⟨rfl, rfl, by rw [hd.out]⟩⟩
    case measure => simp [intOf, agn]
   ·rcases f with _ | f
    ·exact absurd hmf.out (by omega)
    have hd : Hid (decF 20 n = decF (f + 1) (m / 10) ++ (⟨#[b]⟩ ++ t)) := Lib.hid (dec_step hmn.out HB.out h10)
    have hsz : Hid ((⟨#[b]⟩ ++ t : ByteArray).size + f ≤ 40) := Lib.hid (by
     rw [ByteArray.size_append]
     have e1 : (⟨#[b]⟩ : ByteArray).size = 1 := rfl
     omega)
    have hmf2 : Hid (m / 10 < 10 ^ (f + 1)) := Lib.hid (by have := hmf.out; rw [Nat.pow_succ] at this; omega)
    obtain ⟨q, hq⟩ : ∃ q, m / 10 = q := ⟨_, rfl⟩
    have hz : ((m : Int) / 10) = (q : Int) := by omega
    have hq1 : q < 1000000000000000000 := by omega
    have hq2 : (q : Int) ≠ 0 := by omega
    have hq3 : ((q : Int) != 0) = true := by simp; omega
    have hq4 : ((q : Int) == 0) = false := by simp; omega
    rw [hq] at hd hmf2
    have HZ := Lib.hid (show 10 * q ≤ m by omega)
    clear hq
    go_wp2
    go_roundw
    case rel => exact ⟨hb.alloc hbw _, q, by go_num, by omega, .inl ⟨rfl, f, _, hd, hmf2, hsz.out, rfl⟩⟩
    case measure => simp [intOf, agn]; omega
  ·clear kc hneg hn hn' hn0 hm hn2 HB
   go_wp2
   go_ret
   exact ⟨rfl, hb⟩
end Go.Proofs.YthefooacfcagbaaGreatDoor.txt
namespace Go.Proofs.YthefooacfcagbaaGreatDoor.txt
open Go.RowKit
open lib
set_option linter.unusedVariables false
end Go.Proofs.YthefooacfcagbaaGreatDoor.txt
namespace Go.Proofs.YthefooacfcagbaaGreatDoor.flts
open Go.RowKit
open lib rd typ txt app
set_option linter.unusedVariables false
theorem fault_elem : ElemOf 50 53 (.agg #[.int .i64 0, .string ⟨#[]⟩]) 2 24 := ⟨Tryz.underlying50, by kernel_rfl, rfl, by decide, by decide⟩
def fcs (fs : List Flt) : List Value := fs.flatMap fun f => [.int .i64 f.err, .string f.at_]
theorem fcs_snoc (fs : List Flt) (f : Flt) : fcs (fs ++ [f]) = fcs fs ++ [.int .i64 f.err, .string f.at_] := by simp [fcs]
def Fown (w : World) (base : Nat) (A : Option Addr) (c : Nat) (fs : List Flt) : Prop := w.ownsRow base 53 2 (.slice A fs.length c) fs.length (fcs fs)
theorem row_place {w : World} {base c : Nat} {e : TypeId} {A : Option Addr} {l : List Int} (h : w.ownsRow base e 1 (.slice A l.length c) l.length (l.map (.int .i64))) :
  ∃ g, base ≤ g ∧ (0 < l.length → A = some ⟨g, 0, none⟩ ∧ g < w.heap.size) ∧ ∀ q, q < l.length → w.cell? ⟨g, q, none⟩ = some (.int .i64 (l[q]?.getD 0)) := by
 rcases h.2 with ⟨h1, h2⟩ | ⟨g, cap, cur, h1, h2, h3, h4⟩
 ·exact ⟨base, Nat.le_refl _, fun hh => absurd hh (by omega), fun q hq => absurd hq (by omega)⟩
 ·injection h1 with h1 _ _
  subst h1
  refine ⟨g, h2, fun _ => ⟨rfl, (Array.getElem?_eq_some_iff.1 h3).1⟩, fun q hq => ?_⟩
  rw [h.cellAt q (by omega), List.getElem?_map, List.getElem?_eq_getElem hq]
  rfl
def mkF (i : Nat) (E : List Int) : List Flt := E.map fun e => ⟨e, decS i⟩
theorem mkF_take {i : Nat} {E : List Int} {q : Nat} {x : Int} (h : E[q]? = some x) : mkF i (E.take (q + 1)) = mkF i (E.take q) ++ [⟨x, decS i⟩] := by
 obtain ⟨h1, h2⟩ := List.getElem?_eq_some_iff.1 h
 unfold mkF
 rw [List.take_succ_eq_append_getElem h1, h2, List.map_append]
 rfl
def FltsOut (w : World) (fs : List Flt) (e : Ending) (w' : World) : Prop := ∃ A c, e = .returned (.slice A fs.length c) ∧ Fown w' w.heap.size A c fs ∧ Below w.heap.size w w'
theorem flts_row {w : World} {base c : Nat} {A : Option Addr} {fs : List Flt} (h : Fown w base A c fs) (hf : ∀ f ∈ fs, FltFits f) (hl : fs.length ≤ 17592186043904) : RowAt rFlt w w.heap.size A fs :=
 rowAt_own (cells := fun f => [.int .i64 f.err, .string f.at_]) (fun _ => rfl) h (fun f hf' => rFlt_mk (hf f hf')) hl (by decide)
end Go.Proofs.YthefooacfcagbaaGreatDoor.flts
namespace Go.Proofs.YthefooacfcagbaaGreatDoor.idx
open Go.RowKit
open lib rd
set_option linter.unusedVariables false
set_option linter.unusedSimpArgs false
end Go.Proofs.YthefooacfcagbaaGreatDoor.idx
namespace Go.Proofs.YthefooacfcagbaaGreatDoor.big
open Go.RowKit
open lib app
set_option linter.unusedVariables false
structure StructOf (t : TypeId) (n : Nat) : Prop where
 un : ∃ fs, Tryz.prog.underlying t = some (.struct fs)
 size : (Tryz.prog.info? t).map (·.size) = some n
theorem wpList_storeB {t : TypeId} {n : Nat} (T : StructOf t n) {ops : Array Oper} {rest : List Oper} {o : Oper} {a : Act} {Q : Exit → Act → World → Prop} {w : World} (hgd : o.guard = none) (p v : Operand) (ho : o.op = Op.store t p v)
  (g : Nat) (old cs : Array Value) (hp : a.eval p = .pointer (some ⟨g, 0, none⟩)) (hv : a.eval v = .agg cs) (hb : w.heap[g]? = some (.cells old t (0, 0))) (hold : old.size = n) (hn : cs.size = n) (h1 : cs.all (·.oneCell') = true)
  (h : ∀ w', w'.heap[g]? = some (.cells cs t (0, 0)) → (∀ k, k ≠ g → w'.heap[k]? = w.heap[k]?) → w'.heap.size = w.heap.size → Below g w w' → wpList Tryz.prog ops Q rest (a.put o.dst undef) w') : wpList Tryz.prog ops Q (o :: rest) a w := by
 refine wpList_plain hgd fun _ hK => ?_
 have hr := run_storeVar_row (P := Tryz.prog) w g t t old cs hb (by rw [T.size, hn]) (by rw [hold, hn]) h1
 have hr2 : (Instr.storeAt t (.pointer (some ⟨g, 0, none⟩)) (.agg cs)).run Tryz.prog w = .ok () (w.setRow g cs) := by
  simp only [Instr.storeAt, Instr.sureAddr, Sem.run_bind, Sem.run_pure, Result.andThen]
  exact hr
 unfold Oper.wp execOp
 simp only [ho, hp, hv, Sem.run_bind, hr2, Result.andThen_ok, Sem.run_pure]
 have hot : ∀ k, k ≠ g → (w.setRow g cs).heap[k]? = w.heap[k]? := fun k hk => by
  simp only [World.setRow, Array.getElem?_modify]
  rw [if_neg (fun e => hk e.symm)]
 have hsz : (w.setRow g cs).heap.size = w.heap.size := by simp [World.setRow]
 exact hK _ _ (h _ (setRow_heap w g old cs t (0, 0) hb) hot hsz ⟨rfl, rfl, rfl, Nat.le_of_eq hsz.symm, fun k hk => hot k (by omega)⟩)
theorem wpList_storeL {t : TypeId} {n : Nat} (T : StructOf t n) {ops : Array Oper} {rest : List Oper} {o : Oper} {a : Act} {Q : Exit → Act → World → Prop} {w : World} (hgd : o.guard = none) (p v : Operand) (ho : o.op = Op.store t p v)
  (g : Nat) (old cs : List Value) (hp : a.eval p = .pointer (some ⟨g, 0, none⟩)) (hv : a.eval v = .agg cs.toArray) (hb : w.heap[g]? = some (.cells old.toArray t (0, 0))) (hold : old.length = n) (hn : cs.length = n) (h1 : ∀ u ∈ cs, u.oneCell' = true)
  (h : ∀ w', w'.heap[g]? = some (.cells cs.toArray t (0, 0)) → (∀ k, k ≠ g → w'.heap[k]? = w.heap[k]?) → w'.heap.size = w.heap.size → Below g w w' → wpList Tryz.prog ops Q rest (a.put o.dst undef) w') : wpList Tryz.prog ops Q (o :: rest) a w :=
 wpList_storeB T hgd p v ho g old.toArray cs.toArray hp hv hb (by simpa using hold) (by simpa using hn) (Array.all_eq_true_iff_forall_mem.2 fun u hu => h1 u (by simpa using hu)) h
structure BuildOf (t : TypeId) (z : Value) (places : Array (Nat × Nat)) : Prop where
 un : ∃ fs, Tryz.prog.underlying t = some (.struct fs) ∧ ∀ w, (fs.mapM fun f => do pure (f.offset, ← sizeOf f.type) : Sem (Array (Nat × Nat))).run Tryz.prog w = .ok places w
 zero : ∀ w, (zeroValue t).run Tryz.prog w = .ok z w
theorem run_buildF {t : TypeId} {z : Value} {places : Array (Nat × Nat)} (T : BuildOf t z places) {parts : Array (Nat × Value)} {cells : Array Value} (hf : Instr.fill (places[·]?) z.cells parts.toList = some cells) (w : World) : (Instr.build t parts).run Tryz.prog w = .ok (.agg cells) w := by
 obtain ⟨fs, hu, hp⟩ := T.un
 unfold Instr.build
 simp only [Sem.run_bind, T.zero, Result.andThen_ok, run_underlying hu, hp, hf, Sem.run_pure]
end Go.Proofs.YthefooacfcagbaaGreatDoor.big
namespace Go.Proofs.YthefooacfcagbaaGreatDoor.big
open Go.RowKit
open lib app rd
set_option linter.unusedVariables false
def CellsAt (w : World) (ad : Addr) (cs : List Value) : Prop := ∀ (j : Nat) (u : Value), cs[j]? = some u → w.cell? (ad.add j) = some u
theorem CellsAt.below {w w' : World} {B : Nat} {ad : Addr} {cs : List Value} (h : CellsAt w ad cs) (hb : Below B w w') (ha : ad.block < B) : CellsAt w' ad cs := fun j u hu => (hb.cell (by rw [block_of_add]; exact ha)).trans (h j u hu)
theorem CellsAt.heap {w w' : World} {ad : Addr} {cs : List Value} (h : CellsAt w ad cs) (hb : w'.heap[ad.block]? = w.heap[ad.block]?) : CellsAt w' ad cs := fun j u hu => by
 rw [← h j u hu]
 unfold World.cell?
 rw [block_of_add, hb]
theorem run_loadS {t : TypeId} {n : Nat} (T : StructOf t n) {w : World} {ad : Addr} {cs : List Value} (hc : CellsAt w ad cs) (hn : cs.length = n) : (Instr.loadAt t (.pointer (some ad))).run Tryz.prog w = .ok (.agg cs.toArray) w := by
 obtain ⟨fs, hu⟩ := T.un
 have hl := run_loadCells_list (P := Tryz.prog) w ad cs hc
 cases hq : Tryz.prog.info? t with
 | none => have := T.size; simp [hq] at this
 | some i =>
  have hs : i.size = cs.length := by
   have := T.size
   rw [hq] at this
   simp at this
   omega
  have hagg : (isAgg t).run Tryz.prog w = .ok true w := by
   unfold isAgg
   rw [Sem.run_bind, run_underlying hu w]
   simp
  simp [Instr.loadAt, Instr.sureAddr, loadVar, Sem.run_bind, hagg, sizeOf, typeInfo, hq, hs, hl]
theorem exec_loadS {t : TypeId} {n : Nat} (T : StructOf t n) {ρ : Operand → Value} {o : Oper} {p : Operand} {ad : Addr} {w : World} {cs : List Value} (ho : o.op = .load t p) (hρ : ρ p = .pointer (some ad)) (hc : CellsAt w ad cs) (hn : cs.length = n) :
  Sem.run Tryz.prog (execOp ρ o) w = .ok (.value (.agg cs.toArray)) w := by
 unfold execOp
 simp only [ho, hρ, Sem.run_bind, run_loadS T hc hn, Result.andThen_ok, Sem.run_pure]
theorem wpList_loadG {t : TypeId} {n : Nat} (T : StructOf t n) {ops : Array Oper} {rest : List Oper} {o : Oper} {a : Act} {Q : Exit → Act → World → Prop} {w : World} (p : Operand) (ho : o.op = Op.load t p)
  (ad : Addr) (cs : List Value) (hw : Region.wanted o (yielded ops a.tmps) = true) (hp : a.eval p = .pointer (some ad)) (hc : CellsAt w ad cs) (hn : cs.length = n) (h : wpList Tryz.prog ops Q rest (a.put o.dst (.agg cs.toArray)) w) : wpList Tryz.prog ops Q (o :: rest) a w := by
 refine wpList_step fun _ hK => ?_
 rw [if_pos hw]
 have hr := run_loadS T hc hn
 unfold Oper.wp execOp
 simp only [ho, hp, Sem.run_bind, hr, Result.andThen_ok, Sem.run_pure]
 exact hK _ _ h
end Go.Proofs.YthefooacfcagbaaGreatDoor.big
namespace Go.Proofs.YthefooacfcagbaaGreatDoor.rd
open Go.RowKit
open lib big
theorem RowAt.elem {X : Type} {r : Rd X} {w : World} {B : Nat} {A : Option Addr} {l : List X} (h : RowAt r w B A l) {i : Nat} {x : X} (hi : l[i]? = some x) : ∃ ad cs, A = some ad ∧ ad.block < B ∧ r.at_ w B cs x ∧ CellsAt w (ad.add (i * r.size)) cs := by
 obtain ⟨ad, cs, h1, h2, h3, h4⟩ := h.2 i x hi
 exact ⟨ad, cs, h1, h2, h3, fun j u hu => by rw [add_of_add]; exact h4 j u hu⟩
end Go.Proofs.YthefooacfcagbaaGreatDoor.rd
namespace Go.Proofs.YthefooacfcagbaaGreatDoor.mrk
open Go.RowKit Go.Maps
open lib
set_option linter.unusedVariables false
def hasB {X : Type} [DecidableEq X] (l : List X) (x : X) : Bool := decide (x ∈ l)
structure KeyEnc (X : Type) (k t : TypeId) where
 val : X → Value
 ok : X → Prop
 law : Keyed Tryz.prog k
 ht : Tryz.prog.underlying t = some (.map k 4)
 key : ∀ x, ok x → ∃ kl, keyOf Tryz.prog k (val x) = some kl
 inj : ∀ x y, val x = val y → x = y
def Marks {X : Type} [DecidableEq X] {k t : TypeId} (E : KeyEnc X k t) (w : World) (b n : Nat) (l : List X) : Prop :=
 ∃ D : DataW Unit, w.ownsMap Tryz.prog k (plainElem Tryz.prog 4) b n D ∧ ∀ x kl, keyOf Tryz.prog k (E.val x) = some kl → D.atKey kl (.lit (.bool false)) = .lit (.bool (hasB l x))
theorem zero_bool (w : World) : (zeroValue 4).run Tryz.prog w = .ok (.bool false) w := by kernel_rfl
section
variable {X : Type} [DecidableEq X] {k t : TypeId} {E : KeyEnc X k t} {w w' : World} {b n : Nat} {l : List X}
theorem Marks.made (E : KeyEnc X k t) (w : World) : Marks E (w.alloc (.map #[] 0)) w.heap.size 0 [] :=
 ⟨.map [], World.ownsMap_made _ _ _ _, fun x kl h => rfl⟩
theorem Marks.lt (h : Marks E w b n l) : b < w.heap.size := by
 obtain ⟨D, h1, _⟩ := h
 exact h1.lt
theorem Marks.kept (h : Marks E w b n l) {row : Option Nat} (hg : w.grownBy w' row) (hne : some b ≠ row) : Marks E w' b n l := by
 obtain ⟨D, h1, h2⟩ := h
 exact ⟨D, h1.kept hg hne, h2⟩
theorem Marks.below (h : Marks E w b n l) (hb : Below w.heap.size w w') : Marks E w' b n l := by
 have hlt := h.lt
 obtain ⟨D, ⟨es, clock, hbl, F, hs, hD⟩, h2⟩ := h
 exact ⟨D, ⟨es, clock, (hb.block b hlt).trans hbl, F, hs, hD⟩, h2⟩
theorem Marks.look (h : Marks E w b n l) (x : X) (hok : E.ok x) : (Instr.lookup t (.map (some b)) (E.val x) false).run Tryz.prog w = .ok (.bool (hasB l x)) w := by
 obtain ⟨D, h1, h2⟩ := h
 obtain ⟨kl, hkl⟩ := E.key x hok
 obtain ⟨v, ps, hrun, hv⟩ := h1.lookup E.law E.ht (zero_bool w) (plainElem_bool Tryz.underlying4 false) hkl
 rw [h2 x kl hkl] at hv
 rw [hrun]
 unfold plainElem at hv
 cases v <;> simp [Tryz.underlying4] at hv
 all_goals (try (obtain ⟨hv, _⟩ := hv))
 all_goals (try rw [hv])
theorem Marks.set (h : Marks E w b n l) (x : X) (hok : E.ok x) (hn : n < maxLen) : ∃ w', (Instr.mapUpdate t (.map (some b)) (E.val x) (.bool true)).run Tryz.prog w = .ok () w' ∧ Marks E w' b (n + 1) (l ++ [x]) ∧ w.grownBy w' (some b) := by
 obtain ⟨D, h1, h2⟩ := h
 obtain ⟨kl, hkl⟩ := E.key x hok
 have hD := h1.isMap
 obtain ⟨w', hrun, h3, h4⟩ := h1.update E.law E.ht hn hkl (plainElem_bool Tryz.underlying4 true)
 refine ⟨w', hrun, ⟨_, h3, fun y ky hky => ?_⟩, h4⟩
 by_cases hyx : y = x
 ·subst hyx
  rw [hkl] at hky
  cases hky
  rw [atKey_put_same hD (E.law.key hkl)]
  simp [hasB]
 ·have hne : ky ≠ kl := fun e => hyx (E.inj _ _ (E.law.inj hky (by rw [e]; exact hkl)))
  rw [atKey_put_other hne, h2 y ky hky]
  simp [hasB, hyx]
end
theorem wpList_mark_look {X : Type} [DecidableEq X] {k t : TypeId} (E : KeyEnc X k t) {w : World} {ops : Array Oper} {rest : List Oper} {o : Oper} {a : Act} {Q : Exit → Act → World → Prop} (hg : o.guard = none) (m x : Operand) (hop : o.op = Op.lookup t m x false)
  (b n : Nat) (l : List X) (hm : a.eval m = .map (some b)) (h : Marks E w b n l) (y : X) (hx : a.eval x = E.val y) (hok : E.ok y) (hK : wpList Tryz.prog ops Q rest (a.put o.dst (.bool (hasB l y))) w) : wpList Tryz.prog ops Q (o :: rest) a w := by
 refine wpList_plain hg fun K' hK' => ?_
 have hrun := h.look y hok
 unfold Oper.wp
 simp [execOp, hop, hm, hx, hrun, Result.andThen]
 exact hK' _ _ hK
theorem wpList_mark_set {X : Type} [DecidableEq X] {k t : TypeId} (E : KeyEnc X k t) {w : World} {ops : Array Oper} {rest : List Oper} {o : Oper} {a : Act} {Q : Exit → Act → World → Prop} (hg : o.guard = none) (m x v : Operand) (hop : o.op = Op.mapUpdate t m x v)
  (b n : Nat) (l : List X) (hm : a.eval m = .map (some b)) (h : Marks E w b n l) (y : X) (hx : a.eval x = E.val y) (hv : a.eval v = .bool true) (hok : E.ok y) (hn : n < maxLen) (hK : ∀ w', Marks E w' b (n + 1) (l ++ [y]) → w.grownBy w' (some b) → wpList Tryz.prog ops Q rest (a.put o.dst undef) w') : wpList Tryz.prog ops Q (o :: rest) a w := by
 refine wpList_plain hg fun K' hK' => ?_
 obtain ⟨w', hrun, h1, h2⟩ := h.set y hok hn
 unfold Oper.wp
 simp [execOp, hop, hm, hx, hv, hrun, Result.andThen]
 exact hK' _ _ (hK w' h1 h2)
end Go.Proofs.YthefooacfcagbaaGreatDoor.mrk
namespace Go.Proofs.YthefooacfcagbaaGreatDoor.flts
open Go.RowKit
open lib rd typ app mrk
set_option linter.unusedVariables false
theorem cell_heap {w w' : World} {q o : Nat} {v : Option Value} (e : w'.heap[q]? = w.heap[q]?) (h : w.cell? ⟨q, o, none⟩ = v) : w'.cell? ⟨q, o, none⟩ = v := by
 rw [← h]
 unfold World.cell?
 simp only [e]
theorem marks_heap {X : Type} [DecidableEq X] {k t : TypeId} {E : KeyEnc X k t} {w w' : World} {b n : Nat} {l : List X} (h : Marks E w b n l) (e : w'.heap[b]? = w.heap[b]?) : Marks E w' b n l := by
 obtain ⟨D, ⟨es, clock, hbl, h0⟩, h2⟩ := h
 exact ⟨D, ⟨es, clock, e.trans hbl, h0⟩, h2⟩
structure OutP (w : World) (base : Nat) (prot : List Nat) (A : Option Addr) (c : Nat) (fs : List Flt) : Prop where
 own : w.ownsRow base 53 2 (.slice A fs.length c) fs.length (fcs fs)
 ne : ∀ q ∈ prot, (Value.slice A fs.length c).ownBlock ≠ some q
 lt : ∀ q ∈ prot, q < w.heap.size
theorem OutP.below {w w' : World} {base : Nat} {prot : List Nat} {A : Option Addr} {c : Nat} {fs : List Flt} (h : OutP w base prot A c fs) (hb : Below w.heap.size w w') : OutP w' base prot A c fs := ⟨own_below h.own hb, h.ne, fun q hq => Nat.lt_of_lt_of_le (h.lt q hq) hb.size⟩
theorem OutP.less {w : World} {base : Nat} {prot prot' : List Nat} {A : Option Addr} {c : Nat} {fs : List Flt} (h : OutP w base prot A c fs) (hp : ∀ q ∈ prot', q ∈ prot) : OutP w base prot' A c fs := ⟨h.own, fun q hq => h.ne q (hp q hq), fun q hq => h.lt q (hp q hq)⟩
theorem OutP.more {w w' : World} {base : Nat} {prot : List Nat} {A : Option Addr} {c : Nat} {fs : List Flt} (h : OutP w base prot A c fs) (hb : Below w.heap.size w w') {q : Nat} (h1 : w.heap.size ≤ q) (h2 : q < w'.heap.size) : OutP w' base (q :: prot) A c fs := by
 have h' := h.below hb
 refine ⟨h'.own, fun p hp => ?_, fun p hp => ?_⟩
 ·rcases List.mem_cons.1 hp with rfl | hp
  ·intro e
   have := (World.ownsRow.lt h.own _ e).2
   omega
  ·exact h'.ne p hp
 ·rcases List.mem_cons.1 hp with rfl | hp
  ·exact h2
  ·exact h'.lt p hp
theorem OutP.kept {w w' : World} {base : Nat} {prot : List Nat} {A : Option Addr} {c : Nat} {fs : List Flt} (h : OutP w base prot A c fs) {b : Nat} (hb : b ∈ prot) (hg : w.grownBy w' (some b)) : OutP w' base prot A c fs :=
 ⟨own_grown h.own hg (.inr (h.ne b hb)), h.ne, fun q hq => Nat.lt_of_lt_of_le (h.lt q hq) hg.size⟩
theorem OutP.push {w w1 w' : World} {base : Nat} {prot : List Nat} {A : Option Addr} {c : Nat} {fs : List Flt} (h : OutP w base prot A c fs) (hb1 : Below w.heap.size w w1) {f : Flt} {g' c' : Nat}
  (hown : w'.ownsRow base 53 2 (.slice (some ⟨g', 0, none⟩) (fs.length + 1) c') (fs.length + 1) (fcs fs ++ [.int .i64 f.err, .string f.at_])) (hg : w1.grownBy w' (Value.slice A fs.length c).ownBlock)
  (hd : (Value.slice A fs.length c).ownBlock = some g' ∨ w1.heap.size ≤ g') : OutP w' base prot (some ⟨g', 0, none⟩) c' (fs ++ [f]) ∧ ∀ q ∈ prot, w'.heap[q]? = w.heap[q]? := by
 have s1 := hb1.size
 refine ⟨⟨?_, fun q hq => ?_, fun q hq => ?_⟩, fun q hq => ?_⟩
 ·rw [fcs_snoc, List.length_append]
  exact hown
 ·intro e
  have e' : some g' = some q := e
  rcases hd with hd | hd
  ·exact h.ne q hq (hd.trans e')
  ·have := h.lt q hq
   injection e' with e'
   omega
 ·have := h.lt q hq
  have := hg.size
  omega
 ·have hlt := h.lt q hq
  exact (hg.block q (by omega) (fun e => h.ne q hq e.symm)).trans (hb1.block q hlt)
end Go.Proofs.YthefooacfcagbaaGreatDoor.flts
namespace Go.Proofs.YthefooacfcagbaaGreatDoor.lib
theorem hly : (∀ (a : Act) (d : Tmp) (v : Value), a.put (some d) v = { a with tmps := a.tmps.setIfInBounds d v }) ∧ (∀ (a : Act) (v : Value), a.put none v = a)
  ∧ (∀ {α : Type} (l : List α) (i : Nat) (h : i < l.toArray.size), l.toArray[i] = l[i]'(by simpa using h))
  ∧ (∀ {α : Type} (a : α) (l : List α) (i : Nat) (h : i + 1 < (a :: l).length), (a :: l)[i + 1] = l[i]'(by simpa using h))
  ∧ (∀ {α : Type} (a : α) (l : List α) (h : 0 < (a :: l).length), (a :: l)[0] = a)
  ∧ (∀ {α : Type} (l : List α) (i : Nat) (a : α), l.toArray.setIfInBounds i a = (l.set i a).toArray)
  ∧ (∀ {α : Type} (x a : α) (xs : List α), (x :: xs).set 0 a = a :: xs)
  ∧ (∀ {α : Type} (x a : α) (xs : List α) (i : Nat), (x :: xs).set (i + 1) a = x :: xs.set i a) :=
 ⟨fun _ _ _ => rfl, fun _ _ => rfl, fun _ _ _ => rfl, fun _ _ _ _ => rfl, fun _ _ _ => rfl, fun l i a => by simp, fun _ _ _ => rfl, fun _ _ _ _ => rfl⟩
theorem tk {P : Program} {md : Region.Mode} {ops : Array Oper} {Q : Exit → Act → World → Prop} {S : World → Prop} {oi : Oper} {fuel : Nat} {listed : Array Bool} {a : Act} {w : World} {v : Value} (i : Nat) (hi : ops[i]? = some oi)
  (h : wpAnyH P md ops Q S fuel (listed.setIfInBounds i true) (a.put oi.dst v) w)
  (hy : ∀ w, S w → (execOp a.eval oi).run P w = .ok (.value v) w := by (intro w hSw; (try dsimp only at hSw); go_simp; all_goals with_reducible rfl))
  (hh : (Region.noSelect ops && (Region.free md ops listed i && ((Region.ready md ops listed).contains i && Region.wanted oi (yielded ops a.tmps)))) = true := by kernel_rfl)
  (hQ : ∀ c a w, Q (.panic c) (a.put oi.dst v) w → Q (.panic c) a w := by exact fun _ _ _ h => h) (hS : S w := by assumption) : wpAnyH P md ops Q S (fuel + 1) listed a w := by
 simp only [Bool.and_eq_true] at hh
 exact wpAnyH_take hi hh.1 hh.2.1 hh.2.2.1 hQ (Or.inl ⟨hh.2.2.2, hy⟩) hS h
theorem rk {P : Program} {md : Region.Mode} {ops : Array Oper} {Q : Exit → Act → World → Prop} {S : World → Prop} {o : Oper} {fuel : Nat} {listed : Array Bool} {a : Act} {w : World} (i : Nat) (ho : ops[i]? = some o)
  (h : ∀ K' : Act → World → Prop, Shut (∀ a w, S w → (S w → wpAnyH P md ops Q S fuel (listed.setIfInBounds i true) a w) → K' a w) → if Region.wanted o (yielded ops a.tmps) = true then Oper.wp P o a w K' Q else K' (a.put o.dst undef) w)
  (hr : Region.ready md ops listed = [i] := by kernel_rfl) : wpAnyH P md ops Q S (fuel + 1) listed a w :=
 wpAnyH_ready hr (by simp) (AllReadyH.cons ho h AllReadyH.nil)
theorem h4 {a b c d : Prop} (h1 : a) (h2 : b) (h3 : c) (h4 : d) : RowKit.Hid (a ∧ b ∧ c ∧ d) := Lib.hid ⟨h1, h2, h3, h4⟩
end Go.Proofs.YthefooacfcagbaaGreatDoor.lib

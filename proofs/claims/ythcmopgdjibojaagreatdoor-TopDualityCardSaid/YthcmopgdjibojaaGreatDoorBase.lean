/- Joined texts: Lib Rd RdArg OwnR Typ OrdT InsT App AppN Arr SetP BitP SchP LoadP EqG Els Note Right WinK Eqs OrdW TxtA TxtB DecA DecB Flts Idx Big Ld Mrk OutP. -/
import Derived.Test.YthcmopgdjibojaaGreatDoorRows
import Derived.WalkKit
import Derived.WalkSpells
import Derived.WalkLawsBesides
import Derived.Lib.Hide
import Derived.Laws.OwnMore
import Derived.Deep.AppendLies
import Derived.Deep.Draws
import Derived.Maps.AppendAt
import Derived.Laws.MakeOwn
import Derived.ProofKit
import Derived.OpenShut
import Derived.SizedLaws
import Derived.Deep.Matrix
import Derived.Deep.Slices
import Derived.ChangeArms
import Derived.ArgAppend
import Derived.RangeFuncBox
import Derived.OwnWalk
import Derived.ChangeKeysEq
import Derived.Laws.BitsLemmas
import Derived.Deep.QuietTactic
import Derived.BigQuiet
import Derived.Laws.IdiomStrings
import Derived.Laws.Tables
import Derived.Great.BuildSlice
import Derived.Laws.Rows
import Derived.Laws.Cells
import Derived.Maps.OwnSet
import Derived.Maps.OwnOps
import Derived.Maps.Views
import Derived.DeepKeys4
/- Small words on memory: a slice that reads as a list, a row of the call's own that grows by one integer. -/
namespace Go.Proofs.YthcmopgdjibojaaGreatDoor.lib
open Go.RowKit
set_option linter.unusedVariables false

theorem ret_int {k : IntKind} {a b : Int} (h : a = b) : Ending.returned (.int k a) = .returned (.int k b) := by rw [h]
theorem ret_bool {a b : Bool} (h : a = b) : Ending.returned (.bool a) = .returned (.bool b) := by rw [h]
theorem block_of_add (a : Addr) (n : Nat) : (a.add n).block = a.block := by unfold Addr.add; split <;> rfl
theorem add_of_add (a : Addr) (i j : Nat) : (a.add i).add j = a.add (i + j) := by
  unfold Addr.add
  by_cases hi : i = 0 <;> by_cases hj : j = 0 <;> simp [hi, hj, Nat.add_assoc]

/-- A slice's value reads as the list xs; what is read lies below block B. -/
def Reads (w : World) (B size : Nat) (A : Option Addr) (n : Nat) (xs : List Value) : Prop :=
  xs.length = n * size ∧ (0 < n → ∃ ad, A = some ad ∧ ad.block < B ∧ ∀ j u, xs[j]? = some u → w.cell? (ad.add j) = some u)

section
variable {w w' : World} {B B' size n : Nat} {A : Option Addr} {xs : List Value}
theorem Reads.none_ : Reads w B size A 0 [] := ⟨by simp, fun h => absurd h (by omega)⟩
theorem Reads.at_ {k : Nat} (h : Reads w B 1 A n xs) (hk : k < n) : ∃ ad u, A = some ad ∧ ad.block < B ∧ xs[k]? = some u ∧ w.cell? (ad.add k) = some u := by
  obtain ⟨ad, e, hb, hc⟩ := h.2 (by omega)
  have hl : k < xs.length := by have := h.1; omega
  exact ⟨ad, xs[k], e, hb, List.getElem?_eq_getElem hl, hc k _ (List.getElem?_eq_getElem hl)⟩
theorem Reads.keep (h : Reads w B size A n xs) (hk : ∀ p : Addr, p.block < B → w'.cell? p = w.cell? p) : Reads w' B size A n xs :=
  ⟨h.1, fun hn => by
    obtain ⟨ad, e, hb, hc⟩ := h.2 hn
    exact ⟨ad, e, hb, fun j u hu => (hk _ (by rw [block_of_add]; exact hb)).trans (hc j u hu)⟩⟩
theorem Reads.more (h : Reads w B size A n xs) (hB : B ≤ B') : Reads w B' size A n xs :=
  ⟨h.1, fun hn => by
    obtain ⟨ad, e, hb, hc⟩ := h.2 hn
    exact ⟨ad, e, by omega, hc⟩⟩
theorem Reads.below (h : Reads w B size A n xs) (hb : Below B w w') : Reads w' B size A n xs := h.keep fun _ hp => hb.cell hp
theorem Reads.drew (h : Reads w B size A n xs) : Reads w.drew B size A n xs := h
theorem Reads.drewN (h : Reads w B size A n xs) (k : Nat) : Reads (w.drewN k) B size A n xs := h
theorem Reads.alloc (h : Reads w B size A n xs) (hB : B ≤ w.heap.size) (o : Obj) : Reads (w.alloc o) B size A n xs := h.keep fun p hp => World.cell?_alloc_lt w o p (by omega)
theorem Reads.setCell (h : Reads w B size A n xs) {p : Addr} (hB : B ≤ p.block) (u : Value) : Reads (w.setCell p u) B size A n xs :=
  h.keep fun q hq => World.cell?_setCell_other w p q u (fun e => by subst e; omega)
theorem Reads.of_own {base : Nat} {e : TypeId} {c : Nat} (h : w.ownsRow base e size (.slice A n c) n xs) : Reads w w.heap.size size A n xs := by
  refine ⟨h.1, fun hn => ?_⟩
  obtain ⟨g, cap, hv, _, hlt⟩ := h.form hn
  have hA : A = some ⟨g, 0, none⟩ := by injection hv
  subst hA
  exact ⟨_, rfl, hlt, h.cells (g := g) rfl⟩
end

/-- What the call owns is a slice's value. -/
theorem own_form {w : World} {base : Nat} {e : TypeId} {size n : Nat} {v : Value} {xs : List Value} (h : w.ownsRow base e size v n xs) : ∃ A c, v = .slice A n c := by
  rcases h.2 with ⟨rfl, rfl⟩ | ⟨g, cap, cur, rfl, _⟩
  · exact ⟨none, 0, rfl⟩
  · exact ⟨_, _, rfl⟩
theorem own_base {w : World} {base : Nat} {e : TypeId} {size n : Nat} {v : Value} {xs : List Value} (h : w.ownsRow base e size v n xs) : ∀ k, v.ownBlock = some k → base ≤ k := by
  rcases h.2 with ⟨rfl, _⟩ | ⟨g, cap, cur, rfl, hg, _⟩
  · intro k hk; simp [Value.ownBlock] at hk
  · intro k hk
    simp [Value.ownBlock] at hk
    omega

theorem int_info : (Tryz.prog.info? 3).map (fun i => (i.zero, i.size, i.bytes)) = some (some (.int .i64 0), 1, 8) := by kernel_rfl

/-- 'out = append(out, x)' of one integer, out the call's own: the row grows by x. -/
theorem push_int {ops : Array Oper} {rest : List Oper} {o : Oper} {a : Act} {Q : Exit → Act → World → Prop} {w : World} (hgd : o.guard = none) (s x : Operand)
    (ho : o.op = .call { callee := .builtin .append, args := #[s, x], argTypes := #[22, 22] })
    (base : Nat) (v : Value) (n : Nat) (xs : List Int) (hs : a.eval s = v) (hown : w.ownsRow base 3 1 v n (xs.map (.int .i64)))
    (u : Int) (hx : a.eval x = .slice (some ⟨w.heap.size, 0, none⟩) 1 1) (hn : n < 17592186044416) (hbase : base ≤ w.heap.size)
    (h : ∀ A c w', w'.ownsRow base 3 1 (.slice A (n + 1) c) (n + 1) ((xs ++ [u]).map (.int .i64)) → Below base w w' → w.heap.size < w'.heap.size → wpList Tryz.prog ops Q rest (a.put o.dst (.slice A (n + 1) c)) w') :
    wpList Tryz.prog ops Q (o :: rest) a (w.alloc (.cells #[.int .i64 u] 3)) := by
  obtain ⟨i0, hi, hz0, hz1, hz2⟩ := info_parts int_info
  refine wpList_append_own _ hgd s x _ ho base 3 i0 (.int .i64 0) 1 8 Tryz.underlying22 hi hz0 hz1 hz2 rfl (by decide) v n (xs.map (.int .i64)) hs (hown.alloc _) ⟨w.heap.size, 0, none⟩ 1 1 [.int .i64 u] hx rfl (cell_one_new _ _ _) ?_ (by unfold maxLen; omega) (by omega) (by simp; omega) ?_
  · intro u hu
    simp at hu
    subst hu
    rfl
  intro v' w1 hown' hg _
  obtain ⟨A, c, rfl⟩ := own_form hown'
  refine h A c w1 (by simpa using hown') ?_ ?_
  · exact ((Below.refl base w).alloc hbase _).grown hg (by simp; omega) (own_base hown)
  · have := hg.size; simp at this; omega

theorem own_cells {w : World} {base g n cap : Nat} {l : List Int} (h : w.ownsRow base 3 1 (.slice (some ⟨g, 0, none⟩) n cap) n (l.map (.int .i64))) (j : Nat) (hj : j < n) : w.cell? ⟨g, j, none⟩ = some (.int .i64 (l[j]?.getD 0)) := by
  rw [h.cellAt j (by omega)]
  have hl : l.length = n := by simpa using h.1
  rw [List.getElem?_map, List.getElem?_eq_getElem (by omega)]
  rfl

/-- A slice of integers that reads as l, below block B. -/
def Ints (w : World) (B : Nat) (A : Option Addr) (l : List Int) : Prop := Reads w B 1 A l.length (l.map (.int .i64)) ∧ l.length ≤ 17592186043904
theorem Ints.at_ {w : World} {B : Nat} {A : Option Addr} {l : List Int} (h : Ints w B A l) {k : Nat} (hk : k < l.length) : ∃ ad x, A = some ad ∧ ad.block < B ∧ l[k]? = some x ∧ w.cell? (ad.add k) = some (.int .i64 x) := by
  obtain ⟨ad, u, hA, hb, hx, hc⟩ := h.1.at_ hk
  rw [List.getElem?_map, List.getElem?_eq_getElem hk] at hx
  injection hx with hx
  subst hx
  exact ⟨ad, l[k], hA, hb, List.getElem?_eq_getElem hk, hc⟩
theorem Ints.len {w : World} {B : Nat} {A : Option Addr} {l : List Int} (h : Ints w B A l) : l.length ≤ 17592186043904 := h.2
theorem Ints.below {w w' : World} {B : Nat} {A : Option Addr} {l : List Int} (h : Ints w B A l) (hb : Below B w w') : Ints w' B A l := ⟨h.1.below hb, h.2⟩
theorem Ints.more {w : World} {B B' : Nat} {A : Option Addr} {l : List Int} (h : Ints w B A l) (hB : B ≤ B') : Ints w B' A l := ⟨h.1.more hB, h.2⟩
theorem Ints.alloc {w : World} {B : Nat} {A : Option Addr} {l : List Int} (h : Ints w B A l) (hB : B ≤ w.heap.size) (o : Obj) : Ints (w.alloc o) B A l := ⟨h.1.alloc hB o, h.2⟩
theorem Ints.of_own {w : World} {base c : Nat} {A : Option Addr} {l : List Int} {e : TypeId} (h : w.ownsRow base e 1 (.slice A l.length c) l.length (l.map (.int .i64))) (hl : l.length ≤ 17592186043904) : Ints w w.heap.size A l := ⟨Reads.of_own h, hl⟩
theorem Ints.lit (w : World) (l : List Int) (hl : l.length ≤ 17592186043904) : Ints (w.alloc (.cells (l.map (.int .i64)).toArray 3)) (w.heap.size + 1) (some ⟨w.heap.size, 0, none⟩) l :=
  ⟨⟨by simp, fun _ => ⟨_, rfl, Nat.lt_succ_self _, fun j u hu => by
    have h := World.news_of_block (w := w.alloc (.cells (l.map (.int .i64)).toArray 3)) (B := w.heap.size) (heap_alloc_new w _) j u (by simpa using hu)
    exact h⟩⟩, hl⟩
theorem Ints.nil {w : World} {B : Nat} : Ints w B none [] := ⟨Reads.none_, by simp⟩
/-- A slice of slices of integers. -/
def Rows2 (w : World) (B : Nat) (A : Option Addr) (ls : List (List Int)) : Prop :=
  ls.length ≤ 17592186043904 ∧ ∃ vs : List Value, Reads w B 1 A ls.length vs ∧ ∀ (i : Nat) (l : List Int), ls[i]? = some l → ∃ Ai ci, vs[i]? = some (.slice Ai l.length ci) ∧ Ints w B Ai l
theorem Rows2.at_ {w : World} {B : Nat} {A : Option Addr} {ls : List (List Int)} (h : Rows2 w B A ls) {k : Nat} (hk : k < ls.length) :
    ∃ ad l Ai ci, A = some ad ∧ ad.block < B ∧ ls[k]? = some l ∧ w.cell? (ad.add k) = some (.slice Ai l.length ci) ∧ Ints w B Ai l := by
  obtain ⟨_, vs, hr, hi⟩ := h
  obtain ⟨ad, u, hA, hb, hx, hc⟩ := hr.at_ hk
  have hl : ls[k]? = some ls[k] := List.getElem?_eq_getElem hk
  obtain ⟨Ai, ci, h1, h2⟩ := hi k _ hl
  rw [hx] at h1
  injection h1 with h1
  subst h1
  exact ⟨ad, _, Ai, ci, hA, hb, hl, hc, h2⟩
theorem Rows2.below {w w' : World} {B : Nat} {A : Option Addr} {ls : List (List Int)} (h : Rows2 w B A ls) (hb : Below B w w') : Rows2 w' B A ls := by
  obtain ⟨h0, vs, hr, hi⟩ := h
  refine ⟨h0, vs, hr.below hb, fun i l hl => ?_⟩
  obtain ⟨Ai, ci, h1, h2⟩ := hi i l hl
  exact ⟨Ai, ci, h1, h2.below hb⟩
theorem Rows2.more {w : World} {B B' : Nat} {A : Option Addr} {ls : List (List Int)} (h : Rows2 w B A ls) (hB : B ≤ B') : Rows2 w B' A ls := by
  obtain ⟨h0, vs, hr, hi⟩ := h
  refine ⟨h0, vs, hr.more hB, fun i l hl => ?_⟩
  obtain ⟨Ai, ci, h1, h2⟩ := hi i l hl
  exact ⟨Ai, ci, h1, h2.more hB⟩
theorem Rows2.nil {w : World} {B : Nat} : Rows2 w B none [] := ⟨by simp, [], Reads.none_, fun i l h => by simp at h⟩
theorem drop_at {l : List Int} {k : Nat} {x : Int} (h : l[k]? = some x) : l.drop k = x :: l.drop (k + 1) := by
  obtain ⟨hk, rfl⟩ := List.getElem?_eq_some_iff.1 h
  exact List.drop_eq_getElem_cons hk
theorem bel_drewN {B : Nat} {a w : World} (h : Below B a w) (n : Nat) : Below B a (w.drewN n) := ⟨h.os, h.tape, h.output, h.size, h.block⟩
end Go.Proofs.YthcmopgdjibojaaGreatDoor.lib

/- What memory reads as: readers for numbers, texts, structs and slices of them; and that a call's arguments can be read so. -/
namespace Go.Proofs.YthcmopgdjibojaaGreatDoor.rd
open Go.RowKit Go.ChangeShapes Go.WideShapes Go.ChangeAt Go.Deep
open Go.Proofs.YthcmopgdjibojaaGreatDoor.lib
set_option linter.unusedVariables false

/-- A reader: which cells, in which world, read as x; what they lead to lies below a block. -/
structure Rd (X : Type) where
  size : Nat
  at_ : World → Nat → List Value → X → Prop
  len : ∀ {w : World} {B : Nat} {cs : List Value} {x : X}, at_ w B cs x → cs.length = size
  keep : ∀ {w w' : World} {B : Nat} {cs : List Value} {x : X}, (∀ p : Addr, p.block < B → w'.cell? p = w.cell? p) → at_ w B cs x → at_ w' B cs x
  more : ∀ {w : World} {B B' : Nat} {cs : List Value} {x : X}, B ≤ B' → at_ w B cs x → at_ w B' cs x

def rInt : Rd Int where
  size := 1
  at_ _ _ cs x := cs = [.int .i64 x] ∧ -9223372036854775808 ≤ x ∧ x ≤ 9223372036854775807
  len h := by rw [h.1]; rfl
  keep _ h := h
  more _ h := h
def rBool : Rd Bool where
  size := 1
  at_ _ _ cs x := cs = [.bool x]
  len h := by rw [h]; rfl
  keep _ h := h
  more _ h := h
def rStr : Rd ByteArray where
  size := 1
  at_ _ _ cs x := cs = [.string x] ∧ x.size ≤ 140737488351232
  len h := by rw [h.1]; rfl
  keep _ h := h
  more _ h := h
theorem Ints.keep {w w' : World} {B : Nat} {A : Option Addr} {l : List Int} (hk : ∀ p : Addr, p.block < B → w'.cell? p = w.cell? p) (h : Ints w B A l) : Ints w' B A l := ⟨h.1.keep hk, h.2⟩
def rInts : Rd (List Int) where
  size := 1
  at_ w B cs x := ∃ A c, cs = [.slice A x.length c] ∧ Ints w B A x
  len h := by obtain ⟨A, c, rfl, _⟩ := h; rfl
  keep hk h := by obtain ⟨A, c, h1, h2⟩ := h; exact ⟨A, c, h1, Ints.keep hk h2⟩
  more hB h := by obtain ⟨A, c, h1, h2⟩ := h; exact ⟨A, c, h1, h2.more hB⟩
def rPair {X Y : Type} (r : Rd X) (q : Rd Y) : Rd (X × Y) where
  size := r.size + q.size
  at_ w B cs x := ∃ a b, cs = a ++ b ∧ r.at_ w B a x.1 ∧ q.at_ w B b x.2
  len h := by obtain ⟨a, b, rfl, h1, h2⟩ := h; rw [List.length_append, r.len h1, q.len h2]
  keep hk h := by obtain ⟨a, b, h0, h1, h2⟩ := h; exact ⟨a, b, h0, r.keep hk h1, q.keep hk h2⟩
  more hB h := by obtain ⟨a, b, h0, h1, h2⟩ := h; exact ⟨a, b, h0, r.more hB h1, q.more hB h2⟩
def rMap {X Y : Type} (r : Rd X) (f : X → Y) : Rd Y where
  size := r.size
  at_ w B cs y := ∃ x, f x = y ∧ r.at_ w B cs x
  len h := by obtain ⟨x, _, h1⟩ := h; exact r.len h1
  keep hk h := by obtain ⟨x, h0, h1⟩ := h; exact ⟨x, h0, r.keep hk h1⟩
  more hB h := by obtain ⟨x, h0, h1⟩ := h; exact ⟨x, h0, r.more hB h1⟩

/-- A row of elements in memory. -/
def RowAt {X : Type} (r : Rd X) (w : World) (B : Nat) (A : Option Addr) (l : List X) : Prop :=
  l.length ≤ 17592186043904 ∧ ∀ (i : Nat) (x : X), l[i]? = some x → ∃ ad cs, A = some ad ∧ ad.block < B ∧ r.at_ w B cs x ∧ ∀ (j : Nat) (u : Value), cs[j]? = some u → w.cell? (ad.add (i * r.size + j)) = some u
section
variable {X : Type} {r : Rd X} {w w' : World} {B B' : Nat} {A : Option Addr} {l : List X}
theorem RowAt.len (h : RowAt r w B A l) : l.length ≤ 17592186043904 := h.1
theorem RowAt.nil : RowAt r w B none [] := ⟨by simp, fun i x h => by simp at h⟩
theorem RowAt.keep (hk : ∀ p : Addr, p.block < B → w'.cell? p = w.cell? p) (h : RowAt r w B A l) : RowAt r w' B A l :=
  ⟨h.1, fun i x hi => by
    obtain ⟨ad, cs, h1, h2, h3, h4⟩ := h.2 i x hi
    exact ⟨ad, cs, h1, h2, r.keep hk h3, fun j u hu => (hk _ (by rw [block_of_add]; exact h2)).trans (h4 j u hu)⟩⟩
theorem RowAt.more (hB : B ≤ B') (h : RowAt r w B A l) : RowAt r w B' A l :=
  ⟨h.1, fun i x hi => by
    obtain ⟨ad, cs, h1, h2, h3, h4⟩ := h.2 i x hi
    exact ⟨ad, cs, h1, by omega, r.more hB h3, h4⟩⟩
theorem RowAt.below (h : RowAt r w B A l) (hb : Below B w w') : RowAt r w' B A l := h.keep fun _ hp => hb.cell hp
theorem RowAt.take (h : RowAt r w B A l) (n : Nat) : RowAt r w B A (l.take n) :=
  ⟨Nat.le_trans (List.length_take_le' _ _) h.1, fun i x hi => by
    rw [List.getElem?_take] at hi
    split at hi
    · exact h.2 i x hi
    · cases hi⟩
end
def rSlice {X : Type} (r : Rd X) : Rd (List X) where
  size := 1
  at_ w B cs l := ∃ A c, cs = [.slice A l.length c] ∧ RowAt r w B A l
  len h := by obtain ⟨A, c, rfl, _⟩ := h; rfl
  keep hk h := by obtain ⟨A, c, h1, h2⟩ := h; exact ⟨A, c, h1, h2.keep hk⟩
  more hB h := by obtain ⟨A, c, h1, h2⟩ := h; exact ⟨A, c, h1, h2.more hB⟩
/-- What is trod as type t can be read. -/
def Opens {X : Type} (t : TypeId) (r : Rd X) : Prop :=
  ∀ (H : Type) (enc : TypeId × Value → H) (W : World) (fuel : Nat) (cs : List Value) (y : DataW H × List MemPlace),
    DataW.trod enc Tryz.prog W 0 (fun _ => true) true fuel t cs = some y → (∀ n ∈ y.1.weights Tryz.prog t, n ≤ reachBytes) → ∃ x, r.at_ W W.heap.size cs x
theorem opens_int {t : TypeId} (ht : Tryz.prog.underlying t = some (.int .i64)) : Opens t rInt := fun H enc W fuel cs y h _ => by
  obtain ⟨n, rfl, rfl, hw⟩ := DataW.trod_int ht h
  refine ⟨n, rfl, ?_⟩
  simpa [Lit.wf, IntKind.min, IntKind.max, IntKind.signed, IntKind.bits] using hw
theorem weights_all {H : Type} {e : TypeId} : ∀ {l : List (DataW H)} {d : DataW H}, d ∈ l → ∀ n ∈ d.weights Tryz.prog e, n ∈ DataW.weightsAll Tryz.prog e l
  | x :: r, d, hd, n, hn => by
    rw [DataW.weightsAll, List.mem_append]
    rcases List.mem_cons.1 hd with rfl | h
    · exact .inl hn
    · exact .inr (weights_all h n hn)
theorem choose_list {X : Type} {p : Nat → X → Prop} : ∀ {n : Nat}, (∀ i, i < n → ∃ x, p i x) → ∃ l : List X, l.length = n ∧ ∀ (i : Nat) x, l[i]? = some x → p i x
  | 0, _ => ⟨[], rfl, fun i x h => by simp at h⟩
  | n + 1, h => by
    obtain ⟨l, hl, hp⟩ := choose_list (n := n) fun i hi => h i (by omega)
    obtain ⟨x, hx⟩ := h n (by omega)
    refine ⟨l ++ [x], by simp [hl], fun i y hy => ?_⟩
    rcases Nat.lt_or_ge i n with hi | hi
    · rw [List.getElem?_append_left (by omega)] at hy
      exact hp i y hy
    · rw [List.getElem?_append_right (by omega), hl] at hy
      rcases Nat.eq_or_lt_of_le hi with rfl | hlt
      · simp at hy; subst hy; exact hx
      · rw [List.getElem?_eq_none (by simp; omega)] at hy; cases hy
theorem opens_slice {X : Type} {t e : TypeId} {r : Rd X} (ht : Tryz.prog.underlying t = some (.slice e)) (hC : Tryz.prog.cellsOf e = r.size) (hz : 0 < r.size) (h8 : 8 ≤ Tryz.prog.bytesOf e) (hr : Opens e r) : Opens t (rSlice r) := fun H enc W fuel cs y h hw => by
  rcases open_slice ht h with ⟨rfl, rfl⟩ | ⟨a, len, cap, m, n, D, Pl, rfl, hb, hl, hm, hmm, rfl, hi⟩
  · exact ⟨[], none, 0, rfl, RowAt.nil⟩
  · simp only [if_true] at hmm
    subst hmm
    have hlen : len ≤ 17592186043904 := by
      have h1 := hw ((((List.range len).map D).length + ((List.range (m - len)).map fun j => D (len + j)).length) * Tryz.prog.bytesOf e) (by simp [DataW.weights, ht])
      simp only [List.length_map, List.length_range, reachBytes] at h1
      have h2 : (len + (m - len)) * 8 ≤ (len + (m - len)) * Tryz.prog.bytesOf e := Nat.mul_le_mul_left _ h8
      omega
    obtain ⟨l, hll, hlp⟩ := choose_list (n := len) (p := fun i x => ∃ cs', W.cells? 0 (a.add (i * Tryz.prog.cellsOf e)) (Tryz.prog.cellsOf e) = some cs' ∧ r.at_ W W.heap.size cs' x) fun i hil => by
      obtain ⟨cs', h1, h2⟩ := hi i (by omega)
      obtain ⟨x, hx⟩ := hr H enc W n cs' _ h2 (fun k hk => hw k (by
        simp only [DataW.weights, ht]
        exact List.mem_cons_of_mem _ (List.mem_append_left _ (weights_all (List.mem_map.2 ⟨i, List.mem_range.2 hil, rfl⟩) k hk))))
      exact ⟨x, cs', h1, hx⟩
    subst hll
    refine ⟨l, some a, _, rfl, hlen, fun i x hix => ?_⟩
    obtain ⟨cs', h1, h2⟩ := hlp i x hix
    obtain ⟨_, h4, h5⟩ := World.cells?_some h1
    rw [hC] at h4 h5
    have hcell : ∀ (j : Nat) (u : Value), cs'[j]? = some u → W.cell? (a.add (i * r.size + j)) = some u := fun j u hu => by
      have hj : j < r.size := by rw [← h4]; exact (List.getElem?_eq_some_iff.1 hu).1
      rw [← add_of_add]
      exact (h5 j hj).trans hu
    refine ⟨a, cs', rfl, ?_, h2, hcell⟩
    have hpos : 0 < l.length := Nat.lt_of_le_of_lt (Nat.zero_le i) (List.getElem?_eq_some_iff.1 hix).1
    have hu : cs'[0]? = some (cs'[0]'(by omega)) := List.getElem?_eq_getElem (by omega)
    have h6 := Go.block_lt_of_cell (hcell 0 _ hu)
    rwa [block_of_add] at h6
/-- The fields of a struct from a cell on can be read. -/
def FieldsOpen {X : Type} (fs : List Field) (off : Nat) (r : Rd X) : Prop :=
  ∀ (H : Type) (enc : TypeId × Value → H) (W : World) (n : Nat) (cs : List Value) (xs : List (DataW H × List MemPlace)), cs.length = off + r.size → xs.length = fs.length →
    (∀ (i : Nat) (f : Field), fs[i]? = some f → DataW.trod enc Tryz.prog W 0 (fun _ => true) true n f.type ((cs.drop f.offset).take (Tryz.prog.cellsOf f.type)) = xs[i]?) →
    (∀ k ∈ DataW.weightsEach Tryz.prog (fs.map (·.type)) (xs.map (·.1)), k ≤ reachBytes) → ∃ x, r.at_ W W.heap.size (cs.drop off) x
theorem fieldsOpen_one {X : Type} {f : Field} {off : Nat} {r : Rd X} (ho : f.offset = off) (hC : Tryz.prog.cellsOf f.type = r.size) (hr : Opens f.type r) : FieldsOpen [f] off r := fun H enc W n cs xs hcs hxs hf hw => by
  rcases xs with _ | ⟨y, _ | ⟨z, xs⟩⟩
  · simp at hxs
  · have h0 := hf 0 f rfl
    rw [ho, hC, List.take_of_length_le (by rw [List.length_drop]; omega)] at h0
    exact hr H enc W n _ y h0 fun k hk => hw k (by simp [DataW.weightsEach, hk])
  · simp at hxs
theorem fieldsOpen_cons {X Y : Type} {f : Field} {fs : List Field} {off : Nat} {r : Rd X} {q : Rd Y} (ho : f.offset = off) (hC : Tryz.prog.cellsOf f.type = r.size) (hr : Opens f.type r) (hq : FieldsOpen fs (off + r.size) q) : FieldsOpen (f :: fs) off (rPair r q) := fun H enc W n cs xs hcs hxs hf hw => by
  rcases xs with _ | ⟨y, ys⟩
  · simp at hxs
  · have h0 := hf 0 f rfl
    rw [ho, hC] at h0
    obtain ⟨x, hx⟩ := hr H enc W n _ y h0 fun k hk => hw k (by simp [DataW.weightsEach, hk])
    have hcs' : cs.length = off + (r.size + q.size) := hcs
    obtain ⟨z, hz⟩ := hq H enc W n cs ys (by omega) (by simpa using hxs) (fun i f' hi => hf (i + 1) f' hi) fun k hk => hw k (by simp only [List.map_cons, DataW.weightsEach, List.mem_append]; exact .inr hk)
    refine ⟨(x, z), _, _, ?_, hx, hz⟩
    rw [← List.drop_drop, List.take_append_drop]
theorem opens_struct {X : Type} {t : TypeId} {fs : Array Field} {r : Rd X} (ht : Tryz.prog.underlying t = some (.struct fs)) (hC : Tryz.prog.cellsOf t = r.size) (hf : FieldsOpen fs.toList 0 r) : Opens t r := fun H enc W fuel cs y h hw => by
  obtain ⟨xs, n, _, rfl, hcs, hlen, hfs⟩ := DataW.trod_struct ht h
  exact hf H enc W n cs xs (by omega) (by simpa using hlen) (fun i f hi => hfs i f (by simpa using hi)) fun k hk => hw k (by simpa [DataW.weights, ht] using hk)
theorem opens_map {X Y : Type} {t : TypeId} {r : Rd X} (f : X → Y) (h : Opens t r) : Opens t (rMap r f) := fun H enc W fuel cs y h1 h2 => by
  obtain ⟨x, hx⟩ := h H enc W fuel cs y h1 h2
  exact ⟨f x, x, rfl, hx⟩
theorem weight_of {H : Type} {ts : List TypeId} {ds : List (DataW H)} (h : (DataW.weightsEach Tryz.prog ts ds).all (· ≤ reachBytes) = true) {j : Nat} {t : TypeId} {d : DataW H} (ht : ts[j]? = some t) (hd : ds[j]? = some d) :
    ∀ n ∈ d.weights Tryz.prog t, n ≤ reachBytes := fun n hn => by
  have := List.all_eq_true.1 h _ (DataW.weights_mem_each ht hd n hn)
  simpa using this
theorem add_split (a : Addr) (n j : Nat) : a.add (n + (j + 1)) = ⟨(a.add n).block, (a.add n).off + (j + 1), none⟩ := by
  unfold Addr.add
  by_cases hn : n = 0
  · subst hn; simp
  · rw [if_neg hn, if_neg (by omega)]
    simp [Nat.add_assoc]
end Go.Proofs.YthcmopgdjibojaaGreatDoor.rd

/- A call's arguments, read: slices with their capacity, structs by value. -/
namespace Go.Proofs.YthcmopgdjibojaaGreatDoor.rd
open Go.RowKit Go.ChangeShapes Go.WideShapes Go.ChangeAt Go.Deep
open Go.Proofs.YthcmopgdjibojaaGreatDoor.lib
set_option linter.unusedVariables false

set_option maxRecDepth 20000 in
theorem arg_struct {X : Type} {t : TypeId} {fs : Array Field} {r : Rd X} (ht : Tryz.prog.underlying t = some (.struct fs)) (ho : Opens t r) {H : Type} {enc : TypeId × Value → H} {W : World} {base : Nat} {v : Value} {d : DataW H} {p : List MemPlace}
    (hv : Value.okWide Tryz.prog W .any base t v) (h : DataW.Trod enc Tryz.prog W 0 (fun _ => true) true t v d p) (hw : ∀ n ∈ d.weights Tryz.prog t, n ≤ reachBytes) :
    ∃ cs x, v = .agg (List.toArray cs) ∧ r.at_ W W.heap.size cs x := by
  obtain ⟨cs, rfl, _⟩ := okWide_struct ht hv
  obtain ⟨fuel, hf⟩ := h
  obtain ⟨x, hx⟩ := ho H enc W fuel _ _ hf hw
  exact ⟨cs.toList, x, by simp, by simpa [Value.cells] using hx⟩
end Go.Proofs.YthcmopgdjibojaaGreatDoor.rd

/- What a call owns, read as a row. -/
namespace Go.Proofs.YthcmopgdjibojaaGreatDoor.rd
open Go.RowKit
open Go.Proofs.YthcmopgdjibojaaGreatDoor.lib
set_option linter.unusedVariables false

theorem two_new (w : World) (a b : Value) (t : TypeId) (j : Nat) (u : Value) (h : [a, b][j]? = some u) : (w.alloc (.cells #[a, b] t)).cell? ((⟨w.heap.size, 0, none⟩ : Addr).add j) = some u :=
  World.news_of_block (w := w.alloc (.cells #[a, b] t)) (B := w.heap.size) (heap_alloc_new w _) j u (by simpa using h)
/-- Two elements, written out in a block of their own. -/
theorem row_two {X : Type} {r : Rd X} {w : World} {cs cs' : List Value} {x x' : X} {t : TypeId} (h : r.at_ (w.alloc (.cells (cs ++ cs').toArray t)) (w.heap.size + 1) cs x) (h' : r.at_ (w.alloc (.cells (cs ++ cs').toArray t)) (w.heap.size + 1) cs' x') :
    RowAt r (w.alloc (.cells (cs ++ cs').toArray t)) (w.heap.size + 1) (some ⟨w.heap.size, 0, none⟩) [x, x'] := by
  have hl := r.len h
  have hl' := r.len h'
  have hnew := fun j u hu => World.news_of_block (w := w.alloc (.cells (cs ++ cs').toArray t)) (B := w.heap.size) (heap_alloc_new w _) j u hu
  refine ⟨by simp, fun i y hi => ?_⟩
  rcases i with _ | _ | i
  · simp at hi
    subst hi
    refine ⟨_, cs, rfl, Nat.lt_succ_self _, h, fun j u hu => ?_⟩
    rw [Nat.zero_mul, Nat.zero_add]
    exact hnew j u (by rw [List.getElem?_append_left (List.getElem?_eq_some_iff.1 hu).1]; exact hu)
  · simp at hi
    subst hi
    refine ⟨_, cs', rfl, Nat.lt_succ_self _, h', fun j u hu => ?_⟩
    rw [Nat.zero_add, Nat.one_mul]
    exact hnew (r.size + j) u (by rw [List.getElem?_append_right (by omega), hl, Nat.add_sub_cancel_left]; exact hu)
  · simp at hi
end Go.Proofs.YthcmopgdjibojaaGreatDoor.rd

/- Types of vehicles, networks, violations: read from memory. -/
namespace Go.Proofs.YthcmopgdjibojaaGreatDoor.typ
open Go.RowKit
open Go.Proofs.YthcmopgdjibojaaGreatDoor.lib
open Go.Proofs.YthcmopgdjibojaaGreatDoor.rd
set_option linter.unusedVariables false

structure Ty where
  name : ByteArray
  count : Int
  frm : Int
  to : Int
  cap : List Int
  skills : Int
  profile : Int
  opn : Int
  close : Int
  drive : Int
  rest : Int
  fixed : Int
  mile : Int
  tick : Int
def rTy : Rd Ty := rMap (rPair rStr (rPair rInt (rPair rInt (rPair rInt (rPair rInts (rPair rInt (rPair rInt (rPair rInt (rPair rInt (rPair rInt (rPair rInt (rPair rInt (rPair rInt rInt))))))))))))) fun x => ⟨x.1, x.2.1, x.2.2.1, x.2.2.2.1, x.2.2.2.2.1, x.2.2.2.2.2.1, x.2.2.2.2.2.2.1, x.2.2.2.2.2.2.2.1, x.2.2.2.2.2.2.2.2.1, x.2.2.2.2.2.2.2.2.2.1, x.2.2.2.2.2.2.2.2.2.2.1, x.2.2.2.2.2.2.2.2.2.2.2.1, x.2.2.2.2.2.2.2.2.2.2.2.2.1, x.2.2.2.2.2.2.2.2.2.2.2.2.2⟩
def TyCells (t : Ty) (C0 : Option Addr) (c0 : Nat) : List Value := [.string t.name, .int .i64 t.count, .int .i64 t.frm, .int .i64 t.to, .slice C0 t.cap.length c0, .int .i64 t.skills, .int .i64 t.profile, .int .i64 t.opn, .int .i64 t.close, .int .i64 t.drive, .int .i64 t.rest, .int .i64 t.fixed, .int .i64 t.mile, .int .i64 t.tick]
structure Flt where
  err : Int
  at_ : ByteArray
structure Pt where
  t : Int
  a : Int
def rPt : Rd Pt := rMap (rPair rInt rInt) fun x => ⟨x.1, x.2⟩
def PtCells (t : Pt) : List Value := [.int .i64 t.t, .int .i64 t.a]
def PtFits (t : Pt) : Prop := (-9223372036854775808 ≤ t.t ∧ t.t ≤ 9223372036854775807) ∧ (-9223372036854775808 ≤ t.a ∧ t.a ≤ 9223372036854775807)
theorem rPt_at {w : World} {B : Nat} {cs : List Value} {t : Pt} (h : rPt.at_ w B cs t) : cs = PtCells t ∧ PtFits t := by
  obtain ⟨⟨f0, f1⟩, rfl, _, _, rfl, ⟨rfl, hf0⟩, ⟨rfl, hf1⟩⟩ := h
  exact ⟨rfl, hf0, hf1⟩
theorem rPt_mk {w : World} {B : Nat} {t : Pt} (hf : PtFits t) : rPt.at_ w B (PtCells t) t := by
  exact ⟨(t.t, t.a), rfl, _, _, rfl, ⟨rfl, hf.1⟩, ⟨rfl, hf.2⟩⟩
/-- What lies at an element's address. -/
def PtAt (w : World) (ea : Addr) (t : Pt) : Prop := w.cell? ea = some (.int .i64 t.t) ∧ w.cell? ⟨ea.block, ea.off + 1, none⟩ = some (.int .i64 t.a)
theorem row_Pt {w : World} {B : Nat} {A : Option Addr} {l : List Pt} (h : RowAt rPt w B A l) {i : Nat} {t : Pt} (hi : l[i]? = some t) : ∃ (ad : Addr), A = some ad ∧ ad.block < B ∧ PtAt w (ad.add (i * 2)) t ∧ PtFits t := by
  obtain ⟨ad, cs, hA, hb, hr, hc⟩ := h.2 i t hi
  obtain ⟨rfl, hrest⟩ := rPt_at hr
  exact ⟨ad, hA, hb, ⟨hc 0 _ rfl, by rw [← add_split]; exact hc 1 _ rfl⟩, hrest⟩

structure Arc where
  frm : Int
  to : Int
  profile : Int
  miles : Int
  travel : List Pt
  slow : List Pt
def rArc : Rd Arc := rMap (rPair rInt (rPair rInt (rPair rInt (rPair rInt (rPair (rSlice rPt) (rSlice rPt)))))) fun x => ⟨x.1, x.2.1, x.2.2.1, x.2.2.2.1, x.2.2.2.2.1, x.2.2.2.2.2⟩
structure Net where
  places : List ByteArray
  arcs : List Arc
end Go.Proofs.YthcmopgdjibojaaGreatDoor.typ

/- Orders, stops, visits: read from memory. -/
namespace Go.Proofs.YthcmopgdjibojaaGreatDoor.typ
open Go.RowKit
open Go.Proofs.YthcmopgdjibojaaGreatDoor.lib
open Go.Proofs.YthcmopgdjibojaaGreatDoor.rd
set_option linter.unusedVariables false

structure Stp where
  place : Int
  opn : Int
  close : Int
  service : Int
def rStp : Rd Stp := rMap (rPair rInt (rPair rInt (rPair rInt rInt))) fun x => ⟨x.1, x.2.1, x.2.2.1, x.2.2.2⟩
structure Ord where
  name : ByteArray
  load : List Int
  pick : Stp
  drop : Stp
  skills : Int
  penalty : Int
  split : Int
  last : Int
  now : Int
  off : Bool
def rOrd : Rd Ord := rMap (rPair rStr (rPair rInts (rPair rStp (rPair rStp (rPair rInt (rPair rInt (rPair rInt (rPair rInt (rPair rInt rBool))))))))) fun x => ⟨x.1, x.2.1, x.2.2.1, x.2.2.2.1, x.2.2.2.2.1, x.2.2.2.2.2.1, x.2.2.2.2.2.2.1, x.2.2.2.2.2.2.2.1, x.2.2.2.2.2.2.2.2.1, x.2.2.2.2.2.2.2.2.2⟩
def OrdCells (t : Ord) (C0 : Option Addr) (c0 : Nat) : List Value := [.string t.name, .slice C0 t.load.length c0, .int .i64 t.pick.place, .int .i64 t.pick.opn, .int .i64 t.pick.close, .int .i64 t.pick.service, .int .i64 t.drop.place, .int .i64 t.drop.opn, .int .i64 t.drop.close, .int .i64 t.drop.service, .int .i64 t.skills, .int .i64 t.penalty, .int .i64 t.split, .int .i64 t.last, .int .i64 t.now, .bool t.off]
end Go.Proofs.YthcmopgdjibojaaGreatDoor.typ

/- Instances, read from memory. -/
namespace Go.Proofs.YthcmopgdjibojaaGreatDoor.typ
open Go.RowKit
open Go.Proofs.YthcmopgdjibojaaGreatDoor.lib
open Go.Proofs.YthcmopgdjibojaaGreatDoor.rd
set_option linter.unusedVariables false

structure Ins where
  net : Net
  types : List Ty
  orders : List Ord
  apart : List (Int × Int)
  before : List (Int × Int)
end Go.Proofs.YthcmopgdjibojaaGreatDoor.typ

/- Appending to a row of the call's own, whatever its elements: the new row lies in the old block or in a fresh one. -/
namespace Go.Proofs.YthcmopgdjibojaaGreatDoor.app
open Go.RowKit
open Go.Proofs.YthcmopgdjibojaaGreatDoor.lib
set_option linter.unusedVariables false

/-- What is known of an element type and the slices of it. -/
structure ElemOf (t e : TypeId) (z : Value) (size bytes : Nat) : Prop where
  sl : Tryz.prog.underlying t = some (.slice e)
  info : (Tryz.prog.info? e).map (fun i => (i.zero, i.size, i.bytes)) = some (some z, size, bytes)
  zs : z.cells.size = size
  pos : 0 < size
  by_ : bytes ≤ 100000

theorem run_app {t e : TypeId} {z : Value} {size bytes : Nat} (E : ElemOf t e z size bytes) (w : World) (base : Nat) (A : Option Addr) (n cap : Nat) (xs : List Value) (hown : w.ownsRow base e size (.slice A n cap) n xs)
    (ad : Addr) (c : Nat) (news : List Value) (hl : news.length = size) (hnews : ∀ j u, news[j]? = some u → w.cell? (ad.add j) = some u) (h1 : ∀ u ∈ news, u.oneCell' = true) (hn : (n + 1) * bytes ≤ 140737488355328) (hm : n + 1 ≤ maxLen) (hbase : base ≤ w.heap.size) (ty : TypeId) :
    ∃ g' c' w', (Builtin.append_ #[t, t] ty #[.slice A n cap, .slice (some ad) 1 c]).run Tryz.prog w = .ok (.slice (some ⟨g', 0, none⟩) (n + 1) c') w' ∧
      w'.ownsRow base e size (.slice (some ⟨g', 0, none⟩) (n + 1) c') (n + 1) (xs ++ news) ∧ w.grownBy w' (Value.slice A n cap).ownBlock ∧ ((Value.slice A n cap).ownBlock = some g' ∨ w.heap.size ≤ g') := by
  obtain ⟨i0, hi, hz0, hz1, hz2⟩ := info_parts E.info
  have hl' : news.length = 1 * size := by omega
  obtain ⟨v', w', hr, h2, h3, _⟩ := run_append_own (P := Tryz.prog) w base t ty e i0 z size bytes E.sl hi hz0 hz1 hz2 E.zs E.pos _ n _ hown ad 1 c news hl' hnews h1 hm hn hbase
  obtain ⟨g', c', rfl⟩ := ownsRow_succ h2
  refine ⟨g', c', w', hr, h2, h3, ?_⟩
  by_cases hroom : n + 1 ≤ cap
  · rcases hown.2 with ⟨h, hz⟩ | ⟨g0, cap0, cur, h, _, hg, hnc, _, hcs, _⟩
    · injection h with _ _ e3
      omega
    · injection h with e1 e2 e3
      subst e1
      subst e3
      left
      have hsp := E.pos
      have hr2 := run_append_room (P := Tryz.prog) w t ty e i0 E.sl hi g0 n cap cur hg ad 1 c news (by rw [hz1]; exact hl') hnews h1 hroom (by
        rw [hz1, hcs, hl', ← Nat.add_mul]
        exact Nat.mul_le_mul_right _ hroom)
      rw [hr] at hr2
      simp only [Result.ok.injEq, Value.slice.injEq, Option.some.injEq, Addr.mk.injEq] at hr2
      show some g0 = some g'
      rw [hr2.1.1.1]
  · right
    rcases hown.2 with ⟨h, hz⟩ | ⟨g0, cap0, cur, h, _, hg, hnc, _, hcs, _⟩
    · injection h with e1 e2 e3
      subst e1; subst e3; subst hz
      have hx0 : xs = [] := by have := hown.1; simpa using this
      subst hx0
      obtain ⟨v2, w2, hr2, s2, s3, _⟩ := run_append_own (P := Tryz.prog) w w.heap.size t ty e i0 z size bytes E.sl hi hz0 hz1 hz2 E.zs E.pos _ 0 _ (World.ownsRow_nil w w.heap.size e size) ad 1 c news hl' hnews h1 hm hn (Nat.le_refl _)
      rw [hr] at hr2
      injection hr2 with hv hw
      subst hv
      subst hw
      exact own_base s2 g' rfl
    · injection h with e1 e2 e3
      subst e1
      obtain ⟨v2, w2, hr2, r1, r2⟩ := run_append_arg_grows (P := Tryz.prog) w t ty e i0 z size bytes E.sl hi hz0 hz1 hz2 E.zs E.pos ⟨g0, 0, none⟩ n cap xs hown.1 (hown.cells (g := g0) rfl) ad 1 c news hl' hnews (by omega) hm hn
      rw [hr] at hr2
      injection hr2 with hv hw
      subst hv
      subst hw
      exact own_base r1 g' rfl

section
variable {t e : TypeId} {z : Value} {size bytes : Nat} (E : ElemOf t e z size bytes) {o : Oper} {a : Act} {w : World} (s x : Operand)
  (ho : o.op = .call { callee := .builtin .append, args := #[s, x], argTypes := #[t, t] })
  (base : Nat) (A : Option Addr) (n cap : Nat) (xs : List Value) (hs : a.eval s = .slice A n cap) (hown : w.ownsRow base e size (.slice A n cap) n xs)
  (ad : Addr) (c : Nat) (news : List Value) (hx : a.eval x = .slice (some ad) 1 c) (hl : news.length = size) (hnews : ∀ j u, news[j]? = some u → w.cell? (ad.add j) = some u) (h1 : ∀ u ∈ news, u.oneCell' = true) (hn : n ≤ 1000000000) (hbase : base ≤ w.heap.size)
include E ho hs hown hx hl hnews h1 hn hbase

theorem wp_app {K : Act → World → Prop} {Q : Exit → Act → World → Prop}
    (h : ∀ g' c' w', w'.ownsRow base e size (.slice (some ⟨g', 0, none⟩) (n + 1) c') (n + 1) (xs ++ news) → w.grownBy w' (Value.slice A n cap).ownBlock → ((Value.slice A n cap).ownBlock = some g' ∨ w.heap.size ≤ g') → K (a.put o.dst (.slice (some ⟨g', 0, none⟩) (n + 1) c')) w') :
    o.wp Tryz.prog a w K Q := by
  have hb := E.by_
  have hmul : (n + 1) * bytes ≤ (n + 1) * 100000 := Nat.mul_le_mul_left _ hb
  obtain ⟨g', c', w', hr, h2, h3, h4⟩ := run_app E w base A n cap xs hown ad c news hl hnews h1 (by omega) (by unfold maxLen; omega) hbase o.type
  unfold Oper.wp execOp
  simp only [ho, resolve, invoke, builtin, Sem.run_bind, Sem.run_pure, Result.andThen_ok, List.map_toArray, List.map_cons, List.map_nil, hs, hx, hr]
  exact h g' c' w' h2 h3 h4
/-- Plain. -/
theorem wpList_app {ops : Array Oper} {rest : List Oper} {Q : Exit → Act → World → Prop} (hgd : o.guard = none)
    (h : ∀ g' c' w', w'.ownsRow base e size (.slice (some ⟨g', 0, none⟩) (n + 1) c') (n + 1) (xs ++ news) → w.grownBy w' (Value.slice A n cap).ownBlock → ((Value.slice A n cap).ownBlock = some g' ∨ w.heap.size ≤ g') → wpList Tryz.prog ops Q rest (a.put o.dst (.slice (some ⟨g', 0, none⟩) (n + 1) c')) w') :
    wpList Tryz.prog ops Q (o :: rest) a w :=
  wpList_plain hgd fun _ hK => wp_app E s x ho base A n cap xs hs hown ad c news hx hl hnews h1 hn hbase fun g' c' w' h2 h3 h4 => hK _ _ (h g' c' w' h2 h3 h4)
end

theorem own_below {w w' : World} {base : Nat} {e : TypeId} {size n : Nat} {v : Value} {xs : List Value} (h : w.ownsRow base e size v n xs) (hb : Below w.heap.size w w') : w'.ownsRow base e size v n xs := by
  rcases h.2 with ⟨h6, h7⟩ | ⟨g, cap, cur, h6, h7, h8, h9⟩
  · exact ⟨h.1, .inl ⟨h6, h7⟩⟩
  · exact ⟨h.1, .inr ⟨g, cap, cur, h6, h7, (hb.block g (Array.getElem?_eq_some_iff.1 h8).1).trans h8, h9⟩⟩
theorem own_less {w : World} {base base' : Nat} {e : TypeId} {size n : Nat} {v : Value} {xs : List Value} (h : w.ownsRow base e size v n xs) (hb : base' ≤ base) : w.ownsRow base' e size v n xs := by
  rcases h.2 with ⟨h1, h2⟩ | ⟨g, cap, cur, h1, h2, h3⟩
  · exact ⟨h.1, .inl ⟨h1, h2⟩⟩
  · exact ⟨h.1, .inr ⟨g, cap, cur, h1, Nat.le_trans hb h2, h3⟩⟩
end Go.Proofs.YthcmopgdjibojaaGreatDoor.app

/- Appending many elements to a row of the call's own; the source may be nil or empty. Portable. -/
namespace Go.Proofs.YthcmopgdjibojaaGreatDoor.app
open Go.RowKit
open Go.Proofs.YthcmopgdjibojaaGreatDoor.lib
set_option linter.unusedVariables false

theorem run_appN {t e : TypeId} {z : Value} {size bytes : Nat} (E : ElemOf t e z size bytes) (w : World) (base : Nat) (v : Value) (n : Nat) (xs : List Value) (hown : w.ownsRow base e size v n xs)
    (B : Nat) (A : Option Addr) (m c : Nat) (news : List Value) (hr : Reads w B size A m news) (h1 : ∀ u ∈ news, u.oneCell' = true) (hn : n + m ≤ 1000000000) (hbase : base ≤ w.heap.size) (ty : TypeId) :
    ∃ A' c' w', (Builtin.append_ #[t, t] ty #[v, .slice A m c]).run Tryz.prog w = .ok (.slice A' (n + m) c') w' ∧ w'.ownsRow base e size (.slice A' (n + m) c') (n + m) (xs ++ news) ∧ w.grownBy w' v.ownBlock := by
  obtain ⟨i0, hi, hz0, hz1, hz2⟩ := info_parts E.info
  have hb := E.by_
  have hbytes : (n + m) * bytes ≤ 140737488355328 := Nat.le_trans (Nat.mul_le_mul hn hb) (by decide)
  rcases A with _ | ad
  · have hm : m = 0 := by
      rcases Nat.eq_zero_or_pos m with h | h
      · exact h
      · obtain ⟨ad, h2, _⟩ := hr.2 h
        cases h2
    subst hm
    obtain rfl : news = [] := List.eq_nil_of_length_eq_zero (by have := hr.1; omega)
    have hrun : (Builtin.append_ #[t, t] ty #[v, .slice none 0 c]).run Tryz.prog w = .ok v w := by
      rcases hown.2 with ⟨rfl, rfl⟩ | ⟨g, cap, cur, rfl, _, _, hnc, _⟩
      · simp [Builtin.append_, run_underlying E.sl, sizeOf, typeInfo, hi, Builtin.lenOf, Builtin.firstCells]
      · simp [Builtin.append_, run_underlying E.sl, sizeOf, typeInfo, hi, Builtin.lenOf, Builtin.firstCells, hnc, storeCells]
    obtain ⟨A', c', rfl⟩ := own_form hown
    exact ⟨A', c', w, hrun, by rw [List.append_nil]; exact hown, World.grownBy.refl w _⟩
  · have hcells : ∀ j u, news[j]? = some u → w.cell? (ad.add j) = some u := fun j u hu => by
      rcases Nat.eq_zero_or_pos m with h | h
      · subst h
        obtain rfl : news = [] := List.eq_nil_of_length_eq_zero (by have := hr.1; omega)
        cases hu
      · obtain ⟨ad', h2, _, h3⟩ := hr.2 h
        obtain rfl := Option.some.inj h2
        exact h3 j u hu
    obtain ⟨v', w', hrun, h2, h3, _⟩ := run_append_own (P := Tryz.prog) w base t ty e i0 z size bytes E.sl hi hz0 hz1 hz2 E.zs E.pos v n xs hown ad m c news hr.1 hcells h1 (by unfold maxLen; omega) hbytes hbase
    obtain ⟨A', c', rfl⟩ := own_form h2
    exact ⟨A', c', w', hrun, h2, h3⟩
section
variable {t e : TypeId} {z : Value} {size bytes : Nat} (E : ElemOf t e z size bytes) {o : Oper} {a : Act} {w : World} (s x : Operand)
  (ho : o.op = .call { callee := .builtin .append, args := #[s, x], argTypes := #[t, t] })
  (base : Nat) (v : Value) (n : Nat) (xs : List Value) (hs : a.eval s = v) (hown : w.ownsRow base e size v n xs)
  (B : Nat) (A : Option Addr) (m c : Nat) (news : List Value) (hx : a.eval x = .slice A m c) (hr : Reads w B size A m news) (h1 : ∀ u ∈ news, u.oneCell' = true) (hn : n + m ≤ 1000000000) (hbase : base ≤ w.heap.size)
include E ho hs hown hx hr h1 hn hbase
theorem wp_appN {K : Act → World → Prop} {Q : Exit → Act → World → Prop}
    (h : ∀ A' c' w', w'.ownsRow base e size (.slice A' (n + m) c') (n + m) (xs ++ news) → w.grownBy w' v.ownBlock → K (a.put o.dst (.slice A' (n + m) c')) w') : o.wp Tryz.prog a w K Q := by
  obtain ⟨A', c', w', hr, h2, h3⟩ := run_appN E w base v n xs hown B A m c news hr h1 hn hbase o.type
  unfold Oper.wp execOp
  simp only [ho, resolve, invoke, builtin, Sem.run_bind, Sem.run_pure, Result.andThen_ok, List.map_toArray, List.map_cons, List.map_nil, hs, hx, hr]
  exact h A' c' w' h2 h3
theorem wpList_appN {ops : Array Oper} {rest : List Oper} {Q : Exit → Act → World → Prop} (hgd : o.guard = none)
    (h : ∀ A' c' w', w'.ownsRow base e size (.slice A' (n + m) c') (n + m) (xs ++ news) → w.grownBy w' v.ownBlock → wpList Tryz.prog ops Q rest (a.put o.dst (.slice A' (n + m) c')) w') : wpList Tryz.prog ops Q (o :: rest) a w :=
  wpList_plain hgd fun _ hK => wp_appN E s x ho base v n xs hs hown B A m c news hx hr h1 hn hbase fun A' c' w' h2 h3 => hK _ _ (h A' c' w' h2 h3)
end
end Go.Proofs.YthcmopgdjibojaaGreatDoor.app

/- Arrays of integers compared. -/
namespace Go.Proofs.YthcmopgdjibojaaGreatDoor.arr
open Go.RowKit
set_option linter.unusedVariables false

end Go.Proofs.YthcmopgdjibojaaGreatDoor.arr

/- Plain facts on sets as numbers. -/
namespace Go.Proofs.YthcmopgdjibojaaGreatDoor.sets
set_option linter.unusedVariables false

def pow2 (j : Nat) : Int := ((2 ^ j : Nat) : Int)
/-- The number i is in the set s. -/
def hasN (s : Int) (i : Nat) : Bool := decide (s / pow2 i % 2 = 1)
def hasB (s i : Int) : Bool := decide (0 ≤ i ∧ i ≤ 62 ∧ hasN s i.toNat = true)
end Go.Proofs.YthcmopgdjibojaaGreatDoor.sets

/- Plain facts on sets as numbers: one within another; bits joined. -/
namespace Go.Proofs.YthcmopgdjibojaaGreatDoor.sets
set_option linter.unusedVariables false

end Go.Proofs.YthcmopgdjibojaaGreatDoor.sets

/- Plain: the set of the elements that have a property, as a number. Portable. -/
namespace Go.Proofs.YthcmopgdjibojaaGreatDoor.sch
open Go.Proofs.YthcmopgdjibojaaGreatDoor.sets
set_option linter.unusedVariables false

section
variable {X : Type}
def suchN (p : X → Bool) (l : List X) : Nat → Nat
  | 0 => 0
  | k + 1 => suchN p l k ||| (match l[k]? with | some o => if p o = true then 2 ^ k else 0 | none => 0)
end
/-- 2 ^ k, closed. -/
def p2 (k : Nat) : Nat := 2 ^ k
attribute [irreducible] suchN p2
end Go.Proofs.YthcmopgdjibojaaGreatDoor.sch

/- Plain functions of loads. -/
namespace Go.Proofs.YthcmopgdjibojaaGreatDoor.loads
set_option linter.unusedVariables false

/-- The fold of the columns. -/
def colD (op : Int → Int → Int) (ls : List (List Int)) (d : Nat) (z : Int) : Int := ls.foldl (fun n l => op n (l[d]?.getD 0)) z
def colL (op : Int → Int → Int) (ls : List (List Int)) (acc : List Int) : List Int := (List.range acc.length).map fun d => colD op ls d (acc[d]?.getD 0)
def zeros (d : Nat) : List Int := List.replicate d 0
end Go.Proofs.YthcmopgdjibojaaGreatDoor.loads

/- Equal lists, whatever their elements; rows of texts and of pairs. Portable. -/
namespace Go.Proofs.YthcmopgdjibojaaGreatDoor.eqg
open Go.RowKit
open Go.Proofs.YthcmopgdjibojaaGreatDoor.lib Go.Proofs.YthcmopgdjibojaaGreatDoor.rd
set_option linter.unusedVariables false

section
variable {X : Type}
end
end Go.Proofs.YthcmopgdjibojaaGreatDoor.eqg

/- A row of the call's own whose elements lead to rows of numbers that lie elsewhere. Portable. -/
namespace Go.Proofs.YthcmopgdjibojaaGreatDoor.els
open Go.RowKit
open Go.Proofs.YthcmopgdjibojaaGreatDoor.lib Go.Proofs.YthcmopgdjibojaaGreatDoor.rd Go.Proofs.YthcmopgdjibojaaGreatDoor.app
set_option linter.unusedVariables false

/-- An element's cells but for its slice of numbers, and the numbers. -/
structure El where
  pre : List Value
  nums : List Int
  post : List Value
def El.cells (e : El) (A : Option Addr) (c : Nat) : List Value := e.pre ++ (.slice A e.nums.length c :: e.post)
/-- Numbers in memory, in a block of which P holds. -/
def IntsOff (w : World) (P : Nat → Prop) (A : Option Addr) (l : List Int) : Prop := Ints w w.heap.size A l ∧ (0 < l.length → ∃ ad, A = some ad ∧ P ad.block)
theorem IntsOff.low {w : World} {B : Nat} {P : Nat → Prop} {A : Option Addr} {l : List Int} (h : Ints w B A l) (hB : B ≤ w.heap.size) (hP : ∀ b, b < B → P b) : IntsOff w P A l := by
  refine ⟨h.more hB, fun hl => ?_⟩
  obtain ⟨ad, _, hA, hb, _⟩ := h.at_ hl
  exact ⟨ad, hA, hP _ hb⟩
/-- What the call itself has laid. -/
theorem IntsOff.own {w : World} {base c : Nat} {P : Nat → Prop} {A : Option Addr} {l : List Int} {e : TypeId} (h : w.ownsRow base e 1 (.slice A l.length c) l.length (l.map (.int .i64))) (hl : l.length ≤ 17592186043904) (hP : ∀ b, base ≤ b → P b) : IntsOff w P A l := by
  refine ⟨Ints.of_own h hl, fun h0 => ?_⟩
  rcases h.2 with ⟨h5, h6⟩ | ⟨g, cap, cur, h5, h6, h7⟩
  · omega
  · injection h5 with h5 _ _
    exact ⟨_, h5, hP g h6⟩
theorem IntsOff.weak {w : World} {P P' : Nat → Prop} {A : Option Addr} {l : List Int} (h : IntsOff w P A l) (hP : ∀ b, b < w.heap.size → P b → P' b) : IntsOff w P' A l := by
  refine ⟨h.1, fun h0 => ?_⟩
  obtain ⟨ad, hA, hp⟩ := h.2 h0
  obtain ⟨ad', _, hA', hb, _⟩ := h.1.at_ h0
  obtain rfl : ad = ad' := Option.some.inj (hA.symm.trans hA')
  exact ⟨ad, hA, hP _ hb hp⟩
/-- What stays, where a row's block alone is written, and blocks are added. -/
def Stays (w w' : World) (row : Option Nat) : Prop := w.heap.size ≤ w'.heap.size ∧ ∀ p : Addr, p.block < w.heap.size → some p.block ≠ row → w'.cell? p = w.cell? p
theorem Stays.grown {w w' : World} {row : Option Nat} (h : w.grownBy w' row) : Stays w w' row := ⟨h.size, fun p hp hr => by
  cases hc : w.cell? p with
  | some v => exact h.cell hc (by first | exact hr | exact fun e => hr e.symm)
  | none =>
    have h2 := h.block p.block hp (by first | exact hr | exact fun e => hr e.symm)
    unfold World.cell? at hc ⊢
    rw [h2]
    exact hc⟩
theorem Stays.below {w w' : World} {row : Option Nat} (h : Below w.heap.size w w') : Stays w w' row := ⟨h.size, fun p hp _ => h.cell hp⟩
theorem IntsOff.stay {w w' : World} {row : Option Nat} {P P' : Nat → Prop} {A : Option Addr} {l : List Int} (h : IntsOff w P A l) (hs : Stays w w' row) (hne : ∀ b, b < w.heap.size → P b → some b ≠ row) (hP : ∀ b, b < w.heap.size → P b → P' b) : IntsOff w' P' A l := by
  obtain ⟨h1, h2⟩ := h
  rcases Nat.eq_zero_or_pos l.length with h0 | h0
  · have : l = [] := List.eq_nil_of_length_eq_zero h0
    subst this
    exact ⟨⟨⟨rfl, fun h => absurd h (by decide)⟩, by simp⟩, fun h => absurd h (by decide)⟩
  · obtain ⟨ad, hA, hp⟩ := h2 h0
    obtain ⟨⟨hlen, hrd⟩, hl⟩ := h1
    obtain ⟨ad', hA', hb, hc⟩ := hrd h0
    obtain rfl : ad = ad' := Option.some.inj (hA.symm.trans hA')
    refine ⟨⟨⟨hlen, fun _ => ⟨ad, hA, Nat.lt_of_lt_of_le hb hs.1, fun j u hu => ?_⟩⟩, hl⟩, fun _ => ⟨ad, hA, hP _ hb hp⟩⟩
    exact (hs.2 _ (by rw [block_of_add]; exact hb) (by rw [block_of_add]; exact hne _ hb hp)).trans (hc j u hu)

/-- The cells cs are those of the elements xs. -/
inductive ElsIn {X : Type} (f : X → El) (w : World) (P : Nat → Prop) : List Value → List X → Prop
  | nil : ElsIn f w P [] []
  | snoc {cs : List Value} {xs : List X} {x : X} {A : Option Addr} (c : Nat) : ElsIn f w P cs xs → IntsOff w P A (f x).nums → ElsIn f w P (cs ++ (f x).cells A c) (xs ++ [x])
section
variable {X : Type} {f : X → El}
theorem ElsIn.stay {w w' : World} {row : Option Nat} {P P' : Nat → Prop} {cs : List Value} {xs : List X} (h : ElsIn f w P cs xs) (hs : Stays w w' row) (hne : ∀ b, b < w.heap.size → P b → some b ≠ row) (hP : ∀ b, b < w.heap.size → P b → P' b) : ElsIn f w' P' cs xs := by
  induction h with
  | nil => exact .nil
  | snoc c _ hi ih => exact .snoc c ih (hi.stay hs hne hP)
theorem ElsIn.at_ {s : Nat} (hs : ∀ x A c, ((f x).cells A c).length = s) {w : World} {P : Nat → Prop} {cs : List Value} {xs : List X} (h : ElsIn f w P cs xs) :
    cs.length = xs.length * s ∧ ∀ (i : Nat) x, xs[i]? = some x → ∃ A c, IntsOff w P A (f x).nums ∧ ∀ (j : Nat) u, ((f x).cells A c)[j]? = some u → cs[i * s + j]? = some u := by
  induction h with
  | nil => exact ⟨by simp, fun i x hi => by simp at hi⟩
  | @snoc cs xs x A c _ hi ih =>
    obtain ⟨h1, h2⟩ := ih
    refine ⟨by rw [List.length_append, hs, h1, List.length_append, Nat.add_mul]; simp, fun i y hy => ?_⟩
    rcases Nat.lt_or_ge i xs.length with hlt | hge
    · rw [List.getElem?_append_left hlt] at hy
      obtain ⟨A', c', h3, h4⟩ := h2 i y hy
      refine ⟨A', c', h3, fun j u hu => ?_⟩
      have hj : j < s := by rw [← hs y A' c']; exact (List.getElem?_eq_some_iff.1 hu).1
      rw [List.getElem?_append_left, h4 j u hu]
      rw [h1]
      have : (i + 1) * s ≤ xs.length * s := Nat.mul_le_mul_right _ hlt
      rw [Nat.succ_mul] at this
      omega
    · rw [List.getElem?_append_right hge] at hy
      rcases Nat.eq_or_lt_of_le hge with rfl | hlt
      · rw [Nat.sub_self] at hy
        simp at hy
        subst hy
        refine ⟨A, c, hi, fun j u hu => ?_⟩
        rw [List.getElem?_append_right (by rw [h1]; omega), h1, Nat.add_sub_cancel_left]
        exact hu
      · rw [List.getElem?_eq_none (by simp; omega)] at hy; cases hy
/-- The elements, read. -/
theorem ElsIn.row {r : Rd X} {w : World} {base c : Nat} {e : TypeId} {A : Option Addr} {P : Nat → Prop} {cs : List Value} {xs : List X} (h : ElsIn f w P cs xs) (hs : ∀ x A c, ((f x).cells A c).length = r.size)
    (hown : w.ownsRow base e r.size (.slice A xs.length c) xs.length cs) (hr : ∀ x ∈ xs, ∀ A c, Ints w w.heap.size A (f x).nums → r.at_ w w.heap.size ((f x).cells A c) x) (hl : xs.length ≤ 17592186043904) : RowAt r w w.heap.size A xs := by
  obtain ⟨_, h2⟩ := h.at_ hs
  refine ⟨hl, fun i x hi => ?_⟩
  obtain ⟨A', c', h3, h4⟩ := h2 i x hi
  rcases hown.2 with ⟨h5, h6⟩ | ⟨g, cap, cur, h5, h6, h7, h8⟩
  · have := (List.getElem?_eq_some_iff.1 hi).1
    omega
  · injection h5 with h5 _ _
    subst h5
    exact ⟨⟨g, 0, none⟩, _, rfl, (Array.getElem?_eq_some_iff.1 h7).1, hr x (List.mem_of_getElem? hi) A' c' h3.1, fun j u hu => hown.cells (g := g) rfl _ _ (h4 j u hu)⟩
end
end Go.Proofs.YthcmopgdjibojaaGreatDoor.els

/- The closure that notes an error: its row; ranges; indices. Portable. -/
namespace Go.Proofs.YthcmopgdjibojaaGreatDoor.note
open Go.RowKit
open Go.Proofs.YthcmopgdjibojaaGreatDoor.lib Go.Proofs.YthcmopgdjibojaaGreatDoor.rd
set_option linter.unusedVariables false

/-- Block b is a box that holds a row of errors; the row lies at or beyond base. -/
def BoxRow (w : World) (b base : Nat) (xs : List Int) : Prop :=
  ∃ A c, Boxed w b 189 (.slice A xs.length c) ∧ w.ownsRow base 35 1 (.slice A xs.length c) xs.length (xs.map (.int .i64)) ∧ b < base ∧ base ≤ w.heap.size ∧ xs.length ≤ 100
theorem BoxRow.below {w w' : World} {b base : Nat} {xs : List Int} (h : BoxRow w b base xs) (hb : Below w.heap.size w w') : BoxRow w' b base xs := by
  obtain ⟨A, c, h1, h2, h3, h4, h5⟩ := h
  refine ⟨A, c, (hb.block b (by omega)).trans h1, ?_, h3, Nat.le_trans h4 hb.size, h5⟩
  rcases h2.2 with ⟨h6, h7⟩ | ⟨g, cap, cur, h6, h7, h8, h9⟩
  · exact ⟨h2.1, .inl ⟨h6, h7⟩⟩
  · exact ⟨h2.1, .inr ⟨g, cap, cur, h6, h7, (hb.block g (Array.getElem?_eq_some_iff.1 h8).1).trans h8, h9⟩⟩
/-- What a call of the closure has done. -/
def AddOut (w : World) (b base : Nat) (xs : List Int) (e : Ending) (w' : World) : Prop :=
  e = .returned (.tuple #[]) ∧ BoxRow w' b base xs ∧ Below b w w' ∧ (∀ k, b < k → k < base → w'.heap[k]? = w.heap[k]?) ∧ w.heap.size ≤ w'.heap.size


/-- n is from a to b. -/
def inB (n a b : Int) : Bool := decide (a ≤ n) && decide (n ≤ b)
theorem inB_bd {n a b : Int} (h : inB n a b = true) : a ≤ n ∧ n ≤ b := by unfold inB at h; simpa using h
end Go.Proofs.YthcmopgdjibojaaGreatDoor.note

/- loads.Right: portable part of LoadA. -/
namespace Go.Proofs.YthcmopgdjibojaaGreatDoor.loads
open Go.RowKit
open Go.Proofs.YthcmopgdjibojaaGreatDoor.lib
set_option linter.unusedVariables false

end Go.Proofs.YthcmopgdjibojaaGreatDoor.loads

/- The check of a window: portable part of WinA. -/
namespace Go.Proofs.YthcmopgdjibojaaGreatDoor.win
open Go.RowKit
set_option linter.unusedVariables false

/-- A stop as a value. -/
abbrev stop (p o c v : Int) : Value := .agg #[.int .i64 p, .int .i64 o, .int .i64 c, .int .i64 v]
/-- The stop is right. -/
def Good (p o c v : Int) : Prop := 0 ≤ p ∧ 0 ≤ o ∧ o ≤ c ∧ c ≤ 4096 ∧ 0 ≤ v ∧ v ≤ 4096
instance (p o c v : Int) : Decidable (Good p o c v) := by unfold Good; exact inferInstance
def tickB (n : Int) : Bool := decide (0 ≤ n ∧ n ≤ 4096)
theorem tick_t {n : Int} (h : tickB n = true) : 0 ≤ n ∧ n ≤ 4096 := by simpa [tickB] using h
theorem tick_f {n : Int} (h : ¬ tickB n = true) : n < 0 ∨ 4096 < n := by
  simp [tickB] at h
  omega
theorem ret_int {k : IntKind} {a b : Int} (h : a = b) : Ending.returned (.int k a) = .returned (.int k b) := by rw [h]
theorem ret_bool {a b : Bool} (h : a = b) : Ending.returned (.bool a) = .returned (.bool b) := by rw [h]
end Go.Proofs.YthcmopgdjibojaaGreatDoor.win

/- Equal lists of numbers: slices.Equal. Portable. -/
namespace Go.Proofs.YthcmopgdjibojaaGreatDoor.eqs
open Go.RowKit
open Go.Proofs.YthcmopgdjibojaaGreatDoor.lib Go.Proofs.YthcmopgdjibojaaGreatDoor.rd
set_option linter.unusedVariables false

end Go.Proofs.YthcmopgdjibojaaGreatDoor.eqs

/- Orders: within. Portable. -/
namespace Go.Proofs.YthcmopgdjibojaaGreatDoor.ord
open Go.RowKit
open Go.Proofs.YthcmopgdjibojaaGreatDoor.lib Go.Proofs.YthcmopgdjibojaaGreatDoor.rd Go.Proofs.YthcmopgdjibojaaGreatDoor.typ
set_option linter.unusedVariables false

end Go.Proofs.YthcmopgdjibojaaGreatDoor.ord

/- Names: of the program and of the reference. -/
namespace Go.Proofs.YthcmopgdjibojaaGreatDoor.txt
open Go.RowKit
open Go.Proofs.YthcmopgdjibojaaGreatDoor.lib
set_option linter.unusedVariables false

end Go.Proofs.YthcmopgdjibojaaGreatDoor.txt

/- Names: Name of the program and of the reference, walked. -/
namespace Go.Proofs.YthcmopgdjibojaaGreatDoor.txt
open Go.RowKit
open Go.Proofs.YthcmopgdjibojaaGreatDoor.lib
set_option linter.unusedVariables false

end Go.Proofs.YthcmopgdjibojaaGreatDoor.txt

/- Numbers, written. -/
namespace Go.Proofs.YthcmopgdjibojaaGreatDoor.txt
open Go.RowKit
open Go.Proofs.YthcmopgdjibojaaGreatDoor.lib
set_option linter.unusedVariables false

/-- The last digit. -/
def decD (n : Nat) : UInt8 := (48 + n % 10).toUInt8
/-- A number of at most f digits, written. -/
def decF : Nat → Nat → ByteArray
  | 0, _ => ⟨#[]⟩
  | f + 1, n => if n < 10 then ⟨#[decD n]⟩ else decF f (n / 10) ++ ⟨#[decD n]⟩
/-- A number, written. -/
def decS (n : Nat) : ByteArray := if n < 10 then ⟨#[(48 + n).toUInt8]⟩ else if n < 100 then ⟨#[(48 + n / 10).toUInt8, (48 + n % 10).toUInt8]⟩ else decF 20 n
theorem decF_size : ∀ f n, (decF f n).size ≤ f
  | 0, _ => Nat.le_refl _
  | f + 1, n => by
    unfold decF
    split
    · exact Nat.succ_le_succ (Nat.zero_le _)
    · rw [ByteArray.size_append]
      exact Nat.succ_le_succ (decF_size f _)
theorem decF_one {f n : Nat} (h : n < 10) : decF (f + 1) n = ⟨#[decD n]⟩ := by
  unfold decF
  rw [if_pos h]
theorem decF_more {f n : Nat} (h : ¬ n < 10) : decF (f + 1) n = decF f (n / 10) ++ ⟨#[decD n]⟩ := by
  rw [decF, if_neg h]
theorem decS_F (n : Nat) : decS n = decF 20 n := by
  unfold decS
  split
  · rename_i h
    rw [decF_one h]
    unfold decD
    rw [Nat.mod_eq_of_lt h]
  · rename_i h
    split
    · rename_i h2
      rw [decF_more h, decF_one (by omega)]
      unfold decD
      rw [Nat.mod_eq_of_lt (show n / 10 < 10 by omega)]
      rfl
    · rfl

theorem ret_str {a b : ByteArray} (h : a = b) : Ending.returned (.string a) = .returned (.string b) := by rw [h]
theorem tab1 {n : Nat} (h : n < 10) : (⟨#[48, 49, 50, 51, 52, 53, 54, 55, 56, 57, 97, 98, 99, 100, 101, 102, 103, 104, 105, 106, 107, 108, 109, 110, 111, 112, 113, 114, 115, 116, 117, 118, 119, 120, 121, 122]⟩ : ByteArray).extract n (n + 1) = decS n := by
  have hc : n = 0 ∨ n = 1 ∨ n = 2 ∨ n = 3 ∨ n = 4 ∨ n = 5 ∨ n = 6 ∨ n = 7 ∨ n = 8 ∨ n = 9 := by omega
  clear h
  rcases hc with rfl | rfl | rfl | rfl | rfl | rfl | rfl | rfl | rfl | rfl <;> exact of_decide_eq_true (by kernel_rfl)
def tabS : ByteArray := ⟨#[48, 48, 48, 49, 48, 50, 48, 51, 48, 52, 48, 53, 48, 54, 48, 55, 48, 56, 48, 57, 49, 48, 49, 49, 49, 50, 49, 51, 49, 52, 49, 53, 49, 54, 49, 55, 49, 56, 49, 57, 50, 48, 50, 49, 50, 50, 50, 51, 50, 52, 50, 53, 50, 54, 50, 55, 50, 56, 50, 57, 51, 48, 51, 49, 51, 50, 51, 51, 51, 52, 51, 53, 51, 54, 51, 55, 51, 56, 51, 57, 52, 48, 52, 49, 52, 50, 52, 51, 52, 52, 52, 53, 52, 54, 52, 55, 52, 56, 52, 57, 53, 48, 53, 49, 53, 50, 53, 51, 53, 52, 53, 53, 53, 54, 53, 55, 53, 56, 53, 57, 54, 48, 54, 49, 54, 50, 54, 51, 54, 52, 54, 53, 54, 54, 54, 55, 54, 56, 54, 57, 55, 48, 55, 49, 55, 50, 55, 51, 55, 52, 55, 53, 55, 54, 55, 55, 55, 56, 55, 57, 56, 48, 56, 49, 56, 50, 56, 51, 56, 52, 56, 53, 56, 54, 56, 55, 56, 56, 56, 57, 57, 48, 57, 49, 57, 50, 57, 51, 57, 52, 57, 53, 57, 54, 57, 55, 57, 56, 57, 57]⟩
set_option maxRecDepth 100000 in
theorem tab_all : (List.range 100).all (fun n => decide (n < 10) || decide (tabS.extract (n * 2) (n * 2 + 2) = decS n)) = true := by kernel_rfl
set_option maxRecDepth 100000 in
theorem tab2 {n : Nat} (h0 : ¬ n < 10) (h : n < 100) : (⟨#[48, 48, 48, 49, 48, 50, 48, 51, 48, 52, 48, 53, 48, 54, 48, 55, 48, 56, 48, 57, 49, 48, 49, 49, 49, 50, 49, 51, 49, 52, 49, 53, 49, 54, 49, 55, 49, 56, 49, 57, 50, 48, 50, 49, 50, 50, 50, 51, 50, 52, 50, 53, 50, 54, 50, 55, 50, 56, 50, 57, 51, 48, 51, 49, 51, 50, 51, 51, 51, 52, 51, 53, 51, 54, 51, 55, 51, 56, 51, 57, 52, 48, 52, 49, 52, 50, 52, 51, 52, 52, 52, 53, 52, 54, 52, 55, 52, 56, 52, 57, 53, 48, 53, 49, 53, 50, 53, 51, 53, 52, 53, 53, 53, 54, 53, 55, 53, 56, 53, 57, 54, 48, 54, 49, 54, 50, 54, 51, 54, 52, 54, 53, 54, 54, 54, 55, 54, 56, 54, 57, 55, 48, 55, 49, 55, 50, 55, 51, 55, 52, 55, 53, 55, 54, 55, 55, 55, 56, 55, 57, 56, 48, 56, 49, 56, 50, 56, 51, 56, 52, 56, 53, 56, 54, 56, 55, 56, 56, 56, 57, 57, 48, 57, 49, 57, 50, 57, 51, 57, 52, 57, 53, 57, 54, 57, 55, 57, 56, 57, 57]⟩ : ByteArray).extract (n * 2) (n * 2 + 2) = decS n := by
  have h1 := List.all_eq_true.1 tab_all n (List.mem_range.2 h)
  rw [Bool.or_eq_true, decide_eq_true_eq, decide_eq_true_eq] at h1
  rcases h1 with h1 | h1
  · exact absurd h1 h0
  · exact h1
set_option maxRecDepth 100000 in
theorem small_any (n : Nat) (hn : n < 100) (w : World) : Calls Tryz.prog 240 #[.int .i64 n] w fun e w' => e = .returned (.string (decS n)) ∧ w = w' := by
  have hn' : (n : Int) < 100 := by omega
  have hn0 : (0 : Int) ≤ n := by omega
  by_cases h : n < 10
  · have h' : (n : Int) < 10 := by omega
    go_enter Tryz.func240, Tryz.ntmps240
    go_wp2
    go_ret
    exact ⟨ret_str (tab1 h), rfl⟩
  · have h' : ¬ (n : Int) < 10 := by omega
    go_enter Tryz.func240, Tryz.ntmps240
    go_wp2
    go_ret
    exact ⟨ret_str (tab2 h hn), rfl⟩
def agn : Value → Nat
  | .bool true => 1
  | _ => 0
theorem conv_one (w : World) (z : Int) (b : UInt8) (hb : (b.toNat : Int) = z) : (convert 123 9 (.slice (some ⟨w.heap.size, 0, none⟩) 1 1)).run Tryz.prog (w.alloc (.cells #[.int .u8 z] 5)) = .ok (.string ⟨#[b]⟩) (w.alloc (.cells #[.int .u8 z] 5)) := by
  refine run_convert_bytes_back (P := Tryz.prog) _ 123 9 5 ⟨w.heap.size, 0, none⟩ 1 [b] Tryz.underlying123 Tryz.underlying5 Tryz.underlying9 ?_
  intro j hj
  obtain rfl : j = 0 := by simpa using hj
  have hc := (cell_one_new w (.int .u8 z) 5)
  simp only [List.getElem_cons_zero]
  rw [hb]
  simpa using hc 0 (.int .u8 z) rfl
theorem byte_of {b : UInt8} {n : Nat} (h : (b.toNat : Int) = 48 + (n : Int)) (hn : n < 10) : b = (48 + n).toUInt8 := by
  apply UInt8.toNat_inj.1
  rw [Nat.toUInt8_eq, UInt8.toNat_ofNat']
  omega
theorem byte_ex (m : Nat) : ∃ b : UInt8, (b.toNat : Int) = 48 + (m : Int) % 10 := ⟨(48 + m % 10).toUInt8, by rw [Nat.toUInt8_eq, UInt8.toNat_ofNat']; omega⟩
theorem dec_step {n m f : Nat} {s : ByteArray} {b : UInt8} (h : decF 20 n = decF (f + 1) m ++ s) (hb : (b.toNat : Int) = 48 + (m : Int) % 10) (h10 : ¬ m < 10) : decF 20 n = decF f (m / 10) ++ (⟨#[b]⟩ ++ s) := by
  have e := byte_of (n := m % 10) (b := b) (by omega) (by omega)
  rw [h, decF_more h10, ByteArray.append_assoc]
  unfold decD
  rw [e]
theorem dec_last {n m f : Nat} {s : ByteArray} {b : UInt8} (h : decF 20 n = decF (f + 1) m ++ s) (hb : (b.toNat : Int) = 48 + (m : Int) % 10) (h10 : m < 10) : decF 20 n = ⟨#[b]⟩ ++ s := by
  have e := byte_of (n := m % 10) (b := b) (by omega) (by omega)
  rw [h, decF_one h10]
  unfold decD
  rw [e]
set_option maxRecDepth 100000 in
theorem rdec_any (n : Nat) (hn : n < 1000000000000000000) (w : World) : Calls Tryz.prog 18 #[.int .i64 n] w fun e w' => e = .returned (.string (decS n)) ∧ Below w.heap.size w w' := by
  have hn' : (n : Int) < 1000000000000000000 := by omega
  have hn0 : (0 : Int) ≤ n := by omega
  rw [decS_F n]
  obtain ⟨R, hR⟩ : ∃ R, decF 20 n = R := ⟨_, rfl⟩
  have hR2 := decF_size 20 n
  rw [hR] at hR2 ⊢
  have H0 : Hid (decF 20 n = decF (19 + 1) n ++ ⟨#[]⟩) := Lib.hid (by show decF 20 n = decF 20 n ++ ByteArray.empty; rw [ByteArray.append_empty])
  have HR := Lib.hid hR
  clear hR
  go_enter Tryz.func18, Tryz.ntmps18
  go_wp2
  go_loopw [3, 4, 5, 6] (fun s l g _ wr => Below w.heap.size w wr ∧ ∃ m : Nat, l = .int .i64 m ∧ m < 1000000000000000000 ∧ ((g = .bool true ∧ ∃ (f : Nat) (t : ByteArray), Hid (decF 20 n = decF (f + 1) m ++ t) ∧ Hid (m < 10 ^ (f + 1)) ∧ t.size + f ≤ 40 ∧ s = .string t) ∨ (g = .bool false ∧ m = 0 ∧ s = .string R))) (fun _ l g _ _ => 2 * (intOf l).toNat + agn g)
  case atStart => exact ⟨Below.refl _ _, n, rfl, hn, .inl ⟨rfl, 19, ⟨#[]⟩, H0, Lib.hid (by omega), by decide, rfl⟩⟩
  case round =>
    obtain ⟨hb, m, rfl, hm, hc⟩ := hrel
    obtain ⟨b, hbz⟩ := byte_ex m
    have kc := conv_one wr (48 + (m : Int) % 10) b hbz
    have HB := Lib.hid hbz
    have hneg : ¬ ((m : Int) % 10 < 0) := by omega
    have hbw := hb.size
    have hn2 : (0 : Int) ≤ (m : Int) / 10 := by omega
    clear hbz
    rcases hc with ⟨rfl, f, t, hmn, hmf, ht, rfl⟩ | ⟨rfl, rfl, rfl⟩
    · have ht2 : t.size ≤ 40 := by omega
      by_cases h10 : m < 10
      · have hz : ((m : Int) / 10) = 0 := by omega
        have hd : Hid (R = ⟨#[b]⟩ ++ t) := Lib.hid (by rw [← HR.out]; exact dec_last hmn.out HB.out h10)
        go_wp2
        go_roundw
        case rel => exact ⟨hb.alloc hbw _, 0, by go_num, by omega, .inr ⟨rfl, rfl, by rw [hd.out]⟩⟩
        case measure => simp [intOf, agn]
      · rcases f with _ | f
        · exact absurd hmf.out (by omega)
        have hd : Hid (decF 20 n = decF (f + 1) (m / 10) ++ (⟨#[b]⟩ ++ t)) := Lib.hid (dec_step hmn.out HB.out h10)
        have hsz : Hid ((⟨#[b]⟩ ++ t : ByteArray).size + f ≤ 40) := Lib.hid (by
          rw [ByteArray.size_append]
          have e1 : (⟨#[b]⟩ : ByteArray).size = 1 := rfl
          omega)
        have hmf2 : Hid (m / 10 < 10 ^ (f + 1)) := Lib.hid (by have := hmf.out; rw [Nat.pow_succ] at this; omega)
        obtain ⟨q, hq⟩ : ∃ q, m / 10 = q := ⟨_, rfl⟩
        have hz : ((m : Int) / 10) = (q : Int) := by omega
        have hq1 : q < 1000000000000000000 := by omega
        have hq2 : (q : Int) ≠ 0 := by omega
        have hq3 : ((q : Int) != 0) = true := by simp; omega
        have hq4 : ((q : Int) == 0) = false := by simp; omega
        rw [hq] at hd hmf2
        have HZ := Lib.hid (show 10 * q ≤ m by omega)
        clear hq
        go_wp2
        go_roundw
        case rel => exact ⟨hb.alloc hbw _, q, by go_num, by omega, .inl ⟨rfl, f, _, hd, hmf2, hsz.out, rfl⟩⟩
        case measure => simp [intOf, agn]; omega
    · clear kc hneg hn hn' hn0 hm hn2 HB
      go_wp2
      go_ret
      exact ⟨rfl, hb⟩
end Go.Proofs.YthcmopgdjibojaaGreatDoor.txt

/- text.Decimal of a number below 100. -/
namespace Go.Proofs.YthcmopgdjibojaaGreatDoor.txt
open Go.RowKit
open Go.Proofs.YthcmopgdjibojaaGreatDoor.lib
set_option linter.unusedVariables false

theorem formatInt_any (n : Nat) (hn : n < 100) (w : World) : Calls Tryz.prog 210 #[.int .i64 n, .int .i64 10] w fun e w' => e = .returned (.string (decS n)) ∧ w = w' := by
  have hn' : (n : Int) < 100 := by omega
  have hn0 : (0 : Int) ≤ n := by omega
  go_enter Tryz.func210, Tryz.ntmps210
  go_wp2_with (go_at_call 240; refine (small_any n hn _).mono ?_; rintro e w1 ⟨rfl, rfl⟩)
  go_ret
  exact ⟨rfl, rfl⟩
theorem itoa0_any (n : Nat) (hn : n < 100) (w : World) : Calls Tryz.prog 155 #[.int .i64 n] w fun e w' => e = .returned (.string (decS n)) ∧ w = w' := by
  go_enter Tryz.func155, Tryz.ntmps155
  go_wp2_with (go_at_call 210; refine (formatInt_any n hn _).mono ?_; rintro e w1 ⟨rfl, rfl⟩)
  go_ret
  exact ⟨rfl, rfl⟩
theorem itoa_any (n : Nat) (hn : n < 100) (w : World) : Calls Tryz.prog 108 #[.int .i64 n] w fun e w' => e = .returned (.string (decS n)) ∧ w = w' := by
  go_enter Tryz.func108, Tryz.ntmps108
  go_wp2_with (go_at_call 155; refine (itoa0_any n hn _).mono ?_; rintro e w1 ⟨rfl, rfl⟩)
  go_ret
  exact ⟨rfl, rfl⟩
theorem dec_any (n : Nat) (hn : n < 100) (w : World) : Calls Tryz.prog 62 #[.int .i64 n] w fun e w' => e = .returned (.string (decS n)) ∧ w = w' := by
  go_enter Tryz.func62, Tryz.ntmps62
  go_wp2_with (go_at_call 108; refine (itoa_any n hn _).mono ?_; rintro e w1 ⟨rfl, rfl⟩)
  go_ret
  exact ⟨rfl, rfl⟩
end Go.Proofs.YthcmopgdjibojaaGreatDoor.txt

/- Violations that a call appends: their row, portable. -/
namespace Go.Proofs.YthcmopgdjibojaaGreatDoor.flts
open Go.RowKit
open Go.Proofs.YthcmopgdjibojaaGreatDoor.lib Go.Proofs.YthcmopgdjibojaaGreatDoor.rd Go.Proofs.YthcmopgdjibojaaGreatDoor.typ Go.Proofs.YthcmopgdjibojaaGreatDoor.txt Go.Proofs.YthcmopgdjibojaaGreatDoor.app
set_option linter.unusedVariables false

theorem fault_elem : ElemOf 26 68 (.agg #[.int .i64 0, .string ⟨#[]⟩]) 2 24 := ⟨Tryz.underlying26, by kernel_rfl, rfl, by decide, by decide⟩
/-- The cells of violations. -/
def fcs (fs : List Flt) : List Value := fs.flatMap fun f => [.int .i64 f.err, .string f.at_]
theorem fcs_snoc (fs : List Flt) (f : Flt) : fcs (fs ++ [f]) = fcs fs ++ [.int .i64 f.err, .string f.at_] := by simp [fcs]
def Fown (w : World) (base : Nat) (A : Option Addr) (c : Nat) (fs : List Flt) : Prop := w.ownsRow base 68 2 (.slice A fs.length c) fs.length (fcs fs)

def FltsOut (w : World) (fs : List Flt) (e : Ending) (w' : World) : Prop := ∃ A c, e = .returned (.slice A fs.length c) ∧ Fown w' w.heap.size A c fs ∧ Below w.heap.size w w'

end Go.Proofs.YthcmopgdjibojaaGreatDoor.flts

/- slices.Index of numbers. Portable. -/
namespace Go.Proofs.YthcmopgdjibojaaGreatDoor.idx
open Go.RowKit
open Go.Proofs.YthcmopgdjibojaaGreatDoor.lib Go.Proofs.YthcmopgdjibojaaGreatDoor.rd
set_option linter.unusedVariables false
set_option linter.unusedSimpArgs false

end Go.Proofs.YthcmopgdjibojaaGreatDoor.idx

/- Loads and stores of whole structs in one step: the cells are not unrolled. Portable. -/
namespace Go.Proofs.YthcmopgdjibojaaGreatDoor.big
open Go.RowKit
open Go.Proofs.YthcmopgdjibojaaGreatDoor.lib Go.Proofs.YthcmopgdjibojaaGreatDoor.app
set_option linter.unusedVariables false

end Go.Proofs.YthcmopgdjibojaaGreatDoor.big

/- A struct that lies anywhere in a row, loaded in one step. Portable. -/
namespace Go.Proofs.YthcmopgdjibojaaGreatDoor.big
open Go.RowKit
open Go.Proofs.YthcmopgdjibojaaGreatDoor.lib Go.Proofs.YthcmopgdjibojaaGreatDoor.app Go.Proofs.YthcmopgdjibojaaGreatDoor.rd
set_option linter.unusedVariables false

/-- The cells cs lie from an address on. -/
def CellsAt (w : World) (ad : Addr) (cs : List Value) : Prop := ∀ (j : Nat) (u : Value), cs[j]? = some u → w.cell? (ad.add j) = some u
theorem CellsAt.below {w w' : World} {B : Nat} {ad : Addr} {cs : List Value} (h : CellsAt w ad cs) (hb : Below B w w') (ha : ad.block < B) : CellsAt w' ad cs := fun j u hu => (hb.cell (by rw [block_of_add]; exact ha)).trans (h j u hu)
theorem CellsAt.heap {w w' : World} {ad : Addr} {cs : List Value} (h : CellsAt w ad cs) (hb : w'.heap[ad.block]? = w.heap[ad.block]?) : CellsAt w' ad cs := fun j u hu => by
  rw [← h j u hu]
  unfold World.cell?
  rw [block_of_add, hb]
end Go.Proofs.YthcmopgdjibojaaGreatDoor.big
namespace Go.Proofs.YthcmopgdjibojaaGreatDoor.rd
open Go.RowKit
open Go.Proofs.YthcmopgdjibojaaGreatDoor.lib Go.Proofs.YthcmopgdjibojaaGreatDoor.big
end Go.Proofs.YthcmopgdjibojaaGreatDoor.rd

/- Marks: a map to truths that the call makes, read as a list of keys. Portable. -/
namespace Go.Proofs.YthcmopgdjibojaaGreatDoor.mrk
open Go.RowKit Go.Maps
open Go.Proofs.YthcmopgdjibojaaGreatDoor.lib
set_option linter.unusedVariables false

def hasB {X : Type} [DecidableEq X] (l : List X) (x : X) : Bool := decide (x ∈ l)
/-- Keys: the values, which of them can be keys, and the types. -/
structure KeyEnc (X : Type) (k t : TypeId) where
  val : X → Value
  ok : X → Prop
  law : Keyed Tryz.prog k
  ht : Tryz.prog.underlying t = some (.map k 4)
  key : ∀ x, ok x → ∃ kl, keyOf Tryz.prog k (val x) = some kl
  inj : ∀ x y, val x = val y → x = y
/-- Block b is a map whose true keys are those of l. -/
def Marks {X : Type} [DecidableEq X] {k t : TypeId} (E : KeyEnc X k t) (w : World) (b n : Nat) (l : List X) : Prop :=
  ∃ D : DataW Unit, w.ownsMap Tryz.prog k (plainElem Tryz.prog 4) b n D ∧ ∀ x kl, keyOf Tryz.prog k (E.val x) = some kl → D.atKey kl (.lit (.bool false)) = .lit (.bool (hasB l x))
section
variable {X : Type} [DecidableEq X] {k t : TypeId} {E : KeyEnc X k t} {w w' : World} {b n : Nat} {l : List X}
theorem Marks.made (E : KeyEnc X k t) (w : World) : Marks E (w.alloc (.map #[] 0)) w.heap.size 0 [] :=
  ⟨.map [], World.ownsMap_made _ _ _ _, fun x kl h => rfl⟩
theorem Marks.lt (h : Marks E w b n l) : b < w.heap.size := by
  obtain ⟨D, h1, _⟩ := h
  exact h1.lt
theorem Marks.below (h : Marks E w b n l) (hb : Below w.heap.size w w') : Marks E w' b n l := by
  have hlt := h.lt
  obtain ⟨D, ⟨es, clock, hbl, F, hs, hD⟩, h2⟩ := h
  exact ⟨D, ⟨es, clock, (hb.block b hlt).trans hbl, F, hs, hD⟩, h2⟩
theorem Marks.set (h : Marks E w b n l) (x : X) (hok : E.ok x) (hn : n < maxLen) : ∃ w', (Instr.mapUpdate t (.map (some b)) (E.val x) (.bool true)).run Tryz.prog w = .ok () w' ∧ Marks E w' b (n + 1) (l ++ [x]) ∧ w.grownBy w' (some b) := by
  obtain ⟨D, h1, h2⟩ := h
  obtain ⟨kl, hkl⟩ := E.key x hok
  have hD := h1.isMap
  obtain ⟨w', hrun, h3, h4⟩ := h1.update E.law E.ht hn hkl (plainElem_bool Tryz.underlying4 true)
  refine ⟨w', hrun, ⟨_, h3, fun y ky hky => ?_⟩, h4⟩
  by_cases hyx : y = x
  · subst hyx
    rw [hkl] at hky
    cases hky
    rw [atKey_put_same hD (E.law.key hkl)]
    simp [hasB]
  · have hne : ky ≠ kl := fun e => hyx (E.inj _ _ (E.law.inj hky (by rw [e]; exact hkl)))
    rw [atKey_put_other hne, h2 y ky hky]
    simp [hasB, hyx]
end
end Go.Proofs.YthcmopgdjibojaaGreatDoor.mrk

/- A row of violations that grows beside blocks that stay. Portable. -/
namespace Go.Proofs.YthcmopgdjibojaaGreatDoor.flts
open Go.RowKit
open Go.Proofs.YthcmopgdjibojaaGreatDoor.lib Go.Proofs.YthcmopgdjibojaaGreatDoor.rd Go.Proofs.YthcmopgdjibojaaGreatDoor.typ Go.Proofs.YthcmopgdjibojaaGreatDoor.app Go.Proofs.YthcmopgdjibojaaGreatDoor.mrk
set_option linter.unusedVariables false

/-- The row fs lies at (A, c), none of the blocks of prot. -/
structure OutP (w : World) (base : Nat) (prot : List Nat) (A : Option Addr) (c : Nat) (fs : List Flt) : Prop where
  own : w.ownsRow base 68 2 (.slice A fs.length c) fs.length (fcs fs)
  ne : ∀ q ∈ prot, (Value.slice A fs.length c).ownBlock ≠ some q
  lt : ∀ q ∈ prot, q < w.heap.size
theorem OutP.below {w w' : World} {base : Nat} {prot : List Nat} {A : Option Addr} {c : Nat} {fs : List Flt} (h : OutP w base prot A c fs) (hb : Below w.heap.size w w') : OutP w' base prot A c fs := ⟨own_below h.own hb, h.ne, fun q hq => Nat.lt_of_lt_of_le (h.lt q hq) hb.size⟩
theorem OutP.less {w : World} {base : Nat} {prot prot' : List Nat} {A : Option Addr} {c : Nat} {fs : List Flt} (h : OutP w base prot A c fs) (hp : ∀ q ∈ prot', q ∈ prot) : OutP w base prot' A c fs := ⟨h.own, fun q hq => h.ne q (hp q hq), fun q hq => h.lt q (hp q hq)⟩
/-- One more block to stay, newer than the row. -/
theorem OutP.more {w w' : World} {base : Nat} {prot : List Nat} {A : Option Addr} {c : Nat} {fs : List Flt} (h : OutP w base prot A c fs) (hb : Below w.heap.size w w') {q : Nat} (h1 : w.heap.size ≤ q) (h2 : q < w'.heap.size) : OutP w' base (q :: prot) A c fs := by
  have h' := h.below hb
  refine ⟨h'.own, fun p hp => ?_, fun p hp => ?_⟩
  · rcases List.mem_cons.1 hp with rfl | hp
    · intro e
      have := (World.ownsRow.lt h.own _ e).2
      omega
    · exact h'.ne p hp
  · rcases List.mem_cons.1 hp with rfl | hp
    · exact h2
    · exact h'.lt p hp
/-- What an append of one violation leaves. -/
theorem OutP.push {w w1 w' : World} {base : Nat} {prot : List Nat} {A : Option Addr} {c : Nat} {fs : List Flt} (h : OutP w base prot A c fs) (hb1 : Below w.heap.size w w1) {f : Flt} {g' c' : Nat}
    (hown : w'.ownsRow base 68 2 (.slice (some ⟨g', 0, none⟩) (fs.length + 1) c') (fs.length + 1) (fcs fs ++ [.int .i64 f.err, .string f.at_])) (hg : w1.grownBy w' (Value.slice A fs.length c).ownBlock)
    (hd : (Value.slice A fs.length c).ownBlock = some g' ∨ w1.heap.size ≤ g') : OutP w' base prot (some ⟨g', 0, none⟩) c' (fs ++ [f]) ∧ ∀ q ∈ prot, w'.heap[q]? = w.heap[q]? := by
  have s1 := hb1.size
  refine ⟨⟨?_, fun q hq => ?_, fun q hq => ?_⟩, fun q hq => ?_⟩
  · rw [fcs_snoc, List.length_append]
    exact hown
  · intro e
    have e' : some g' = some q := e
    rcases hd with hd | hd
    · exact h.ne q hq (hd.trans e')
    · have := h.lt q hq
      injection e' with e'
      omega
  · have := h.lt q hq
    have := hg.size
    omega
  · have hlt := h.lt q hq
    exact (hg.block q (by omega) (fun e => h.ne q hq e.symm)).trans (hb1.block q hlt)
end Go.Proofs.YthcmopgdjibojaaGreatDoor.flts

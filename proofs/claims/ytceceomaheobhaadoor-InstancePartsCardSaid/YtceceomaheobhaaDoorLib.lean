/- Small words on memory: a slice that reads as a list, a row of the call's own that grows by one integer. -/
import Derived.Test.YtceceomaheobhaaDoorRows
import Derived.WalkKit
import Derived.WalkSpells
import Derived.WalkLawsBesides
import Derived.Lib.Hide
import Derived.Laws.OwnMore
import Derived.Deep.AppendLies
import Derived.Deep.Draws
import Derived.Maps.AppendAt
import Derived.Laws.MakeOwn
namespace Go.Proofs.YtceceomaheobhaaDoor.lib
open Go.RowKit
set_option linter.unusedVariables false

theorem ret_int {k : IntKind} {a b : Int} (h : a = b) : Ending.returned (.int k a) = .returned (.int k b) := by rw [h]
theorem ret_bool {a b : Bool} (h : a = b) : Ending.returned (.bool a) = .returned (.bool b) := by rw [h]
theorem ret_ii {k l : IntKind} {a b c d : Int} (h : a = b) (h' : c = d) : Ending.returned (.tuple #[.int k a, .int l c]) = .returned (.tuple #[.int k b, .int l d]) := by rw [h, h']
theorem ret_ib {k : IntKind} {a b : Int} {c d : Bool} (h : a = b) (h' : c = d) : Ending.returned (.tuple #[.int k a, .bool c]) = .returned (.tuple #[.int k b, .bool d]) := by rw [h, h']
theorem ret_vi {l : IntKind} {a b : Value} {c d : Int} (h : a = b) (h' : c = d) : Ending.returned (.tuple #[a, .int l c]) = .returned (.tuple #[b, .int l d]) := by rw [h, h']

theorem block_of_add (a : Addr) (n : Nat) : (a.add n).block = a.block := by unfold Addr.add; split <;> rfl
theorem add_of_add (a : Addr) (i j : Nat) : (a.add i).add j = a.add (i + j) := by
  unfold Addr.add
  by_cases hi : i = 0 <;> by_cases hj : j = 0 <;> simp [hi, hj, Nat.add_assoc]

/-- A slice's value reads as the list xs; what is read lies below block B. -/
def Reads (w : World) (B size : Nat) (A : Option Addr) (n : Nat) (xs : List Value) : Prop :=
  xs.length = n * size ∧ (0 < n → ∃ ad, A = some ad ∧ ad.block < B ∧ ∀ j u, xs[j]? = some u → w.cell? (ad.add j) = some u)

section
variable {w w' : World} {B B' size n : Nat} {A : Option Addr} {xs : List Value}
theorem Reads.none_ : Reads w B size A 0 [] := ⟨by simp, fun h => absurd h (by omega)⟩
theorem Reads.at_ {k : Nat} (h : Reads w B 1 A n xs) (hk : k < n) : ∃ ad u, A = some ad ∧ ad.block < B ∧ xs[k]? = some u ∧ w.cell? (ad.add k) = some u := by
  obtain ⟨ad, e, hb, hc⟩ := h.2 (by omega)
  have hl : k < xs.length := by have := h.1; omega
  exact ⟨ad, xs[k], e, hb, List.getElem?_eq_getElem hl, hc k _ (List.getElem?_eq_getElem hl)⟩
theorem Reads.keep (h : Reads w B size A n xs) (hk : ∀ p : Addr, p.block < B → w'.cell? p = w.cell? p) : Reads w' B size A n xs :=
  ⟨h.1, fun hn => by
    obtain ⟨ad, e, hb, hc⟩ := h.2 hn
    exact ⟨ad, e, hb, fun j u hu => (hk _ (by rw [block_of_add]; exact hb)).trans (hc j u hu)⟩⟩
theorem Reads.more (h : Reads w B size A n xs) (hB : B ≤ B') : Reads w B' size A n xs :=
  ⟨h.1, fun hn => by
    obtain ⟨ad, e, hb, hc⟩ := h.2 hn
    exact ⟨ad, e, by omega, hc⟩⟩
theorem Reads.below (h : Reads w B size A n xs) (hb : Below B w w') : Reads w' B size A n xs := h.keep fun _ hp => hb.cell hp
theorem Reads.drew (h : Reads w B size A n xs) : Reads w.drew B size A n xs := h
theorem Reads.drewN (h : Reads w B size A n xs) (k : Nat) : Reads (w.drewN k) B size A n xs := h
theorem Reads.alloc (h : Reads w B size A n xs) (hB : B ≤ w.heap.size) (o : Obj) : Reads (w.alloc o) B size A n xs := h.keep fun p hp => World.cell?_alloc_lt w o p (by omega)
theorem Reads.setCell (h : Reads w B size A n xs) {p : Addr} (hB : B ≤ p.block) (u : Value) : Reads (w.setCell p u) B size A n xs :=
  h.keep fun q hq => World.cell?_setCell_other w p q u (fun e => by subst e; omega)
theorem Reads.of_own {base : Nat} {e : TypeId} {c : Nat} (h : w.ownsRow base e size (.slice A n c) n xs) : Reads w w.heap.size size A n xs := by
  refine ⟨h.1, fun hn => ?_⟩
  obtain ⟨g, cap, hv, _, hlt⟩ := h.form hn
  have hA : A = some ⟨g, 0, none⟩ := by injection hv
  subst hA
  exact ⟨_, rfl, hlt, h.cells (g := g) rfl⟩
end

/-- What the call owns is a slice's value. -/
theorem own_form {w : World} {base : Nat} {e : TypeId} {size n : Nat} {v : Value} {xs : List Value} (h : w.ownsRow base e size v n xs) : ∃ A c, v = .slice A n c := by
  rcases h.2 with ⟨rfl, rfl⟩ | ⟨g, cap, cur, rfl, _⟩
  · exact ⟨none, 0, rfl⟩
  · exact ⟨_, _, rfl⟩
theorem own_base {w : World} {base : Nat} {e : TypeId} {size n : Nat} {v : Value} {xs : List Value} (h : w.ownsRow base e size v n xs) : ∀ k, v.ownBlock = some k → base ≤ k := by
  rcases h.2 with ⟨rfl, _⟩ | ⟨g, cap, cur, rfl, hg, _⟩
  · intro k hk; simp [Value.ownBlock] at hk
  · intro k hk
    simp [Value.ownBlock] at hk
    omega

theorem int_info : (Tryd.prog.info? 3).map (fun i => (i.zero, i.size, i.bytes)) = some (some (.int .i64 0), 1, 8) := by kernel_rfl

/-- 'out = append(out, x)' of one integer, out the call's own: the row grows by x. -/
theorem push_int {ops : Array Oper} {rest : List Oper} {o : Oper} {a : Act} {Q : Exit → Act → World → Prop} {w : World} (hgd : o.guard = none) (s x : Operand)
    (ho : o.op = .call { callee := .builtin .append, args := #[s, x], argTypes := #[37, 37] })
    (base : Nat) (v : Value) (n : Nat) (xs : List Int) (hs : a.eval s = v) (hown : w.ownsRow base 3 1 v n (xs.map (.int .i64)))
    (u : Int) (hx : a.eval x = .slice (some ⟨w.heap.size, 0, none⟩) 1 1) (hn : n < 17592186044416) (hbase : base ≤ w.heap.size)
    (h : ∀ A c w', w'.ownsRow base 3 1 (.slice A (n + 1) c) (n + 1) ((xs ++ [u]).map (.int .i64)) → Below base w w' → w.heap.size < w'.heap.size → wpList Tryd.prog ops Q rest (a.put o.dst (.slice A (n + 1) c)) w') :
    wpList Tryd.prog ops Q (o :: rest) a (w.alloc (.cells #[.int .i64 u] 3)) := by
  obtain ⟨i0, hi, hz0, hz1, hz2⟩ := info_parts int_info
  refine wpList_append_own _ hgd s x _ ho base 3 i0 (.int .i64 0) 1 8 Tryd.underlying37 hi hz0 hz1 hz2 rfl (by decide) v n (xs.map (.int .i64)) hs (hown.alloc _) ⟨w.heap.size, 0, none⟩ 1 1 [.int .i64 u] hx rfl (cell_one_new _ _ _) ?_ (by unfold maxLen; omega) (by omega) (by simp; omega) ?_
  · intro u hu
    simp at hu
    subst hu
    rfl
  intro v' w1 hown' hg _
  obtain ⟨A, c, rfl⟩ := own_form hown'
  refine h A c w1 (by simpa using hown') ?_ ?_
  · exact ((Below.refl base w).alloc hbase _).grown hg (by simp; omega) (own_base hown)
  · have := hg.size; simp at this; omega

/-- The same at a step of a region that draws its order, in whatever world. -/
theorem step_push_int {ops : Array Oper} {o : Oper} {a : Act} {K : Act → World → Prop} {Q : Exit → Act → World → Prop} {E : Prop} {w : World} (hgd : o.guard = none) (s x : Operand)
    (ho : o.op = .call { callee := .builtin .append, args := #[s, x], argTypes := #[37, 37] })
    (base : Nat) (v : Value) (n : Nat) (xs : List Int) (hs : a.eval s = v) (hown : w.ownsRow base 3 1 v n (xs.map (.int .i64)))
    (g : Nat) (u : Int) (hx : a.eval x = .slice (some ⟨g, 0, none⟩) 1 1) (hc : w.cell? ⟨g, 0, none⟩ = some (.int .i64 u)) (hn : n < 17592186044415) (hbase : base ≤ w.heap.size)
    (h : ∀ A c w', w'.ownsRow base 3 1 (.slice A (n + 1) c) (n + 1) ((xs ++ [u]).map (.int .i64)) → Below base w w' → K (a.put o.dst (.slice A (n + 1) c)) w') :
    if Region.wanted o (yielded ops a.tmps) = true then Oper.wp Tryd.prog o a w K Q else E := by
  have hw : Region.wanted o (yielded ops a.tmps) = true := by simp [Region.wanted, hgd]
  rw [if_pos hw]
  obtain ⟨i0, hi, hz0, hz1, hz2⟩ := info_parts int_info
  refine wp_append_own w s x _ ho base 3 i0 (.int .i64 0) 1 8 Tryd.underlying37 hi hz0 hz1 hz2 rfl (by decide) v n (xs.map (.int .i64)) hs hown ⟨g, 0, none⟩ 1 1 [.int .i64 u] hx rfl ?_ ?_ (by unfold maxLen; omega) (by omega) hbase ?_
  · intro j v hj
    rcases j with _ | j
    · simp at hj
      subst hj
      exact hc
    · simp at hj
  · intro u hu
    simp at hu
    subst hu
    rfl
  intro v' w1 hown' hg _
  obtain ⟨A, c, rfl⟩ := own_form hown'
  exact h A c w1 (by simpa using hown') ((Below.refl base w).grown hg hbase (own_base hown))

/-- make([]int, n). -/
theorem make_ints {ops : Array Oper} {rest : List Oper} {o : Oper} {a : Act} {Q : Exit → Act → World → Prop} {w : World} (hg : o.guard = none) (l c : Operand) (hop : o.op = Op.makeSlice 37 l c)
    (base : Nat) (n : Nat) (hl : a.eval l = .int .i64 n) (hc : a.eval c = .int .i64 n) (hn : n < 17592186044416) (hbase : base ≤ w.heap.size)
    (h : ∀ w', w'.ownsRow base 3 1 (.slice (some ⟨w.heap.size, 0, none⟩) n n) n ((List.replicate n 0).map (.int .i64)) → Below w.heap.size w w' → w.heap.size < w'.heap.size → wpList Tryd.prog ops Q rest (a.put o.dst (.slice (some ⟨w.heap.size, 0, none⟩) n n)) w') :
    wpList Tryd.prog ops Q (o :: rest) a w := by
  obtain ⟨i0, hi, hz0, hz1, hz2⟩ := info_parts int_info
  refine wpList_make_full w hg l c 37 hop base 3 i0 (.int .i64 0) 1 Tryd.underlying37 hi hz0 hz1 .i64 .i64 n n n hl hc rfl rfl (by rw [hz2]; omega) (by unfold maxLen; omega) hbase ?_
  intro w' hown hg'
  refine h w' ?_ ((Below.refl _ _).grown hg' (Nat.le_refl _) (by intro k hk; cases hk)) ?_
  · have e : (madeCells (Value.int .i64 0).cells (n * 1)).toList = List.replicate n (Value.int .i64 0) := by
      rw [Nat.mul_one]
      exact toList_madeCells_one (.int .i64 0) n
    rw [List.map_replicate, ← e]
    exact hown
  · obtain ⟨cur, hh⟩ : ∃ o, w'.heap[w.heap.size]? = some o := by
      rcases hown.2 with ⟨h1, _⟩ | ⟨g, cap, cur, h1, _, h2, _⟩
      · cases h1
      · injection h1 with h1 _ _
        injection h1 with h1
        injection h1 with h1
        subst h1
        exact ⟨_, h2⟩
    rcases Nat.lt_or_ge w.heap.size w'.heap.size with h | h
    · exact h
    · rw [Array.getElem?_eq_none h] at hh; cases hh
theorem own_cells {w : World} {base g n cap : Nat} {l : List Int} (h : w.ownsRow base 3 1 (.slice (some ⟨g, 0, none⟩) n cap) n (l.map (.int .i64))) (j : Nat) (hj : j < n) : w.cell? ⟨g, j, none⟩ = some (.int .i64 (l[j]?.getD 0)) := by
  rw [h.cellAt j (by omega)]
  have hl : l.length = n := by simpa using h.1
  rw [List.getElem?_map, List.getElem?_eq_getElem (by omega)]
  rfl

/-- A slice of integers that reads as l, below block B. -/
def Ints (w : World) (B : Nat) (A : Option Addr) (l : List Int) : Prop := Reads w B 1 A l.length (l.map (.int .i64)) ∧ l.length ≤ 17592186043904
theorem Ints.at_ {w : World} {B : Nat} {A : Option Addr} {l : List Int} (h : Ints w B A l) {k : Nat} (hk : k < l.length) : ∃ ad x, A = some ad ∧ ad.block < B ∧ l[k]? = some x ∧ w.cell? (ad.add k) = some (.int .i64 x) := by
  obtain ⟨ad, u, hA, hb, hx, hc⟩ := h.1.at_ hk
  rw [List.getElem?_map, List.getElem?_eq_getElem hk] at hx
  injection hx with hx
  subst hx
  exact ⟨ad, l[k], hA, hb, List.getElem?_eq_getElem hk, hc⟩
theorem Ints.len {w : World} {B : Nat} {A : Option Addr} {l : List Int} (h : Ints w B A l) : l.length ≤ 17592186043904 := h.2
theorem Ints.below {w w' : World} {B : Nat} {A : Option Addr} {l : List Int} (h : Ints w B A l) (hb : Below B w w') : Ints w' B A l := ⟨h.1.below hb, h.2⟩
theorem Ints.more {w : World} {B B' : Nat} {A : Option Addr} {l : List Int} (h : Ints w B A l) (hB : B ≤ B') : Ints w B' A l := ⟨h.1.more hB, h.2⟩
theorem Ints.alloc {w : World} {B : Nat} {A : Option Addr} {l : List Int} (h : Ints w B A l) (hB : B ≤ w.heap.size) (o : Obj) : Ints (w.alloc o) B A l := ⟨h.1.alloc hB o, h.2⟩
theorem Ints.of_own {w : World} {base c : Nat} {A : Option Addr} {l : List Int} {e : TypeId} (h : w.ownsRow base e 1 (.slice A l.length c) l.length (l.map (.int .i64))) (hl : l.length ≤ 17592186043904) : Ints w w.heap.size A l := ⟨Reads.of_own h, hl⟩
theorem Ints.lit (w : World) (l : List Int) (hl : l.length ≤ 17592186043904) : Ints (w.alloc (.cells (l.map (.int .i64)).toArray 3)) (w.heap.size + 1) (some ⟨w.heap.size, 0, none⟩) l :=
  ⟨⟨by simp, fun _ => ⟨_, rfl, Nat.lt_succ_self _, fun j u hu => by
    have h := World.news_of_block (w := w.alloc (.cells (l.map (.int .i64)).toArray 3)) (B := w.heap.size) (heap_alloc_new w _) j u (by simpa using hu)
    exact h⟩⟩, hl⟩
theorem Ints.nil {w : World} {B : Nat} : Ints w B none [] := ⟨Reads.none_, by simp⟩
/-- A slice of slices of integers. -/
def Rows2 (w : World) (B : Nat) (A : Option Addr) (ls : List (List Int)) : Prop :=
  ls.length ≤ 17592186043904 ∧ ∃ vs : List Value, Reads w B 1 A ls.length vs ∧ ∀ (i : Nat) (l : List Int), ls[i]? = some l → ∃ Ai ci, vs[i]? = some (.slice Ai l.length ci) ∧ Ints w B Ai l
theorem Rows2.at_ {w : World} {B : Nat} {A : Option Addr} {ls : List (List Int)} (h : Rows2 w B A ls) {k : Nat} (hk : k < ls.length) :
    ∃ ad l Ai ci, A = some ad ∧ ad.block < B ∧ ls[k]? = some l ∧ w.cell? (ad.add k) = some (.slice Ai l.length ci) ∧ Ints w B Ai l := by
  obtain ⟨_, vs, hr, hi⟩ := h
  obtain ⟨ad, u, hA, hb, hx, hc⟩ := hr.at_ hk
  have hl : ls[k]? = some ls[k] := List.getElem?_eq_getElem hk
  obtain ⟨Ai, ci, h1, h2⟩ := hi k _ hl
  rw [hx] at h1
  injection h1 with h1
  subst h1
  exact ⟨ad, _, Ai, ci, hA, hb, hl, hc, h2⟩
theorem Rows2.below {w w' : World} {B : Nat} {A : Option Addr} {ls : List (List Int)} (h : Rows2 w B A ls) (hb : Below B w w') : Rows2 w' B A ls := by
  obtain ⟨h0, vs, hr, hi⟩ := h
  refine ⟨h0, vs, hr.below hb, fun i l hl => ?_⟩
  obtain ⟨Ai, ci, h1, h2⟩ := hi i l hl
  exact ⟨Ai, ci, h1, h2.below hb⟩
theorem Rows2.more {w : World} {B B' : Nat} {A : Option Addr} {ls : List (List Int)} (h : Rows2 w B A ls) (hB : B ≤ B') : Rows2 w B' A ls := by
  obtain ⟨h0, vs, hr, hi⟩ := h
  refine ⟨h0, vs, hr.more hB, fun i l hl => ?_⟩
  obtain ⟨Ai, ci, h1, h2⟩ := hi i l hl
  exact ⟨Ai, ci, h1, h2.more hB⟩
theorem Rows2.nil {w : World} {B : Nat} : Rows2 w B none [] := ⟨by simp, [], Reads.none_, fun i l h => by simp at h⟩
theorem drop_at' {α : Type} {l : List α} {k : Nat} {x : α} (h : l[k]? = some x) : l.drop k = x :: l.drop (k + 1) := by
  obtain ⟨hk, rfl⟩ := List.getElem?_eq_some_iff.1 h
  exact List.drop_eq_getElem_cons hk
theorem drop_at {l : List Int} {k : Nat} {x : Int} (h : l[k]? = some x) : l.drop k = x :: l.drop (k + 1) := by
  obtain ⟨hk, rfl⟩ := List.getElem?_eq_some_iff.1 h
  exact List.drop_eq_getElem_cons hk
theorem bel_drewN {B : Nat} {a w : World} (h : Below B a w) (n : Nat) : Below B a (w.drewN n) := ⟨h.os, h.tape, h.output, h.size, h.block⟩
end Go.Proofs.YtceceomaheobhaaDoor.lib

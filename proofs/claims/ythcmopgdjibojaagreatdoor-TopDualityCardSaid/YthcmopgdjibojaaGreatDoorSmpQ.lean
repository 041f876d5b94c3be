import Derived.Test.YthcmopgdjibojaaGreatDoorSmpM
import Derived.Test.YthcmopgdjibojaaGreatDoorSmxF
import Derived.Test.YthcmopgdjibojaaGreatDoorLnrX
import Derived.Deep.OwnRows
/- simplex: a tableau under construction. -/
namespace Go.Proofs.YthcmopgdjibojaaGreatDoor.smp
open Go.RowKit
open Go.Proofs.YthcmopgdjibojaaGreatDoor.lib Go.Proofs.YthcmopgdjibojaaGreatDoor.app Go.Proofs.YthcmopgdjibojaaGreatDoor.nt Go.Proofs.YthcmopgdjibojaaGreatDoor.rd Go.Proofs.YthcmopgdjibojaaGreatDoor.wh Go.Proofs.YthcmopgdjibojaaGreatDoor.smx Go.Proofs.YthcmopgdjibojaaGreatDoor.rat Go.Proofs.YthcmopgdjibojaaGreatDoor.typ
set_option linter.unusedVariables false
set_option linter.unusedSimpArgs false

/-- A program as the theory sees it. -/
def lpOf (t : Lnr) : Lp where
  n := t.cost.length
  m := t.rows.length
  cost := fun k => t.cost[k]?.getD 0
  coef := fun i k => ((t.rows[i]?.map (·.coef)).getD [])[k]?.getD 0
  kind := fun i => (t.rows[i]?.map (·.kind)).getD 0
  right := fun i => (t.rows[i]?.map (·.right)).getD 0
theorem own_kp {K : Nat → Prop} {w w' : World} {base : Nat} {e : TypeId} {size n : Nat} {v : Value} {xs : List Value} (h : w.ownsRow base e size v n xs) (hk : Kp K w w') (hK : ∀ k, v.ownBlock = some k → K k) : w'.ownsRow base e size v n xs := by
  rcases h.2 with ⟨h6, h7⟩ | ⟨g, cap, cur, h6, h7, h8, h9⟩
  · exact ⟨h.1, .inl ⟨h6, h7⟩⟩
  · refine ⟨h.1, .inr ⟨g, cap, cur, h6, h7, (hk.block g (Array.getElem?_eq_some_iff.1 h8).1 (hK g ?_)).trans h8, h9⟩⟩
    rw [h6]; rfl
theorem own_lt {w : World} {base : Nat} {e : TypeId} {size n : Nat} {v : Value} {xs : List Value} (h : w.ownsRow base e size v n xs) {k : Nat} (hk : v.ownBlock = some k) : k < w.heap.size := by
  rcases h.2 with ⟨h6, h7⟩ | ⟨g, cap, cur, h6, h7, h8, h9⟩
  · rw [h6] at hk; cases hk
  · rw [h6] at hk
    injection hk with hk
    rw [← hk]
    exact (Array.getElem?_eq_some_iff.1 h8).1
/-- 'out = append(out, x)' of one cell; which blocks stay. -/
theorem push_kp {t e : TypeId} {z : Value} {bytes : Nat} (E : ElemOf t e z 1 bytes) {ops : Array Oper} {rest : List Oper} {o : Oper} {a : Act} {Q : Exit → Act → World → Prop} {w : World} (hgd : o.guard = none) (s x : Operand)
    (ho : o.op = .call { callee := .builtin .append, args := #[s, x], argTypes := #[t, t] })
    (base : Nat) (A : Option Addr) (n c : Nat) (xs : List Value) (hs : a.eval s = .slice A n c) (hown : w.ownsRow base e 1 (.slice A n c) n xs)
    (u : Value) (hu : u.oneCell' = true) (hx : a.eval x = .slice (some ⟨w.heap.size, 0, none⟩) 1 1) (hn : n < 1000000000) (hbase : base ≤ w.heap.size)
    (h : ∀ g c' w', w'.ownsRow base e 1 (.slice (some ⟨g, 0, none⟩) (n + 1) c') (n + 1) (xs ++ [u]) → Kp (fun k => some k ≠ (Value.slice A n c).ownBlock) w w' → ((Value.slice A n c).ownBlock = some g ∨ w.heap.size ≤ g) → wpList Tryz.prog ops Q rest (a.put o.dst (.slice (some ⟨g, 0, none⟩) (n + 1) c')) w') :
    wpList Tryz.prog ops Q (o :: rest) a (w.alloc (.cells #[u] e)) := by
  refine wpList_app E s x ho base A n c xs hs (hown.alloc _) ⟨w.heap.size, 0, none⟩ 1 [u] hx rfl (cell_one_new _ _ _) ?_ (by omega) (by simp; omega) hgd ?_
  · intro v hv
    simp at hv
    subst hv
    exact hu
  intro g' c' w1 hown' hg hd
  refine h g' c' w1 hown' ⟨hg.os, hg.tape, hg.output, Nat.le_trans (by simp) hg.size, fun k hk hK => ?_⟩ ?_
  · exact (hg.block k (by simp; omega) hK).trans (Below.heap_alloc _ _ _ hk)
  · rcases hd with h | h
    · exact .inl h
    · exact .inr (by simp at h; omega)
/-- make([]Rat, n, n + 1) -/
theorem make_ratc {ops : Array Oper} {rest : List Oper} {o : Oper} {a : Act} {Q : Exit → Act → World → Prop} {w : World} (hg : o.guard = none) (l c : Operand) (hop : o.op = Op.makeSlice 31 l c)
    (n : Nat) (hl : a.eval l = .int .i64 n) (hc : a.eval c = .int .i64 ((n + 1 : Nat) : Int)) (hn : n < 1000000)
    (h : ∀ w', Arr w' w.heap.size n (fun _ => .string ⟨#[]⟩) → Below w.heap.size w w' → wpList Tryz.prog ops Q rest (a.put o.dst (.slice (some ⟨w.heap.size, 0, none⟩) n (n + 1))) w') :
    wpList Tryz.prog ops Q (o :: rest) a w := by
  obtain ⟨i0, hi, hz0, hz1, hz2⟩ := info_parts rat_elem.info
  refine wpList_plain hg fun K hK' => ?_
  have hrun := run_make (P := Tryz.prog) w 31 32 i0 (.string ⟨#[]⟩) Tryz.underlying31 hi hz0 .i64 .i64 n ((n + 1 : Nat) : Int) (by omega) (by omega) (by rw [hz2]; omega) (by omega)
  rw [Int.toNat_natCast, Int.toNat_natCast, hz1, Nat.mul_one] at hrun
  unfold Oper.wp
  simp [execOp, hop, hl, hc] at hrun ⊢
  rw [hrun]
  simp [Result.andThen]
  refine hK' _ _ (h _ ⟨_, _, World.alloc_heap_new w _, fun i hi => ?_⟩ ((Below.refl _ _).alloc (Nat.le_refl _) _))
  have e := toList_madeCells_one (.string ⟨#[]⟩) (n + 1)
  rw [← Array.getElem?_toList, show (madeCells (Value.string ⟨#[]⟩).cells (n + 1)).toList = _ from e, List.getElem?_replicate, if_pos (by omega)]
/-- Where the four slices lie in the struct. -/
def cellOf (q : Nat) : Nat := if q = 2 then 0 else if q = 5 then 2 else q
def fset {α : Type} (f : Nat → α) (q : Nat) (v : α) : Nat → α := fun k => if k = q then v else f k
/-- The struct of a tableau under construction. -/
def bst (p : Lp) (A : Nat → Option Addr) (c n : Nat → Nat) : Nat → Value
  | 0 => .slice (A 2) (n 2) (c 2)
  | 1 => .slice none 0 0
  | 2 => .slice (A 5) (n 5) (c 5)
  | 3 => .slice (A 3) (n 3) (c 3)
  | 4 => .slice (A 4) (n 4) (c 4)
  | 5 => .int .i64 p.N
  | 6 => .int .i64 p.n
  | _ => .int .i64 0
/-- A tableau under construction: four rows that grow, each with a tag of its own. -/
structure Bd (p : Lp) (B T : Nat) (A : Nat → Option Addr) (c n : Nat → Nat) (e : Nat → TypeId) (xs : Nat → List Value) (tag : Nat → Nat) (w : World) : Prop where
  st : Arr w T 8 (bst p A c n)
  own : ∀ q, 2 ≤ q → q ≤ 5 → w.ownsRow B (e q) 1 (.slice (A q) (n q) (c q)) (n q) (xs q)
  tT : tag T = 1
  tq : ∀ q k, 2 ≤ q → q ≤ 5 → (Value.slice (A q) (n q) (c q)).ownBlock = some k → tag k = q
  new : ∀ k, w.heap.size ≤ k → tag k = 0
  low : ∀ k, k < B → tag k = 0
theorem Bd.kp {p : Lp} {B T : Nat} {A : Nat → Option Addr} {c n : Nat → Nat} {e : Nat → TypeId} {xs : Nat → List Value} {tag : Nat → Nat} {w w' : World} {K : Nat → Prop} (h : Bd p B T A c n e xs tag w) (hk : Kp K w w') (hK : ∀ k, 0 < tag k → tag k < 6 → K k) : Bd p B T A c n e xs tag w' :=
  ⟨h.st.kp hk (hK _ (by rw [h.tT]; decide) (by rw [h.tT]; decide)), fun q h2 h5 => own_kp (h.own q h2 h5) hk (fun k hk' => hK k (by rw [h.tq q k h2 h5 hk']; omega) (by rw [h.tq q k h2 h5 hk']; omega)), h.tT, h.tq, fun k hk' => h.new k (Nat.le_trans hk.size hk'), h.low⟩
theorem Bd.push {p : Lp} {B T : Nat} {A : Nat → Option Addr} {c n : Nat → Nat} {e : Nat → TypeId} {xs : Nat → List Value} {tag : Nat → Nat} {w w' : World} (h : Bd p B T A c n e xs tag w) {q : Nat} (h2 : 2 ≤ q) (h5 : q ≤ 5) {g c' : Nat} {u : Value}
    (hB : B ≤ w.heap.size) (hown : w'.ownsRow B (e q) 1 (.slice (some ⟨g, 0, none⟩) (n q + 1) c') (n q + 1) (xs q ++ [u])) (hk : Kp (fun k => some k ≠ (Value.slice (A q) (n q) (c q)).ownBlock) w w') (hd : (Value.slice (A q) (n q) (c q)).ownBlock = some g ∨ w.heap.size ≤ g) :
    Bd p B T (fset A q (some ⟨g, 0, none⟩)) (fset c q c') (fset n q (n q + 1)) e (fset xs q (xs q ++ [u])) (fset tag g q) (w'.setCell ⟨T, cellOf q, none⟩ (.slice (some ⟨g, 0, none⟩) (n q + 1) c')) := by
  have hTw := h.st.lt
  have hTg : T ≠ g := fun e => by
    rcases hd with h1 | h1
    · have := h.tq q g h2 h5 h1; rw [← e, h.tT] at this; omega
    · omega
  have hTo : some T ≠ (Value.slice (A q) (n q) (c q)).ownBlock := fun e => by
    have := h.tq q T h2 h5 e.symm; rw [h.tT] at this; omega
  have hglt : g < w'.heap.size := own_lt hown rfl
  have hgB : B ≤ g := own_base hown g rfl
  have hset : ∀ (q' k : Nat) {e' : TypeId} {v : Value} {m : Nat} {ys : List Value}, w'.ownsRow B e' 1 v m ys → (∀ k, v.ownBlock = some k → k ≠ T) → (w'.setCell ⟨T, cellOf q, none⟩ (.slice (some ⟨g, 0, none⟩) (n q + 1) c')).ownsRow B e' 1 v m ys := fun q' k e' v m ys ho hne => own_kp ho ((Kp.refl (K := fun k => k ≠ T) w').set (fun k _ h => h) _) hne
  refine ⟨?_, fun q' h2' h5' => ?_, ?_, fun q' k h2' h5' hb => ?_, fun k hk' => ?_, fun k hk' => ?_⟩
  · refine ((h.st.kp hk hTo).set (cellOf q) _).congr fun i hi => ?_
    have hq : q = 2 ∨ q = 3 ∨ q = 4 ∨ q = 5 := by omega
    rcases hq with rfl | rfl | rfl | rfl <;> rcases i with _ | _ | _ | _ | _ | _ | _ | _ | i <;> first | rfl | omega
  · by_cases eq : q' = q
    · subst eq
      simp only [fset, if_pos]
      exact hset q' 0 hown (fun k hk' => by injection hk' with hk'; rw [← hk']; exact hTg.symm)
    · simp only [fset, if_neg eq]
      refine hset q' 0 (own_kp (h.own q' h2' h5') hk (fun k hk' e => ?_)) (fun k hk' e => ?_)
      · have h1 := h.tq q' k h2' h5' hk'
        have h3 := h.tq q k h2 h5 e.symm
        omega
      · have h1 := h.tq q' k h2' h5' hk'
        rw [e, h.tT] at h1; omega
  · simp only [fset, if_neg hTg]; exact h.tT
  · by_cases eq : q' = q
    · subst eq
      simp only [fset, if_pos] at hb ⊢
      injection hb with hb
      rw [if_pos hb.symm]
    · simp only [fset, if_neg eq] at hb ⊢
      have h1 := h.tq q' k h2' h5' hb
      rw [if_neg]
      · exact h1
      · intro e
        rcases hd with h3 | h3
        · have := h.tq q g h2 h5 h3; rw [e, this] at h1; exact eq h1.symm
        · have := own_lt (h.own q' h2' h5') hb; omega
  · have hk2 : w'.heap.size ≤ k := by simpa [World.setCell] using hk'
    simp only [fset]
    rw [if_neg (by omega)]
    exact h.new k (Nat.le_trans hk.size hk2)
  · simp only [fset]
    rw [if_neg (by omega)]
    exact h.low k hk'
end Go.Proofs.YthcmopgdjibojaaGreatDoor.smp

/- simplex: a tableau that is built. -/
namespace Go.Proofs.YthcmopgdjibojaaGreatDoor.smp
open Go.RowKit
open Go.Proofs.YthcmopgdjibojaaGreatDoor.lib Go.Proofs.YthcmopgdjibojaaGreatDoor.app Go.Proofs.YthcmopgdjibojaaGreatDoor.nt Go.Proofs.YthcmopgdjibojaaGreatDoor.rd Go.Proofs.YthcmopgdjibojaaGreatDoor.wh Go.Proofs.YthcmopgdjibojaaGreatDoor.smx Go.Proofs.YthcmopgdjibojaaGreatDoor.rat Go.Proofs.YthcmopgdjibojaaGreatDoor.typ
set_option linter.unusedVariables false
set_option linter.unusedSimpArgs false

def e0 (q : Nat) : TypeId := if q = 2 then 31 else if q = 4 then 4 else 3
def x0 (p : Lp) (rb : Nat → Nat) (i q : Nat) : List Value := (List.range i).map fun j => if q = 2 then .slice (some ⟨rb j, 0, none⟩) (p.L + 1) (p.L + 1) else if q = 4 then .bool (decide (p.right j < 0)) else .int .i64 (p.u j)
theorem x0_next (p : Lp) (rb : Nat → Nat) (i q : Nat) : x0 p rb (i + 1) q = x0 p rb i q ++ [if q = 2 then .slice (some ⟨rb i, 0, none⟩) (p.L + 1) (p.L + 1) else if q = 4 then .bool (decide (p.right i < 0)) else .int .i64 (p.u i)] := by
  unfold x0; rw [List.range_succ, List.map_append]; rfl
theorem x0_rb (p : Lp) (rb rb' : Nat → Nat) (i q : Nat) (h : ∀ j, j < i → rb j = rb' j) : x0 p rb i q = x0 p rb' i q := by
  unfold x0
  refine List.map_congr_left fun j hj => ?_
  rw [h j (List.mem_range.1 hj)]
theorem x0_get (p : Lp) (rb : Nat → Nat) {i j : Nat} (q : Nat) (h : j < i) : (x0 p rb i q)[j]?.getD undef = if q = 2 then .slice (some ⟨rb j, 0, none⟩) (p.L + 1) (p.L + 1) else if q = 4 then .bool (decide (p.right j < 0)) else .int .i64 (p.u j) := by
  unfold x0
  rw [List.getElem?_map, List.getElem?_range h]; rfl
/-- The rows so far. -/
structure Bt (p : Lp) (B T i : Nat) (A : Nat → Option Addr) (c : Nat → Nat) (rb tag : Nat → Nat) (w : World) : Prop where
  bd : ∃ n xs, Bd p B T A c n e0 xs tag w ∧ ∀ q, 2 ≤ q → q ≤ 5 → n q = i ∧ xs q = x0 p rb i q
  row : ∀ j, j < i → tag (rb j) = 7 + j ∧ Arr w (rb j) (p.L + 1) (vec (p.A j))
def blk (A : Option Addr) : Nat := (A.map (·.block)).getD 0
def geoB (T : Nat) (A : Nat → Option Addr) (c : Nat → Nat) (rb tag : Nat → Nat) : Geo :=
  ⟨T, blk (A 2), blk (A 3), blk (A 4), blk (A 5), 0, rb, tag, A 2, A 5, A 3, A 4, c 2, c 5, c 3, c 4, 0⟩
theorem Bt.done {p : Lp} {B T : Nat} {A : Nat → Option Addr} {c : Nat → Nat} {rb tag : Nat → Nat} {w : World} (h : Bt p B T p.m A c rb tag w) :
    GeoOk p (geoB T A c rb tag) B ∧ TS p (geoB T A c rb tag) (.slice none 0 0) ⟨p.A, fun _ => 0, p.u⟩ w := by
  obtain ⟨⟨n, xs, hb, hq⟩, hr⟩ := h
  have hf : 0 < p.m → ∀ q, 2 ≤ q → q ≤ 5 → ∃ g, A q = some ⟨g, 0, none⟩ ∧ tag g = q ∧ Arr w g p.m (fun j => (x0 p rb p.m q)[j]?.getD undef) := fun hm q h2 h5 => by
    have ho := hb.own q h2 h5
    have ht := hb.tq q
    rw [(hq q h2 h5).1, (hq q h2 h5).2] at ho
    rw [(hq q h2 h5).1] at ht
    obtain ⟨g, cap, hv, _, _⟩ := ho.form hm
    injection hv with hA _ hc
    rw [hA] at ho ht ⊢
    exact ⟨g, rfl, ht g h2 h5 rfl, Arr.of_own ho⟩
  refine ⟨⟨hb.tT, hb.low, fun i hi => (hr i hi).1, fun hm => ?_⟩, ⟨?_, fun hm => ?_, fun hm => ?_, fun hm => ?_, fun hm => ?_, fun i hi => (hr i hi).2⟩⟩
  · obtain ⟨g2, a2, t2, _⟩ := hf hm 2 (by decide) (by decide)
    obtain ⟨g3, a3, t3, _⟩ := hf hm 3 (by decide) (by decide)
    obtain ⟨g4, a4, t4, _⟩ := hf hm 4 (by decide) (by decide)
    obtain ⟨g5, a5, t5, _⟩ := hf hm 5 (by decide) (by decide)
    simp only [geoB, a2, a3, a4, a5, blk, Option.map_some, Option.getD_some]
    refine ⟨t2, t3, t4, t5, ?_, ?_, ?_, ?_⟩ <;> first | rfl | trivial
  · refine hb.st.congr fun i hi => ?_
    rcases i with _ | _ | _ | _ | _ | _ | _ | _ | i
    · show Value.slice (A 2) (n 2) (c 2) = .slice (A 2) p.m (c 2); rw [(hq 2 (by decide) (by decide)).1]
    · rfl
    · show Value.slice (A 5) (n 5) (c 5) = .slice (A 5) p.m (c 5); rw [(hq 5 (by decide) (by decide)).1]
    · show Value.slice (A 3) (n 3) (c 3) = .slice (A 3) p.m (c 3); rw [(hq 3 (by decide) (by decide)).1]
    · show Value.slice (A 4) (n 4) (c 4) = .slice (A 4) p.m (c 4); rw [(hq 4 (by decide) (by decide)).1]
    · rfl
    · rfl
    · rfl
    · omega
  · obtain ⟨g2, a2, _, h2⟩ := hf hm 2 (by decide) (by decide)
    simp only [geoB, a2, blk, Option.map_some, Option.getD_some]
    exact h2.congr fun i hi => by rw [x0_get p rb 2 hi, if_pos rfl]
  · obtain ⟨g2, a2, _, h2⟩ := hf hm 3 (by decide) (by decide)
    simp only [geoB, a2, blk, Option.map_some, Option.getD_some]
    exact h2.congr fun i hi => by rw [x0_get p rb 3 hi]; rfl
  · obtain ⟨g2, a2, _, h2⟩ := hf hm 4 (by decide) (by decide)
    simp only [geoB, a2, blk, Option.map_some, Option.getD_some]
    exact h2.congr fun i hi => by rw [x0_get p rb 4 hi]; rfl
  · obtain ⟨g2, a2, _, h2⟩ := hf hm 5 (by decide) (by decide)
    simp only [geoB, a2, blk, Option.map_some, Option.getD_some]
    exact h2.congr fun i hi => by rw [x0_get p rb 5 hi]; rfl
theorem Bt.start {p : Lp} {B T : Nat} {tag : Nat → Nat} {w : World} (hst : Arr w T 8 (bst p (fun _ => none) (fun _ => 0) (fun _ => 0))) (hT : tag T = 1) (hnew : ∀ k, w.heap.size ≤ k → tag k = 0) (hlow : ∀ k, k < B → tag k = 0) (rb : Nat → Nat) : Bt p B T 0 (fun _ => none) (fun _ => 0) rb tag w :=
  by
  refine ⟨⟨fun _ => 0, fun _ => [], ⟨hst, fun q _ _ => ?_, hT, fun q k _ _ h => ?_, hnew, hlow⟩, fun q _ _ => ⟨rfl, rfl⟩⟩, fun j hj => absurd hj (by omega)⟩
  · exact World.ownsRow_nil _ _ _ _
  · have h' : (none : Option Nat) = some k := h
    cases h'
/-- A new row's block gets its tag. -/
theorem Bd.mark {p : Lp} {B T : Nat} {A : Nat → Option Addr} {c n : Nat → Nat} {e : Nat → TypeId} {xs : Nat → List Value} {tag : Nat → Nat} {w w' : World} (h : Bd p B T A c n e xs tag w) (hb : Below w.heap.size w w') {nr v : Nat} (h1 : w.heap.size ≤ nr) (h2 : nr < w'.heap.size) (hB : B ≤ w.heap.size) : Bd p B T A c n e xs (fset tag nr v) w' := by
  have h' := h.kp (Kp.below hb) (fun _ _ _ => (trivial : (fun _ : Nat => True) _))
  have ne : ∀ k, k < w.heap.size → fset tag nr v k = tag k := fun k hk => if_neg (by omega)
  exact ⟨h'.st, h'.own, (ne T h.st.lt).trans h.tT, fun q k h2 h5 hk => (ne k (own_lt (h.own q h2 h5) hk)).trans (h.tq q k h2 h5 hk), fun k hk => (if_neg (by omega)).trans (h.new k (Nat.le_trans hb.size hk)), fun k hk => (ne k (by omega)).trans (h.low k hk)⟩
/-- Four rows that have grown by one. -/
theorem Bt.next {p : Lp} {B T i : Nat} {A A' : Nat → Option Addr} {c c' n : Nat → Nat} {xs : Nat → List Value} {rb tag tag' : Nat → Nat} {w : World} {nr : Nat}
    (hb : Bd p B T A' c' n e0 xs tag' w) (hx : ∀ q, 2 ≤ q → q ≤ 5 → n q = i + 1 ∧ xs q = x0 p rb i q ++ [if q = 2 then .slice (some ⟨nr, 0, none⟩) (p.L + 1) (p.L + 1) else if q = 4 then .bool (decide (p.right i < 0)) else .int .i64 (p.u i)])
    (hr : ∀ j, j < i → tag' (rb j) = 7 + j ∧ Arr w (rb j) (p.L + 1) (vec (p.A j))) (hn : tag' nr = 7 + i ∧ Arr w nr (p.L + 1) (vec (p.A i))) : Bt p B T (i + 1) A' c' (fset rb i nr) tag' w := by
  refine ⟨⟨n, xs, hb, fun q h2 h5 => ⟨(hx q h2 h5).1, ?_⟩⟩, fun j hj => ?_⟩
  · rw [(hx q h2 h5).2, x0_next, x0_rb p (fset rb i nr) rb i q (fun j hj => if_neg (by omega))]
    simp only [fset, if_pos]
  · by_cases e : j = i
    · subst e
      simp only [fset, if_pos]
      exact hn
    · simp only [fset, if_neg e]
      exact hr j (by omega)
end Go.Proofs.YthcmopgdjibojaaGreatDoor.smp

/- simplex: a tableau whose next row is ready; its four rows grow. -/
namespace Go.Proofs.YthcmopgdjibojaaGreatDoor.smp
open Go.RowKit
open Go.Proofs.YthcmopgdjibojaaGreatDoor.lib Go.Proofs.YthcmopgdjibojaaGreatDoor.app Go.Proofs.YthcmopgdjibojaaGreatDoor.nt Go.Proofs.YthcmopgdjibojaaGreatDoor.rd Go.Proofs.YthcmopgdjibojaaGreatDoor.wh Go.Proofs.YthcmopgdjibojaaGreatDoor.smx Go.Proofs.YthcmopgdjibojaaGreatDoor.rat Go.Proofs.YthcmopgdjibojaaGreatDoor.typ
set_option linter.unusedVariables false
set_option linter.unusedSimpArgs false

structure Br (p : Lp) (B T i : Nat) (A : Nat → Option Addr) (c n : Nat → Nat) (xs : Nat → List Value) (rb tag : Nat → Nat) (w : World) : Prop where
  bd : Bd p B T A c n e0 xs tag w
  row : ∀ j, j < i → tag (rb j) = 7 + j ∧ Arr w (rb j) (p.L + 1) (vec (p.A j))
theorem Br.kp {p : Lp} {B T i : Nat} {A : Nat → Option Addr} {c n : Nat → Nat} {xs : Nat → List Value} {rb tag : Nat → Nat} {w w' : World} {K : Nat → Prop} (h : Br p B T i A c n xs rb tag w) (hk : Kp K w w') (hK : ∀ k, 0 < tag k → K k) : Br p B T i A c n xs rb tag w' :=
  ⟨h.bd.kp hk (fun k h1 _ => hK k h1), fun j hj => ⟨(h.row j hj).1, (h.row j hj).2.kp hk (hK _ (by rw [(h.row j hj).1]; omega))⟩⟩
/-- The row is ready. -/
theorem Br.open_ {p : Lp} {B T i : Nat} {A : Nat → Option Addr} {c : Nat → Nat} {rb tag : Nat → Nat} {wi w5 wf : World} (h : Bt p B T i A c rb tag wi) (nr : Nat) (hB : B ≤ wi.heap.size) (h1 : wi.heap.size ≤ nr) (hb : Below wi.heap.size wi w5) (h2 : nr < w5.heap.size)
    (hk : Kp (fun q => q ≠ nr) w5 wf) (ha : Arr wf nr (p.L + 1) (vec (p.A i))) :
    ∃ n xs, Br p B T (i + 1) A c n xs (fset rb i nr) (fset tag nr (7 + i)) wf ∧ ∀ q, 2 ≤ q → q ≤ 5 → n q = i ∧ xs q = x0 p rb i q := by
  obtain ⟨⟨n, xs, hbd, hq⟩, hr⟩ := h
  refine ⟨n, xs, ⟨(hbd.mark (v := 7 + i) hb h1 h2 hB).kp hk (fun k _ h6 e => ?_), fun j hj => ?_⟩, hq⟩
  · subst e
    simp only [fset, if_pos] at h6
    omega
  · by_cases e : j = i
    · subst e
      simp only [fset, if_pos]
      exact ⟨trivial, ha⟩
    · have hlt := (hr j (by omega)).2.lt
      have hne : rb j ≠ nr := by omega
      simp only [fset, if_neg e, if_neg hne]
      exact ⟨(hr j (by omega)).1, ((hr j (by omega)).2.below hb).kp hk hne⟩
/-- One of the four rows grows. -/
theorem push_br {t e : TypeId} {z : Value} {bytes : Nat} (E : ElemOf t e z 1 bytes) {ops : Array Oper} {rest : List Oper} {o : Oper} {a : Act} {Q : Exit → Act → World → Prop} {w : World}
    {p : Lp} {B T i' : Nat} {A : Nat → Option Addr} {c n : Nat → Nat} {xs : Nat → List Value} {rb tag : Nat → Nat} (hb : Br p B T i' A c n xs rb tag w) (q : Nat) (h2 : 2 ≤ q) (h5 : q ≤ 5) (he : e0 q = e) (cq : Nat) (hcq : cellOf q = cq) (i : Nat) (hi : n q = i) (hi6 : i ≤ 100)
    (hB : B ≤ w.heap.size) (hgd : o.guard = none) (s x : Operand) (ho : o.op = .call { callee := .builtin .append, args := #[s, x], argTypes := #[t, t] })
    (hs : a.eval s = .slice (A q) i (c q)) (u : Value) (hu : u.oneCell' = true) (hx : a.eval x = .slice (some ⟨w.heap.size, 0, none⟩) 1 1)
    (h : ∀ g c' w', w'.cell? ⟨T, cq, none⟩ = some (.slice (A q) i (c q)) → w'.frozen? ⟨T, cq, none⟩ = false →
      Hid (Br p B T i' (fset A q (some ⟨g, 0, none⟩)) (fset c q c') (fset n q (i + 1)) (fset xs q (xs q ++ [u])) rb (fset tag g q) (w'.setCell ⟨T, cq, none⟩ (.slice (some ⟨g, 0, none⟩) (i + 1) c'))) →
      Hid (Below B w (w'.setCell ⟨T, cq, none⟩ (.slice (some ⟨g, 0, none⟩) (i + 1) c'))) → wpList Tryz.prog ops Q rest (a.put o.dst (.slice (some ⟨g, 0, none⟩) (i + 1) c')) w') :
    wpList Tryz.prog ops Q (o :: rest) a (w.alloc (.cells #[u] e)) := by
  subst hi hcq he
  refine push_kp E hgd s x ho B (A q) (n q) (c q) (xs q) hs (hb.bd.own q h2 h5) u hu hx (by omega) hB ?_
  intro g c' w' hown hk hd
  have hbd := hb.bd
  have hTo : some T ≠ (Value.slice (A q) (n q) (c q)).ownBlock := fun e => by
    have := hbd.tq q T h2 h5 e.symm; rw [hbd.tT] at this; omega
  have hst := hbd.st.kp hk hTo
  have hq : q = 2 ∨ q = 3 ∨ q = 4 ∨ q = 5 := by omega
  have hcell : w'.cell? ⟨T, cellOf q, none⟩ = some (.slice (A q) (n q) (c q)) := by
    have h8 : cellOf q < 8 := by rcases hq with rfl | rfl | rfl | rfl <;> decide
    rw [hst.cell h8]
    rcases hq with rfl | rfl | rfl | rfl <;> rfl
  have hne : ∀ j, j < i' → some (rb j) ≠ (Value.slice (A q) (n q) (c q)).ownBlock := fun j hj e => by
    have := hbd.tq q _ h2 h5 e.symm; rw [(hb.row j hj).1] at this; omega
  have hKK : Kp (fun k => tag k = 0 ∨ 6 ≤ tag k) w (w'.setCell ⟨T, cellOf q, none⟩ (.slice (some ⟨g, 0, none⟩) (n q + 1) c')) := by
    refine (hk.weak (K' := fun k => tag k = 0 ∨ 6 ≤ tag k) fun k _ hk6 e => ?_).set (fun k _ hk6 e => ?_) _
    · have := hbd.tq q k h2 h5 e.symm; omega
    · have h1 := hbd.tT
      have hk6' : tag k = 0 ∨ 6 ≤ tag k := hk6
      rw [e] at hk6'; omega
  refine h g c' w' hcell (hst.frozen _) (Lib.hid (Br.mk (hbd.push h2 h5 hB hown hk hd) (fun j hj => ?_))) (Lib.hid (hKK.below_of hB (fun k hk => .inl (hbd.low k hk))))
  obtain ⟨h7, ha⟩ := hb.row j hj
  have hg : rb j ≠ g := fun e => by
    rcases hd with h1 | h1
    · have := hbd.tq q g h2 h5 h1; rw [← e, h7] at this; omega
    · have := ha.lt; omega
  simp only [fset, if_neg hg]
  exact ⟨h7, ha.kp hKK (.inr (by omega))⟩
theorem Br.cell {p : Lp} {B T i' : Nat} {A : Nat → Option Addr} {c n : Nat → Nat} {xs : Nat → List Value} {rb tag : Nat → Nat} {w : World} (h : Br p B T i' A c n xs rb tag w) (q : Nat) (h2 : 2 ≤ q) (h5 : q ≤ 5) (i : Nat) (hi : n q = i) : w.cell? ⟨T, cellOf q, none⟩ = some (.slice (A q) i (c q)) := by
  subst hi
  have hq : q = 2 ∨ q = 3 ∨ q = 4 ∨ q = 5 := by omega
  have h8 : cellOf q < 8 := by rcases hq with rfl | rfl | rfl | rfl <;> decide
  rw [h.bd.st.cell h8]
  rcases hq with rfl | rfl | rfl | rfl <;> rfl
/-- All four have grown. -/
theorem Br.close {p : Lp} {B T i : Nat} {A' : Nat → Option Addr} {c' n n' : Nat → Nat} {xs xs' : Nat → List Value} {rb tag' : Nat → Nat} {w : World} {nr : Nat} (h : Br p B T (i + 1) A' c' n' xs' (fset rb i nr) tag' w)
    (hq : ∀ q, 2 ≤ q → q ≤ 5 → n q = i ∧ xs q = x0 p rb i q) (hn : ∀ q, 2 ≤ q → q ≤ 5 → n' q = n q + 1) (hx : ∀ q, 2 ≤ q → q ≤ 5 → xs' q = xs q ++ [if q = 2 then .slice (some ⟨nr, 0, none⟩) (p.L + 1) (p.L + 1) else if q = 4 then .bool (decide (p.right i < 0)) else .int .i64 (p.u i)]) : Bt p B T (i + 1) A' c' (fset rb i nr) tag' w := by
  refine Bt.next (A := A') (c := c') (tag := tag') h.bd (fun q h2 h5 => ⟨by rw [hn q h2 h5, (hq q h2 h5).1], by rw [hx q h2 h5, (hq q h2 h5).2]⟩) (fun j hj => ?_) ?_
  · have := h.row j (by omega)
    simp only [fset, if_neg (show ¬ j = i by omega)] at this
    exact this
  · have := h.row i (by omega)
    simp only [fset, if_pos] at this
    exact this
theorem elem2 : ElemOf 80 31 (.slice none 0 0) 1 24 := ⟨Tryz.underlying80, by kernel_rfl, rfl, by decide, by decide⟩
theorem elem4 : ElemOf 81 4 (.bool false) 1 1 := ⟨Tryz.underlying81, by kernel_rfl, rfl, by decide, by decide⟩
theorem elemI : ElemOf 22 3 (.int .i64 0) 1 8 := ⟨Tryz.underlying22, by kernel_rfl, rfl, by decide, by decide⟩

/-! What a row of the tableau becomes, step by step. -/
theorem row_F1 {p : Lp} {i : Nat} (hk : p.kind i = 2) {w : World} {nr W : Nat} (h : Arr w nr W (fun q => if q < p.n then vec (p.A i) q else vec (fun _ => 0) q)) : Arr w nr W (fun q => if q < p.N then vec (p.A i) q else vec (fun _ => 0) q) := by
  have hn := p.n_le
  refine h.congr fun q hq => ?_
  by_cases e : q < p.n
  · rw [if_pos e, if_pos (by omega)]
  · rw [if_neg e]
    by_cases e2 : q < p.N
    · rw [if_pos e2]
      unfold vec
      rw [p.A_slack (by omega) e2, if_neg (by unfold Lp.isSlack; simp [hk])]
    · rw [if_neg e2]
theorem row_F1' {p : Lp} {i : Nat} (hi : i < p.m) (hk : p.kind i ≠ 2) {w : World} {nr W : Nat} (h : Arr w nr W (fun q => if q < p.n then vec (p.A i) q else vec (fun _ => 0) q)) : Arr (w.setCell ⟨nr, p.n + p.sl i, none⟩ (.string (ratS ((p.sgn i * p.tau i : Int) : Rat)))) nr W (fun q => if q < p.N then vec (p.A i) q else vec (fun _ => 0) q) := by
  have hn := p.n_le
  have hlt := p.sl_lt hi hk
  refine (h.set _ _).congr fun q hq => ?_
  show (if q = p.n + p.sl i then _ else if q < p.n then vec (p.A i) q else vec (fun _ => 0) q) = _
  by_cases e0 : q = p.n + p.sl i
  · rw [if_pos e0, if_pos (by omega)]
    unfold vec
    rw [p.A_slack (by omega) (by omega), if_pos (by unfold Lp.isSlack; simp [hk, e0])]
  · rw [if_neg e0]
    by_cases e : q < p.n
    · rw [if_pos e, if_pos (by omega)]
    · rw [if_neg e]
      by_cases e2 : q < p.N
      · rw [if_pos e2]
        unfold vec
        rw [p.A_slack (by omega) e2, if_neg (by unfold Lp.isSlack; simp [e0])]
      · rw [if_neg e2]
theorem row_F3 {p : Lp} {i : Nat} (hi : i < p.m) {w w' : World} {nr : Nat} (h : Arr w nr (p.L + 1) (fun q => if q < p.N then vec (p.A i) q else vec (fun _ => 0) q)) (hw : Arr (w.setCell ⟨nr, p.N + i, none⟩ (.string ⟨#[49]⟩)) nr (p.L + 1) (fun q => if q = p.N + i then .string ⟨#[49]⟩ else if q < p.N then vec (p.A i) q else vec (fun _ => 0) q) → Arr w' nr (p.L + 1) (fun q => if q = p.N + i then .string ⟨#[49]⟩ else if q < p.N then vec (p.A i) q else vec (fun _ => 0) q)) :
    Arr (w'.setCell ⟨nr, p.L, none⟩ (.string (ratS ((p.sgn i * p.right i : Int) : Rat)))) nr (p.L + 1) (vec (p.A i)) := by
  have hL : p.L = p.N + p.m := rfl
  have hn := p.n_le
  refine ((hw (h.set _ _)).set _ _).congr fun q hq => ?_
  show (if q = p.L then _ else if q = p.N + i then _ else if q < p.N then vec (p.A i) q else vec (fun _ => 0) q) = _
  by_cases e1 : q = p.L
  · rw [if_pos e1, e1]; unfold vec; rw [p.A_right]
  · rw [if_neg e1]
    by_cases e2 : q = p.N + i
    · rw [if_pos e2, e2]
      unfold vec
      have := p.A_unit (i := i) hi
      unfold Lp.u at this
      rw [this, if_pos rfl, one_S]
    · rw [if_neg e2]
      by_cases e3 : q < p.N
      · rw [if_pos e3]
      · rw [if_neg e3]
        unfold vec Lp.A
        rw [if_neg (by omega), if_neg e3, if_pos (by omega), if_neg e2]
end Go.Proofs.YthcmopgdjibojaaGreatDoor.smp

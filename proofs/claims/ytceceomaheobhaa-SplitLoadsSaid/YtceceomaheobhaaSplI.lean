/- split.shares: what it computes, and where it stands. -/
import Derived.Test.YtceceomaheobhaaShaT
import Derived.Test.YtceceomaheobhaaSplE
import Derived.Test.YtceceomaheobhaaSplG
import Derived.Test.YtceceomaheobhaaLoadW
namespace Go.Proofs.Ytceceomaheobhaa.spl
open Go.RowKit
open Go.Proofs.Ytceceomaheobhaa.lib Go.Proofs.Ytceceomaheobhaa.rd Go.Proofs.Ytceceomaheobhaa.app Go.Proofs.Ytceceomaheobhaa.els Go.Proofs.Ytceceomaheobhaa.loads Go.Proofs.Ytceceomaheobhaa.typ Go.Proofs.Ytceceomaheobhaa.big Go.Proofs.Ytceceomaheobhaa.ins Go.Proofs.Ytceceomaheobhaa.ord Go.Proofs.Ytceceomaheobhaa.flts Go.Proofs.Ytceceomaheobhaa.off
set_option linter.unusedVariables false
set_option linter.unusedSimpArgs false

def addE (a b : List Int) : List Int := if a.length = b.length then List.zipWith (fun x y => x + y) a b else []
def shHit (u : List Sha) (g : Int) : Bool := match u.getLast? with | some s => decide (s.order = g) | none => false
/-- One order's load joins the shares so far. -/
def shStep (g : Int) (load : List Int) (u : List Sha) : List Sha := if shHit u g then u.set (u.length - 1) ⟨g, addE (u.getLast?.elim [] (·.load)) load⟩ else u ++ [⟨g, load⟩]
def seenB (vs : List Vis) (i : Nat) : Bool := vs.any fun v => decide (v.order = (i : Int))
def shTo (os : List Ord) (org : List Int) (vs : List Vis) : Nat → List Sha
  | 0 => []
  | i + 1 => match os[i]?, org[i]? with
    | some o, some g => if seenB vs i then shStep g o.load (shTo os org vs i) else shTo os org vs i
    | _, _ => shTo os org vs i
def visOk (n : Nat) (v : Vis) : Bool := decide (0 ≤ v.order ∧ v.order < (n : Int))
/-- What shares answers. -/
def shF (os : List Ord) (org : List Int) (vs : List Vis) : Option (List Sha) := if vs.all (visOk os.length) then some (shTo os org vs os.length) else none
theorem shTo_yes {os : List Ord} {org : List Int} {vs : List Vis} {i : Nat} {o : Ord} {g : Int} (h : os[i]? = some o) (hg : org[i]? = some g) (hs : seenB vs i = true) : shTo os org vs (i + 1) = shStep g o.load (shTo os org vs i) := by rw [shTo, h, hg]; simp [hs]
theorem shTo_no {os : List Ord} {org : List Int} {vs : List Vis} {i : Nat} {o : Ord} {g : Int} (h : os[i]? = some o) (hg : org[i]? = some g) (hs : seenB vs i = false) : shTo os org vs (i + 1) = shTo os org vs i := by rw [shTo, h, hg]; simp [hs]
theorem shHit_iff {u : List Sha} {g : Int} (h : shHit u g = true) : ∃ s, u[u.length - 1]? = some s ∧ u.getLast? = some s ∧ s.order = g ∧ 0 < u.length := by
  unfold shHit at h
  cases hu : u.getLast? with
  | none => rw [hu] at h; cases h
  | some s =>
    rw [hu] at h
    rw [List.getLast?_eq_getElem?] at hu
    exact ⟨s, hu, rfl, by simpa using h, by have := (List.getElem?_eq_some_iff.1 hu).1; omega⟩
theorem shStep_len (g : Int) (l : List Int) (u : List Sha) : (shStep g l u).length ≤ u.length + 1 := by
  unfold shStep
  split <;> simp
theorem shTo_len (os : List Ord) (org : List Int) (vs : List Vis) : ∀ i, (shTo os org vs i).length ≤ i
  | 0 => by simp [shTo]
  | i + 1 => by
    have ih := shTo_len os org vs i
    rw [shTo]
    split
    · split
      · have := shStep_len ‹Int› (‹Ord›).load (shTo os org vs i)
        omega
      · omega
    · omega
theorem addE_len (a b : List Int) : (addE a b).length ≤ b.length := by
  unfold addE
  split
  · rw [List.length_zipWith]; omega
  · simp
def BdL (m : Int) (l : List Int) : Prop := ∀ x ∈ l, 0 ≤ x ∧ x ≤ m
theorem addE_bd {a b : List Int} {m k : Int} (ha : BdL m a) (hb : BdL k b) : BdL (m + k) (addE a b) := by
  unfold addE
  split
  · intro x hx
    obtain ⟨i, hi⟩ := List.mem_iff_getElem?.1 hx
    rw [List.getElem?_zipWith] at hi
    cases h1 : a[i]? with
    | none => rw [h1] at hi; simp at hi
    | some p =>
      cases h2 : b[i]? with
      | none => rw [h1, h2] at hi; simp at hi
      | some q =>
        rw [h1, h2] at hi
        have e : p + q = x := by simpa using hi
        have h3 := ha p (List.mem_of_getElem? h1)
        have h4 := hb q (List.mem_of_getElem? h2)
        omega
  · intro x hx; cases hx
theorem shStep_bd {g : Int} {l : List Int} {u : List Sha} {m : Int} (hm : 0 ≤ m) (hu : ∀ s ∈ u, BdL m s.load) (hl : BdL 1000 l) : ∀ s ∈ shStep g l u, BdL (m + 1000) s.load := by
  intro s hs
  have up : ∀ {l}, BdL m l → BdL (m + 1000) l := fun h x hx => by have := h x hx; omega
  unfold shStep at hs
  split at hs
  · rcases List.mem_or_eq_of_mem_set hs with h | h
    · exact up (hu s h)
    · subst h
      obtain ⟨t, _, ht, _, _⟩ := shHit_iff ‹_›
      rw [ht]
      exact addE_bd (hu t (List.mem_of_getLast? ht)) hl
  · rcases List.mem_append.1 hs with h | h
    · exact up (hu s h)
    · rw [List.mem_singleton] at h
      subst h
      exact fun x hx => by have := hl x hx; omega
theorem shTo_bd (os : List Ord) (org : List Int) (vs : List Vis) (hl : ∀ o ∈ os, BdL 1000 o.load) : ∀ i, ∀ s ∈ shTo os org vs i, BdL ((i : Int) * 1000) s.load
  | 0 => fun s hs => by simp [shTo] at hs
  | i + 1 => by
    have ih := shTo_bd os org vs hl i
    have up : ∀ {l : List Int}, BdL ((i : Int) * 1000) l → BdL (((i + 1 : Nat) : Int) * 1000) l := fun h x hx => by have := h x hx; push_cast; omega
    intro s hs
    rw [shTo] at hs
    split at hs
    · rename_i o g ho hg
      split at hs
      · have := shStep_bd (by omega) ih (hl o (List.mem_of_getElem? ho)) s hs
        intro x hx
        have := this x hx
        push_cast
        omega
      · exact up (ih s hs)
    · exact up (ih s hs)
/-- The marks of what is visited. -/
def snL (n : Nat) (vs : List Vis) : List Bool := (List.range n).map (seenB vs)
theorem snL_len (n : Nat) (vs : List Vis) : (snL n vs).length = n := by unfold snL; simp
theorem snL_nil (n : Nat) : snL n [] = List.replicate n false := by
  apply List.ext_getElem?
  intro i
  unfold snL
  rw [List.getElem?_map, List.getElem?_replicate]
  by_cases h : i < n
  · rw [List.getElem?_range h, if_pos h]; rfl
  · rw [List.getElem?_eq_none (by simp; omega), if_neg h]; rfl
theorem snL_snoc {n q : Nat} {vs : List Vis} {v : Vis} (hv : v.order = (q : Int)) (hq : q < n) : snL n (vs ++ [v]) = (snL n vs).set q true := by
  apply List.ext_getElem?
  intro i
  rw [List.getElem?_set, snL_len]
  unfold snL
  rw [List.getElem?_map, List.getElem?_map]
  by_cases h : i < n
  · rw [List.getElem?_range h]
    by_cases hqi : q = i
    · subst hqi
      rw [if_pos rfl, if_pos hq]
      simp [seenB, hv]
    · rw [if_neg hqi]
      simp only [Option.map_some, seenB, List.any_append, hv, List.any_cons, List.any_nil, Bool.or_false]
      rw [decide_eq_false (by omega), Bool.or_false]
  · rw [List.getElem?_eq_none (show (List.range n).length ≤ i by simp; omega)]
    by_cases hqi : q = i
    · omega
    · rw [if_neg hqi]
      rfl
theorem snL_at {n i : Nat} (vs : List Vis) (h : i < n) : (snL n vs)[i]? = some (seenB vs i) := by
  unfold snL
  rw [List.getElem?_map, List.getElem?_range h]
  rfl
theorem bool_info : (Try.prog.info? 4).map (fun i => (i.zero, i.size, i.bytes)) = some (some (.bool false), 1, 1) := by kernel_rfl
/-- make([]bool, n). -/
theorem make_bools {ops : Array Oper} {rest : List Oper} {o : Oper} {a : Act} {Q : Exit → Act → World → Prop} {w : World} (hg : o.guard = none) (l c : Operand) (hop : o.op = Op.makeSlice 64 l c)
    (base : Nat) (n : Nat) (hl : a.eval l = .int .i64 n) (hc : a.eval c = .int .i64 n) (hn : n < 17592186044416) (hbase : base ≤ w.heap.size)
    (h : ∀ w', w'.ownsRow base 4 1 (.slice (some ⟨w.heap.size, 0, none⟩) n n) n ((List.replicate n false).map .bool) → Below w.heap.size w w' → w.heap.size < w'.heap.size → wpList Try.prog ops Q rest (a.put o.dst (.slice (some ⟨w.heap.size, 0, none⟩) n n)) w') :
    wpList Try.prog ops Q (o :: rest) a w := by
  obtain ⟨i0, hi, hz0, hz1, hz2⟩ := info_parts bool_info
  refine wpList_make_full w hg l c 64 hop base 4 i0 (.bool false) 1 Try.underlying64 hi hz0 hz1 .i64 .i64 n n n hl hc rfl rfl (by rw [hz2]; omega) (by unfold maxLen; omega) hbase ?_
  intro w' hown hg'
  refine h w' ?_ ((Below.refl _ _).grown hg' (Nat.le_refl _) (by intro k hk; cases hk)) ?_
  · have e : (madeCells (Value.bool false).cells (n * 1)).toList = List.replicate n (Value.bool false) := by
      rw [Nat.mul_one]
      exact toList_madeCells_one (.bool false) n
    rw [List.map_replicate, ← e]
    exact hown
  · obtain ⟨cur, hh⟩ : ∃ o, w'.heap[w.heap.size]? = some o := by
      rcases hown.2 with ⟨h1, _⟩ | ⟨g, cap, cur, h1, _, h2, _⟩
      · cases h1
      · injection h1 with h1 _ _
        injection h1 with h1
        injection h1 with h1
        subst h1
        exact ⟨_, h2⟩
    rcases Nat.lt_or_ge w.heap.size w'.heap.size with h | h
    · exact h
    · rw [Array.getElem?_eq_none h] at hh; cases hh
theorem own_bool {w : World} {base g n cap : Nat} {l : List Bool} (h : w.ownsRow base 4 1 (.slice (some ⟨g, 0, none⟩) n cap) n (l.map .bool)) {j : Nat} {x : Bool} (hx : l[j]? = some x) : w.cell? ⟨g, j, none⟩ = some (.bool x) := by
  have hl : l.length = n := by simpa using h.1
  have hj := (List.getElem?_eq_some_iff.1 hx).1
  rw [h.cellAt j (by omega), List.getElem?_map, hx]
  rfl
theorem sha_elem : ElemOf 50 53 (.agg #[.int .i64 0, .slice none 0 0]) 2 32 := ⟨Try.underlying50, by kernel_rfl, rfl, by decide, by decide⟩
theorem int_bool : 4 ≠ 53 := by decide
/-- Where shares stands: the shares u, base the first of its own blocks. -/
structure ShSt (W : World) (u : List Sha) (wr : World) (B : Option Addr) (d : Nat) (cs : List Value) : Prop where
  own : wr.ownsRow W.heap.size 53 2 (.slice B u.length d) u.length cs
  els : EG oSha wr (fun b => some b ≠ (Value.slice B u.length d).ownBlock ∧ W.heap.size ≤ b) cs u
  bel : Below W.heap.size W wr
section
variable {W : World} {u : List Sha} {wr wx : World} {B : Option Addr} {d : Nat} {cs : List Value}
theorem ShSt.nil (W : World) : ShSt W [] W none 0 [] := ⟨World.ownsRow_nil _ _ _ _, EG.nil, Below.refl _ _⟩
theorem ShSt.below (h : ShSt W u wr B d cs) (hb : Below wr.heap.size wr wx) : ShSt W u wx B d cs := ⟨own_below h.own hb, h.els.below hb, h.bel.trans (hb.mono h.bel.size)⟩
theorem ShSt.push (h : ShSt W u wr B d cs) {s : Sha} {C : Option Addr} {c0 g c : Nat} (hI : IntsOff wr (fun b => some b ≠ (Value.slice B u.length d).ownBlock ∧ W.heap.size ≤ b) C s.load) (hf : ShaFits s)
    (hown : wx.ownsRow W.heap.size 53 2 (.slice (some ⟨g, 0, none⟩) (u.length + 1) c) (u.length + 1) (cs ++ ShaCells s C c0)) (hg : wr.grownBy wx (Value.slice B u.length d).ownBlock) (hd : (Value.slice B u.length d).ownBlock = some g ∨ wr.heap.size ≤ g) :
    ShSt W (u ++ [s]) wx (some ⟨g, 0, none⟩) c (cs ++ ShaCells s C c0) := by
  refine ⟨by rw [List.length_append]; exact hown, ?_, h.bel.grown hg h.bel.size (fun q e => (World.ownsRow.lt h.own q e).1)⟩
  exact h.els.push (oSha_mk hI hf) hg hd
theorem ShSt.at_ (h : ShSt W u wr B d cs) {i : Nat} {s : Sha} (hi : u[i]? = some s) : ∃ g C0 c0, B = some ⟨g, 0, none⟩ ∧ wr.cell? ⟨g, i * 2, none⟩ = some (.int .i64 s.order) ∧ wr.cell? ⟨g, i * 2 + 1, none⟩ = some (.slice C0 s.load.length c0) ∧ IntsOff wr (fun b => some b ≠ (Value.slice B u.length d).ownBlock ∧ W.heap.size ≤ b) C0 s.load ∧ wr.frozen? ⟨g, i * 2 + 1, none⟩ = false ∧ W.heap.size ≤ g ∧ g < wr.heap.size := by
  have hil := (List.getElem?_eq_some_iff.1 hi).1
  rcases h.own.2 with ⟨h5, h6⟩ | ⟨g, cap, cur, h5, h6, h7, h8⟩
  · omega
  injection h5 with h5 h9 h10
  subst h5
  have how := h.own
  obtain ⟨c, h3, h4, h5⟩ := h.els.at_ hi
  obtain ⟨D0, e0, rfl, hio, hf⟩ := oSha_at h3
  have hcl : cs.length = u.length * 2 := h.own.1
  have e1 := h5 0 _ rfl
  have e2 := h5 1 _ rfl
  rw [show oSha.rd.size = 2 from rfl] at e1 e2
  have c1 := how.cellAt (i * 2) (by omega)
  have c2 := how.cellAt (i * 2 + 1) (by omega)
  rw [Nat.add_zero] at e1
  rw [e1] at c1
  rw [e2] at c2
  exact ⟨g, D0, e0, rfl, c1, c2, hio, how.frozenAt (i * 2 + 1), h6, (Array.getElem?_eq_some_iff.1 h7).1⟩
/-- The last share's load is replaced. -/
theorem ShSt.last (h : ShSt W u wr B d cs) {i : Nat} {s : Sha} (hi : u[i]? = some s) {l : List Int} {C : Option Addr} {c0 : Nat} (hI : IntsOff wr (fun b => some b ≠ (Value.slice B u.length d).ownBlock ∧ W.heap.size ≤ b) C l) {ad : Addr} (hB : B = some ad) :
    ShSt W (u.set i ⟨s.order, l⟩) (wr.setCell ⟨ad.block, i * 2 + 1, none⟩ (.slice C l.length c0)) B d (cs.set (i * 2 + 1) (.slice C l.length c0)) := by
  subst hB
  have hil := (List.getElem?_eq_some_iff.1 hi).1
  rcases h.own.2 with ⟨h5, h6⟩ | ⟨g, cap, cur, h5, h6, h7, h8⟩
  · cases h5
  injection h5 with h5 h9 h10
  injection h5 with h5
  subst h5
  subst h10
  have hst := h.own.stored (i * 2 + 1) (.slice C l.length c0)
  have hgr := grownBy_set wr g (i * 2 + 1) (.slice C l.length c0)
  have hk : ∀ b, b < wr.heap.size → (some b ≠ (Value.slice (some ⟨g, 0, none⟩) u.length d).ownBlock ∧ W.heap.size ≤ b) → (some b ≠ (Value.slice (some ⟨g, 0, none⟩) u.length d).ownBlock ∧ W.heap.size ≤ b) ∧ (wr.setCell ⟨g, i * 2 + 1, none⟩ (.slice C l.length c0)).heap[b]? = wr.heap[b]? := fun b hb hp => ⟨hp, hgr.block b hb (fun e => hp.1 e)⟩
  refine ⟨?_, ?_, h.bel.setCell (p := ⟨g, i * 2 + 1, none⟩) h6 _⟩
  · rw [List.length_set]
    exact hst.1
  · rw [List.length_set]
    refine EG.mod (r := oSha) (h.els.keep hgr.size hk) hil (show 1 < 2 by decide) ?_
    obtain ⟨D0, e0, hc, hio, hf⟩ := oSha_at (h.els.2 i s hi)
    rw [hc]
    exact oSha_mk (t := ⟨s.order, l⟩) (intsOff_keep hI hgr.size hk) hf
end
theorem add_any (A : Option Addr) (c : Nat) (a : List Int) (A' : Option Addr) (c' : Nat) (b : List Int) (w : World) (ha : Ints w w.heap.size A a) (hb : Ints w w.heap.size A' b) (ia : lod.InM 1073741824 a) (ib : lod.InM 1073741824 b) :
    Calls Try.prog 59 #[.slice A a.length c, .slice A' b.length c'] w fun e w' => ∃ A1 c1 er, e = .returned (.tuple #[.slice A1 (addE a b).length c1, .int .i64 er]) ∧ w'.ownsRow w.heap.size 3 1 (.slice A1 (addE a b).length c1) (addE a b).length ((addE a b).map (.int .i64)) ∧ Below w.heap.size w w' := by
  by_cases h : a.length = b.length
  · have e : addE a b = List.zipWith (fun x y => x + y) a b := by unfold addE; rw [if_pos h]
    have el : (addE a b).length = a.length := by rw [e, List.length_zipWith]; omega
    rw [← h]
    refine (lod.add_eq A c a a.length rfl A' c' b h.symm w w.heap.size w.heap.size (Nat.le_refl _) (Nat.le_refl _) ha hb ia ib).mono ?_
    rintro e' w' ⟨A1, c1, rfl, h2, h3⟩
    exact ⟨A1, c1, 0, by rw [el], by rw [el, e]; exact h2, h3⟩
  · have e : addE a b = [] := by unfold addE; rw [if_neg h]
    refine (lod.add_ne A c a.length A' c' b.length h w).mono ?_
    rintro e' w' ⟨rfl, rfl⟩
    rw [e]
    exact ⟨none, 0, 2, rfl, World.ownsRow_nil _ _ _ _, Below.refl _ _⟩
/-- What shares hands back. -/
def ShsOut (w : World) (r : Option (List Sha)) (e : Ending) (w' : World) : Prop := match r with
  | none => e = .returned (.tuple #[.slice none 0 0, .bool false]) ∧ Below w.heap.size w w'
  | some l => ∃ A c cs, e = .returned (.tuple #[.slice A l.length c, .bool true]) ∧ w'.ownsRow w.heap.size 53 2 (.slice A l.length c) l.length cs ∧ EG oSha w' (fun b => w.heap.size ≤ b) cs l ∧ Below w.heap.size w w'
end Go.Proofs.Ytceceomaheobhaa.spl

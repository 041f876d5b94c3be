/- The plan that the law SplitWhole builds: where it stands. -/
import Derived.Test.YtceceomaheobhaaSpwT
import Derived.Test.YtceceomaheobhaaSplX
import Derived.Test.YtceceomaheobhaaSplY
namespace Go.Proofs.Ytceceomaheobhaa.spl
open Go.RowKit
open Go.Proofs.Ytceceomaheobhaa.lib Go.Proofs.Ytceceomaheobhaa.rd Go.Proofs.Ytceceomaheobhaa.app Go.Proofs.Ytceceomaheobhaa.els Go.Proofs.Ytceceomaheobhaa.loads Go.Proofs.Ytceceomaheobhaa.typ Go.Proofs.Ytceceomaheobhaa.big Go.Proofs.Ytceceomaheobhaa.ins Go.Proofs.Ytceceomaheobhaa.ord Go.Proofs.Ytceceomaheobhaa.flts
set_option linter.unusedVariables false
set_option linter.unusedSimpArgs false

theorem addr_add0 (R n : Nat) : (⟨R, 0, none⟩ : Addr).add n = ⟨R, n, none⟩ := by
  unfold Addr.add
  by_cases h : n = 0
  · subst h; simp
  · simp [h]
def vcs (l : List Vis) : List Value := l.flatMap VisCells
theorem vcs_append (l l' : List Vis) : vcs (l ++ l') = vcs l ++ vcs l' := by unfold vcs; rw [List.flatMap_append]
def rouC (l : List Vis) (B : Option Addr) (d : Nat) : List Value := [.int .i64 0, .int .i64 0, .slice none 0 0, .slice B l.length d]
def rouCs (vs : Nat → List Vis) (B : Nat → Option Addr) (d : Nat → Nat) : List Value := rouC (vs 0) (B 0) (d 0) ++ (rouC (vs 1) (B 1) (d 1) ++ rouC (vs 2) (B 2) (d 2))
def upd {α : Type} (f : Nat → α) (k : Nat) (x : α) : Nat → α := fun i => if i = k then x else f i
theorem upd_same {α : Type} (f : Nat → α) (k : Nat) (x : α) : upd f k x k = x := if_pos rfl
theorem upd_other {α : Type} (f : Nat → α) {k i : Nat} (x : α) (h : i ≠ k) : upd f k x i = f i := if_neg h
/-- Where the plan stands: rows of visits from base on, the routes' row R, the plan's box p. -/
structure PlSt (base R p : Nat) (w0 wr : World) (vs : Nat → List Vis) (un lf : List Int) (B : Nat → Option Addr) (d : Nat → Nat) (BU : Option Addr) (dU : Nat) (BL : Option Addr) (dL : Nat) : Prop where
  rows : ∀ k, k < 3 → wr.ownsRow base 68 2 (.slice (B k) (vs k).length (d k)) (vs k).length (vcs (vs k))
  far : ∀ k k', k < 3 → k' < 3 → k ≠ k' → ∀ q, (Value.slice (B k) (vs k).length (d k)).ownBlock = some q → (Value.slice (B k') (vs k').length (d k')).ownBlock ≠ some q
  unr : wr.ownsRow base 3 1 (.slice BU un.length dU) un.length (un.map (.int .i64))
  lfr : wr.ownsRow base 3 1 (.slice BL lf.length dL) lf.length (lf.map (.int .i64))
  farI : ∀ q, (Value.slice BU un.length dU).ownBlock = some q → (Value.slice BL lf.length dL).ownBlock ≠ some q
  rou : wr.ownsRow R 66 4 (.slice (some ⟨R, 0, none⟩) 3 3) 3 (rouCs vs B d)
  pl : wr.heap[p]? = some (.cells #[.slice (some ⟨R, 0, none⟩) 3 3, .slice BU un.length dU] 46 (0, 0))
  bel : Below w0.heap.size w0 wr
  sz : base ≤ wr.heap.size
  hR : w0.heap.size ≤ R ∧ R < p ∧ p < base
section
variable {base R p : Nat} {w0 wr wx : World} {vs : Nat → List Vis} {un lf : List Int} {B : Nat → Option Addr} {d : Nat → Nat} {BU : Option Addr} {dU : Nat} {BL : Option Addr} {dL : Nat}
theorem PlSt.below (h : PlSt base R p w0 wr vs un lf B d BU dU BL dL) (hb : Below wr.heap.size wr wx) : PlSt base R p w0 wx vs un lf B d BU dU BL dL := by
  have h1 := h.sz
  have h2 := h.hR
  have h3 := h.bel.size
  exact ⟨fun k hk => own_below (h.rows k hk) hb, h.far, own_below h.unr hb, own_below h.lfr hb, h.farI, own_below h.rou hb, (hb.block p (by omega)).trans h.pl, h.bel.trans (hb.mono h3), Nat.le_trans h1 hb.size, h2⟩
theorem PlSt.base_lt (h : PlSt base R p w0 wr vs un lf B d BU dU BL dL) {k : Nat} (hk : k < 3) {q : Nat} (e : (Value.slice (B k) (vs k).length (d k)).ownBlock = some q) : base ≤ q ∧ q < wr.heap.size := World.ownsRow.lt (h.rows k hk) q e
/-- What is left as it was, where one row grows. -/
theorem PlSt.cell (h : PlSt base R p w0 wr vs un lf B d BU dU BL dL) {k : Nat} (hk : k < 3) : wr.cell? ⟨R, k * 4 + 3, none⟩ = some (.slice (B k) (vs k).length (d k)) := by
  rw [h.rou.cellAt (k * 4 + 3) (by omega)]
  have : k = 0 ∨ k = 1 ∨ k = 2 := by omega
  rcases this with rfl | rfl | rfl <;> rfl
theorem PlSt.push (h : PlSt base R p w0 wr vs un lf B d BU dU BL dL) {k : Nat} (hk : k < 3) {v v' : Vis} {g c : Nat}
    (hown : wx.ownsRow base 68 2 (.slice (some ⟨g, 0, none⟩) ((vs k).length + 2) c) ((vs k).length + 2) (vcs (vs k) ++ (VisCells v ++ VisCells v'))) (hg : wr.grownBy wx (Value.slice (B k) (vs k).length (d k)).ownBlock) (hd : (Value.slice (B k) (vs k).length (d k)).ownBlock = some g ∨ wr.heap.size ≤ g) :
    PlSt base R p w0 (wx.setCell ⟨R, k * 4 + 3, none⟩ (.slice (some ⟨g, 0, none⟩) ((vs k).length + 2) c)) (upd vs k (vs k ++ [v, v'])) un lf (upd B k (some ⟨g, 0, none⟩)) (upd d k c) BU dU BL dL := by
  have hb := fun q e => (h.base_lt hk (q := q) e)
  obtain ⟨r1, r2, r3⟩ := h.hR
  have hs := h.sz
  have hlen : (vs k ++ [v, v']).length = (vs k).length + 2 := by simp
  have hgo := h.rou.kept hg (.inr (fun e => by have := hb R e.symm; omega))
  have hwx := hg.size
  refine ⟨fun i hi => ?_, fun i i' hi hi' hne q => ?_, ?_, ?_, h.farI, ?_, ?_, ?_, ?_, h.hR⟩
  · refine ownsRow_setCell_below ?_ (by show R < base; omega) _
    by_cases hik : i = k
    · subst hik
      rw [upd_same, upd_same, upd_same, hlen, vcs_append]
      simpa [vcs] using hown
    · rw [upd_other _ _ hik, upd_other _ _ hik, upd_other _ _ hik]
      refine (h.rows i hi).kept hg ?_
      cases ho : (Value.slice (B i) (vs i).length (d i)).ownBlock with
      | none => exact .inl rfl
      | some q => exact .inr (fun e => h.far i k hi hk hik q ho e.symm)
  · have hgk : ∀ j, j < 3 → j ≠ k → (Value.slice (B j) (vs j).length (d j)).ownBlock ≠ some g := fun j hj hjk e => by
      rcases hd with hd | hd
      · exact h.far k j hk hj (Ne.symm hjk) g hd e
      · have := (h.base_lt hj e).2
        omega
    by_cases hik : i = k
    · subst hik
      rw [upd_same, upd_same, upd_same, upd_other _ _ (Ne.symm hne), upd_other _ _ (Ne.symm hne), upd_other _ _ (Ne.symm hne)]
      intro e
      have e : g = q := by injection e
      subst e
      exact hgk i' hi' (Ne.symm hne)
    · rw [upd_other _ _ hik, upd_other _ _ hik, upd_other _ _ hik]
      by_cases hik' : i' = k
      · subst hik'
        rw [upd_same, upd_same, upd_same]
        intro e e'
        have e' : g = q := by injection e'
        subst e'
        exact hgk i hi hik e
      · rw [upd_other _ _ hik', upd_other _ _ hik', upd_other _ _ hik']
        exact h.far i i' hi hi' hne q
  · exact ownsRow_setCell_below (h.unr.kept hg (own_ne_type h.unr (h.rows k hk) (by decide))) (by show R < base; omega) _
  · exact ownsRow_setCell_below (h.lfr.kept hg (own_ne_type h.lfr (h.rows k hk) (by decide))) (by show R < base; omega) _
  · have hst := (hgo.stored (k * 4 + 3) (.slice (some ⟨g, 0, none⟩) ((vs k).length + 2) c)).1
    have e : (rouCs vs B d).set (k * 4 + 3) (.slice (some ⟨g, 0, none⟩) ((vs k).length + 2) c) = rouCs (upd vs k (vs k ++ [v, v'])) (upd B k (some ⟨g, 0, none⟩)) (upd d k c) := by
      have : k = 0 ∨ k = 1 ∨ k = 2 := by omega
      rcases this with rfl | rfl | rfl <;> simp [rouCs, rouC, upd]
    rw [← e]
    exact hst
  · rw [Below.heap_setCell _ ⟨R, _, none⟩ _ p (show p ≠ R by omega)]
    rw [hg.block p (by omega) (fun e => by have := hb p (by first | exact e | exact e.symm); omega)]
    exact h.pl
  · refine (h.bel.grown hg h.bel.size (fun q e => ?_)).setCell (p := ⟨R, _, none⟩) (by show _ ≤ R; omega) _
    have := hb q e
    omega
  · simp; omega
theorem PlSt.pushU (h : PlSt base R p w0 wr vs un lf B d BU dU BL dL) {u : Int} {g c : Nat}
    (hown : wx.ownsRow base 3 1 (.slice (some ⟨g, 0, none⟩) (un.length + 1) c) (un.length + 1) (un.map (.int .i64) ++ [.int .i64 u])) (hg : wr.grownBy wx (Value.slice BU un.length dU).ownBlock) (hd : (Value.slice BU un.length dU).ownBlock = some g ∨ wr.heap.size ≤ g) :
    PlSt base R p w0 (wx.setCell ⟨p, 1, none⟩ (.slice (some ⟨g, 0, none⟩) (un.length + 1) c)) vs (un ++ [u]) lf B d (some ⟨g, 0, none⟩) c BL dL := by
  have hb := fun q e => World.ownsRow.lt h.unr q e
  obtain ⟨r1, r2, r3⟩ := h.hR
  have hs := h.sz
  have hwx := hg.size
  have hlen : (un ++ [u]).length = un.length + 1 := by simp
  refine ⟨fun i hi => ?_, h.far, ?_, ?_, fun q e e' => ?_, ?_, ?_, ?_, ?_, h.hR⟩
  · exact ownsRow_setCell_below ((h.rows i hi).kept hg (own_ne_type (h.rows i hi) h.unr (by decide))) (by show p < base; omega) _
  · refine ownsRow_setCell_below ?_ (by show p < base; omega) _
    rw [hlen, List.map_append]
    exact hown
  · refine ownsRow_setCell_below (h.lfr.kept hg ?_) (by show p < base; omega) _
    cases ho : (Value.slice BL lf.length dL).ownBlock with
    | none => exact .inl rfl
    | some q => exact .inr (fun e => h.farI q e.symm ho)
  · have e : g = q := by injection e
    subst e
    rcases hd with hd | hd
    · exact h.farI g hd e'
    · have := (World.ownsRow.lt h.lfr g e').2
      omega
  · have hgo := h.rou.kept hg (.inr (fun e => by have := hb R e.symm; omega))
    exact hgo.kept (grownBy_set wx p 1 _) (.inr (fun e => by
      have e : R = p := by injection e
      omega))
  · have h1 : wx.heap[p]? = _ := (hg.block p (by omega) (fun e => by have := hb p (by first | exact e | exact e.symm); omega)).trans h.pl
    rw [hlen]
    exact heap_setCell_same wx p 1 _ _ _ h1
  · refine (h.bel.grown hg h.bel.size (fun q e => ?_)).setCell (p := ⟨p, _, none⟩) (by show _ ≤ p; omega) _
    have := hb q e
    omega
  · simp; omega
theorem PlSt.pushL (h : PlSt base R p w0 wr vs un lf B d BU dU BL dL) {u : Int} {g c : Nat}
    (hown : wx.ownsRow base 3 1 (.slice (some ⟨g, 0, none⟩) (lf.length + 1) c) (lf.length + 1) (lf.map (.int .i64) ++ [.int .i64 u])) (hg : wr.grownBy wx (Value.slice BL lf.length dL).ownBlock) (hd : (Value.slice BL lf.length dL).ownBlock = some g ∨ wr.heap.size ≤ g) :
    PlSt base R p w0 wx vs un (lf ++ [u]) B d BU dU (some ⟨g, 0, none⟩) c := by
  have hb := fun q e => World.ownsRow.lt h.lfr q e
  obtain ⟨r1, r2, r3⟩ := h.hR
  have hs := h.sz
  have hwx := hg.size
  have hlen : (lf ++ [u]).length = lf.length + 1 := by simp
  refine ⟨fun i hi => (h.rows i hi).kept hg (own_ne_type (h.rows i hi) h.lfr (by decide)), h.far, h.unr.kept hg ?_, ?_, fun q e e' => ?_, h.rou.kept hg (.inr (fun e => by have := hb R e.symm; omega)), ?_, h.bel.grown hg h.bel.size (fun q e => by have := hb q e; omega), by omega, h.hR⟩
  · cases ho : (Value.slice BU un.length dU).ownBlock with
    | none => exact .inl rfl
    | some q => exact .inr (fun e => h.farI q ho e.symm)
  · rw [hlen, List.map_append]
    exact hown
  · have e' : g = q := by injection e'
    subst e'
    rcases hd with hd | hd
    · exact h.farI g e hd
    · have := (World.ownsRow.lt h.unr g e).2
      omega
  · exact (hg.block p (by omega) (fun e => by have := hb p (by first | exact e | exact e.symm); omega)).trans h.pl
theorem PlSt.visits (h : PlSt base R p w0 wr vs un lf B d BU dU BL dL) {k : Nat} (hk : k < 3) (hl : (vs k).length ≤ 1000000) (hf : ∀ v ∈ vs k, VisFits v) : RowAt rVis wr wr.heap.size (B k) (vs k) :=
  rowAt_own (cells := VisCells) (fun _ => rfl) (h.rows k hk) (fun v hv => rVis_mk (hf v hv)) (by omega) (by decide)
theorem PlSt.routes (h : PlSt base R p w0 wr vs un lf B d BU dU BL dL) (hl : ∀ k, k < 3 → (vs k).length ≤ 1000000) (hf : ∀ k, k < 3 → ∀ v ∈ vs k, VisFits v) : RowAt rRou wr wr.heap.size (some ⟨R, 0, none⟩) [⟨0, 0, vs 0⟩, ⟨0, 0, vs 1⟩, ⟨0, 0, vs 2⟩] := by
  have h2 := h.hR
  have h1 := h.sz
  refine ⟨by simp, fun i x hi => ?_⟩
  have hi3 : i < 3 := by have := (List.getElem?_eq_some_iff.1 hi).1; simpa using this
  have hat := fun k (hk : k < 3) => rRou_mk (r := ⟨0, 0, vs k⟩) (v := .slice none 0 0) (c := d k) (h.visits hk (hl k hk) (hf k hk)) rfl (by show (-9223372036854775808 : Int) ≤ 0 ∧ (0 : Int) ≤ 9223372036854775807; decide) (by show (-9223372036854775808 : Int) ≤ 0 ∧ (0 : Int) ≤ 9223372036854775807; decide)
  have hc := fun j (hj : j < 12) => h.rou.cellAt j (by omega)
  have : i = 0 ∨ i = 1 ∨ i = 2 := by omega
  rcases this with rfl | rfl | rfl
  all_goals
    simp at hi
    subst hi
  · refine ⟨⟨R, 0, none⟩, _, rfl, by show R < _; omega, hat 0 (by omega), fun j u hu => ?_⟩
    have hj : j < 4 := by have := (List.getElem?_eq_some_iff.1 hu).1; simpa [RouCells] using this
    rw [addr_add0]
    show wr.cell? ⟨R, 0 * 4 + j, none⟩ = some u
    rw [hc _ (by omega)]
    have : j = 0 ∨ j = 1 ∨ j = 2 ∨ j = 3 := by omega
    rcases this with rfl | rfl | rfl | rfl <;> exact hu
  · refine ⟨⟨R, 0, none⟩, _, rfl, by show R < _; omega, hat 1 (by omega), fun j u hu => ?_⟩
    have hj : j < 4 := by have := (List.getElem?_eq_some_iff.1 hu).1; simpa [RouCells] using this
    rw [addr_add0]
    show wr.cell? ⟨R, 1 * 4 + j, none⟩ = some u
    rw [hc _ (by omega)]
    have : j = 0 ∨ j = 1 ∨ j = 2 ∨ j = 3 := by omega
    rcases this with rfl | rfl | rfl | rfl <;> exact hu
  · refine ⟨⟨R, 0, none⟩, _, rfl, by show R < _; omega, hat 2 (by omega), fun j u hu => ?_⟩
    have hj : j < 4 := by have := (List.getElem?_eq_some_iff.1 hu).1; simpa [RouCells] using this
    rw [addr_add0]
    show wr.cell? ⟨R, 2 * 4 + j, none⟩ = some u
    rw [hc _ (by omega)]
    have : j = 0 ∨ j = 1 ∨ j = 2 ∨ j = 3 := by omega
    rcases this with rfl | rfl | rfl | rfl <;> exact hu
theorem PlSt.congr (h : PlSt base R p w0 wr vs un lf B d BU dU BL dL) {vs' : Nat → List Vis} (hv : ∀ k, k < 3 → vs' k = vs k) : PlSt base R p w0 wr vs' un lf B d BU dU BL dL := by
  refine ⟨fun k hk => by rw [hv k hk]; exact h.rows k hk, fun k k' hk hk' => by rw [hv k hk, hv k' hk']; exact h.far k k' hk hk', h.unr, h.lfr, h.farI, ?_, h.pl, h.bel, h.sz, h.hR⟩
  have e : rouCs vs' B d = rouCs vs B d := by unfold rouCs; rw [hv 0 (by omega), hv 1 (by omega), hv 2 (by omega)]
  rw [e]
  exact h.rou
theorem PlSt.plain (h : PlSt base R p w0 wr vs un lf B d BU dU BL dL) {row : Option Nat} (hg : wr.grownBy wx row) (hr : ∀ q, row = some q → base ≤ q) : wx.cell? ⟨p, 0, none⟩ = some (.slice (some ⟨R, 0, none⟩) 3 3) ∧ wx.cell? ⟨p, 1, none⟩ = some (.slice BU un.length dU) ∧ wx.frozen? ⟨p, 1, none⟩ = false := by
  have h1 := h.sz
  have h2 := h.hR
  have hp : wx.heap[p]? = _ := (hg.block p (by omega) (fun e => by have := hr p (by first | exact e | exact e.symm); omega)).trans h.pl
  refine ⟨?_, ?_, ?_⟩
  · unfold World.cell?; rw [hp]; rfl
  · unfold World.cell?; rw [hp]; rfl
  · simp [World.frozen?, hp]
theorem PlSt.here (h : PlSt base R p w0 wr vs un lf B d BU dU BL dL) : wr.cell? ⟨p, 0, none⟩ = some (.slice (some ⟨R, 0, none⟩) 3 3) ∧ wr.cell? ⟨p, 1, none⟩ = some (.slice BU un.length dU) ∧ wr.frozen? ⟨p, 1, none⟩ = false :=
  h.plain (World.grownBy.refl wr none) (fun q e => by cases e)
theorem PlSt.baseU (h : PlSt base R p w0 wr vs un lf B d BU dU BL dL) (q : Nat) (e : (Value.slice BU un.length dU).ownBlock = some q) : base ≤ q := (World.ownsRow.lt h.unr q e).1
end
end Go.Proofs.Ytceceomaheobhaa.spl

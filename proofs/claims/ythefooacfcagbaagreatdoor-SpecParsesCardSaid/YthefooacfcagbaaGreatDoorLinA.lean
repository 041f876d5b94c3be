import Derived.Test.YthefooacfcagbaaGreatDoorSpcW
/- spec.line. -/
namespace Go.Proofs.YthefooacfcagbaaGreatDoor.spc
open Go.RowKit
open lib rd app els typ big gen off
open ins (InP InAt InV)
open txt (in64 By strV strV_of decW decW_any Tabs elem_str toList_data push_one Strs numL number_any num_dec dec_num words_any WdOut WordsOk joinS)
set_option linter.unusedVariables false
set_option linter.unusedSimpArgs false
def LinOut (s : By) (xb : Nat) (x : Ins) (w : World) (e : Ending) (w' : World) : Prop := Below xb w w' ∧ ((∃ r P', LineOf s r ∧ e = .returned (.int .i64 r.rank) ∧ XB w' xb (r.add x) P') ∨ ((∀ r, ¬ LineOf s r) ∧ e = .returned (.int .i64 0)))
theorem results_put {T : Array Value} {d : Nat} {v : Value} (hd : d ≠ 4) : results Tryz.f29 (T.setIfInBounds d v) = results Tryz.f29 T := by
 unfold results
 rw [Tryz.results29]
 have e : (T.setIfInBounds d v).getD 4 undef = T.getD 4 undef := by
  rw [Array.getD_eq_getD_getElem?, Array.getD_eq_getD_getElem?, Array.getElem?_setIfInBounds_ne (by omega)]
 simp only [Array.getD_eq_getD_getElem?] at e
 simp [e]
theorem leaves_put {T : Array Value} {d : Nat} {v : Value} (hd : d ≠ 4) {R : Ending → World → Prop} : ∀ (ds : List Deferred) (u : FrameMode) (w : World), Leaves Tryz.prog Tryz.f29 (T.setIfInBounds d v) R ds u w → Leaves Tryz.prog Tryz.f29 T R ds u w
 | [], .returning, w, h => by
  unfold Leaves at h ⊢
  rwa [results_put hd] at h
 | [], .panicking c, w, h => h
 | [], .run, w, h => h
 | x :: ds, u, w, h => by
  unfold Leaves at h ⊢
  obtain ⟨h1, fv, cap, f, args, h2, h3, h4⟩ := h
  refine ⟨h1, fv, cap, f, args, h2, h3, CallsD.mono h4 fun e u' w' he => ?_⟩
  cases e with
  | returned a => exact leaves_put hd ds _ _ he
  | panicked c => exact leaves_put hd ds _ _ he
  | outgrown => exact he
theorem pan_put {Q : Ending → World → Prop} {c : List PanicEntry} {a : Act} {w : World} {v : Value} {d : Nat} (hd : d ≠ 4) (h : bodyPostD Tryz.prog Tryz.f29 Q (.panic c) (a.put (some d) v) w) : bodyPostD Tryz.prog Tryz.f29 Q (.panic c) a w :=
 leaves_put hd _ _ _ h
theorem words_tail {r r2 : Lin} {R' : List By} (h : r.words ++ R' = r2.words) : R' = [] := by
 have e := congrArg List.length h
 have hh := congrArg List.head? h
 cases r <;> cases r2 <;>
  first
   | (refine List.eq_nil_of_length_eq_zero ?_; simp only [Lin.words, arcW, typeW, orderW, pairW, List.length_append, List.length_cons, List.length_nil] at e; omega)
   | (exfalso; revert hh; simp [Lin.words, kwP, kwA, kwT, kwO, kwX, kwB, kwE]; done)
theorem rank0 {y : By} {R1 : List By} (h : rankF y = 0) (r : Lin) : y :: R1 ≠ r.words := fun e => by
 have h1 := rank_kw r y R1 e.symm
 have := (rank_le r).1
 omega
abbrev Z1 (xb H : Nat) (q : Nat) : Prop := xb < q ∧ q ≠ H
def LinMid (y : By) (R1 : List By) (xb : Nat) (x : Ins) (K H : Nat) (w wx : World) : Prop := Below xb w wx ∧ Blk wx H 3 [.int .i64 0] ∧ ∃ R', (∃ (A : Option Addr) (n c : Nat), n = R'.length ∧ n ≤ c ∧ Blk wx K 111 [.slice A n c]) ∧ ((∃ (r : Lin) (P' : InP) (G : Nat → Option Nat), y :: R1 = r.words ++ R' ∧ r.ok ∧ XG G wx (Z1 xb H) (r.add x) P' ∧ Blk wx xb 30 (xCs (r.add x) P')) ∨ (rankF y = 0 ∧ R' = R1))
structure LinSt (G : Nat → Option Nat) (P : InP) (xb : Nat) (x : Ins) (K H : Nat) (w : World) (R' : List By) (wx : World) : Prop where
 low : Below xb w wx
 res : Blk wx H 3 [.int .i64 0]
 rows : XG G wx (Z1 xb H) x P
 box : Blk wx xb 30 (xCs x P)
 rd : ∃ (A : Option Addr) (n c : Nat), n = R'.length ∧ n ≤ c ∧ Blk wx K 111 [.slice A n c]
 away : ∀ i, G i ≠ some K
 ord : xb < H ∧ H < K
theorem LinSt.mid0 {G : Nat → Option Nat} {P : InP} {xb : Nat} {x : Ins} {K H : Nat} {w wx wy : World} {y : By} {R1 R' : List By} {g c' : Nat} {cs cx : List Value} {s : ByteArray} (h : LinSt G P xb x K H w R' wx) (he : y :: R1 = (Lin.place s).words ++ R') (hok : (Lin.place s).ok)
  (hels : EG oStr wx (Avoid G (Z1 xb H)) cs x.net.places) (hx : oStr.at_ wx (Avoid G (Z1 xb H)) cx s) (hown : wy.ownsRow 0 9 1 (.slice (some ⟨g, 0, none⟩) (x.net.places.length + 1) c') (x.net.places.length + 1) (cs ++ cx)) (hg : wx.grownBy wy (Value.slice P.a0 x.net.places.length P.c0).ownBlock) (hd : (Value.slice P.a0 x.net.places.length P.c0).ownBlock = some g ∨ wx.heap.size ≤ g) :
  LinMid y R1 xb x K H w (wy.setCell ⟨xb, 0, none⟩ (.slice (some ⟨g, 0, none⟩) (x.net.places.length + 1) c')) := by
 obtain ⟨h1, h2⟩ := h.ord
 have hHz := h.res.lt
 have hXG := h.rows.add0 (fun q hq => ⟨by omega, by omega⟩) hels hx hown hg hd
 have hne : ∀ q, (∀ k, k = q → ¬ Z1 xb H k) → (Value.slice P.a0 x.net.places.length P.c0).ownBlock ≠ some q := fun q hq e => by
  rw [← h.rows.r0.own] at e
  exact hq q rfl (h.rows.ok.zone 0 q e)
 have hneK : some K ≠ (Value.slice P.a0 x.net.places.length P.c0).ownBlock := fun e => by rw [← h.rows.r0.own] at e; exact h.away 0 e.symm
 refine ⟨(h.low.grown hg (by have := h.box.lt; omega) (fun k e => ?_)).setCell (p := ⟨xb, 0, none⟩) (Nat.le_refl _) _, ?_, R', ?_, .inl ⟨Lin.place s, _, _, he, hok, hXG.keep (by simp [World.setCell]) fun q hq hz => ⟨hz, Below.heap_setCell wy ⟨xb, 0, none⟩ _ q (show q ≠ xb by have := hz.1; omega)⟩, ?_⟩⟩
 ·have := h.rows.ok.zone 0 k (by rw [h.rows.r0.own]; exact e)
  exact Nat.le_of_lt this.1
 ·exact (Below.heap_setCell wy ⟨xb, 0, none⟩ _ H (show H ≠ xb by omega)).trans (h.res.kept hg (fun e => hne H (fun k hk hz => hz.2 hk) e.symm))
 ·obtain ⟨A, n, c, k1, k2, k3⟩ := h.rd
  exact ⟨A, n, c, k1, k2, (Below.heap_setCell wy ⟨xb, 0, none⟩ _ K (show K ≠ xb by omega)).trans (k3.kept hg hneK)⟩
 ·have e := (h.box.kept hg (fun e => hne xb (fun k hk hz => by have := hz.1; omega) e.symm)).set 0 (.slice (some ⟨g, 0, none⟩) (x.net.places.length + 1) c')
  have e2 : (xCs x P).set 0 (.slice (some ⟨g, 0, none⟩) (x.net.places.length + 1) c') = xCs (Lin.add x (.place s)) { P with a0 := some ⟨g, 0, none⟩, c0 := c' } := by simp [xCs, Lin.add]
  rw [e2] at e
  exact e
theorem LinSt.mid1 {G : Nat → Option Nat} {P : InP} {xb : Nat} {x : Ins} {K H : Nat} {w wx wy : World} {y : By} {R1 R' : List By} {g c' : Nat} {cs cx : List Value} {s : Arc} (h : LinSt G P xb x K H w R' wx) (he : y :: R1 = (Lin.arc s).words ++ R') (hok : (Lin.arc s).ok)
  (hels : EG oArc wx (Avoid G (Z1 xb H)) cs x.net.arcs) (hx : oArc.at_ wx (Avoid G (Z1 xb H)) cx s) (hown : wy.ownsRow 0 49 6 (.slice (some ⟨g, 0, none⟩) (x.net.arcs.length + 1) c') (x.net.arcs.length + 1) (cs ++ cx)) (hg : wx.grownBy wy (Value.slice P.a1 x.net.arcs.length P.c1).ownBlock) (hd : (Value.slice P.a1 x.net.arcs.length P.c1).ownBlock = some g ∨ wx.heap.size ≤ g) :
  LinMid y R1 xb x K H w (wy.setCell ⟨xb, 1, none⟩ (.slice (some ⟨g, 0, none⟩) (x.net.arcs.length + 1) c')) := by
 obtain ⟨h1, h2⟩ := h.ord
 have hHz := h.res.lt
 have hXG := h.rows.add1 (fun q hq => ⟨by omega, by omega⟩) hels hx hown hg hd
 have hne : ∀ q, (∀ k, k = q → ¬ Z1 xb H k) → (Value.slice P.a1 x.net.arcs.length P.c1).ownBlock ≠ some q := fun q hq e => by
  rw [← h.rows.r1.own] at e
  exact hq q rfl (h.rows.ok.zone 1 q e)
 have hneK : some K ≠ (Value.slice P.a1 x.net.arcs.length P.c1).ownBlock := fun e => by rw [← h.rows.r1.own] at e; exact h.away 1 e.symm
 refine ⟨(h.low.grown hg (by have := h.box.lt; omega) (fun k e => ?_)).setCell (p := ⟨xb, 1, none⟩) (Nat.le_refl _) _, ?_, R', ?_, .inl ⟨Lin.arc s, _, _, he, hok, hXG.keep (by simp [World.setCell]) fun q hq hz => ⟨hz, Below.heap_setCell wy ⟨xb, 1, none⟩ _ q (show q ≠ xb by have := hz.1; omega)⟩, ?_⟩⟩
 ·have := h.rows.ok.zone 1 k (by rw [h.rows.r1.own]; exact e)
  exact Nat.le_of_lt this.1
 ·exact (Below.heap_setCell wy ⟨xb, 1, none⟩ _ H (show H ≠ xb by omega)).trans (h.res.kept hg (fun e => hne H (fun k hk hz => hz.2 hk) e.symm))
 ·obtain ⟨A, n, c, k1, k2, k3⟩ := h.rd
  exact ⟨A, n, c, k1, k2, (Below.heap_setCell wy ⟨xb, 1, none⟩ _ K (show K ≠ xb by omega)).trans (k3.kept hg hneK)⟩
 ·have e := (h.box.kept hg (fun e => hne xb (fun k hk hz => by have := hz.1; omega) e.symm)).set 1 (.slice (some ⟨g, 0, none⟩) (x.net.arcs.length + 1) c')
  have e2 : (xCs x P).set 1 (.slice (some ⟨g, 0, none⟩) (x.net.arcs.length + 1) c') = xCs (Lin.add x (.arc s)) { P with a1 := some ⟨g, 0, none⟩, c1 := c' } := by simp [xCs, Lin.add]
  rw [e2] at e
  exact e
theorem LinSt.mid2 {G : Nat → Option Nat} {P : InP} {xb : Nat} {x : Ins} {K H : Nat} {w wx wy : World} {y : By} {R1 R' : List By} {g c' : Nat} {cs cx : List Value} {s : Ty} (h : LinSt G P xb x K H w R' wx) (he : y :: R1 = (Lin.type s).words ++ R') (hok : (Lin.type s).ok)
  (hels : EG oTy wx (Avoid G (Z1 xb H)) cs x.types) (hx : oTy.at_ wx (Avoid G (Z1 xb H)) cx s) (hown : wy.ownsRow 0 63 14 (.slice (some ⟨g, 0, none⟩) (x.types.length + 1) c') (x.types.length + 1) (cs ++ cx)) (hg : wx.grownBy wy (Value.slice P.a2 x.types.length P.c2).ownBlock) (hd : (Value.slice P.a2 x.types.length P.c2).ownBlock = some g ∨ wx.heap.size ≤ g) :
  LinMid y R1 xb x K H w (wy.setCell ⟨xb, 2, none⟩ (.slice (some ⟨g, 0, none⟩) (x.types.length + 1) c')) := by
 obtain ⟨h1, h2⟩ := h.ord
 have hHz := h.res.lt
 have hXG := h.rows.add2 (fun q hq => ⟨by omega, by omega⟩) hels hx hown hg hd
 have hne : ∀ q, (∀ k, k = q → ¬ Z1 xb H k) → (Value.slice P.a2 x.types.length P.c2).ownBlock ≠ some q := fun q hq e => by
  rw [← h.rows.r2.own] at e
  exact hq q rfl (h.rows.ok.zone 2 q e)
 have hneK : some K ≠ (Value.slice P.a2 x.types.length P.c2).ownBlock := fun e => by rw [← h.rows.r2.own] at e; exact h.away 2 e.symm
 refine ⟨(h.low.grown hg (by have := h.box.lt; omega) (fun k e => ?_)).setCell (p := ⟨xb, 2, none⟩) (Nat.le_refl _) _, ?_, R', ?_, .inl ⟨Lin.type s, _, _, he, hok, hXG.keep (by simp [World.setCell]) fun q hq hz => ⟨hz, Below.heap_setCell wy ⟨xb, 2, none⟩ _ q (show q ≠ xb by have := hz.1; omega)⟩, ?_⟩⟩
 ·have := h.rows.ok.zone 2 k (by rw [h.rows.r2.own]; exact e)
  exact Nat.le_of_lt this.1
 ·exact (Below.heap_setCell wy ⟨xb, 2, none⟩ _ H (show H ≠ xb by omega)).trans (h.res.kept hg (fun e => hne H (fun k hk hz => hz.2 hk) e.symm))
 ·obtain ⟨A, n, c, k1, k2, k3⟩ := h.rd
  exact ⟨A, n, c, k1, k2, (Below.heap_setCell wy ⟨xb, 2, none⟩ _ K (show K ≠ xb by omega)).trans (k3.kept hg hneK)⟩
 ·have e := (h.box.kept hg (fun e => hne xb (fun k hk hz => by have := hz.1; omega) e.symm)).set 2 (.slice (some ⟨g, 0, none⟩) (x.types.length + 1) c')
  have e2 : (xCs x P).set 2 (.slice (some ⟨g, 0, none⟩) (x.types.length + 1) c') = xCs (Lin.add x (.type s)) { P with a2 := some ⟨g, 0, none⟩, c2 := c' } := by simp [xCs, Lin.add]
  rw [e2] at e
  exact e
theorem LinSt.mid3 {G : Nat → Option Nat} {P : InP} {xb : Nat} {x : Ins} {K H : Nat} {w wx wy : World} {y : By} {R1 R' : List By} {g c' : Nat} {cs cx : List Value} {s : Ord} (h : LinSt G P xb x K H w R' wx) (he : y :: R1 = (Lin.order s).words ++ R') (hok : (Lin.order s).ok)
  (hels : EG oOrd wx (Avoid G (Z1 xb H)) cs x.orders) (hx : oOrd.at_ wx (Avoid G (Z1 xb H)) cx s) (hown : wy.ownsRow 0 66 16 (.slice (some ⟨g, 0, none⟩) (x.orders.length + 1) c') (x.orders.length + 1) (cs ++ cx)) (hg : wx.grownBy wy (Value.slice P.a3 x.orders.length P.c3).ownBlock) (hd : (Value.slice P.a3 x.orders.length P.c3).ownBlock = some g ∨ wx.heap.size ≤ g) :
  LinMid y R1 xb x K H w (wy.setCell ⟨xb, 3, none⟩ (.slice (some ⟨g, 0, none⟩) (x.orders.length + 1) c')) := by
 obtain ⟨h1, h2⟩ := h.ord
 have hHz := h.res.lt
 have hXG := h.rows.add3 (fun q hq => ⟨by omega, by omega⟩) hels hx hown hg hd
 have hne : ∀ q, (∀ k, k = q → ¬ Z1 xb H k) → (Value.slice P.a3 x.orders.length P.c3).ownBlock ≠ some q := fun q hq e => by
  rw [← h.rows.r3.own] at e
  exact hq q rfl (h.rows.ok.zone 3 q e)
 have hneK : some K ≠ (Value.slice P.a3 x.orders.length P.c3).ownBlock := fun e => by rw [← h.rows.r3.own] at e; exact h.away 3 e.symm
 refine ⟨(h.low.grown hg (by have := h.box.lt; omega) (fun k e => ?_)).setCell (p := ⟨xb, 3, none⟩) (Nat.le_refl _) _, ?_, R', ?_, .inl ⟨Lin.order s, _, _, he, hok, hXG.keep (by simp [World.setCell]) fun q hq hz => ⟨hz, Below.heap_setCell wy ⟨xb, 3, none⟩ _ q (show q ≠ xb by have := hz.1; omega)⟩, ?_⟩⟩
 ·have := h.rows.ok.zone 3 k (by rw [h.rows.r3.own]; exact e)
  exact Nat.le_of_lt this.1
 ·exact (Below.heap_setCell wy ⟨xb, 3, none⟩ _ H (show H ≠ xb by omega)).trans (h.res.kept hg (fun e => hne H (fun k hk hz => hz.2 hk) e.symm))
 ·obtain ⟨A, n, c, k1, k2, k3⟩ := h.rd
  exact ⟨A, n, c, k1, k2, (Below.heap_setCell wy ⟨xb, 3, none⟩ _ K (show K ≠ xb by omega)).trans (k3.kept hg hneK)⟩
 ·have e := (h.box.kept hg (fun e => hne xb (fun k hk hz => by have := hz.1; omega) e.symm)).set 3 (.slice (some ⟨g, 0, none⟩) (x.orders.length + 1) c')
  have e2 : (xCs x P).set 3 (.slice (some ⟨g, 0, none⟩) (x.orders.length + 1) c') = xCs (Lin.add x (.order s)) { P with a3 := some ⟨g, 0, none⟩, c3 := c' } := by simp [xCs, Lin.add]
  rw [e2] at e
  exact e
theorem LinSt.mid4 {G : Nat → Option Nat} {P : InP} {xb : Nat} {x : Ins} {K H : Nat} {w wx wy : World} {y : By} {R1 R' : List By} {g c' : Nat} {cs cx : List Value} {s : Int × Int} (h : LinSt G P xb x K H w R' wx) (he : y :: R1 = (Lin.apart s).words ++ R') (hok : (Lin.apart s).ok)
  (hels : EG oTwo wx (Avoid G (Z1 xb H)) cs x.apart) (hx : oTwo.at_ wx (Avoid G (Z1 xb H)) cx s) (hown : wy.ownsRow 0 67 2 (.slice (some ⟨g, 0, none⟩) (x.apart.length + 1) c') (x.apart.length + 1) (cs ++ cx)) (hg : wx.grownBy wy (Value.slice P.a4 x.apart.length P.c4).ownBlock) (hd : (Value.slice P.a4 x.apart.length P.c4).ownBlock = some g ∨ wx.heap.size ≤ g) :
  LinMid y R1 xb x K H w (wy.setCell ⟨xb, 4, none⟩ (.slice (some ⟨g, 0, none⟩) (x.apart.length + 1) c')) := by
 obtain ⟨h1, h2⟩ := h.ord
 have hHz := h.res.lt
 have hXG := h.rows.add4 (fun q hq => ⟨by omega, by omega⟩) hels hx hown hg hd
 have hne : ∀ q, (∀ k, k = q → ¬ Z1 xb H k) → (Value.slice P.a4 x.apart.length P.c4).ownBlock ≠ some q := fun q hq e => by
  rw [← h.rows.r4.own] at e
  exact hq q rfl (h.rows.ok.zone 4 q e)
 have hneK : some K ≠ (Value.slice P.a4 x.apart.length P.c4).ownBlock := fun e => by rw [← h.rows.r4.own] at e; exact h.away 4 e.symm
 refine ⟨(h.low.grown hg (by have := h.box.lt; omega) (fun k e => ?_)).setCell (p := ⟨xb, 4, none⟩) (Nat.le_refl _) _, ?_, R', ?_, .inl ⟨Lin.apart s, _, _, he, hok, hXG.keep (by simp [World.setCell]) fun q hq hz => ⟨hz, Below.heap_setCell wy ⟨xb, 4, none⟩ _ q (show q ≠ xb by have := hz.1; omega)⟩, ?_⟩⟩
 ·have := h.rows.ok.zone 4 k (by rw [h.rows.r4.own]; exact e)
  exact Nat.le_of_lt this.1
 ·exact (Below.heap_setCell wy ⟨xb, 4, none⟩ _ H (show H ≠ xb by omega)).trans (h.res.kept hg (fun e => hne H (fun k hk hz => hz.2 hk) e.symm))
 ·obtain ⟨A, n, c, k1, k2, k3⟩ := h.rd
  exact ⟨A, n, c, k1, k2, (Below.heap_setCell wy ⟨xb, 4, none⟩ _ K (show K ≠ xb by omega)).trans (k3.kept hg hneK)⟩
 ·have e := (h.box.kept hg (fun e => hne xb (fun k hk hz => by have := hz.1; omega) e.symm)).set 4 (.slice (some ⟨g, 0, none⟩) (x.apart.length + 1) c')
  have e2 : (xCs x P).set 4 (.slice (some ⟨g, 0, none⟩) (x.apart.length + 1) c') = xCs (Lin.add x (.apart s)) { P with a4 := some ⟨g, 0, none⟩, c4 := c' } := by simp [xCs, Lin.add]
  rw [e2] at e
  exact e
theorem LinSt.mid5 {G : Nat → Option Nat} {P : InP} {xb : Nat} {x : Ins} {K H : Nat} {w wx wy : World} {y : By} {R1 R' : List By} {g c' : Nat} {cs cx : List Value} {s : Int × Int} (h : LinSt G P xb x K H w R' wx) (he : y :: R1 = (Lin.before s).words ++ R') (hok : (Lin.before s).ok)
  (hels : EG oTwo wx (Avoid G (Z1 xb H)) cs x.before) (hx : oTwo.at_ wx (Avoid G (Z1 xb H)) cx s) (hown : wy.ownsRow 0 67 2 (.slice (some ⟨g, 0, none⟩) (x.before.length + 1) c') (x.before.length + 1) (cs ++ cx)) (hg : wx.grownBy wy (Value.slice P.a5 x.before.length P.c5).ownBlock) (hd : (Value.slice P.a5 x.before.length P.c5).ownBlock = some g ∨ wx.heap.size ≤ g) :
  LinMid y R1 xb x K H w (wy.setCell ⟨xb, 5, none⟩ (.slice (some ⟨g, 0, none⟩) (x.before.length + 1) c')) := by
 obtain ⟨h1, h2⟩ := h.ord
 have hHz := h.res.lt
 have hXG := h.rows.add5 (fun q hq => ⟨by omega, by omega⟩) hels hx hown hg hd
 have hne : ∀ q, (∀ k, k = q → ¬ Z1 xb H k) → (Value.slice P.a5 x.before.length P.c5).ownBlock ≠ some q := fun q hq e => by
  rw [← h.rows.r5.own] at e
  exact hq q rfl (h.rows.ok.zone 5 q e)
 have hneK : some K ≠ (Value.slice P.a5 x.before.length P.c5).ownBlock := fun e => by rw [← h.rows.r5.own] at e; exact h.away 5 e.symm
 refine ⟨(h.low.grown hg (by have := h.box.lt; omega) (fun k e => ?_)).setCell (p := ⟨xb, 5, none⟩) (Nat.le_refl _) _, ?_, R', ?_, .inl ⟨Lin.before s, _, _, he, hok, hXG.keep (by simp [World.setCell]) fun q hq hz => ⟨hz, Below.heap_setCell wy ⟨xb, 5, none⟩ _ q (show q ≠ xb by have := hz.1; omega)⟩, ?_⟩⟩
 ·have := h.rows.ok.zone 5 k (by rw [h.rows.r5.own]; exact e)
  exact Nat.le_of_lt this.1
 ·exact (Below.heap_setCell wy ⟨xb, 5, none⟩ _ H (show H ≠ xb by omega)).trans (h.res.kept hg (fun e => hne H (fun k hk hz => hz.2 hk) e.symm))
 ·obtain ⟨A, n, c, k1, k2, k3⟩ := h.rd
  exact ⟨A, n, c, k1, k2, (Below.heap_setCell wy ⟨xb, 5, none⟩ _ K (show K ≠ xb by omega)).trans (k3.kept hg hneK)⟩
 ·have e := (h.box.kept hg (fun e => hne xb (fun k hk hz => by have := hz.1; omega) e.symm)).set 5 (.slice (some ⟨g, 0, none⟩) (x.before.length + 1) c')
  have e2 : (xCs x P).set 5 (.slice (some ⟨g, 0, none⟩) (x.before.length + 1) c') = xCs (Lin.add x (.before s)) { P with a5 := some ⟨g, 0, none⟩, c5 := c' } := by simp [xCs, Lin.add]
  rw [e2] at e
  exact e
theorem LinSt.boxk {G : Nat → Option Nat} {P : InP} {xb : Nat} {x : Ins} {K H : Nat} {w wx wy : World} {R' : List By} (h : LinSt G P xb x K H w R' wx) (i : Nat) (hg : wx.grownBy wy (G i)) : Blk wy xb 30 (xCs x P) :=
 h.box.kept hg (fun e => by have := (h.rows.ok.zone i xb e.symm).1; omega)
theorem inv_place {R1 : List By} {r : Lin} (h : kwP :: R1 = r.words) (hr : r.ok) : ∃ s : ByteArray, R1 = [s.data.toList] ∧ nameOk s := by
 cases r with
 | place s => exact ⟨s, by simpa [Lin.words] using h, hr⟩
 | _ => exfalso; revert h; simp [Lin.words, kwP, kwA, kwT, kwO, kwX, kwB, kwE]
theorem inv_arc {R1 : List By} {r : Lin} (h : kwA :: R1 = r.words) (hr : r.ok) : ∃ s : Arc, R1 = arcW s ∧ arcOk s := by
 cases r with
 | arc s => exact ⟨s, by simpa [Lin.words] using h, hr⟩
 | _ => exfalso; revert h; simp [Lin.words, kwP, kwA, kwT, kwO, kwX, kwB, kwE]
theorem inv_type {R1 : List By} {r : Lin} (h : kwT :: R1 = r.words) (hr : r.ok) : ∃ s : Ty, R1 = typeW s ∧ tyOk s := by
 cases r with
 | type s => exact ⟨s, by simpa [Lin.words] using h, hr⟩
 | _ => exfalso; revert h; simp [Lin.words, kwP, kwA, kwT, kwO, kwX, kwB, kwE]
theorem inv_order {R1 : List By} {r : Lin} (h : kwO :: R1 = r.words) (hr : r.ok) : ∃ s : Ord, R1 = orderW s ∧ ordOk s := by
 cases r with
 | order s => exact ⟨s, by simpa [Lin.words] using h, hr⟩
 | _ => exfalso; revert h; simp [Lin.words, kwP, kwA, kwT, kwO, kwX, kwB, kwE]
theorem inv_apart {R1 : List By} {r : Lin} (h : kwX :: R1 = r.words) (hr : r.ok) : ∃ s : Int × Int, R1 = pairW s ∧ pairOk s := by
 cases r with
 | apart s => exact ⟨s, by simpa [Lin.words] using h, hr⟩
 | _ => exfalso; revert h; simp [Lin.words, kwP, kwA, kwT, kwO, kwX, kwB, kwE]
theorem inv_before {R1 : List By} {r : Lin} (h : kwB :: R1 = r.words) (hr : r.ok) : ∃ s : Int × Int, R1 = pairW s ∧ pairOk s := by
 cases r with
 | before s => exact ⟨s, by simpa [Lin.words] using h, hr⟩
 | _ => exfalso; revert h; simp [Lin.words, kwP, kwA, kwT, kwO, kwX, kwB, kwE]
theorem join_ge {c : UInt8} : ∀ {L : List By}, (∀ x ∈ L, x ≠ []) → L.length ≤ (Lib.join L [c]).length
 | [], _ => Nat.zero_le _
 | [x], h => by
  rw [Lib.join_one]
  exact List.length_pos_iff.2 (h x (List.mem_cons_self ..))
 | x :: y :: r, h => by
  have ih := join_ge (c := c) (L := y :: r) fun z hz => h z (List.mem_cons_of_mem _ hz)
  rw [join2]
  simp only [List.length_append, List.length_cons] at ih ⊢
  omega
theorem listF_len (l : List Int) : l.length ≤ (listF l).length := by
 unfold listF
 split
 ·rename_i h; rw [h]; exact Nat.zero_le _
 ·have := join_ge (c := 44) (L := l.map Lib.itoa) fun x hx => txt.word_ne (decs_word x hx)
  rwa [List.length_map] at this
theorem trvF_len (l : List Pt) : l.length ≤ (trvF l).length := by
 unfold trvF
 split
 ·rename_i h; rw [h]; exact Nat.zero_le _
 ·have := join_ge (c := 44) (L := l.map ptF) fun x hx => by
   obtain ⟨p, _, rfl⟩ := List.mem_map.1 hx
   exact txt.word_ne (ptF_word p)
  rwa [List.length_map] at this
def zAr : Arc := ⟨0, 0, 0, 0, [], []⟩
theorem zs_arc : (List.range (1 * 6)).map (fun i => (Value.agg #[.int .i64 0, .int .i64 0, .int .i64 0, .int .i64 0, .slice none 0 0, .slice none 0 0]).cells[i % (Value.agg #[.int .i64 0, .int .i64 0, .int .i64 0, .int .i64 0, .slice none 0 0, .slice none 0 0]).cells.size]!) = ArcCells zAr none 0 none 0 := by kernel_rfl
theorem arc_fill (q : Arc) (A : Option Addr) (d : Nat) (B : Option Addr) (e : Nat) : Instr.fill (fun i => some (i * 6, 6)) (ArcCells zAr none 0 none 0).toArray [(0, .agg (ArcCells q A d B e).toArray)] = some (ArcCells q A d B e).toArray := by kernel_rfl
theorem avoid_old {G : Nat → Option Nat} {Z Z' : Nat → Prop} {w0 : World} (h : GOk G Z w0) {q : Nat} (hq : w0.heap.size ≤ q) (hZ : Z' q) : Avoid G Z' q := ⟨hZ, fun i e => by have := h.lt i q e.symm; omega⟩
theorem len_join {x : By} : ∀ {L : List By}, x ∈ L → x.length ≤ (joinS L).length
 | [y], h => by
  rw [List.mem_singleton] at h
  rw [txt.joinS_one, h]
  exact Nat.le_refl _
 | y :: z :: r, h => by
  rw [txt.joinS_cons, List.length_append, List.length_cons]
  rcases List.mem_cons.1 h with rfl | h
  ·omega
  ·have := len_join h
   omega
theorem run_cell1 {w : World} {H : Nat} {v : Int} (hb : Blk w H 3 [.int .i64 v]) : w.cell? ⟨H, 0, none⟩ = some (.int .i64 v) := hb.cell (j := 0) rfl
set_option maxRecDepth 20000 in
theorem door_ret {Q : Ending → World → Prop} {T : Array Value} {wx : World} {H : Nat} {v : Int} (ha : T.getD 4 undef = .pointer (some ⟨H, 0, none⟩)) (hb : Blk wx H 3 [.int .i64 v])
  (hQ : Q (.returned (.int .i64 v)) (wx.alloc (.cells #[] 107))) :
  bodyPostD Tryz.prog Tryz.f29 Q Exit.ret { tmps := T, defers := [{ target := Target.fn (Fn.func 60) #[.pointer (some ⟨H, 0, none⟩)], args := #[] }] } wx := by
 have hb2 : Blk (wx.alloc (.cells #[] 107)) H 3 [.int .i64 v] := hb.kept (World.grownBy_alloc _ _ none) (by simp)
 have hc := run_cell1 hb2
 rw [Array.getD_eq_getD_getElem?] at ha
 refine leaves_cons (f := 60) (args := #[.pointer (some ⟨H, 0, none⟩)]) (by simp) (by simp [go_sem]) ?_
 refine (catch_idle ⟨H, 0, none⟩ _).mono ?_
 rintro e u' w'' ⟨rfl, rfl, rfl⟩
 simp [Leaves, settle, results, Tryz.results29, go_sem, ha, hc]
 exact hQ
set_option maxRecDepth 20000 in
theorem door_pan {Q : Ending → World → Prop} {T : Array Value} {wx : World} {H : Nat} {v : Int} (ha : T.getD 4 undef = .pointer (some ⟨H, 0, none⟩)) (hb : Blk wx H 3 [.int .i64 v])
  (hQ : Q (.returned (.int .i64 0)) ((wx.alloc (.cells #[] 107)).setCell ⟨H, 0, none⟩ (.int .i64 0))) :
  bodyPostD Tryz.prog Tryz.f29 Q (Exit.panic [pnV]) { tmps := T, defers := [{ target := Target.fn (Fn.func 60) #[.pointer (some ⟨H, 0, none⟩)], args := #[] }] } wx := by
 have hb2 : Blk (wx.alloc (.cells #[] 107)) H 3 [.int .i64 v] := hb.kept (World.grownBy_alloc _ _ none) (by simp)
 have hc := run_cell1 (hb2.set 0 (.int .i64 0))
 rw [Array.getD_eq_getD_getElem?] at ha
 refine leaves_cons (f := 60) (args := #[.pointer (some ⟨H, 0, none⟩)]) (by simp) (by simp [go_sem]) ?_
 refine (catch_panicking ⟨H, 0, none⟩ v [] _ hb.lt (run_cell1 hb) (hb.frozen 0)).mono ?_
 rintro e u' w'' ⟨rfl, rfl, rfl⟩
 simp [Leaves, settle, results, Tryz.results29, go_sem, ha, hc, pnV]
 exact hQ
set_option maxRecDepth 20000 in
set_option maxHeartbeats 4000000 in
theorem line_any (s : By) (hs : s.length ≤ 70000) (xb : Nat) (x : Ins) (P : InP) (w : World) (ht : TabsAt xb w) (hX : XB w xb x P) (hsm : Sm x) :
  Calls Tryz.prog 29 #[.string ⟨s.toArray⟩, .pointer (some ⟨xb, 0, none⟩)] w (LinOut s xb x w) := by
 have hmf : ∀ (fn : Fn) (first cap : Array Value) (w : World), (Instr.makeFunc fn first cap).run Tryz.prog w = .ok (.func fn first cap) w := fun _ _ _ _ => rfl
 have HTB := Lib.hid ht
 have HX := Lib.hid hX
 have HSM := Lib.hid hsm
 have hxb : xb < w.heap.size := by obtain ⟨G, _, h⟩ := hX; exact h.lt
 obtain ⟨w1, hw1⟩ : ∃ W, w.alloc (.cells #[.int .i64 0] 3) = W := ⟨_, rfl⟩
 have HW1 := Lib.hid hw1
 have HB1 : Hid (Blk w1 w.heap.size 3 [.int .i64 0]) := Lib.hid (by rw [← hw1]; exact Blk.new w _ _)
 have HL1 : Hid (Below w.heap.size w w1) := Lib.hid (by rw [← hw1]; exact (Below.refl _ _).alloc (Nat.le_refl _) _)
 have hwd := words_any ⟨s.toArray⟩ (by simp [ByteArray.size]; omega) w1
 rw [show (⟨s.toArray⟩ : ByteArray).data.toList = s by simp] at hwd
 have HWD := Lib.hid hwd
 clear ht hX hsm hw1 hwd
 go_enter_defers Tryz.func29, Tryz.ntmps29
 go_upto_region 1 with fail
 rw [HW1.out]
 clear HW1
 go_upto_region 3 with (go_at_call 61; refine HWD.out.mono ?_; rintro e w2 ⟨hb2, ⟨rfl, hwo⟩ | ⟨L, A, c, rfl, hwo, hLc, hSt⟩⟩)
 ·have HB2 := Lib.hid (HB1.out.below hb2)
  have HL2 := Lib.hid (HL1.out.trans (hb2.mono HL1.out.size))
  have HNO : Hid (∀ r, ¬ LineOf s r) := Lib.hid (fun r h => by have := LineOk.words hwo h; cases this)
  have hc := HB2.out.cell (j := 0) rfl
  have hf := HB2.out.frozen 0
  clear hb2 hwo
  go_wp2
  refine door_ret (v := 0) rfl (HB2.out.set 0 _) ?_
  refine ⟨((HL2.out.mono (by omega)).setCell (p := ⟨w.heap.size, 0, none⟩) (by show xb ≤ w.heap.size; omega) _).alloc (by have := HL2.out.size; simp; omega) _, .inr ⟨HNO.out, rfl⟩⟩
 ·obtain ⟨kb, hK⟩ : ∃ kb, w2.heap.size = kb := ⟨_, rfl⟩
  obtain ⟨w3, hw3⟩ : ∃ W, w2.alloc (.cells #[.slice A L.length c] 111) = W := ⟨_, rfl⟩
  have HW3 := Lib.hid hw3
  have hKz : w.heap.size < kb := by have := hb2.size; have := HB1.out.lt; omega
  have HB3 : Hid (Blk w3 w.heap.size 3 [.int .i64 0]) := Lib.hid (by rw [← hw3]; exact (HB1.out.below hb2).kept (World.grownBy_alloc _ _ none) (by simp))
  have HL3 : Hid (Below w.heap.size w w3) := Lib.hid (by rw [← hw3]; exact (HL1.out.trans (hb2.mono HL1.out.size)).alloc (by omega) _)
  have HRD : Hid (RdSt w3 kb L) := Lib.hid (by
   refine ⟨A, L.length, c, rfl, hLc, by rw [← hw3, ← hK]; exact Blk.new w2 _ _, ⟨by rw [← hw3, ← hK]; exact hSt.1.alloc (Nat.le_refl _) _, hSt.2⟩, fun y hy => ⟨?_, hwo.parts L rfl y hy⟩⟩
   rcases hwo.join L rfl with ⟨h1, h2⟩ | ⟨h1, h2⟩
   ·have := len_join hy; rw [← h2] at this; omega
   ·rw [h1] at hy; cases hy)
  have HWO : Hid (∀ r, LineOf s r → L = r.words) := Lib.hid (fun r h => Option.some.inj (LineOk.words hwo h))
  have HJO : Hid (∀ r : Lin, r.ok → L = r.words → LineOf s r) := Lib.hid (fun r hr e => by
   rcases hwo.join L rfl with ⟨h1, h2⟩ | ⟨h1, h2⟩
   ·exact ⟨by rw [h2, e], hr⟩
   ·rw [h1] at e; exact absurd e.symm (words_ne r))
  have HPAN : Hid (∀ wx, Below xb w wx → w.heap.size < wx.heap.size → (∀ r : Lin, r.ok → L ≠ r.words) → LinOut s xb x w (.returned (.int .i64 0)) ((wx.alloc (.cells #[] 107)).setCell ⟨w.heap.size, 0, none⟩ (.int .i64 0))) := Lib.hid (fun wx hb hz hno => by
   refine ⟨(hb.alloc (by omega) _).setCell (p := ⟨w.heap.size, 0, none⟩) (by show xb ≤ w.heap.size; omega) _, .inr ⟨fun r h => hno r h.2 ?_, rfl⟩⟩
   exact Option.some.inj (LineOk.words hwo h))
  clear hb2 hwo hSt hw3
  go_upto_region 6 with fail
  rw [HW3.out]
  clear HW3 hK
  go_upto_block 0 with (go_at_call 62; refine (word_any kb _ _ HRD.out).mono ?_; rintro e w4 (⟨y, R1, _, rfl, hy, rfl, rfl, hst⟩ | ⟨hno, rfl, hg⟩))
  rotate_left
  ·have hb : Below xb w w4 := (HL3.out.mono (by omega)).trans (below_grown hg (by have := HL3.out.size; omega) (by omega))
   refine door_pan (v := 0) rfl (HB3.out.kept hg (by intro e; injection e with e; omega)) (HPAN.out w4 hb (by have := hb.size; have := hg.size; have := HB3.out.lt; omega) (fun r hr e => ?_))
   have hww := words_word hr
   have hne := words_ne r
   rw [← e] at hww hne
   cases L with
   | nil => exact hne rfl
   | cons a R' => exact hno a R' (hww a (List.mem_cons_self ..)) rfl
  have HST := Lib.hid hst
  have HB4 := Lib.hid (HB3.out.kept hst.grown (by intro e; injection e with e; omega))
  clear hst HRD hLc
  go_cut [9] from 23 to 128 (fun v wx => LinMid y R1 xb x kb w.heap.size w wx)
  case first =>
   obtain ⟨G, hXG, hbx⟩ := HX.out
   have HFR : Hid (∀ wx R', RS w3 kb R' wx → LinSt G P xb x kb w.heap.size w R' wx) := Lib.hid (fun wx R' h => by
    have hz := h.grown.size
    have hz3 := HL3.out.size
    have hbl : ∀ q, q < w.heap.size → wx.heap[q]? = w.heap[q]? := fun q hq => (h.grown.block q (by omega) (by intro e; injection e with e; omega)).trans (HL3.out.block q hq)
    refine ⟨(HL3.out.mono (by omega)).trans (below_grown h.grown (by omega) (by omega)), HB3.out.kept h.grown (by intro e; injection e with e; omega), hXG.keep (by omega) fun q hq hzq => ⟨⟨hzq, by omega⟩, hbl q hq⟩, (hbl xb hxb).trans hbx, ?_, fun i e => by have := hXG.ok.lt i kb e; omega, hxb, hKz⟩
    obtain ⟨A, n, c, k1, k2, k3, _⟩ := h.st
    exact ⟨A, n, c, k1, k2, k3⟩)
   have HTK : Hid (∀ wx R', RS w3 kb R' wx → TabsAt kb wx) := Lib.hid (fun wx R' h => ((HTB.out.below (HL3.out.mono (by omega))).more (by omega)).below h.bel)
   have HX0 := Lib.hid hXG
   clear hXG hbx HX
   have HFB : Hid (∀ wx, w3.grownBy wx (some kb) → Below xb w wx ∧ Blk wx w.heap.size 3 [.int .i64 0] ∧ w.heap.size < wx.heap.size) := Lib.hid (fun wx hg => by
    have hz := hg.size
    have hz3 := HL3.out.size
    exact ⟨(HL3.out.mono (by omega)).trans (below_grown hg (by omega) (by omega)), HB3.out.kept hg (by intro e; injection e with e; omega), by have := HB3.out.lt; omega⟩)
   by_cases h1 : y = [112, 108, 97, 99, 101]
   ·subst h1
    have HLE := Lib.hid HST.out.st.len
    have HNP : Hid (∀ wx, w3.grownBy wx (some kb) → (∀ a R', txt.wordB a = true → R1 ≠ a :: R') → LinOut s xb x w (.returned (.int .i64 0)) ((wx.alloc (.cells #[] 107)).setCell ⟨w.heap.size, 0, none⟩ (.int .i64 0))) := Lib.hid (fun wx hg hno => by
     obtain ⟨k1, k2, k3⟩ := HFB.out wx hg
     refine HPAN.out wx k1 k3 fun r hr e => ?_
     obtain ⟨q, e1, e2⟩ := inv_place e hr
     exact hno _ [] e2.1 e1)
    have hc4 := (HFR.out w4 R1 HST.out).box.cell (j := 0) rfl
    have hsm := HSM.out.1
    go_upto_region 9 with fail
    (refine wp_region_held_drew (S := (fun w' => True)) (by kernel_rfl) ?_ (fun hHeld => ?_))
    ·trivial
    (refine lib.tk 0 rfl ?_ (hQ := (fun _ _ _ h => pan_put (by decide) h)); (try simp only [lib.hly]))
    (refine lib.tk 1 rfl ?_ (hQ := (fun _ _ _ h => pan_put (by decide) h)); (try simp only [lib.hly]))
    (refine lib.tk 2 rfl ?_ (hQ := (fun _ _ _ h => pan_put (by decide) h)); (try simp only [lib.hly]))
    (refine lib.tk 3 rfl ?_ (hQ := (fun _ _ _ h => pan_put (by decide) h)); (try simp only [lib.hly]))
    (refine lib.tk 4 rfl ?_ (hQ := (fun _ _ _ h => pan_put (by decide) h)); (try simp only [lib.hly]))
    (refine lib.tk 6 rfl ?_ (hQ := (fun _ _ _ h => pan_put (by decide) h)); (try simp only [lib.hly]))
    refine wpAnyH_ready (rs := [5, 7]) (by kernel_rfl) (by simp) ?_
    refine AllReadyH.cons rfl (fun K hK => ?_) (AllReadyH.cons rfl (fun K hK => ?_) AllReadyH.nil)
    ·go_simp
     refine hK.out _ _ (trivial) (fun hHeld => ?_)
     clear hK K
     (try simp only [lib.hly])
     (refine lib.rk 7 rfl fun K hK => ?_)
     go_simp
     refine (word_any kb _ _ (HST.out.drew).st).mono ?_
     rintro e v7 (⟨nm, R2, _, rfl, hnm, rfl, rfl, hst⟩ | ⟨hno, rfl, hg⟩)
     rotate_left
     ·exact door_pan (v := 0) rfl (HFB.out _ ((HST.out.drew).grown.trans hg)).2.1 (HNP.out _ ((HST.out.drew).grown.trans hg) hno)
     have HS7 := Lib.hid ((HST.out.drew).next hst)
     clear hst
     refine hK.out _ _ (trivial) (fun hHeld => ?_)
     clear hK K
     (try simp only [lib.hly])
     (refine lib.rk 8 rfl fun K hK => ?_)
     go_simp
     have HS8 := Lib.hid (HS7.out.alloc (.cells #[.string ⟨nm.toArray⟩] 9))
     have ha8 : ∀ (j : Nat) (u : Value), [Value.string ⟨nm.toArray⟩][j]? = some u → (v7.alloc (.cells #[.string ⟨nm.toArray⟩] 9)).cell? ((⟨v7.heap.size, 0, none⟩ : Addr).add j) = some u := cell_one_new _ _ _
     obtain ⟨W8, hW8⟩ : ∃ W, v7.alloc (.cells #[.string ⟨nm.toArray⟩] 9) = W := ⟨_, rfl⟩
     rw [hW8] at HS8 ha8 ⊢
     have HA8 := Lib.hid ha8
     clear hW8 ha8
     refine hK.out _ _ (trivial) (fun hHeld => ?_)
     clear hK K
     (try simp only [lib.hly])
     have HL8 := Lib.hid (HFR.out W8 R2 HS8.out)
     obtain ⟨cs, hco, hce⟩ := HL8.out.rows.r0.ex
     have HCO := Lib.hid hco
     have HCE := Lib.hid hce
     clear hco hce
     (refine lib.rk 9 rfl fun K hK => ?_)
     refine step_app str_elem _ _ rfl 0 P.a0 x.net.places.length P.c0 cs rfl HCO.out ⟨v7.heap.size, 0, none⟩ 1 [.string ⟨nm.toArray⟩] rfl rfl HA8.out (fun u hu => by rw [List.mem_singleton] at hu; rw [hu]; rfl) (by omega) (Nat.zero_le _) rfl ?_
     intro g9 c9 w9 hown9 hg9 hd9
     have HB9 := Lib.hid (HL8.out.boxk 0 (by rw [HL8.out.rows.r0.own]; exact hg9))
     have hcc := HB9.out.cell (j := 0) rfl
     have hcf := HB9.out.frozen 0
     have HM9 := Lib.hid (HL8.out.mid0 (s := ⟨nm.toArray⟩) (y := [112, 108, 97, 99, 101]) (R1 := nm :: R2) (by simp [Lin.words, kwP]) ⟨by simpa using hnm, by have := HLE.out nm (by simp); simp [ByteArray.size]; omega⟩ HCE.out ⟨rfl, by have := HLE.out nm (by simp); simp [ByteArray.size]; omega⟩ hown9 hg9 hd9)
     clear hown9 hg9 hd9
     refine hK.out _ _ (trivial) (fun hHeld => ?_)
     clear hK K
     (try simp only [lib.hly])
     (refine lib.tk 10 rfl ?_ (hQ := (fun _ _ _ h => pan_put (by decide) h)); (try simp only [lib.hly]))
     (refine lib.tk 11 rfl ?_ (hQ := (fun _ _ _ h => pan_put (by decide) h)); (try simp only [lib.hly]))
     (refine lib.tk 12 rfl ?_ (hQ := (fun _ _ _ h => pan_put (by decide) h)); (try simp only [lib.hly]))
     (refine lib.rk 13 rfl fun K hK => ?_)
     go_simp
     refine hK.out _ _ (trivial) (fun hHeld => ?_)
     clear hK K
     (try simp only [lib.hly])
     (refine wpAnyH_done (by kernel_rfl) ?_ _)
     go_wp2_with fail
     go_meet
     exact HM9.out
    ·skip
     go_simp
     refine (word_any kb _ _ (HST.out.drew).st).mono ?_
     rintro e v7 (⟨nm, R2, _, rfl, hnm, rfl, rfl, hst⟩ | ⟨hno, rfl, hg⟩)
     rotate_left
     ·exact door_pan (v := 0) rfl (HFB.out _ ((HST.out.drew).grown.trans hg)).2.1 (HNP.out _ ((HST.out.drew).grown.trans hg) hno)
     have HS7 := Lib.hid ((HST.out.drew).next hst)
     clear hst
     refine hK.out _ _ (trivial) (fun hHeld => ?_)
     clear hK K
     (try simp only [lib.hly])
     have hc7 := (HFR.out v7 R2 HS7.out).box.cell (j := 0) rfl
     refine wpAnyH_ready (rs := [5, 8]) (by kernel_rfl) (by simp) ?_
     refine AllReadyH.cons rfl (fun K hK => ?_) (AllReadyH.cons rfl (fun K hK => ?_) AllReadyH.nil)
     ·go_simp
      refine hK.out _ _ (trivial) (fun hHeld => ?_)
      clear hK K
      (try simp only [lib.hly])
      (refine lib.rk 8 rfl fun K hK => ?_)
      go_simp
      have HS8 := Lib.hid (HS7.out.alloc (.cells #[.string ⟨nm.toArray⟩] 9))
      have ha8 : ∀ (j : Nat) (u : Value), [Value.string ⟨nm.toArray⟩][j]? = some u → (v7.alloc (.cells #[.string ⟨nm.toArray⟩] 9)).cell? ((⟨v7.heap.size, 0, none⟩ : Addr).add j) = some u := cell_one_new _ _ _
      obtain ⟨W8, hW8⟩ : ∃ W, v7.alloc (.cells #[.string ⟨nm.toArray⟩] 9) = W := ⟨_, rfl⟩
      rw [hW8] at HS8 ha8 ⊢
      have HA8 := Lib.hid ha8
      clear hW8 ha8
      refine hK.out _ _ (trivial) (fun hHeld => ?_)
      clear hK K
      (try simp only [lib.hly])
      have HL8 := Lib.hid (HFR.out W8 R2 HS8.out)
      obtain ⟨cs, hco, hce⟩ := HL8.out.rows.r0.ex
      have HCO := Lib.hid hco
      have HCE := Lib.hid hce
      clear hco hce
      (refine lib.rk 9 rfl fun K hK => ?_)
      refine step_app str_elem _ _ rfl 0 P.a0 x.net.places.length P.c0 cs rfl HCO.out ⟨v7.heap.size, 0, none⟩ 1 [.string ⟨nm.toArray⟩] rfl rfl HA8.out (fun u hu => by rw [List.mem_singleton] at hu; rw [hu]; rfl) (by omega) (Nat.zero_le _) rfl ?_
      intro g9 c9 w9 hown9 hg9 hd9
      have HB9 := Lib.hid (HL8.out.boxk 0 (by rw [HL8.out.rows.r0.own]; exact hg9))
      have hcc := HB9.out.cell (j := 0) rfl
      have hcf := HB9.out.frozen 0
      have HM9 := Lib.hid (HL8.out.mid0 (s := ⟨nm.toArray⟩) (y := [112, 108, 97, 99, 101]) (R1 := nm :: R2) (by simp [Lin.words, kwP]) ⟨by simpa using hnm, by have := HLE.out nm (by simp); simp [ByteArray.size]; omega⟩ HCE.out ⟨rfl, by have := HLE.out nm (by simp); simp [ByteArray.size]; omega⟩ hown9 hg9 hd9)
      clear hown9 hg9 hd9
      refine hK.out _ _ (trivial) (fun hHeld => ?_)
      clear hK K
      (try simp only [lib.hly])
      (refine lib.tk 10 rfl ?_ (hQ := (fun _ _ _ h => pan_put (by decide) h)); (try simp only [lib.hly]))
      (refine lib.tk 11 rfl ?_ (hQ := (fun _ _ _ h => pan_put (by decide) h)); (try simp only [lib.hly]))
      (refine lib.tk 12 rfl ?_ (hQ := (fun _ _ _ h => pan_put (by decide) h)); (try simp only [lib.hly]))
      (refine lib.rk 13 rfl fun K hK => ?_)
      go_simp
      refine hK.out _ _ (trivial) (fun hHeld => ?_)
      clear hK K
      (try simp only [lib.hly])
      (refine wpAnyH_done (by kernel_rfl) ?_ _)
      go_wp2_with fail
      go_meet
      exact HM9.out
     ·skip
      go_simp
      have HS8 := Lib.hid (HS7.out.alloc (.cells #[.string ⟨nm.toArray⟩] 9))
      have ha8 : ∀ (j : Nat) (u : Value), [Value.string ⟨nm.toArray⟩][j]? = some u → (v7.alloc (.cells #[.string ⟨nm.toArray⟩] 9)).cell? ((⟨v7.heap.size, 0, none⟩ : Addr).add j) = some u := cell_one_new _ _ _
      obtain ⟨W8, hW8⟩ : ∃ W, v7.alloc (.cells #[.string ⟨nm.toArray⟩] 9) = W := ⟨_, rfl⟩
      rw [hW8] at HS8 ha8 ⊢
      have HA8 := Lib.hid ha8
      clear hW8 ha8
      refine hK.out _ _ (trivial) (fun hHeld => ?_)
      clear hK K
      (try simp only [lib.hly])
      have hc8 := (HFR.out W8 R2 HS8.out).box.cell (j := 0) rfl
      (refine lib.rk 5 rfl fun K hK => ?_)
      go_simp
      refine hK.out _ _ (trivial) (fun hHeld => ?_)
      clear hK K
      (try simp only [lib.hly])
      have HL8 := Lib.hid (HFR.out W8 R2 HS8.out)
      obtain ⟨cs, hco, hce⟩ := HL8.out.rows.r0.ex
      have HCO := Lib.hid hco
      have HCE := Lib.hid hce
      clear hco hce
      (refine lib.rk 9 rfl fun K hK => ?_)
      refine step_app str_elem _ _ rfl 0 P.a0 x.net.places.length P.c0 cs rfl HCO.out ⟨v7.heap.size, 0, none⟩ 1 [.string ⟨nm.toArray⟩] rfl rfl HA8.out (fun u hu => by rw [List.mem_singleton] at hu; rw [hu]; rfl) (by omega) (Nat.zero_le _) rfl ?_
      intro g9 c9 w9 hown9 hg9 hd9
      have HB9 := Lib.hid (HL8.out.boxk 0 (by rw [HL8.out.rows.r0.own]; exact hg9))
      have hcc := HB9.out.cell (j := 0) rfl
      have hcf := HB9.out.frozen 0
      have HM9 := Lib.hid (HL8.out.mid0 (s := ⟨nm.toArray⟩) (y := [112, 108, 97, 99, 101]) (R1 := nm :: R2) (by simp [Lin.words, kwP]) ⟨by simpa using hnm, by have := HLE.out nm (by simp); simp [ByteArray.size]; omega⟩ HCE.out ⟨rfl, by have := HLE.out nm (by simp); simp [ByteArray.size]; omega⟩ hown9 hg9 hd9)
      clear hown9 hg9 hd9
      refine hK.out _ _ (trivial) (fun hHeld => ?_)
      clear hK K
      (try simp only [lib.hly])
      (refine lib.tk 10 rfl ?_ (hQ := (fun _ _ _ h => pan_put (by decide) h)); (try simp only [lib.hly]))
      (refine lib.tk 11 rfl ?_ (hQ := (fun _ _ _ h => pan_put (by decide) h)); (try simp only [lib.hly]))
      (refine lib.tk 12 rfl ?_ (hQ := (fun _ _ _ h => pan_put (by decide) h)); (try simp only [lib.hly]))
      (refine lib.rk 13 rfl fun K hK => ?_)
      go_simp
      refine hK.out _ _ (trivial) (fun hHeld => ?_)
      clear hK K
      (try simp only [lib.hly])
      (refine wpAnyH_done (by kernel_rfl) ?_ _)
      go_wp2_with fail
      go_meet
      exact HM9.out
   by_cases h3 : y = [116, 121, 112, 101]
   ·subst h3
    have HNP : Hid (∀ wx, w3.grownBy wx (some kb) → (∀ a R', tyOk a → R1 ≠ typeW a ++ R') → LinOut s xb x w (.returned (.int .i64 0)) ((wx.alloc (.cells #[] 107)).setCell ⟨w.heap.size, 0, none⟩ (.int .i64 0))) := Lib.hid (fun wx hg hno => by
     obtain ⟨k1, k2, k3⟩ := HFB.out wx hg
     refine HPAN.out wx k1 k3 fun r hr e => ?_
     obtain ⟨q, e1, e2⟩ := inv_type e hr
     exact hno q [] e2 (by rw [e1, List.append_nil]))
    have hc4 := (HFR.out w4 R1 HST.out).box.cell (j := 2) rfl
    have HLE := Lib.hid HST.out.st.len
    have hsm := HSM.out.2.2.1
    go_upto_region 20 with fail
    (refine wp_region_held_drew (S := (fun w' => True)) (by kernel_rfl) ?_ (fun hHeld => ?_))
    ·trivial
    (refine lib.tk 0 rfl ?_ (hQ := (fun _ _ _ h => pan_put (by decide) h)); (try simp only [lib.hly]))
    (refine lib.tk 1 rfl ?_ (hQ := (fun _ _ _ h => pan_put (by decide) h)); (try simp only [lib.hly]))
    (refine lib.tk 2 rfl ?_ (hQ := (fun _ _ _ h => pan_put (by decide) h)); (try simp only [lib.hly]))
    (refine lib.tk 3 rfl ?_ (hQ := (fun _ _ _ h => pan_put (by decide) h)); (try simp only [lib.hly]))
    (refine lib.tk 5 rfl ?_ (hQ := (fun _ _ _ h => pan_put (by decide) h)); (try simp only [lib.hly]))
    refine wpAnyH_ready (rs := [4, 6]) (by kernel_rfl) (by simp) ?_
    refine AllReadyH.cons rfl (fun K hK => ?_) (AllReadyH.cons rfl (fun K hK => ?_) AllReadyH.nil)
    ·go_simp
     refine hK.out _ _ (trivial) (fun hHeld => ?_)
     clear hK K
     (try simp only [lib.hly])
     (refine lib.rk 6 rfl fun K hK => ?_)
     go_simp
     refine (kind_any kb _ _ (HST.out.drew).st (HTK.out _ _ (HST.out.drew))).mono ?_
     rintro e v7 (⟨q, R2, _, hR2, hq, rfl, ⟨AA, dd, rfl, hown⟩, hst⟩ | ⟨hno, rfl, hg⟩)
     rotate_left
     ·exact door_pan (v := 0) rfl (HFB.out _ ((HST.out.drew).grown.trans hg)).2.1 (HNP.out _ ((HST.out.drew).grown.trans hg) hno)
     have HS7 := Lib.hid ((HST.out.drew).next hst)
     have HO7 := Lib.hid hown
     have HQ := Lib.hid hq
     have HR2 := Lib.hid hR2
     clear hst hown hq hR2
     refine hK.out _ _ (trivial) (fun hHeld => ?_)
     clear hK K
     (try simp only [lib.hly])
     (refine lib.rk 7 rfl fun K hK => ?_)
     refine step_bsliceL ty_elem rfl 1 [(0, Operand.tmp 79)] rfl [(0, .agg (TyCells q AA dd).toArray)] (TyCells q AA dd) (TyCells zTy none 0) rfl (by decide) (by decide) zs_ty (ty_fill q AA dd) ?_
     obtain ⟨W8, hW8⟩ : ∃ W, v7.alloc (.cells (TyCells q AA dd).toArray 63) = W := ⟨_, rfl⟩
     have HS8 : Hid (RS w3 kb R2 W8) := Lib.hid (by rw [← hW8]; exact HS7.out.alloc _)
     have HA8 : Hid (∀ (j : Nat) (u : Value), (TyCells q AA dd)[j]? = some u → W8.cell? ((⟨v7.heap.size, 0, none⟩ : Addr).add j) = some u) := Lib.hid (by rw [← hW8]; exact (Blk.new v7 _ _).cells)
     have HO8 : Hid (W8.ownsRow w4.heap.size 3 1 (.slice AA q.cap.length dd) q.cap.length (q.cap.map (.int .i64))) := Lib.hid (by rw [← hW8]; exact World.ownsRow.alloc HO7.out _)
     rw [hW8]
     clear hW8
     refine hK.out _ _ (trivial) (fun hHeld => ?_)
     clear hK K
     (try simp only [lib.hly])
     have HL8 := Lib.hid (HFR.out W8 R2 HS8.out)
     obtain ⟨cs, hco, hce⟩ := HL8.out.rows.r2.ex
     have HCO := Lib.hid hco
     have HCE := Lib.hid hce
     clear hco hce
     (refine lib.rk 8 rfl fun K hK => ?_)
     refine step_app ty_elem _ _ rfl 0 P.a2 x.types.length P.c2 cs rfl HCO.out ⟨v7.heap.size, 0, none⟩ 1 (TyCells q AA dd) rfl rfl HA8.out (ty_one _ _ _) (by omega) (Nat.zero_le _) rfl ?_
     intro g9 c9 w9 hown9 hg9 hd9
     have HB9 := Lib.hid (HL8.out.boxk 2 (by rw [HL8.out.rows.r2.own]; exact hg9))
     have hcc := HB9.out.cell (j := 2) rfl
     have hcf := HB9.out.frozen 2
     have hq := HQ.out
     have hlq : q.cap.length ≤ 100000 := (by have h1 := HLE.out (listF q.cap) (by rw [HR2.out]; simp [typeW]); have h2 := listF_len q.cap; omega)
     have hw4z := (HFB.out w4 HST.out.grown).2.2
     have hqx : oTy.at_ W8 (Avoid G (Z1 xb w.heap.size)) (TyCells q AA dd) q := oTy_mk (IntsOff.own HO8.out (by omega) (fun b hb => by have hlt : w4.heap.size ≤ b := hb; exact avoid_old HX0.out.ok (Nat.le_trans (HFB.out w4 HST.out.grown).1.size hlt) ⟨by omega, by omega⟩)) hq.2.1
     have HM9 := Lib.hid (HL8.out.mid2 (y := [116, 121, 112, 101]) (R1 := R1) (by rw [HR2.out]; simp [Lin.words, kwT]) hq HCE.out hqx hown9 hg9 hd9)
     clear hown9 hg9 hd9 hlq hq hqx hw4z
     refine hK.out _ _ (trivial) (fun hHeld => ?_)
     clear hK K
     (try simp only [lib.hly])
     (refine lib.tk 9 rfl ?_ (hQ := (fun _ _ _ h => pan_put (by decide) h)); (try simp only [lib.hly]))
     (refine lib.tk 10 rfl ?_ (hQ := (fun _ _ _ h => pan_put (by decide) h)); (try simp only [lib.hly]))
     (refine lib.rk 11 rfl fun K hK => ?_)
     go_simp
     refine hK.out _ _ (trivial) (fun hHeld => ?_)
     clear hK K
     (try simp only [lib.hly])
     (refine wpAnyH_done (by kernel_rfl) ?_ _)
     go_wp2_with fail
     go_meet
     exact HM9.out
    ·skip
     go_simp
     refine (kind_any kb _ _ (HST.out.drew).st (HTK.out _ _ (HST.out.drew))).mono ?_
     rintro e v7 (⟨q, R2, _, hR2, hq, rfl, ⟨AA, dd, rfl, hown⟩, hst⟩ | ⟨hno, rfl, hg⟩)
     rotate_left
     ·exact door_pan (v := 0) rfl (HFB.out _ ((HST.out.drew).grown.trans hg)).2.1 (HNP.out _ ((HST.out.drew).grown.trans hg) hno)
     have HS7 := Lib.hid ((HST.out.drew).next hst)
     have HO7 := Lib.hid hown
     have HQ := Lib.hid hq
     have HR2 := Lib.hid hR2
     clear hst hown hq hR2
     refine hK.out _ _ (trivial) (fun hHeld => ?_)
     clear hK K
     (try simp only [lib.hly])
     have hc7 := (HFR.out v7 R2 HS7.out).box.cell (j := 2) rfl
     refine wpAnyH_ready (rs := [4, 7]) (by kernel_rfl) (by simp) ?_
     refine AllReadyH.cons rfl (fun K hK => ?_) (AllReadyH.cons rfl (fun K hK => ?_) AllReadyH.nil)
     ·go_simp
      refine hK.out _ _ (trivial) (fun hHeld => ?_)
      clear hK K
      (try simp only [lib.hly])
      (refine lib.rk 7 rfl fun K hK => ?_)
      refine step_bsliceL ty_elem rfl 1 [(0, Operand.tmp 79)] rfl [(0, .agg (TyCells q AA dd).toArray)] (TyCells q AA dd) (TyCells zTy none 0) rfl (by decide) (by decide) zs_ty (ty_fill q AA dd) ?_
      obtain ⟨W8, hW8⟩ : ∃ W, v7.alloc (.cells (TyCells q AA dd).toArray 63) = W := ⟨_, rfl⟩
      have HS8 : Hid (RS w3 kb R2 W8) := Lib.hid (by rw [← hW8]; exact HS7.out.alloc _)
      have HA8 : Hid (∀ (j : Nat) (u : Value), (TyCells q AA dd)[j]? = some u → W8.cell? ((⟨v7.heap.size, 0, none⟩ : Addr).add j) = some u) := Lib.hid (by rw [← hW8]; exact (Blk.new v7 _ _).cells)
      have HO8 : Hid (W8.ownsRow w4.heap.size 3 1 (.slice AA q.cap.length dd) q.cap.length (q.cap.map (.int .i64))) := Lib.hid (by rw [← hW8]; exact World.ownsRow.alloc HO7.out _)
      rw [hW8]
      clear hW8
      refine hK.out _ _ (trivial) (fun hHeld => ?_)
      clear hK K
      (try simp only [lib.hly])
      have HL8 := Lib.hid (HFR.out W8 R2 HS8.out)
      obtain ⟨cs, hco, hce⟩ := HL8.out.rows.r2.ex
      have HCO := Lib.hid hco
      have HCE := Lib.hid hce
      clear hco hce
      (refine lib.rk 8 rfl fun K hK => ?_)
      refine step_app ty_elem _ _ rfl 0 P.a2 x.types.length P.c2 cs rfl HCO.out ⟨v7.heap.size, 0, none⟩ 1 (TyCells q AA dd) rfl rfl HA8.out (ty_one _ _ _) (by omega) (Nat.zero_le _) rfl ?_
      intro g9 c9 w9 hown9 hg9 hd9
      have HB9 := Lib.hid (HL8.out.boxk 2 (by rw [HL8.out.rows.r2.own]; exact hg9))
      have hcc := HB9.out.cell (j := 2) rfl
      have hcf := HB9.out.frozen 2
      have hq := HQ.out
      have hlq : q.cap.length ≤ 100000 := (by have h1 := HLE.out (listF q.cap) (by rw [HR2.out]; simp [typeW]); have h2 := listF_len q.cap; omega)
      have hw4z := (HFB.out w4 HST.out.grown).2.2
      have hqx : oTy.at_ W8 (Avoid G (Z1 xb w.heap.size)) (TyCells q AA dd) q := oTy_mk (IntsOff.own HO8.out (by omega) (fun b hb => by have hlt : w4.heap.size ≤ b := hb; exact avoid_old HX0.out.ok (Nat.le_trans (HFB.out w4 HST.out.grown).1.size hlt) ⟨by omega, by omega⟩)) hq.2.1
      have HM9 := Lib.hid (HL8.out.mid2 (y := [116, 121, 112, 101]) (R1 := R1) (by rw [HR2.out]; simp [Lin.words, kwT]) hq HCE.out hqx hown9 hg9 hd9)
      clear hown9 hg9 hd9 hlq hq hqx hw4z
      refine hK.out _ _ (trivial) (fun hHeld => ?_)
      clear hK K
      (try simp only [lib.hly])
      (refine lib.tk 9 rfl ?_ (hQ := (fun _ _ _ h => pan_put (by decide) h)); (try simp only [lib.hly]))
      (refine lib.tk 10 rfl ?_ (hQ := (fun _ _ _ h => pan_put (by decide) h)); (try simp only [lib.hly]))
      (refine lib.rk 11 rfl fun K hK => ?_)
      go_simp
      refine hK.out _ _ (trivial) (fun hHeld => ?_)
      clear hK K
      (try simp only [lib.hly])
      (refine wpAnyH_done (by kernel_rfl) ?_ _)
      go_wp2_with fail
      go_meet
      exact HM9.out
     ·skip
      refine step_bsliceL ty_elem rfl 1 [(0, Operand.tmp 79)] rfl [(0, .agg (TyCells q AA dd).toArray)] (TyCells q AA dd) (TyCells zTy none 0) rfl (by decide) (by decide) zs_ty (ty_fill q AA dd) ?_
      obtain ⟨W8, hW8⟩ : ∃ W, v7.alloc (.cells (TyCells q AA dd).toArray 63) = W := ⟨_, rfl⟩
      have HS8 : Hid (RS w3 kb R2 W8) := Lib.hid (by rw [← hW8]; exact HS7.out.alloc _)
      have HA8 : Hid (∀ (j : Nat) (u : Value), (TyCells q AA dd)[j]? = some u → W8.cell? ((⟨v7.heap.size, 0, none⟩ : Addr).add j) = some u) := Lib.hid (by rw [← hW8]; exact (Blk.new v7 _ _).cells)
      have HO8 : Hid (W8.ownsRow w4.heap.size 3 1 (.slice AA q.cap.length dd) q.cap.length (q.cap.map (.int .i64))) := Lib.hid (by rw [← hW8]; exact World.ownsRow.alloc HO7.out _)
      rw [hW8]
      clear hW8
      refine hK.out _ _ (trivial) (fun hHeld => ?_)
      clear hK K
      (try simp only [lib.hly])
      have hc8 := (HFR.out W8 R2 HS8.out).box.cell (j := 2) rfl
      (refine lib.rk 4 rfl fun K hK => ?_)
      go_simp
      refine hK.out _ _ (trivial) (fun hHeld => ?_)
      clear hK K
      (try simp only [lib.hly])
      have HL8 := Lib.hid (HFR.out W8 R2 HS8.out)
      obtain ⟨cs, hco, hce⟩ := HL8.out.rows.r2.ex
      have HCO := Lib.hid hco
      have HCE := Lib.hid hce
      clear hco hce
      (refine lib.rk 8 rfl fun K hK => ?_)
      refine step_app ty_elem _ _ rfl 0 P.a2 x.types.length P.c2 cs rfl HCO.out ⟨v7.heap.size, 0, none⟩ 1 (TyCells q AA dd) rfl rfl HA8.out (ty_one _ _ _) (by omega) (Nat.zero_le _) rfl ?_
      intro g9 c9 w9 hown9 hg9 hd9
      have HB9 := Lib.hid (HL8.out.boxk 2 (by rw [HL8.out.rows.r2.own]; exact hg9))
      have hcc := HB9.out.cell (j := 2) rfl
      have hcf := HB9.out.frozen 2
      have hq := HQ.out
      have hlq : q.cap.length ≤ 100000 := (by have h1 := HLE.out (listF q.cap) (by rw [HR2.out]; simp [typeW]); have h2 := listF_len q.cap; omega)
      have hw4z := (HFB.out w4 HST.out.grown).2.2
      have hqx : oTy.at_ W8 (Avoid G (Z1 xb w.heap.size)) (TyCells q AA dd) q := oTy_mk (IntsOff.own HO8.out (by omega) (fun b hb => by have hlt : w4.heap.size ≤ b := hb; exact avoid_old HX0.out.ok (Nat.le_trans (HFB.out w4 HST.out.grown).1.size hlt) ⟨by omega, by omega⟩)) hq.2.1
      have HM9 := Lib.hid (HL8.out.mid2 (y := [116, 121, 112, 101]) (R1 := R1) (by rw [HR2.out]; simp [Lin.words, kwT]) hq HCE.out hqx hown9 hg9 hd9)
      clear hown9 hg9 hd9 hlq hq hqx hw4z
      refine hK.out _ _ (trivial) (fun hHeld => ?_)
      clear hK K
      (try simp only [lib.hly])
      (refine lib.tk 9 rfl ?_ (hQ := (fun _ _ _ h => pan_put (by decide) h)); (try simp only [lib.hly]))
      (refine lib.tk 10 rfl ?_ (hQ := (fun _ _ _ h => pan_put (by decide) h)); (try simp only [lib.hly]))
      (refine lib.rk 11 rfl fun K hK => ?_)
      go_simp
      refine hK.out _ _ (trivial) (fun hHeld => ?_)
      clear hK K
      (try simp only [lib.hly])
      (refine wpAnyH_done (by kernel_rfl) ?_ _)
      go_wp2_with fail
      go_meet
      exact HM9.out
   by_cases h4 : y = [111, 114, 100, 101, 114]
   ·subst h4
    have HNP : Hid (∀ wx, w3.grownBy wx (some kb) → (∀ a R', ordOk a → R1 ≠ orderW a ++ R') → LinOut s xb x w (.returned (.int .i64 0)) ((wx.alloc (.cells #[] 107)).setCell ⟨w.heap.size, 0, none⟩ (.int .i64 0))) := Lib.hid (fun wx hg hno => by
     obtain ⟨k1, k2, k3⟩ := HFB.out wx hg
     refine HPAN.out wx k1 k3 fun r hr e => ?_
     obtain ⟨q, e1, e2⟩ := inv_order e hr
     exact hno q [] e2 (by rw [e1, List.append_nil]))
    have hc4 := (HFR.out w4 R1 HST.out).box.cell (j := 3) rfl
    have HLE := Lib.hid HST.out.st.len
    have hsm := HSM.out.2.2.2.1
    go_upto_region 22 with fail
    (refine wp_region_held_drew (S := (fun w' => True)) (by kernel_rfl) ?_ (fun hHeld => ?_))
    ·trivial
    (refine lib.tk 0 rfl ?_ (hQ := (fun _ _ _ h => pan_put (by decide) h)); (try simp only [lib.hly]))
    (refine lib.tk 1 rfl ?_ (hQ := (fun _ _ _ h => pan_put (by decide) h)); (try simp only [lib.hly]))
    (refine lib.tk 2 rfl ?_ (hQ := (fun _ _ _ h => pan_put (by decide) h)); (try simp only [lib.hly]))
    (refine lib.tk 3 rfl ?_ (hQ := (fun _ _ _ h => pan_put (by decide) h)); (try simp only [lib.hly]))
    (refine lib.tk 5 rfl ?_ (hQ := (fun _ _ _ h => pan_put (by decide) h)); (try simp only [lib.hly]))
    refine wpAnyH_ready (rs := [4, 6]) (by kernel_rfl) (by simp) ?_
    refine AllReadyH.cons rfl (fun K hK => ?_) (AllReadyH.cons rfl (fun K hK => ?_) AllReadyH.nil)
    ·go_simp
     refine hK.out _ _ (trivial) (fun hHeld => ?_)
     clear hK K
     (try simp only [lib.hly])
     (refine lib.rk 6 rfl fun K hK => ?_)
     go_simp
     refine (order_any kb _ _ (HST.out.drew).st (HTK.out _ _ (HST.out.drew))).mono ?_
     rintro e v7 (⟨q, R2, _, hR2, hq, rfl, ⟨AA, dd, rfl, hown⟩, hst⟩ | ⟨hno, rfl, hg⟩)
     rotate_left
     ·exact door_pan (v := 0) rfl (HFB.out _ ((HST.out.drew).grown.trans hg)).2.1 (HNP.out _ ((HST.out.drew).grown.trans hg) hno)
     have HS7 := Lib.hid ((HST.out.drew).next hst)
     have HO7 := Lib.hid hown
     have HQ := Lib.hid hq
     have HR2 := Lib.hid hR2
     clear hst hown hq hR2
     refine hK.out _ _ (trivial) (fun hHeld => ?_)
     clear hK K
     (try simp only [lib.hly])
     (refine lib.rk 7 rfl fun K hK => ?_)
     refine step_bsliceL ord_elem rfl 1 [(0, Operand.tmp 92)] rfl [(0, .agg (OrdCells q AA dd).toArray)] (OrdCells q AA dd) (OrdCells zOr none 0) rfl (by decide) (by decide) zs_ord (ord_fill q AA dd) ?_
     obtain ⟨W8, hW8⟩ : ∃ W, v7.alloc (.cells (OrdCells q AA dd).toArray 66) = W := ⟨_, rfl⟩
     have HS8 : Hid (RS w3 kb R2 W8) := Lib.hid (by rw [← hW8]; exact HS7.out.alloc _)
     have HA8 : Hid (∀ (j : Nat) (u : Value), (OrdCells q AA dd)[j]? = some u → W8.cell? ((⟨v7.heap.size, 0, none⟩ : Addr).add j) = some u) := Lib.hid (by rw [← hW8]; exact (Blk.new v7 _ _).cells)
     have HO8 : Hid (W8.ownsRow w4.heap.size 3 1 (.slice AA q.load.length dd) q.load.length (q.load.map (.int .i64))) := Lib.hid (by rw [← hW8]; exact World.ownsRow.alloc HO7.out _)
     rw [hW8]
     clear hW8
     refine hK.out _ _ (trivial) (fun hHeld => ?_)
     clear hK K
     (try simp only [lib.hly])
     have HL8 := Lib.hid (HFR.out W8 R2 HS8.out)
     obtain ⟨cs, hco, hce⟩ := HL8.out.rows.r3.ex
     have HCO := Lib.hid hco
     have HCE := Lib.hid hce
     clear hco hce
     (refine lib.rk 8 rfl fun K hK => ?_)
     refine step_app ord_elem _ _ rfl 0 P.a3 x.orders.length P.c3 cs rfl HCO.out ⟨v7.heap.size, 0, none⟩ 1 (OrdCells q AA dd) rfl rfl HA8.out (ord_one _ _ _) (by omega) (Nat.zero_le _) rfl ?_
     intro g9 c9 w9 hown9 hg9 hd9
     have HB9 := Lib.hid (HL8.out.boxk 3 (by rw [HL8.out.rows.r3.own]; exact hg9))
     have hcc := HB9.out.cell (j := 3) rfl
     have hcf := HB9.out.frozen 3
     have hq := HQ.out
     have hlq : q.load.length ≤ 100000 := (by have h1 := HLE.out (listF q.load) (by rw [HR2.out]; simp [orderW]); have h2 := listF_len q.load; omega)
     have hw4z := (HFB.out w4 HST.out.grown).2.2
     have hqx : oOrd.at_ W8 (Avoid G (Z1 xb w.heap.size)) (OrdCells q AA dd) q := oOrd_mk (IntsOff.own HO8.out (by omega) (fun b hb => by have hlt : w4.heap.size ≤ b := hb; exact avoid_old HX0.out.ok (Nat.le_trans (HFB.out w4 HST.out.grown).1.size hlt) ⟨by omega, by omega⟩)) hq.2.1
     have HM9 := Lib.hid (HL8.out.mid3 (y := [111, 114, 100, 101, 114]) (R1 := R1) (by rw [HR2.out]; simp [Lin.words, kwO]) hq HCE.out hqx hown9 hg9 hd9)
     clear hown9 hg9 hd9 hlq hq hqx hw4z
     refine hK.out _ _ (trivial) (fun hHeld => ?_)
     clear hK K
     (try simp only [lib.hly])
     (refine lib.tk 9 rfl ?_ (hQ := (fun _ _ _ h => pan_put (by decide) h)); (try simp only [lib.hly]))
     (refine lib.tk 10 rfl ?_ (hQ := (fun _ _ _ h => pan_put (by decide) h)); (try simp only [lib.hly]))
     (refine lib.rk 11 rfl fun K hK => ?_)
     go_simp
     refine hK.out _ _ (trivial) (fun hHeld => ?_)
     clear hK K
     (try simp only [lib.hly])
     (refine wpAnyH_done (by kernel_rfl) ?_ _)
     go_wp2_with fail
     go_meet
     exact HM9.out
    ·skip
     go_simp
     refine (order_any kb _ _ (HST.out.drew).st (HTK.out _ _ (HST.out.drew))).mono ?_
     rintro e v7 (⟨q, R2, _, hR2, hq, rfl, ⟨AA, dd, rfl, hown⟩, hst⟩ | ⟨hno, rfl, hg⟩)
     rotate_left
     ·exact door_pan (v := 0) rfl (HFB.out _ ((HST.out.drew).grown.trans hg)).2.1 (HNP.out _ ((HST.out.drew).grown.trans hg) hno)
     have HS7 := Lib.hid ((HST.out.drew).next hst)
     have HO7 := Lib.hid hown
     have HQ := Lib.hid hq
     have HR2 := Lib.hid hR2
     clear hst hown hq hR2
     refine hK.out _ _ (trivial) (fun hHeld => ?_)
     clear hK K
     (try simp only [lib.hly])
     have hc7 := (HFR.out v7 R2 HS7.out).box.cell (j := 3) rfl
     refine wpAnyH_ready (rs := [4, 7]) (by kernel_rfl) (by simp) ?_
     refine AllReadyH.cons rfl (fun K hK => ?_) (AllReadyH.cons rfl (fun K hK => ?_) AllReadyH.nil)
     ·go_simp
      refine hK.out _ _ (trivial) (fun hHeld => ?_)
      clear hK K
      (try simp only [lib.hly])
      (refine lib.rk 7 rfl fun K hK => ?_)
      refine step_bsliceL ord_elem rfl 1 [(0, Operand.tmp 92)] rfl [(0, .agg (OrdCells q AA dd).toArray)] (OrdCells q AA dd) (OrdCells zOr none 0) rfl (by decide) (by decide) zs_ord (ord_fill q AA dd) ?_
      obtain ⟨W8, hW8⟩ : ∃ W, v7.alloc (.cells (OrdCells q AA dd).toArray 66) = W := ⟨_, rfl⟩
      have HS8 : Hid (RS w3 kb R2 W8) := Lib.hid (by rw [← hW8]; exact HS7.out.alloc _)
      have HA8 : Hid (∀ (j : Nat) (u : Value), (OrdCells q AA dd)[j]? = some u → W8.cell? ((⟨v7.heap.size, 0, none⟩ : Addr).add j) = some u) := Lib.hid (by rw [← hW8]; exact (Blk.new v7 _ _).cells)
      have HO8 : Hid (W8.ownsRow w4.heap.size 3 1 (.slice AA q.load.length dd) q.load.length (q.load.map (.int .i64))) := Lib.hid (by rw [← hW8]; exact World.ownsRow.alloc HO7.out _)
      rw [hW8]
      clear hW8
      refine hK.out _ _ (trivial) (fun hHeld => ?_)
      clear hK K
      (try simp only [lib.hly])
      have HL8 := Lib.hid (HFR.out W8 R2 HS8.out)
      obtain ⟨cs, hco, hce⟩ := HL8.out.rows.r3.ex
      have HCO := Lib.hid hco
      have HCE := Lib.hid hce
      clear hco hce
      (refine lib.rk 8 rfl fun K hK => ?_)
      refine step_app ord_elem _ _ rfl 0 P.a3 x.orders.length P.c3 cs rfl HCO.out ⟨v7.heap.size, 0, none⟩ 1 (OrdCells q AA dd) rfl rfl HA8.out (ord_one _ _ _) (by omega) (Nat.zero_le _) rfl ?_
      intro g9 c9 w9 hown9 hg9 hd9
      have HB9 := Lib.hid (HL8.out.boxk 3 (by rw [HL8.out.rows.r3.own]; exact hg9))
      have hcc := HB9.out.cell (j := 3) rfl
      have hcf := HB9.out.frozen 3
      have hq := HQ.out
      have hlq : q.load.length ≤ 100000 := (by have h1 := HLE.out (listF q.load) (by rw [HR2.out]; simp [orderW]); have h2 := listF_len q.load; omega)
      have hw4z := (HFB.out w4 HST.out.grown).2.2
      have hqx : oOrd.at_ W8 (Avoid G (Z1 xb w.heap.size)) (OrdCells q AA dd) q := oOrd_mk (IntsOff.own HO8.out (by omega) (fun b hb => by have hlt : w4.heap.size ≤ b := hb; exact avoid_old HX0.out.ok (Nat.le_trans (HFB.out w4 HST.out.grown).1.size hlt) ⟨by omega, by omega⟩)) hq.2.1
      have HM9 := Lib.hid (HL8.out.mid3 (y := [111, 114, 100, 101, 114]) (R1 := R1) (by rw [HR2.out]; simp [Lin.words, kwO]) hq HCE.out hqx hown9 hg9 hd9)
      clear hown9 hg9 hd9 hlq hq hqx hw4z
      refine hK.out _ _ (trivial) (fun hHeld => ?_)
      clear hK K
      (try simp only [lib.hly])
      (refine lib.tk 9 rfl ?_ (hQ := (fun _ _ _ h => pan_put (by decide) h)); (try simp only [lib.hly]))
      (refine lib.tk 10 rfl ?_ (hQ := (fun _ _ _ h => pan_put (by decide) h)); (try simp only [lib.hly]))
      (refine lib.rk 11 rfl fun K hK => ?_)
      go_simp
      refine hK.out _ _ (trivial) (fun hHeld => ?_)
      clear hK K
      (try simp only [lib.hly])
      (refine wpAnyH_done (by kernel_rfl) ?_ _)
      go_wp2_with fail
      go_meet
      exact HM9.out
     ·skip
      refine step_bsliceL ord_elem rfl 1 [(0, Operand.tmp 92)] rfl [(0, .agg (OrdCells q AA dd).toArray)] (OrdCells q AA dd) (OrdCells zOr none 0) rfl (by decide) (by decide) zs_ord (ord_fill q AA dd) ?_
      obtain ⟨W8, hW8⟩ : ∃ W, v7.alloc (.cells (OrdCells q AA dd).toArray 66) = W := ⟨_, rfl⟩
      have HS8 : Hid (RS w3 kb R2 W8) := Lib.hid (by rw [← hW8]; exact HS7.out.alloc _)
      have HA8 : Hid (∀ (j : Nat) (u : Value), (OrdCells q AA dd)[j]? = some u → W8.cell? ((⟨v7.heap.size, 0, none⟩ : Addr).add j) = some u) := Lib.hid (by rw [← hW8]; exact (Blk.new v7 _ _).cells)
      have HO8 : Hid (W8.ownsRow w4.heap.size 3 1 (.slice AA q.load.length dd) q.load.length (q.load.map (.int .i64))) := Lib.hid (by rw [← hW8]; exact World.ownsRow.alloc HO7.out _)
      rw [hW8]
      clear hW8
      refine hK.out _ _ (trivial) (fun hHeld => ?_)
      clear hK K
      (try simp only [lib.hly])
      have hc8 := (HFR.out W8 R2 HS8.out).box.cell (j := 3) rfl
      (refine lib.rk 4 rfl fun K hK => ?_)
      go_simp
      refine hK.out _ _ (trivial) (fun hHeld => ?_)
      clear hK K
      (try simp only [lib.hly])
      have HL8 := Lib.hid (HFR.out W8 R2 HS8.out)
      obtain ⟨cs, hco, hce⟩ := HL8.out.rows.r3.ex
      have HCO := Lib.hid hco
      have HCE := Lib.hid hce
      clear hco hce
      (refine lib.rk 8 rfl fun K hK => ?_)
      refine step_app ord_elem _ _ rfl 0 P.a3 x.orders.length P.c3 cs rfl HCO.out ⟨v7.heap.size, 0, none⟩ 1 (OrdCells q AA dd) rfl rfl HA8.out (ord_one _ _ _) (by omega) (Nat.zero_le _) rfl ?_
      intro g9 c9 w9 hown9 hg9 hd9
      have HB9 := Lib.hid (HL8.out.boxk 3 (by rw [HL8.out.rows.r3.own]; exact hg9))
      have hcc := HB9.out.cell (j := 3) rfl
      have hcf := HB9.out.frozen 3
      have hq := HQ.out
      have hlq : q.load.length ≤ 100000 := (by have h1 := HLE.out (listF q.load) (by rw [HR2.out]; simp [orderW]); have h2 := listF_len q.load; omega)
      have hw4z := (HFB.out w4 HST.out.grown).2.2
      have hqx : oOrd.at_ W8 (Avoid G (Z1 xb w.heap.size)) (OrdCells q AA dd) q := oOrd_mk (IntsOff.own HO8.out (by omega) (fun b hb => by have hlt : w4.heap.size ≤ b := hb; exact avoid_old HX0.out.ok (Nat.le_trans (HFB.out w4 HST.out.grown).1.size hlt) ⟨by omega, by omega⟩)) hq.2.1
      have HM9 := Lib.hid (HL8.out.mid3 (y := [111, 114, 100, 101, 114]) (R1 := R1) (by rw [HR2.out]; simp [Lin.words, kwO]) hq HCE.out hqx hown9 hg9 hd9)
      clear hown9 hg9 hd9 hlq hq hqx hw4z
      refine hK.out _ _ (trivial) (fun hHeld => ?_)
      clear hK K
      (try simp only [lib.hly])
      (refine lib.tk 9 rfl ?_ (hQ := (fun _ _ _ h => pan_put (by decide) h)); (try simp only [lib.hly]))
      (refine lib.tk 10 rfl ?_ (hQ := (fun _ _ _ h => pan_put (by decide) h)); (try simp only [lib.hly]))
      (refine lib.rk 11 rfl fun K hK => ?_)
      go_simp
      refine hK.out _ _ (trivial) (fun hHeld => ?_)
      clear hK K
      (try simp only [lib.hly])
      (refine wpAnyH_done (by kernel_rfl) ?_ _)
      go_wp2_with fail
      go_meet
      exact HM9.out
   by_cases h2 : y = [97, 114, 99]
   ·subst h2
    have HNP : Hid (∀ wx, w3.grownBy wx (some kb) → (∀ q, arcOk q → R1 ≠ arcW q) → LinOut s xb x w (.returned (.int .i64 0)) ((wx.alloc (.cells #[] 107)).setCell ⟨w.heap.size, 0, none⟩ (.int .i64 0))) := Lib.hid (fun wx hg hno => by
     obtain ⟨k1, k2, k3⟩ := HFB.out wx hg
     refine HPAN.out wx k1 k3 fun r hr e => ?_
     obtain ⟨q, e1, e2⟩ := inv_arc e hr
     exact hno q e2 e1)
    have HLE := Lib.hid HST.out.st.len
    have hsm := HSM.out.2.1
    have hw4z : w.heap.size < w4.heap.size := (HFB.out w4 HST.out.grown).2.2
    have hw3z : w3.heap.size ≤ w4.heap.size := HST.out.grown.size
    obtain ⟨a0, ha0⟩ : ∃ W, w4.alloc (.cells (ArcCells zAr none 0 none 0).toArray 49) = W := ⟨_, rfl⟩
    obtain ⟨Q, hQ⟩ : ∃ Q, w4.heap.size = Q := ⟨_, rfl⟩
    have HA0 := Lib.hid (show w4.alloc (.cells #[.int .i64 0, .int .i64 0, .int .i64 0, .int .i64 0, .slice none 0 0, .slice none 0 0] 49) = a0 from ha0)
    have HQB0 : Hid (Blk a0 Q 49 (ArcCells zAr none 0 none 0)) := Lib.hid (by rw [← ha0, ← hQ]; exact Blk.new w4 _ _)
    have HSA0 : Hid (RS w3 kb R1 a0) := Lib.hid (by rw [← ha0]; exact HST.out.alloc _)
    have hz0 : Q + 1 ≤ a0.heap.size := by rw [← ha0, ← hQ]; simp
    have hQk : kb < Q := by have := HST.out.st.lt; omega
    have HQZ := Lib.hid hQ
    go_upto_region 12 with fail
    rw [HA0.out]
    clear HA0 ha0
    go_upto_region 13 with (go_at_call 63; refine (num_any kb _ _ HSA0.out.st (HTK.out _ _ HSA0.out)).mono ?_; rintro e v1 (⟨n0, S1, _, rfl, hn0, rfl, rfl, hst⟩ | ⟨hno, rfl, hg⟩); have hc := (HQB0.out.kept hst.grown (by intro e; injection e with e; omega)).cell (j := 0) rfl; have hf := (HQB0.out.kept hst.grown (by intro e; injection e with e; omega)).frozen 0; try rw [HQZ.out])
    rotate_left
    ·refine door_pan (v := 0) rfl (HFB.out _ (HSA0.out.grown.trans hg)).2.1 (HNP.out _ (HSA0.out.grown.trans hg) fun q ⟨⟨q0, q1, q2, q3⟩, q4, q5⟩ e => ?_)
     simp only [arcW, List.cons.injEq] at e
     exact hno _ _ (q0) (e)
    obtain ⟨a1, hw⟩ : ∃ W, v1.setCell ⟨Q, 0, none⟩ (.int .i64 n0) = W := ⟨_, rfl⟩
    have HSA1 : Hid (RS w3 kb S1 a1) := Lib.hid (by rw [← hw]; exact (HSA0.out.next hst).set (by omega) _ _)
    have HQB1 := Lib.hid (show Blk a1 Q 49 ((ArcCells zAr none 0 none 0).set 0 (.int .i64 n0)) by rw [← hw]; exact (HQB0.out.kept hst.grown (by intro e; injection e with e; omega)).set 0 _)
    have hz1 : Q + 1 ≤ a1.heap.size := by rw [← hw]; simp only [World.setCell, Array.size_modify]; exact Nat.le_trans hz0 hst.size
    rw [hw]
    clear hw hst hc hf hz0 HQB0
    go_upto_region 14 with (go_at_call 63; refine (num_any kb _ _ HSA1.out.st (HTK.out _ _ HSA1.out)).mono ?_; rintro e v2 (⟨n1, S2, _, rfl, hn1, rfl, rfl, hst⟩ | ⟨hno, rfl, hg⟩); have hc := (HQB1.out.kept hst.grown (by intro e; injection e with e; omega)).cell (j := 1) rfl; have hf := (HQB1.out.kept hst.grown (by intro e; injection e with e; omega)).frozen 1; try rw [HQZ.out])
    rotate_left
    ·refine door_pan (v := 0) rfl (HFB.out _ (HSA1.out.grown.trans hg)).2.1 (HNP.out _ (HSA1.out.grown.trans hg) fun q ⟨⟨q0, q1, q2, q3⟩, q4, q5⟩ e => ?_)
     simp only [arcW, List.cons.injEq] at e
     exact hno _ _ (q1) (e.2)
    obtain ⟨a2, hw⟩ : ∃ W, v2.setCell ⟨Q, 1, none⟩ (.int .i64 n1) = W := ⟨_, rfl⟩
    have HSA2 : Hid (RS w3 kb S2 a2) := Lib.hid (by rw [← hw]; exact (HSA1.out.next hst).set (by omega) _ _)
    have HQB2 := Lib.hid (show Blk a2 Q 49 (((ArcCells zAr none 0 none 0).set 0 (.int .i64 n0)).set 1 (.int .i64 n1)) by rw [← hw]; exact (HQB1.out.kept hst.grown (by intro e; injection e with e; omega)).set 1 _)
    have hz2 : Q + 1 ≤ a2.heap.size := by rw [← hw]; simp only [World.setCell, Array.size_modify]; exact Nat.le_trans hz1 hst.size
    rw [hw]
    clear hw hst hc hf hz1 HQB1
    go_upto_region 15 with (go_at_call 63; refine (num_any kb _ _ HSA2.out.st (HTK.out _ _ HSA2.out)).mono ?_; rintro e v3 (⟨n2, S3, _, rfl, hn2, rfl, rfl, hst⟩ | ⟨hno, rfl, hg⟩); have hc := (HQB2.out.kept hst.grown (by intro e; injection e with e; omega)).cell (j := 2) rfl; have hf := (HQB2.out.kept hst.grown (by intro e; injection e with e; omega)).frozen 2; try rw [HQZ.out])
    rotate_left
    ·refine door_pan (v := 0) rfl (HFB.out _ (HSA2.out.grown.trans hg)).2.1 (HNP.out _ (HSA2.out.grown.trans hg) fun q ⟨⟨q0, q1, q2, q3⟩, q4, q5⟩ e => ?_)
     simp only [arcW, List.cons.injEq] at e
     exact hno _ _ (q2) (e.2.2)
    obtain ⟨a3, hw⟩ : ∃ W, v3.setCell ⟨Q, 2, none⟩ (.int .i64 n2) = W := ⟨_, rfl⟩
    have HSA3 : Hid (RS w3 kb S3 a3) := Lib.hid (by rw [← hw]; exact (HSA2.out.next hst).set (by omega) _ _)
    have HQB3 := Lib.hid (show Blk a3 Q 49 ((((ArcCells zAr none 0 none 0).set 0 (.int .i64 n0)).set 1 (.int .i64 n1)).set 2 (.int .i64 n2)) by rw [← hw]; exact (HQB2.out.kept hst.grown (by intro e; injection e with e; omega)).set 2 _)
    have hz3 : Q + 1 ≤ a3.heap.size := by rw [← hw]; simp only [World.setCell, Array.size_modify]; exact Nat.le_trans hz2 hst.size
    rw [hw]
    clear hw hst hc hf hz2 HQB2
    go_upto_region 16 with (go_at_call 63; refine (num_any kb _ _ HSA3.out.st (HTK.out _ _ HSA3.out)).mono ?_; rintro e v4 (⟨n3, S4, _, rfl, hn3, rfl, rfl, hst⟩ | ⟨hno, rfl, hg⟩); have hc := (HQB3.out.kept hst.grown (by intro e; injection e with e; omega)).cell (j := 3) rfl; have hf := (HQB3.out.kept hst.grown (by intro e; injection e with e; omega)).frozen 3; try rw [HQZ.out])
    rotate_left
    ·refine door_pan (v := 0) rfl (HFB.out _ (HSA3.out.grown.trans hg)).2.1 (HNP.out _ (HSA3.out.grown.trans hg) fun q ⟨⟨q0, q1, q2, q3⟩, q4, q5⟩ e => ?_)
     simp only [arcW, List.cons.injEq] at e
     exact hno _ _ (q3) (e.2.2.2)
    obtain ⟨a4, hw⟩ : ∃ W, v4.setCell ⟨Q, 3, none⟩ (.int .i64 n3) = W := ⟨_, rfl⟩
    have HSA4 : Hid (RS w3 kb S4 a4) := Lib.hid (by rw [← hw]; exact (HSA3.out.next hst).set (by omega) _ _)
    have HQB4 := Lib.hid (show Blk a4 Q 49 (((((ArcCells zAr none 0 none 0).set 0 (.int .i64 n0)).set 1 (.int .i64 n1)).set 2 (.int .i64 n2)).set 3 (.int .i64 n3)) by rw [← hw]; exact (HQB3.out.kept hst.grown (by intro e; injection e with e; omega)).set 3 _)
    have hz4 : Q + 1 ≤ a4.heap.size := by rw [← hw]; simp only [World.setCell, Array.size_modify]; exact Nat.le_trans hz3 hst.size
    rw [hw]
    clear hw hst hc hf hz3 HQB3
    go_upto_region 17 with (go_at_call 64; refine (rpoints_any kb _ _ HSA4.out.st (HTK.out _ _ HSA4.out)).mono ?_; rintro e v5 (⟨l4, S5, _, rfl, hl4, rfl, ⟨Al4, dl4, rfl, hown⟩, hst⟩ | ⟨hno, rfl, hg⟩); have hc := (HQB4.out.kept hst.grown (by intro e; injection e with e; omega)).cell (j := 4) rfl; have hf := (HQB4.out.kept hst.grown (by intro e; injection e with e; omega)).frozen 4; try rw [HQZ.out])
    rotate_left
    ·refine door_pan (v := 0) rfl (HFB.out _ (HSA4.out.grown.trans hg)).2.1 (HNP.out _ (HSA4.out.grown.trans hg) fun q ⟨⟨q0, q1, q2, q3⟩, q4, q5⟩ e => ?_)
     simp only [arcW, List.cons.injEq] at e
     exact hno _ _ (q4) (e.2.2.2.2)
    obtain ⟨a5, hw⟩ : ∃ W, v5.setCell ⟨Q, 4, none⟩ (.slice Al4 l4.length dl4) = W := ⟨_, rfl⟩
    have HSA5 : Hid (RS w3 kb S5 a5) := Lib.hid (by rw [← hw]; exact (HSA4.out.next hst).set (by omega) _ _)
    have HQB5 := Lib.hid (show Blk a5 Q 49 ((((((ArcCells zAr none 0 none 0).set 0 (.int .i64 n0)).set 1 (.int .i64 n1)).set 2 (.int .i64 n2)).set 3 (.int .i64 n3)).set 4 (.slice Al4 l4.length dl4)) by rw [← hw]; exact (HQB4.out.kept hst.grown (by intro e; injection e with e; omega)).set 4 _)
    have hz5 : Q + 1 ≤ a5.heap.size := by rw [← hw]; simp only [World.setCell, Array.size_modify]; exact Nat.le_trans hz4 hst.size
    have HOl4_5 : Hid (a5.ownsRow (Q + 1) 89 2 (.slice Al4 l4.length dl4) l4.length (pcs l4)) := Lib.hid (by rw [← hw]; exact own_set (own_less hown (by omega)) (by omega) _ _)
    clear hown
    rw [hw]
    clear hw hst hc hf hz4 HQB4
    go_upto_region 18 with (go_at_call 64; refine (rpoints_any kb _ _ HSA5.out.st (HTK.out _ _ HSA5.out)).mono ?_; rintro e v6 (⟨l5, S6, _, rfl, hl5, rfl, ⟨Al5, dl5, rfl, hown⟩, hst⟩ | ⟨hno, rfl, hg⟩); have hc := (HQB5.out.kept hst.grown (by intro e; injection e with e; omega)).cell (j := 5) rfl; have hf := (HQB5.out.kept hst.grown (by intro e; injection e with e; omega)).frozen 5; try rw [HQZ.out])
    rotate_left
    ·refine door_pan (v := 0) rfl (HFB.out _ (HSA5.out.grown.trans hg)).2.1 (HNP.out _ (HSA5.out.grown.trans hg) fun q ⟨⟨q0, q1, q2, q3⟩, q4, q5⟩ e => ?_)
     simp only [arcW, List.cons.injEq] at e
     exact hno _ _ (q5) (e.2.2.2.2.2)
    obtain ⟨a6, hw⟩ : ∃ W, v6.setCell ⟨Q, 5, none⟩ (.slice Al5 l5.length dl5) = W := ⟨_, rfl⟩
    have HSA6 : Hid (RS w3 kb S6 a6) := Lib.hid (by rw [← hw]; exact (HSA5.out.next hst).set (by omega) _ _)
    have HQB6 := Lib.hid (show Blk a6 Q 49 (((((((ArcCells zAr none 0 none 0).set 0 (.int .i64 n0)).set 1 (.int .i64 n1)).set 2 (.int .i64 n2)).set 3 (.int .i64 n3)).set 4 (.slice Al4 l4.length dl4)).set 5 (.slice Al5 l5.length dl5)) by rw [← hw]; exact (HQB5.out.kept hst.grown (by intro e; injection e with e; omega)).set 5 _)
    have hz6 : Q + 1 ≤ a6.heap.size := by rw [← hw]; simp only [World.setCell, Array.size_modify]; exact Nat.le_trans hz5 hst.size
    have HOl4_6 : Hid (a6.ownsRow (Q + 1) 89 2 (.slice Al4 l4.length dl4) l4.length (pcs l4)) := Lib.hid (by rw [← hw]; exact own_set (own_gr HOl4_5.out (by omega) hst.grown) (by omega) _ _)
    have HOl5_6 : Hid (a6.ownsRow (Q + 1) 89 2 (.slice Al5 l5.length dl5) l5.length (pcs l5)) := Lib.hid (by rw [← hw]; exact own_set (own_less hown (by omega)) (by omega) _ _)
    clear hown
    rw [hw]
    clear hw hst hc hf hz5 HQB5 HOl4_5
    obtain ⟨q, hq⟩ : ∃ q : Arc, q = ⟨n0, n1, n2, n3, l4, l5⟩ := ⟨_, rfl⟩
    obtain ⟨D, hD⟩ : ∃ D, a6.drew = D := ⟨_, rfl⟩
    have HSD : Hid (RS w3 kb S6 D) := Lib.hid (by rw [← hD]; exact HSA6.out.drew)
    have HQD : Hid (Blk D Q 49 (ArcCells q Al4 dl4 Al5 dl5)) := Lib.hid (by rw [← hD, hq]; exact HQB6.out)
    have HOD4 : Hid (D.ownsRow (Q + 1) 89 2 (.slice Al4 q.travel.length dl4) q.travel.length (pcs q.travel)) := Lib.hid (by rw [← hD, hq]; exact HOl4_6.out)
    have HOD5 : Hid (D.ownsRow (Q + 1) 89 2 (.slice Al5 q.slow.length dl5) q.slow.length (pcs q.slow)) := Lib.hid (by rw [← hD, hq]; exact HOl5_6.out)
    have HQO : Hid (arcOk q) := Lib.hid (by rw [hq]; exact ⟨⟨hn0, hn1, hn2, hn3⟩, hl4, hl5⟩)
    have HLN4 : Hid (q.travel.length ≤ 100000) := Lib.hid (by rw [hq]; have h1 := HLE.out (trvF l4) (by simp); have h2 := trvF_len l4; show l4.length ≤ _; omega)
    have HLN5 : Hid (q.slow.length ≤ 100000) := Lib.hid (by rw [hq]; have h1 := HLE.out (trvF l5) (by simp); have h2 := trvF_len l5; show l5.length ≤ _; omega)
    have HWD5 : Hid (Lib.itoa n0 :: Lib.itoa n1 :: Lib.itoa n2 :: Lib.itoa n3 :: trvF l4 :: trvF l5 :: S6 = arcW q ++ S6) := Lib.hid (by rw [hq]; simp [arcW])
    have hcD := (HFR.out D S6 HSD.out).box.cell (j := 1) rfl
    have HB6 := Lib.hid (show Blk a6 Q 49 (ArcCells q Al4 dl4 Al5 dl5) by rw [hq]; exact HQB6.out)
    clear hq HQB6 HOl4_6 HOl5_6
    go_upto_region 18 with fail
    (refine wp_region_held_drew (S := (fun w' => Blk w' Q 49 (ArcCells q Al4 dl4 Al5 dl5))) (by kernel_rfl) ?_ (fun hHeld => ?_))
    ·exact HB6.out
    rw [hD] at hHeld ⊢
    clear hD
    (refine lib.tk 0 rfl ?_ (hQ := (fun _ _ _ h => pan_put (by decide) h)); (try simp only [lib.hly]))
    (refine lib.tk 1 rfl ?_ (hQ := (fun _ _ _ h => pan_put (by decide) h)); (try simp only [lib.hly]))
    (refine lib.tk 2 rfl ?_ (hQ := (fun _ _ _ h => pan_put (by decide) h)); (try simp only [lib.hly]))
    (refine lib.tk 3 rfl ?_ (hQ := (fun _ _ _ h => pan_put (by decide) h)); (try simp only [lib.hly]))
    (refine lib.tk 4 rfl ?_ (hQ := (fun _ _ _ h => pan_put (by decide) h)); (try simp only [lib.hly]))
    refine wpAnyH_take (i := 6) (v := .agg (ArcCells q Al4 dl4 Al5 dl5).toArray) rfl (by kernel_rfl) (by kernel_rfl) (by kernel_rfl) (fun _ _ _ h => pan_put (by decide) h) (Or.inl ⟨by kernel_rfl, fun w hS => exec_loadS sArc rfl rfl (Blk.cells hS) rfl⟩) hHeld ?_
    (try simp only [lib.hly])
    refine wpAnyH_ready (rs := [5, 7]) (by kernel_rfl) (by simp) ?_
    refine AllReadyH.cons rfl (fun K hK => ?_) (AllReadyH.cons rfl (fun K hK => ?_) AllReadyH.nil)
    ·go_simp
     refine hK.out _ _ (HQD.out) (fun hHeld => ?_)
     clear hK K
     (try simp only [lib.hly])
     (refine lib.rk 7 rfl fun K hK => ?_)
     refine step_bsliceL arc_elem rfl 1 [(0, Operand.tmp 65)] rfl [(0, .agg (ArcCells q Al4 dl4 Al5 dl5).toArray)] (ArcCells q Al4 dl4 Al5 dl5) (ArcCells zAr none 0 none 0) rfl (by decide) (by decide) zs_arc (arc_fill q _ _ _ _) ?_
     obtain ⟨W8, hW8⟩ : ∃ W, D.alloc (.cells (ArcCells q Al4 dl4 Al5 dl5).toArray 49) = W := ⟨_, rfl⟩
     have HS8 : Hid (RS w3 kb S6 W8) := Lib.hid (by rw [← hW8]; exact HSD.out.alloc _)
     have HA8 : Hid (∀ (j : Nat) (u : Value), (ArcCells q Al4 dl4 Al5 dl5)[j]? = some u → W8.cell? ((⟨D.heap.size, 0, none⟩ : Addr).add j) = some u) := Lib.hid (by rw [← hW8]; exact (Blk.new D _ _).cells)
     have HO84 := Lib.hid (show W8.ownsRow (Q + 1) 89 2 (.slice Al4 q.travel.length dl4) q.travel.length (pcs q.travel) by rw [← hW8]; exact World.ownsRow.alloc HOD4.out _)
     have HO85 := Lib.hid (show W8.ownsRow (Q + 1) 89 2 (.slice Al5 q.slow.length dl5) q.slow.length (pcs q.slow) by rw [← hW8]; exact World.ownsRow.alloc HOD5.out _)
     have HQ8 := Lib.hid (show Blk W8 Q 49 (ArcCells q Al4 dl4 Al5 dl5) by rw [← hW8]; exact HQD.out.kept (World.grownBy_alloc _ _ none) (by simp))
     rw [hW8]
     clear hW8
     refine hK.out _ _ (HQ8.out) (fun hHeld => ?_)
     clear hK K
     (try simp only [lib.hly])
     have HL8 := Lib.hid (HFR.out W8 S6 HS8.out)
     obtain ⟨cs, hco, hce⟩ := HL8.out.rows.r1.ex
     have HCO := Lib.hid hco
     have HCE := Lib.hid hce
     clear hco hce
     (refine lib.rk 8 rfl fun K hK => ?_)
     refine step_app arc_elem _ _ rfl 0 P.a1 x.net.arcs.length P.c1 cs rfl HCO.out ⟨D.heap.size, 0, none⟩ 1 (ArcCells q Al4 dl4 Al5 dl5) rfl rfl HA8.out (arc_one _ _ _ _ _) (by omega) (Nat.zero_le _) rfl ?_
     intro g9 c9 w9 hown9 hg9 hd9
     have HB9 := Lib.hid (HL8.out.boxk 1 (by rw [HL8.out.rows.r1.own]; exact hg9))
     have hcc := HB9.out.cell (j := 1) rfl
     have hcf := HB9.out.frozen 1
     have hwl := (HFB.out w4 HST.out.grown).1.size
     have hP : ∀ g, Q + 1 ≤ g → g < W8.heap.size → Avoid G (Z1 xb w.heap.size) g := fun g hg _ => avoid_old HX0.out.ok (by omega) ⟨by omega, by omega⟩
     have hqx : oArc.at_ W8 (Avoid G (Z1 xb w.heap.size)) (ArcCells q Al4 dl4 Al5 dl5) q := oArc_mk (rowOff_pts HO84.out (Nat.le_trans HLN4.out (by decide)) HQO.out.2.1 hP) (rowOff_pts HO85.out (Nat.le_trans HLN5.out (by decide)) HQO.out.2.2 hP) HQO.out.1
     have hQ9 : Blk w9 Q 49 (ArcCells q Al4 dl4 Al5 dl5) := HQ8.out.kept hg9 (fun e => by rw [← HL8.out.rows.r1.own] at e; have := HX0.out.ok.lt 1 Q e.symm; omega)
     have HQ9 := Lib.hid (And.intro hQ9 ((Below.heap_setCell w9 ⟨xb, 1, none⟩ (.slice (some ⟨g9, 0, none⟩) (x.net.arcs.length + 1) c9) Q (show Q ≠ xb by omega)).trans hQ9))
     have HM9 := Lib.hid (HL8.out.mid1 (y := [97, 114, 99]) (R1 := Lib.itoa n0 :: Lib.itoa n1 :: Lib.itoa n2 :: Lib.itoa n3 :: trvF l4 :: trvF l5 :: S6) (by rw [HWD5.out]; simp [Lin.words, kwA]) HQO.out HCE.out hqx hown9 hg9 hd9)
     clear hown9 hg9 hd9 hqx hP hwl hQ9
     refine hK.out _ _ (HQ9.out.1) (fun hHeld => ?_)
     clear hK K
     (try simp only [lib.hly])
     (refine lib.tk 9 rfl ?_ (hQ := (fun _ _ _ h => pan_put (by decide) h)); (try simp only [lib.hly]))
     (refine lib.tk 10 rfl ?_ (hQ := (fun _ _ _ h => pan_put (by decide) h)); (try simp only [lib.hly]))
     (refine lib.tk 11 rfl ?_ (hQ := (fun _ _ _ h => pan_put (by decide) h)); (try simp only [lib.hly]))
     (refine lib.rk 12 rfl fun K hK => ?_)
     go_simp
     refine hK.out _ _ (HQ9.out.2) (fun hHeld => ?_)
     clear hK K
     (try simp only [lib.hly])
     (refine wpAnyH_done (by kernel_rfl) ?_ _)
     go_wp2_with fail
     go_meet
     exact HM9.out
    ·skip
     refine step_bsliceL arc_elem rfl 1 [(0, Operand.tmp 65)] rfl [(0, .agg (ArcCells q Al4 dl4 Al5 dl5).toArray)] (ArcCells q Al4 dl4 Al5 dl5) (ArcCells zAr none 0 none 0) rfl (by decide) (by decide) zs_arc (arc_fill q _ _ _ _) ?_
     obtain ⟨W8, hW8⟩ : ∃ W, D.alloc (.cells (ArcCells q Al4 dl4 Al5 dl5).toArray 49) = W := ⟨_, rfl⟩
     have HS8 : Hid (RS w3 kb S6 W8) := Lib.hid (by rw [← hW8]; exact HSD.out.alloc _)
     have HA8 : Hid (∀ (j : Nat) (u : Value), (ArcCells q Al4 dl4 Al5 dl5)[j]? = some u → W8.cell? ((⟨D.heap.size, 0, none⟩ : Addr).add j) = some u) := Lib.hid (by rw [← hW8]; exact (Blk.new D _ _).cells)
     have HO84 := Lib.hid (show W8.ownsRow (Q + 1) 89 2 (.slice Al4 q.travel.length dl4) q.travel.length (pcs q.travel) by rw [← hW8]; exact World.ownsRow.alloc HOD4.out _)
     have HO85 := Lib.hid (show W8.ownsRow (Q + 1) 89 2 (.slice Al5 q.slow.length dl5) q.slow.length (pcs q.slow) by rw [← hW8]; exact World.ownsRow.alloc HOD5.out _)
     have HQ8 := Lib.hid (show Blk W8 Q 49 (ArcCells q Al4 dl4 Al5 dl5) by rw [← hW8]; exact HQD.out.kept (World.grownBy_alloc _ _ none) (by simp))
     rw [hW8]
     clear hW8
     refine hK.out _ _ (HQ8.out) (fun hHeld => ?_)
     clear hK K
     (try simp only [lib.hly])
     have hc8 := (HFR.out W8 S6 HS8.out).box.cell (j := 1) rfl
     (refine lib.rk 5 rfl fun K hK => ?_)
     go_simp
     refine hK.out _ _ (HQ8.out) (fun hHeld => ?_)
     clear hK K
     (try simp only [lib.hly])
     have HL8 := Lib.hid (HFR.out W8 S6 HS8.out)
     obtain ⟨cs, hco, hce⟩ := HL8.out.rows.r1.ex
     have HCO := Lib.hid hco
     have HCE := Lib.hid hce
     clear hco hce
     (refine lib.rk 8 rfl fun K hK => ?_)
     refine step_app arc_elem _ _ rfl 0 P.a1 x.net.arcs.length P.c1 cs rfl HCO.out ⟨D.heap.size, 0, none⟩ 1 (ArcCells q Al4 dl4 Al5 dl5) rfl rfl HA8.out (arc_one _ _ _ _ _) (by omega) (Nat.zero_le _) rfl ?_
     intro g9 c9 w9 hown9 hg9 hd9
     have HB9 := Lib.hid (HL8.out.boxk 1 (by rw [HL8.out.rows.r1.own]; exact hg9))
     have hcc := HB9.out.cell (j := 1) rfl
     have hcf := HB9.out.frozen 1
     have hwl := (HFB.out w4 HST.out.grown).1.size
     have hP : ∀ g, Q + 1 ≤ g → g < W8.heap.size → Avoid G (Z1 xb w.heap.size) g := fun g hg _ => avoid_old HX0.out.ok (by omega) ⟨by omega, by omega⟩
     have hqx : oArc.at_ W8 (Avoid G (Z1 xb w.heap.size)) (ArcCells q Al4 dl4 Al5 dl5) q := oArc_mk (rowOff_pts HO84.out (Nat.le_trans HLN4.out (by decide)) HQO.out.2.1 hP) (rowOff_pts HO85.out (Nat.le_trans HLN5.out (by decide)) HQO.out.2.2 hP) HQO.out.1
     have hQ9 : Blk w9 Q 49 (ArcCells q Al4 dl4 Al5 dl5) := HQ8.out.kept hg9 (fun e => by rw [← HL8.out.rows.r1.own] at e; have := HX0.out.ok.lt 1 Q e.symm; omega)
     have HQ9 := Lib.hid (And.intro hQ9 ((Below.heap_setCell w9 ⟨xb, 1, none⟩ (.slice (some ⟨g9, 0, none⟩) (x.net.arcs.length + 1) c9) Q (show Q ≠ xb by omega)).trans hQ9))
     have HM9 := Lib.hid (HL8.out.mid1 (y := [97, 114, 99]) (R1 := Lib.itoa n0 :: Lib.itoa n1 :: Lib.itoa n2 :: Lib.itoa n3 :: trvF l4 :: trvF l5 :: S6) (by rw [HWD5.out]; simp [Lin.words, kwA]) HQO.out HCE.out hqx hown9 hg9 hd9)
     clear hown9 hg9 hd9 hqx hP hwl hQ9
     refine hK.out _ _ (HQ9.out.1) (fun hHeld => ?_)
     clear hK K
     (try simp only [lib.hly])
     (refine lib.tk 9 rfl ?_ (hQ := (fun _ _ _ h => pan_put (by decide) h)); (try simp only [lib.hly]))
     (refine lib.tk 10 rfl ?_ (hQ := (fun _ _ _ h => pan_put (by decide) h)); (try simp only [lib.hly]))
     (refine lib.tk 11 rfl ?_ (hQ := (fun _ _ _ h => pan_put (by decide) h)); (try simp only [lib.hly]))
     (refine lib.rk 12 rfl fun K hK => ?_)
     go_simp
     refine hK.out _ _ (HQ9.out.2) (fun hHeld => ?_)
     clear hK K
     (try simp only [lib.hly])
     (refine wpAnyH_done (by kernel_rfl) ?_ _)
     go_wp2_with fail
     go_meet
     exact HM9.out
   by_cases h5 : y = [97, 112, 97, 114, 116]
   ·subst h5
    have HNP : Hid (∀ wx, w3.grownBy wx (some kb) → (∀ q, pairOk q → R1 ≠ pairW q) → LinOut s xb x w (.returned (.int .i64 0)) ((wx.alloc (.cells #[] 107)).setCell ⟨w.heap.size, 0, none⟩ (.int .i64 0))) := Lib.hid (fun wx hg hno => by
     obtain ⟨k1, k2, k3⟩ := HFB.out wx hg
     refine HPAN.out wx k1 k3 fun r hr e => ?_
     obtain ⟨q, e1, e2⟩ := inv_apart e hr
     exact hno q e2 e1)
    have hc4 := (HFR.out w4 R1 HST.out).box.cell (j := 4) rfl
    have hsm := HSM.out.2.2.2.2.1
    go_upto_region 24 with fail
    (refine wp_region_held_drew (S := (fun w' => True)) (by kernel_rfl) ?_ (fun hHeld => ?_))
    ·trivial
    (refine lib.tk 0 rfl ?_ (hQ := (fun _ _ _ h => pan_put (by decide) h)); (try simp only [lib.hly]))
    (refine lib.tk 1 rfl ?_ (hQ := (fun _ _ _ h => pan_put (by decide) h)); (try simp only [lib.hly]))
    (refine lib.tk 2 rfl ?_ (hQ := (fun _ _ _ h => pan_put (by decide) h)); (try simp only [lib.hly]))
    (refine lib.tk 3 rfl ?_ (hQ := (fun _ _ _ h => pan_put (by decide) h)); (try simp only [lib.hly]))
    (refine lib.tk 5 rfl ?_ (hQ := (fun _ _ _ h => pan_put (by decide) h)); (try simp only [lib.hly]))
    (refine lib.tk 7 rfl ?_ (hQ := (fun _ _ _ h => pan_put (by decide) h)); (try simp only [lib.hly]))
    refine wpAnyH_ready (rs := [4, 6]) (by kernel_rfl) (by simp) ?_
    refine AllReadyH.cons rfl (fun K hK => ?_) (AllReadyH.cons rfl (fun K hK => ?_) AllReadyH.nil)
    ·go_simp
     refine hK.out _ _ (trivial) (fun hHeld => ?_)
     clear hK K
     (try simp only [lib.hly])
     (refine lib.rk 6 rfl fun K hK => ?_)
     go_simp
     refine (num_any kb _ _ (HST.out.drew).st (HTK.out _ _ (HST.out.drew))).mono ?_
     rintro e v7 (⟨n0, S1, _, rfl, hn0, rfl, rfl, hst⟩ | ⟨hno, rfl, hg⟩)
     rotate_left
     ·refine door_pan (v := 0) rfl (HFB.out _ ((HST.out.drew).grown.trans hg)).2.1 (HNP.out _ ((HST.out.drew).grown.trans hg) fun q hq e => ?_)
      exact hno q.1 _ hq.1 e
     have HS7 := Lib.hid ((HST.out.drew).next hst)
     clear hst
     refine hK.out _ _ (trivial) (fun hHeld => ?_)
     clear hK K
     (try simp only [lib.hly])
     (refine lib.rk 8 rfl fun K hK => ?_)
     go_simp
     refine (num_any kb _ _ HS7.out.st (HTK.out _ _ HS7.out)).mono ?_
     rintro e v8 (⟨n1, S2, _, rfl, hn1, rfl, rfl, hst⟩ | ⟨hno, rfl, hg⟩)
     rotate_left
     ·refine door_pan (v := 0) rfl (HFB.out _ (HS7.out.grown.trans hg)).2.1 (HNP.out _ (HS7.out.grown.trans hg) fun q hq e => ?_)
      injection e with e1 e2
      exact hno q.2 _ hq.2 e2
     have HS8 := Lib.hid (HS7.out.next hst)
     clear hst
     refine hK.out _ _ (trivial) (fun hHeld => ?_)
     clear hK K
     (try simp only [lib.hly])
     (refine lib.tk 9 rfl ?_ (hQ := (fun _ _ _ h => pan_put (by decide) h)); (try simp only [lib.hly]))
     (refine lib.rk 10 rfl fun K hK => ?_)
     go_simp
     obtain ⟨W8, hW8⟩ : ∃ W, v8.alloc (.cells #[.int .i64 n0, .int .i64 n1] 67) = W := ⟨_, rfl⟩
     have HS9 : Hid (RS w3 kb S2 W8) := Lib.hid (by rw [← hW8]; exact HS8.out.alloc _)
     have HA8 : Hid (∀ (j : Nat) (u : Value), [Value.int .i64 n0, .int .i64 n1][j]? = some u → W8.cell? ((⟨v8.heap.size, 0, none⟩ : Addr).add j) = some u) := Lib.hid (by rw [← hW8]; exact two_new v8 _ _ _)
     rw [hW8]
     clear hW8
     refine hK.out _ _ (trivial) (fun hHeld => ?_)
     clear hK K
     (try simp only [lib.hly])
     have HL8 := Lib.hid (HFR.out W8 S2 HS9.out)
     obtain ⟨cs, hco, hce⟩ := HL8.out.rows.r4.ex
     have HCO := Lib.hid hco
     have HCE := Lib.hid hce
     clear hco hce
     (refine lib.rk 11 rfl fun K hK => ?_)
     refine step_app two_elem _ _ rfl 0 P.a4 x.apart.length P.c4 cs rfl HCO.out ⟨v8.heap.size, 0, none⟩ 1 [.int .i64 n0, .int .i64 n1] rfl rfl HA8.out (fun u hu => by simp only [List.mem_cons, List.not_mem_nil, or_false] at hu; rcases hu with rfl | rfl <;> rfl) (by omega) (Nat.zero_le _) rfl ?_
     intro g9 c9 w9 hown9 hg9 hd9
     have HB9 := Lib.hid (HL8.out.boxk 4 (by rw [HL8.out.rows.r4.own]; exact hg9))
     have hcc := HB9.out.cell (j := 4) rfl
     have hcf := HB9.out.frozen 4
     have HM9 := Lib.hid (HL8.out.mid4 (y := [97, 112, 97, 114, 116]) (R1 := Lib.itoa n0 :: Lib.itoa n1 :: S2) (s := (n0, n1)) (by simp [Lin.words, pairW, kwX]) ⟨hn0, hn1⟩ HCE.out ⟨[.int .i64 n0], [.int .i64 n1], rfl, ⟨rfl, hn0⟩, ⟨rfl, hn1⟩⟩ hown9 hg9 hd9)
     clear hown9 hg9 hd9
     refine hK.out _ _ (trivial) (fun hHeld => ?_)
     clear hK K
     (try simp only [lib.hly])
     (refine lib.tk 12 rfl ?_ (hQ := (fun _ _ _ h => pan_put (by decide) h)); (try simp only [lib.hly]))
     (refine lib.tk 13 rfl ?_ (hQ := (fun _ _ _ h => pan_put (by decide) h)); (try simp only [lib.hly]))
     (refine lib.rk 14 rfl fun K hK => ?_)
     go_simp
     refine hK.out _ _ (trivial) (fun hHeld => ?_)
     clear hK K
     (try simp only [lib.hly])
     (refine wpAnyH_done (by kernel_rfl) ?_ _)
     go_wp2_with fail
     go_meet
     exact HM9.out
    ·skip
     go_simp
     refine (num_any kb _ _ (HST.out.drew).st (HTK.out _ _ (HST.out.drew))).mono ?_
     rintro e v7 (⟨n0, S1, _, rfl, hn0, rfl, rfl, hst⟩ | ⟨hno, rfl, hg⟩)
     rotate_left
     ·refine door_pan (v := 0) rfl (HFB.out _ ((HST.out.drew).grown.trans hg)).2.1 (HNP.out _ ((HST.out.drew).grown.trans hg) fun q hq e => ?_)
      exact hno q.1 _ hq.1 e
     have HS7 := Lib.hid ((HST.out.drew).next hst)
     clear hst
     refine hK.out _ _ (trivial) (fun hHeld => ?_)
     clear hK K
     (try simp only [lib.hly])
     have hc7 := (HFR.out v7 S1 HS7.out).box.cell (j := 4) rfl
     refine wpAnyH_ready (rs := [4, 8]) (by kernel_rfl) (by simp) ?_
     refine AllReadyH.cons rfl (fun K hK => ?_) (AllReadyH.cons rfl (fun K hK => ?_) AllReadyH.nil)
     ·go_simp
      refine hK.out _ _ (trivial) (fun hHeld => ?_)
      clear hK K
      (try simp only [lib.hly])
      (refine lib.rk 8 rfl fun K hK => ?_)
      go_simp
      refine (num_any kb _ _ HS7.out.st (HTK.out _ _ HS7.out)).mono ?_
      rintro e v8 (⟨n1, S2, _, rfl, hn1, rfl, rfl, hst⟩ | ⟨hno, rfl, hg⟩)
      rotate_left
      ·refine door_pan (v := 0) rfl (HFB.out _ (HS7.out.grown.trans hg)).2.1 (HNP.out _ (HS7.out.grown.trans hg) fun q hq e => ?_)
       injection e with e1 e2
       exact hno q.2 _ hq.2 e2
      have HS8 := Lib.hid (HS7.out.next hst)
      clear hst
      refine hK.out _ _ (trivial) (fun hHeld => ?_)
      clear hK K
      (try simp only [lib.hly])
      (refine lib.tk 9 rfl ?_ (hQ := (fun _ _ _ h => pan_put (by decide) h)); (try simp only [lib.hly]))
      (refine lib.rk 10 rfl fun K hK => ?_)
      go_simp
      obtain ⟨W8, hW8⟩ : ∃ W, v8.alloc (.cells #[.int .i64 n0, .int .i64 n1] 67) = W := ⟨_, rfl⟩
      have HS9 : Hid (RS w3 kb S2 W8) := Lib.hid (by rw [← hW8]; exact HS8.out.alloc _)
      have HA8 : Hid (∀ (j : Nat) (u : Value), [Value.int .i64 n0, .int .i64 n1][j]? = some u → W8.cell? ((⟨v8.heap.size, 0, none⟩ : Addr).add j) = some u) := Lib.hid (by rw [← hW8]; exact two_new v8 _ _ _)
      rw [hW8]
      clear hW8
      refine hK.out _ _ (trivial) (fun hHeld => ?_)
      clear hK K
      (try simp only [lib.hly])
      have HL8 := Lib.hid (HFR.out W8 S2 HS9.out)
      obtain ⟨cs, hco, hce⟩ := HL8.out.rows.r4.ex
      have HCO := Lib.hid hco
      have HCE := Lib.hid hce
      clear hco hce
      (refine lib.rk 11 rfl fun K hK => ?_)
      refine step_app two_elem _ _ rfl 0 P.a4 x.apart.length P.c4 cs rfl HCO.out ⟨v8.heap.size, 0, none⟩ 1 [.int .i64 n0, .int .i64 n1] rfl rfl HA8.out (fun u hu => by simp only [List.mem_cons, List.not_mem_nil, or_false] at hu; rcases hu with rfl | rfl <;> rfl) (by omega) (Nat.zero_le _) rfl ?_
      intro g9 c9 w9 hown9 hg9 hd9
      have HB9 := Lib.hid (HL8.out.boxk 4 (by rw [HL8.out.rows.r4.own]; exact hg9))
      have hcc := HB9.out.cell (j := 4) rfl
      have hcf := HB9.out.frozen 4
      have HM9 := Lib.hid (HL8.out.mid4 (y := [97, 112, 97, 114, 116]) (R1 := Lib.itoa n0 :: Lib.itoa n1 :: S2) (s := (n0, n1)) (by simp [Lin.words, pairW, kwX]) ⟨hn0, hn1⟩ HCE.out ⟨[.int .i64 n0], [.int .i64 n1], rfl, ⟨rfl, hn0⟩, ⟨rfl, hn1⟩⟩ hown9 hg9 hd9)
      clear hown9 hg9 hd9
      refine hK.out _ _ (trivial) (fun hHeld => ?_)
      clear hK K
      (try simp only [lib.hly])
      (refine lib.tk 12 rfl ?_ (hQ := (fun _ _ _ h => pan_put (by decide) h)); (try simp only [lib.hly]))
      (refine lib.tk 13 rfl ?_ (hQ := (fun _ _ _ h => pan_put (by decide) h)); (try simp only [lib.hly]))
      (refine lib.rk 14 rfl fun K hK => ?_)
      go_simp
      refine hK.out _ _ (trivial) (fun hHeld => ?_)
      clear hK K
      (try simp only [lib.hly])
      (refine wpAnyH_done (by kernel_rfl) ?_ _)
      go_wp2_with fail
      go_meet
      exact HM9.out
     ·skip
      go_simp
      refine (num_any kb _ _ HS7.out.st (HTK.out _ _ HS7.out)).mono ?_
      rintro e v8 (⟨n1, S2, _, rfl, hn1, rfl, rfl, hst⟩ | ⟨hno, rfl, hg⟩)
      rotate_left
      ·refine door_pan (v := 0) rfl (HFB.out _ (HS7.out.grown.trans hg)).2.1 (HNP.out _ (HS7.out.grown.trans hg) fun q hq e => ?_)
       injection e with e1 e2
       exact hno q.2 _ hq.2 e2
      have HS8 := Lib.hid (HS7.out.next hst)
      clear hst
      refine hK.out _ _ (trivial) (fun hHeld => ?_)
      clear hK K
      (try simp only [lib.hly])
      (refine lib.tk 9 rfl ?_ (hQ := (fun _ _ _ h => pan_put (by decide) h)); (try simp only [lib.hly]))
      have hc8 := (HFR.out v8 S2 HS8.out).box.cell (j := 4) rfl
      refine wpAnyH_ready (rs := [4, 10]) (by kernel_rfl) (by simp) ?_
      refine AllReadyH.cons rfl (fun K hK => ?_) (AllReadyH.cons rfl (fun K hK => ?_) AllReadyH.nil)
      ·go_simp
       refine hK.out _ _ (trivial) (fun hHeld => ?_)
       clear hK K
       (try simp only [lib.hly])
       (refine lib.rk 10 rfl fun K hK => ?_)
       go_simp
       obtain ⟨W8, hW8⟩ : ∃ W, v8.alloc (.cells #[.int .i64 n0, .int .i64 n1] 67) = W := ⟨_, rfl⟩
       have HS9 : Hid (RS w3 kb S2 W8) := Lib.hid (by rw [← hW8]; exact HS8.out.alloc _)
       have HA8 : Hid (∀ (j : Nat) (u : Value), [Value.int .i64 n0, .int .i64 n1][j]? = some u → W8.cell? ((⟨v8.heap.size, 0, none⟩ : Addr).add j) = some u) := Lib.hid (by rw [← hW8]; exact two_new v8 _ _ _)
       rw [hW8]
       clear hW8
       refine hK.out _ _ (trivial) (fun hHeld => ?_)
       clear hK K
       (try simp only [lib.hly])
       have HL8 := Lib.hid (HFR.out W8 S2 HS9.out)
       obtain ⟨cs, hco, hce⟩ := HL8.out.rows.r4.ex
       have HCO := Lib.hid hco
       have HCE := Lib.hid hce
       clear hco hce
       (refine lib.rk 11 rfl fun K hK => ?_)
       refine step_app two_elem _ _ rfl 0 P.a4 x.apart.length P.c4 cs rfl HCO.out ⟨v8.heap.size, 0, none⟩ 1 [.int .i64 n0, .int .i64 n1] rfl rfl HA8.out (fun u hu => by simp only [List.mem_cons, List.not_mem_nil, or_false] at hu; rcases hu with rfl | rfl <;> rfl) (by omega) (Nat.zero_le _) rfl ?_
       intro g9 c9 w9 hown9 hg9 hd9
       have HB9 := Lib.hid (HL8.out.boxk 4 (by rw [HL8.out.rows.r4.own]; exact hg9))
       have hcc := HB9.out.cell (j := 4) rfl
       have hcf := HB9.out.frozen 4
       have HM9 := Lib.hid (HL8.out.mid4 (y := [97, 112, 97, 114, 116]) (R1 := Lib.itoa n0 :: Lib.itoa n1 :: S2) (s := (n0, n1)) (by simp [Lin.words, pairW, kwX]) ⟨hn0, hn1⟩ HCE.out ⟨[.int .i64 n0], [.int .i64 n1], rfl, ⟨rfl, hn0⟩, ⟨rfl, hn1⟩⟩ hown9 hg9 hd9)
       clear hown9 hg9 hd9
       refine hK.out _ _ (trivial) (fun hHeld => ?_)
       clear hK K
       (try simp only [lib.hly])
       (refine lib.tk 12 rfl ?_ (hQ := (fun _ _ _ h => pan_put (by decide) h)); (try simp only [lib.hly]))
       (refine lib.tk 13 rfl ?_ (hQ := (fun _ _ _ h => pan_put (by decide) h)); (try simp only [lib.hly]))
       (refine lib.rk 14 rfl fun K hK => ?_)
       go_simp
       refine hK.out _ _ (trivial) (fun hHeld => ?_)
       clear hK K
       (try simp only [lib.hly])
       (refine wpAnyH_done (by kernel_rfl) ?_ _)
       go_wp2_with fail
       go_meet
       exact HM9.out
      ·skip
       go_simp
       obtain ⟨W8, hW8⟩ : ∃ W, v8.alloc (.cells #[.int .i64 n0, .int .i64 n1] 67) = W := ⟨_, rfl⟩
       have HS9 : Hid (RS w3 kb S2 W8) := Lib.hid (by rw [← hW8]; exact HS8.out.alloc _)
       have HA8 : Hid (∀ (j : Nat) (u : Value), [Value.int .i64 n0, .int .i64 n1][j]? = some u → W8.cell? ((⟨v8.heap.size, 0, none⟩ : Addr).add j) = some u) := Lib.hid (by rw [← hW8]; exact two_new v8 _ _ _)
       rw [hW8]
       clear hW8
       refine hK.out _ _ (trivial) (fun hHeld => ?_)
       clear hK K
       (try simp only [lib.hly])
       have hc9 := (HFR.out W8 S2 HS9.out).box.cell (j := 4) rfl
       (refine lib.rk 4 rfl fun K hK => ?_)
       go_simp
       refine hK.out _ _ (trivial) (fun hHeld => ?_)
       clear hK K
       (try simp only [lib.hly])
       have HL8 := Lib.hid (HFR.out W8 S2 HS9.out)
       obtain ⟨cs, hco, hce⟩ := HL8.out.rows.r4.ex
       have HCO := Lib.hid hco
       have HCE := Lib.hid hce
       clear hco hce
       (refine lib.rk 11 rfl fun K hK => ?_)
       refine step_app two_elem _ _ rfl 0 P.a4 x.apart.length P.c4 cs rfl HCO.out ⟨v8.heap.size, 0, none⟩ 1 [.int .i64 n0, .int .i64 n1] rfl rfl HA8.out (fun u hu => by simp only [List.mem_cons, List.not_mem_nil, or_false] at hu; rcases hu with rfl | rfl <;> rfl) (by omega) (Nat.zero_le _) rfl ?_
       intro g9 c9 w9 hown9 hg9 hd9
       have HB9 := Lib.hid (HL8.out.boxk 4 (by rw [HL8.out.rows.r4.own]; exact hg9))
       have hcc := HB9.out.cell (j := 4) rfl
       have hcf := HB9.out.frozen 4
       have HM9 := Lib.hid (HL8.out.mid4 (y := [97, 112, 97, 114, 116]) (R1 := Lib.itoa n0 :: Lib.itoa n1 :: S2) (s := (n0, n1)) (by simp [Lin.words, pairW, kwX]) ⟨hn0, hn1⟩ HCE.out ⟨[.int .i64 n0], [.int .i64 n1], rfl, ⟨rfl, hn0⟩, ⟨rfl, hn1⟩⟩ hown9 hg9 hd9)
       clear hown9 hg9 hd9
       refine hK.out _ _ (trivial) (fun hHeld => ?_)
       clear hK K
       (try simp only [lib.hly])
       (refine lib.tk 12 rfl ?_ (hQ := (fun _ _ _ h => pan_put (by decide) h)); (try simp only [lib.hly]))
       (refine lib.tk 13 rfl ?_ (hQ := (fun _ _ _ h => pan_put (by decide) h)); (try simp only [lib.hly]))
       (refine lib.rk 14 rfl fun K hK => ?_)
       go_simp
       refine hK.out _ _ (trivial) (fun hHeld => ?_)
       clear hK K
       (try simp only [lib.hly])
       (refine wpAnyH_done (by kernel_rfl) ?_ _)
       go_wp2_with fail
       go_meet
       exact HM9.out
   by_cases h6 : y = [98, 101, 102, 111, 114, 101]
   ·subst h6
    have HNP : Hid (∀ wx, w3.grownBy wx (some kb) → (∀ q, pairOk q → R1 ≠ pairW q) → LinOut s xb x w (.returned (.int .i64 0)) ((wx.alloc (.cells #[] 107)).setCell ⟨w.heap.size, 0, none⟩ (.int .i64 0))) := Lib.hid (fun wx hg hno => by
     obtain ⟨k1, k2, k3⟩ := HFB.out wx hg
     refine HPAN.out wx k1 k3 fun r hr e => ?_
     obtain ⟨q, e1, e2⟩ := inv_before e hr
     exact hno q e2 e1)
    have hc4 := (HFR.out w4 R1 HST.out).box.cell (j := 5) rfl
    have hsm := HSM.out.2.2.2.2.2
    go_upto_region 26 with fail
    (refine wp_region_held_drew (S := (fun w' => True)) (by kernel_rfl) ?_ (fun hHeld => ?_))
    ·trivial
    (refine lib.tk 0 rfl ?_ (hQ := (fun _ _ _ h => pan_put (by decide) h)); (try simp only [lib.hly]))
    (refine lib.tk 1 rfl ?_ (hQ := (fun _ _ _ h => pan_put (by decide) h)); (try simp only [lib.hly]))
    (refine lib.tk 2 rfl ?_ (hQ := (fun _ _ _ h => pan_put (by decide) h)); (try simp only [lib.hly]))
    (refine lib.tk 3 rfl ?_ (hQ := (fun _ _ _ h => pan_put (by decide) h)); (try simp only [lib.hly]))
    (refine lib.tk 5 rfl ?_ (hQ := (fun _ _ _ h => pan_put (by decide) h)); (try simp only [lib.hly]))
    (refine lib.tk 7 rfl ?_ (hQ := (fun _ _ _ h => pan_put (by decide) h)); (try simp only [lib.hly]))
    refine wpAnyH_ready (rs := [4, 6]) (by kernel_rfl) (by simp) ?_
    refine AllReadyH.cons rfl (fun K hK => ?_) (AllReadyH.cons rfl (fun K hK => ?_) AllReadyH.nil)
    ·go_simp
     refine hK.out _ _ (trivial) (fun hHeld => ?_)
     clear hK K
     (try simp only [lib.hly])
     (refine lib.rk 6 rfl fun K hK => ?_)
     go_simp
     refine (num_any kb _ _ (HST.out.drew).st (HTK.out _ _ (HST.out.drew))).mono ?_
     rintro e v7 (⟨n0, S1, _, rfl, hn0, rfl, rfl, hst⟩ | ⟨hno, rfl, hg⟩)
     rotate_left
     ·refine door_pan (v := 0) rfl (HFB.out _ ((HST.out.drew).grown.trans hg)).2.1 (HNP.out _ ((HST.out.drew).grown.trans hg) fun q hq e => ?_)
      exact hno q.1 _ hq.1 e
     have HS7 := Lib.hid ((HST.out.drew).next hst)
     clear hst
     refine hK.out _ _ (trivial) (fun hHeld => ?_)
     clear hK K
     (try simp only [lib.hly])
     (refine lib.rk 8 rfl fun K hK => ?_)
     go_simp
     refine (num_any kb _ _ HS7.out.st (HTK.out _ _ HS7.out)).mono ?_
     rintro e v8 (⟨n1, S2, _, rfl, hn1, rfl, rfl, hst⟩ | ⟨hno, rfl, hg⟩)
     rotate_left
     ·refine door_pan (v := 0) rfl (HFB.out _ (HS7.out.grown.trans hg)).2.1 (HNP.out _ (HS7.out.grown.trans hg) fun q hq e => ?_)
      injection e with e1 e2
      exact hno q.2 _ hq.2 e2
     have HS8 := Lib.hid (HS7.out.next hst)
     clear hst
     refine hK.out _ _ (trivial) (fun hHeld => ?_)
     clear hK K
     (try simp only [lib.hly])
     (refine lib.tk 9 rfl ?_ (hQ := (fun _ _ _ h => pan_put (by decide) h)); (try simp only [lib.hly]))
     (refine lib.rk 10 rfl fun K hK => ?_)
     go_simp
     obtain ⟨W8, hW8⟩ : ∃ W, v8.alloc (.cells #[.int .i64 n0, .int .i64 n1] 67) = W := ⟨_, rfl⟩
     have HS9 : Hid (RS w3 kb S2 W8) := Lib.hid (by rw [← hW8]; exact HS8.out.alloc _)
     have HA8 : Hid (∀ (j : Nat) (u : Value), [Value.int .i64 n0, .int .i64 n1][j]? = some u → W8.cell? ((⟨v8.heap.size, 0, none⟩ : Addr).add j) = some u) := Lib.hid (by rw [← hW8]; exact two_new v8 _ _ _)
     rw [hW8]
     clear hW8
     refine hK.out _ _ (trivial) (fun hHeld => ?_)
     clear hK K
     (try simp only [lib.hly])
     have HL8 := Lib.hid (HFR.out W8 S2 HS9.out)
     obtain ⟨cs, hco, hce⟩ := HL8.out.rows.r5.ex
     have HCO := Lib.hid hco
     have HCE := Lib.hid hce
     clear hco hce
     (refine lib.rk 11 rfl fun K hK => ?_)
     refine step_app two_elem _ _ rfl 0 P.a5 x.before.length P.c5 cs rfl HCO.out ⟨v8.heap.size, 0, none⟩ 1 [.int .i64 n0, .int .i64 n1] rfl rfl HA8.out (fun u hu => by simp only [List.mem_cons, List.not_mem_nil, or_false] at hu; rcases hu with rfl | rfl <;> rfl) (by omega) (Nat.zero_le _) rfl ?_
     intro g9 c9 w9 hown9 hg9 hd9
     have HB9 := Lib.hid (HL8.out.boxk 5 (by rw [HL8.out.rows.r5.own]; exact hg9))
     have hcc := HB9.out.cell (j := 5) rfl
     have hcf := HB9.out.frozen 5
     have HM9 := Lib.hid (HL8.out.mid5 (y := [98, 101, 102, 111, 114, 101]) (R1 := Lib.itoa n0 :: Lib.itoa n1 :: S2) (s := (n0, n1)) (by simp [Lin.words, pairW, kwB]) ⟨hn0, hn1⟩ HCE.out ⟨[.int .i64 n0], [.int .i64 n1], rfl, ⟨rfl, hn0⟩, ⟨rfl, hn1⟩⟩ hown9 hg9 hd9)
     clear hown9 hg9 hd9
     refine hK.out _ _ (trivial) (fun hHeld => ?_)
     clear hK K
     (try simp only [lib.hly])
     (refine lib.tk 12 rfl ?_ (hQ := (fun _ _ _ h => pan_put (by decide) h)); (try simp only [lib.hly]))
     (refine lib.tk 13 rfl ?_ (hQ := (fun _ _ _ h => pan_put (by decide) h)); (try simp only [lib.hly]))
     (refine lib.rk 14 rfl fun K hK => ?_)
     go_simp
     refine hK.out _ _ (trivial) (fun hHeld => ?_)
     clear hK K
     (try simp only [lib.hly])
     (refine wpAnyH_done (by kernel_rfl) ?_ _)
     go_wp2_with fail
     go_meet
     exact HM9.out
    ·skip
     go_simp
     refine (num_any kb _ _ (HST.out.drew).st (HTK.out _ _ (HST.out.drew))).mono ?_
     rintro e v7 (⟨n0, S1, _, rfl, hn0, rfl, rfl, hst⟩ | ⟨hno, rfl, hg⟩)
     rotate_left
     ·refine door_pan (v := 0) rfl (HFB.out _ ((HST.out.drew).grown.trans hg)).2.1 (HNP.out _ ((HST.out.drew).grown.trans hg) fun q hq e => ?_)
      exact hno q.1 _ hq.1 e
     have HS7 := Lib.hid ((HST.out.drew).next hst)
     clear hst
     refine hK.out _ _ (trivial) (fun hHeld => ?_)
     clear hK K
     (try simp only [lib.hly])
     have hc7 := (HFR.out v7 S1 HS7.out).box.cell (j := 5) rfl
     refine wpAnyH_ready (rs := [4, 8]) (by kernel_rfl) (by simp) ?_
     refine AllReadyH.cons rfl (fun K hK => ?_) (AllReadyH.cons rfl (fun K hK => ?_) AllReadyH.nil)
     ·go_simp
      refine hK.out _ _ (trivial) (fun hHeld => ?_)
      clear hK K
      (try simp only [lib.hly])
      (refine lib.rk 8 rfl fun K hK => ?_)
      go_simp
      refine (num_any kb _ _ HS7.out.st (HTK.out _ _ HS7.out)).mono ?_
      rintro e v8 (⟨n1, S2, _, rfl, hn1, rfl, rfl, hst⟩ | ⟨hno, rfl, hg⟩)
      rotate_left
      ·refine door_pan (v := 0) rfl (HFB.out _ (HS7.out.grown.trans hg)).2.1 (HNP.out _ (HS7.out.grown.trans hg) fun q hq e => ?_)
       injection e with e1 e2
       exact hno q.2 _ hq.2 e2
      have HS8 := Lib.hid (HS7.out.next hst)
      clear hst
      refine hK.out _ _ (trivial) (fun hHeld => ?_)
      clear hK K
      (try simp only [lib.hly])
      (refine lib.tk 9 rfl ?_ (hQ := (fun _ _ _ h => pan_put (by decide) h)); (try simp only [lib.hly]))
      (refine lib.rk 10 rfl fun K hK => ?_)
      go_simp
      obtain ⟨W8, hW8⟩ : ∃ W, v8.alloc (.cells #[.int .i64 n0, .int .i64 n1] 67) = W := ⟨_, rfl⟩
      have HS9 : Hid (RS w3 kb S2 W8) := Lib.hid (by rw [← hW8]; exact HS8.out.alloc _)
      have HA8 : Hid (∀ (j : Nat) (u : Value), [Value.int .i64 n0, .int .i64 n1][j]? = some u → W8.cell? ((⟨v8.heap.size, 0, none⟩ : Addr).add j) = some u) := Lib.hid (by rw [← hW8]; exact two_new v8 _ _ _)
      rw [hW8]
      clear hW8
      refine hK.out _ _ (trivial) (fun hHeld => ?_)
      clear hK K
      (try simp only [lib.hly])
      have HL8 := Lib.hid (HFR.out W8 S2 HS9.out)
      obtain ⟨cs, hco, hce⟩ := HL8.out.rows.r5.ex
      have HCO := Lib.hid hco
      have HCE := Lib.hid hce
      clear hco hce
      (refine lib.rk 11 rfl fun K hK => ?_)
      refine step_app two_elem _ _ rfl 0 P.a5 x.before.length P.c5 cs rfl HCO.out ⟨v8.heap.size, 0, none⟩ 1 [.int .i64 n0, .int .i64 n1] rfl rfl HA8.out (fun u hu => by simp only [List.mem_cons, List.not_mem_nil, or_false] at hu; rcases hu with rfl | rfl <;> rfl) (by omega) (Nat.zero_le _) rfl ?_
      intro g9 c9 w9 hown9 hg9 hd9
      have HB9 := Lib.hid (HL8.out.boxk 5 (by rw [HL8.out.rows.r5.own]; exact hg9))
      have hcc := HB9.out.cell (j := 5) rfl
      have hcf := HB9.out.frozen 5
      have HM9 := Lib.hid (HL8.out.mid5 (y := [98, 101, 102, 111, 114, 101]) (R1 := Lib.itoa n0 :: Lib.itoa n1 :: S2) (s := (n0, n1)) (by simp [Lin.words, pairW, kwB]) ⟨hn0, hn1⟩ HCE.out ⟨[.int .i64 n0], [.int .i64 n1], rfl, ⟨rfl, hn0⟩, ⟨rfl, hn1⟩⟩ hown9 hg9 hd9)
      clear hown9 hg9 hd9
      refine hK.out _ _ (trivial) (fun hHeld => ?_)
      clear hK K
      (try simp only [lib.hly])
      (refine lib.tk 12 rfl ?_ (hQ := (fun _ _ _ h => pan_put (by decide) h)); (try simp only [lib.hly]))
      (refine lib.tk 13 rfl ?_ (hQ := (fun _ _ _ h => pan_put (by decide) h)); (try simp only [lib.hly]))
      (refine lib.rk 14 rfl fun K hK => ?_)
      go_simp
      refine hK.out _ _ (trivial) (fun hHeld => ?_)
      clear hK K
      (try simp only [lib.hly])
      (refine wpAnyH_done (by kernel_rfl) ?_ _)
      go_wp2_with fail
      go_meet
      exact HM9.out
     ·skip
      go_simp
      refine (num_any kb _ _ HS7.out.st (HTK.out _ _ HS7.out)).mono ?_
      rintro e v8 (⟨n1, S2, _, rfl, hn1, rfl, rfl, hst⟩ | ⟨hno, rfl, hg⟩)
      rotate_left
      ·refine door_pan (v := 0) rfl (HFB.out _ (HS7.out.grown.trans hg)).2.1 (HNP.out _ (HS7.out.grown.trans hg) fun q hq e => ?_)
       injection e with e1 e2
       exact hno q.2 _ hq.2 e2
      have HS8 := Lib.hid (HS7.out.next hst)
      clear hst
      refine hK.out _ _ (trivial) (fun hHeld => ?_)
      clear hK K
      (try simp only [lib.hly])
      (refine lib.tk 9 rfl ?_ (hQ := (fun _ _ _ h => pan_put (by decide) h)); (try simp only [lib.hly]))
      have hc8 := (HFR.out v8 S2 HS8.out).box.cell (j := 5) rfl
      refine wpAnyH_ready (rs := [4, 10]) (by kernel_rfl) (by simp) ?_
      refine AllReadyH.cons rfl (fun K hK => ?_) (AllReadyH.cons rfl (fun K hK => ?_) AllReadyH.nil)
      ·go_simp
       refine hK.out _ _ (trivial) (fun hHeld => ?_)
       clear hK K
       (try simp only [lib.hly])
       (refine lib.rk 10 rfl fun K hK => ?_)
       go_simp
       obtain ⟨W8, hW8⟩ : ∃ W, v8.alloc (.cells #[.int .i64 n0, .int .i64 n1] 67) = W := ⟨_, rfl⟩
       have HS9 : Hid (RS w3 kb S2 W8) := Lib.hid (by rw [← hW8]; exact HS8.out.alloc _)
       have HA8 : Hid (∀ (j : Nat) (u : Value), [Value.int .i64 n0, .int .i64 n1][j]? = some u → W8.cell? ((⟨v8.heap.size, 0, none⟩ : Addr).add j) = some u) := Lib.hid (by rw [← hW8]; exact two_new v8 _ _ _)
       rw [hW8]
       clear hW8
       refine hK.out _ _ (trivial) (fun hHeld => ?_)
       clear hK K
       (try simp only [lib.hly])
       have HL8 := Lib.hid (HFR.out W8 S2 HS9.out)
       obtain ⟨cs, hco, hce⟩ := HL8.out.rows.r5.ex
       have HCO := Lib.hid hco
       have HCE := Lib.hid hce
       clear hco hce
       (refine lib.rk 11 rfl fun K hK => ?_)
       refine step_app two_elem _ _ rfl 0 P.a5 x.before.length P.c5 cs rfl HCO.out ⟨v8.heap.size, 0, none⟩ 1 [.int .i64 n0, .int .i64 n1] rfl rfl HA8.out (fun u hu => by simp only [List.mem_cons, List.not_mem_nil, or_false] at hu; rcases hu with rfl | rfl <;> rfl) (by omega) (Nat.zero_le _) rfl ?_
       intro g9 c9 w9 hown9 hg9 hd9
       have HB9 := Lib.hid (HL8.out.boxk 5 (by rw [HL8.out.rows.r5.own]; exact hg9))
       have hcc := HB9.out.cell (j := 5) rfl
       have hcf := HB9.out.frozen 5
       have HM9 := Lib.hid (HL8.out.mid5 (y := [98, 101, 102, 111, 114, 101]) (R1 := Lib.itoa n0 :: Lib.itoa n1 :: S2) (s := (n0, n1)) (by simp [Lin.words, pairW, kwB]) ⟨hn0, hn1⟩ HCE.out ⟨[.int .i64 n0], [.int .i64 n1], rfl, ⟨rfl, hn0⟩, ⟨rfl, hn1⟩⟩ hown9 hg9 hd9)
       clear hown9 hg9 hd9
       refine hK.out _ _ (trivial) (fun hHeld => ?_)
       clear hK K
       (try simp only [lib.hly])
       (refine lib.tk 12 rfl ?_ (hQ := (fun _ _ _ h => pan_put (by decide) h)); (try simp only [lib.hly]))
       (refine lib.tk 13 rfl ?_ (hQ := (fun _ _ _ h => pan_put (by decide) h)); (try simp only [lib.hly]))
       (refine lib.rk 14 rfl fun K hK => ?_)
       go_simp
       refine hK.out _ _ (trivial) (fun hHeld => ?_)
       clear hK K
       (try simp only [lib.hly])
       (refine wpAnyH_done (by kernel_rfl) ?_ _)
       go_wp2_with fail
       go_meet
       exact HM9.out
      ·skip
       go_simp
       obtain ⟨W8, hW8⟩ : ∃ W, v8.alloc (.cells #[.int .i64 n0, .int .i64 n1] 67) = W := ⟨_, rfl⟩
       have HS9 : Hid (RS w3 kb S2 W8) := Lib.hid (by rw [← hW8]; exact HS8.out.alloc _)
       have HA8 : Hid (∀ (j : Nat) (u : Value), [Value.int .i64 n0, .int .i64 n1][j]? = some u → W8.cell? ((⟨v8.heap.size, 0, none⟩ : Addr).add j) = some u) := Lib.hid (by rw [← hW8]; exact two_new v8 _ _ _)
       rw [hW8]
       clear hW8
       refine hK.out _ _ (trivial) (fun hHeld => ?_)
       clear hK K
       (try simp only [lib.hly])
       have hc9 := (HFR.out W8 S2 HS9.out).box.cell (j := 5) rfl
       (refine lib.rk 4 rfl fun K hK => ?_)
       go_simp
       refine hK.out _ _ (trivial) (fun hHeld => ?_)
       clear hK K
       (try simp only [lib.hly])
       have HL8 := Lib.hid (HFR.out W8 S2 HS9.out)
       obtain ⟨cs, hco, hce⟩ := HL8.out.rows.r5.ex
       have HCO := Lib.hid hco
       have HCE := Lib.hid hce
       clear hco hce
       (refine lib.rk 11 rfl fun K hK => ?_)
       refine step_app two_elem _ _ rfl 0 P.a5 x.before.length P.c5 cs rfl HCO.out ⟨v8.heap.size, 0, none⟩ 1 [.int .i64 n0, .int .i64 n1] rfl rfl HA8.out (fun u hu => by simp only [List.mem_cons, List.not_mem_nil, or_false] at hu; rcases hu with rfl | rfl <;> rfl) (by omega) (Nat.zero_le _) rfl ?_
       intro g9 c9 w9 hown9 hg9 hd9
       have HB9 := Lib.hid (HL8.out.boxk 5 (by rw [HL8.out.rows.r5.own]; exact hg9))
       have hcc := HB9.out.cell (j := 5) rfl
       have hcf := HB9.out.frozen 5
       have HM9 := Lib.hid (HL8.out.mid5 (y := [98, 101, 102, 111, 114, 101]) (R1 := Lib.itoa n0 :: Lib.itoa n1 :: S2) (s := (n0, n1)) (by simp [Lin.words, pairW, kwB]) ⟨hn0, hn1⟩ HCE.out ⟨[.int .i64 n0], [.int .i64 n1], rfl, ⟨rfl, hn0⟩, ⟨rfl, hn1⟩⟩ hown9 hg9 hd9)
       clear hown9 hg9 hd9
       refine hK.out _ _ (trivial) (fun hHeld => ?_)
       clear hK K
       (try simp only [lib.hly])
       (refine lib.tk 12 rfl ?_ (hQ := (fun _ _ _ h => pan_put (by decide) h)); (try simp only [lib.hly]))
       (refine lib.tk 13 rfl ?_ (hQ := (fun _ _ _ h => pan_put (by decide) h)); (try simp only [lib.hly]))
       (refine lib.rk 14 rfl fun K hK => ?_)
       go_simp
       refine hK.out _ _ (trivial) (fun hHeld => ?_)
       clear hK K
       (try simp only [lib.hly])
       (refine wpAnyH_done (by kernel_rfl) ?_ _)
       go_wp2_with fail
       go_meet
       exact HM9.out
   have HL4 := Lib.hid (HFR.out w4 R1 HST.out)
   have b1 : (y == [112, 108, 97, 99, 101]) = false := beq_eq_false_iff_ne.2 h1
   have b2 : (y == [97, 114, 99]) = false := beq_eq_false_iff_ne.2 h2
   have b3 : (y == [116, 121, 112, 101]) = false := beq_eq_false_iff_ne.2 h3
   have b4 : (y == [111, 114, 100, 101, 114]) = false := beq_eq_false_iff_ne.2 h4
   have b5 : (y == [97, 112, 97, 114, 116]) = false := beq_eq_false_iff_ne.2 h5
   have b6 : (y == [98, 101, 102, 111, 114, 101]) = false := beq_eq_false_iff_ne.2 h6
   have HEND : Hid ((y = kwE) ∨ rankF y = 0) := Lib.hid (by
    by_cases h7 : y = kwE
    ·exact .inl h7
    ·right
     unfold rankF kws rankK rankK rankK rankK rankK rankK rankK rankK
     rw [if_neg (fun e => h1 e.symm), if_neg (fun e => h2 e.symm), if_neg (fun e => h3 e.symm), if_neg (fun e => h4 e.symm), if_neg (fun e => h5 e.symm), if_neg (fun e => h6 e.symm), if_neg (fun e => h7 e.symm)])
   clear h1 h2 h3 h4 h5 h6
   go_wp2
   go_meet
   refine ⟨HL4.out.low, HL4.out.res, R1, HL4.out.rd, ?_⟩
   rcases HEND.out with h7 | h7
   ·exact .inl ⟨.fin, P, G, by rw [h7]; rfl, trivial, HL4.out.rows, HL4.out.box⟩
   ·exact .inr ⟨h7, rfl⟩
  obtain ⟨hBX, hBH, R', hRD, hcs⟩ := hcut
  obtain ⟨A', n, c', hn, hnc, hBK⟩ := hRD
  have k0 := hBK.cell (j := 0) rfl
  have hHz := hBH.lt
  have HBX := Lib.hid hBX
  have HBH := Lib.hid hBH
  have HCS := Lib.hid hcs
  have HN := Lib.hid hn
  clear hBX hBH hcs hBK
  by_cases hR : R' = []
  ·have hn0 : n = 0 := by rw [HN.out, hR]; rfl
   subst hn0
   clear hn
   go_wp2_with (go_at_call 30; refine (rank_any y _).mono ?_; rintro e w5 ⟨rfl, b5⟩; have HH5 := Lib.hid (HBH.out.below b5); have h5c := HH5.out.cell (j := 0) rfl; have h5f := HH5.out.frozen 0)
   have hz5 := b5.size
   refine door_ret (v := rankF y) rfl (HH5.out.set 0 _) ?_
   refine ⟨((HBX.out.trans (b5.mono (by have := HBX.out.size; omega))).setCell (p := ⟨w.heap.size, 0, none⟩) (by show xb ≤ w.heap.size; omega) _).alloc (by simp [World.setCell]; omega) _, ?_⟩
   rcases HCS.out with ⟨r, P', G, hw, hr, hXG, hbx⟩ | ⟨h0, hr1⟩
   ·rw [hR, List.append_nil] at hw
    refine .inl ⟨r, P', HJO.out r hr hw, by rw [rank_kw r y R1 hw.symm], G, ?_, ?_⟩
    ·refine XG.keep (Z := Z1 xb w.heap.size) hXG (by simp [World.setCell]; omega) fun q hq hz => ⟨hz.1, ?_⟩
     rw [show ∀ u : World, u.alloc (.cells #[] 107) = u.alloc (.cells #[] 107) from fun _ => rfl]
     exact (Lib.alloc_old _ _ q (by simp [World.setCell]; omega)).trans ((Below.heap_setCell w5 ⟨w.heap.size, 0, none⟩ _ q hz.2).trans (b5.block q hq))
    ·exact (Lib.alloc_old _ _ xb (by simp [World.setCell]; omega)).trans ((Below.heap_setCell w5 ⟨w.heap.size, 0, none⟩ _ xb (show xb ≠ w.heap.size by omega)).trans ((b5.block xb (by omega)).trans hbx))
   ·refine .inr ⟨fun r h => rank0 h0 r (HWO.out r h), by rw [h0]; rfl⟩
  ·have hn0 : ¬ (n : Int) ≤ 0 := by rw [HN.out]; have := List.length_pos_iff.2 hR; omega
   have hn1 : (0 : Int) < (n : Int) := by omega
   have HRN := Lib.hid hR
   clear hn hR
   go_wp2_with (go_at_call 67; refine (fail_any _).mono ?_; rintro e w5 ⟨rfl, rfl⟩)
   refine door_pan (v := 0) rfl HBH.out (HPAN.out _ HBX.out hHz (fun r hr e => ?_))
   rcases HCS.out with ⟨r', P', G, hw, hr', hXG, hbx⟩ | ⟨h0, hr1⟩
   ·rw [hw] at e
    exact HRN.out (words_tail e)
   ·exact rank0 h0 r e
end Go.Proofs.YthefooacfcagbaaGreatDoor.spc

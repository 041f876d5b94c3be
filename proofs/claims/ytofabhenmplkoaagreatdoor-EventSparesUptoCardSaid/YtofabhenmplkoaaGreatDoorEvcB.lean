import Derived.Test.YtofabhenmplkoaaGreatDoorEvtX
set_option linter.unusedVariables false
set_option linter.unusedSimpArgs false
/- An instance whose orders and types are copied. -/
namespace Go.Proofs.YtofabhenmplkoaaGreatDoor.evt
open Go.RowKit
open lib rd app els off typ big ord
open ins hiding zOrd bOrd
open gen
structure ApSt (B : Nat) (w1 : World) (q N M : Nat) (A2 : Option Addr) (c2 : Nat) (CS2 : List Value) (ts : List Ty) (A3 : Option Addr) (c3 : Nat) (CS3 : List Value) (os : List Ord) (p : Nat) (bcs : List Value) (wx : World) : Prop where
 ownO : wx.ownsRow (q + 1) 35 16 (.slice A3 N c3) N CS3
 sepO : ∀ b, (Value.slice A3 N c3).ownBlock = some b → b < p
 ownT : wx.ownsRow p 56 14 (.slice A2 M c2) M CS2
 hp : q + 1 ≤ p
 elsO : EG oOrd wx (fun b => b < B) CS3 os
 elsT : EG oTy wx (fun b => b < B) CS2 ts
 lenO : os.length = N
 lenT : ts.length = M
 bo : Blk wx q 30 bcs
 bel : Below q w1 wx
 hB : B ≤ q
section
variable {B q N M c2 c3 p g o : Nat} {w1 wx wy : World} {A2 A3 : Option Addr} {CS2 CS3 bcs vs : List Value} {ts ts' : List Ty} {os os' : List Ord}
theorem ApSt.below (h : ApSt B w1 q N M A2 c2 CS2 ts A3 c3 CS3 os p bcs wx) (hb : Below wx.heap.size wx wy) : ApSt B w1 q N M A2 c2 CS2 ts A3 c3 CS3 os p bcs wy :=
 ⟨own_below h.ownO hb, h.sepO, own_below h.ownT hb, h.hp, h.elsO.below hb, h.elsT.below hb, h.lenO, h.lenT, h.bo.below hb, h.bel.trans (hb.mono (Nat.le_of_lt h.bo.lt)), h.hB⟩
theorem ownBlock_ne {w : World} {base size n g : Nat} {e : TypeId} {v : Value} {xs : List Value} (h : w.ownsRow base e size v n xs) (hg : ∀ b, v.ownBlock = some b → b ≠ g) : v.ownBlock = none ∨ v.ownBlock ≠ some g := by
 cases hb : v.ownBlock with
 | none => exact .inl rfl
 | some b => exact .inr (fun e => hg b hb (Option.some.inj e))
theorem ApSt.putO (h : ApSt B w1 q N M A2 c2 CS2 ts (some ⟨g, 0, none⟩) c3 CS3 os p bcs wx) (hg : q + 1 ≤ g) (hgp : g < p) (hl : os'.length = N) (he : EG oOrd wx (fun b => b < B) (setM CS3 o vs) os') :
  ApSt B w1 q N M A2 c2 CS2 ts (some ⟨g, 0, none⟩) c3 (setM CS3 o vs) os' p bcs (wx.setCells g o vs) := by
 have hB := h.hB
 obtain ⟨h1, h2⟩ := own_setCells vs o wx CS3 h.ownO
 have hk : ∀ b, b < wx.heap.size → b < B → (wx.setCells g o vs).heap[b]? = wx.heap[b]? := fun b hb hp => h2.block b hb (fun e => by injection e; omega)
 refine ⟨h1, h.sepO, own_grown h.ownT h2 (ownBlock_ne h.ownT fun b hb => by have := own_base h.ownT b hb; omega), h.hp, he.keep h2.size (fun b hb hp => ⟨hp, hk b hb hp⟩), h.elsT.keep h2.size (fun b hb hp => ⟨hp, hk b hb hp⟩), hl, h.lenT, h.bo.kept h2 (fun e => by injection e; omega), h.bel.grown h2 (Nat.le_of_lt h.bo.lt) (fun b e => by injection e; omega), hB⟩
theorem ApSt.putT (h : ApSt B w1 q N M (some ⟨g, 0, none⟩) c2 CS2 ts A3 c3 CS3 os p bcs wx) (hg : p ≤ g) (hl : ts'.length = M) (he : EG oTy wx (fun b => b < B) (setM CS2 o vs) ts') :
  ApSt B w1 q N M (some ⟨g, 0, none⟩) c2 (setM CS2 o vs) ts' A3 c3 CS3 os p bcs (wx.setCells g o vs) := by
 have hB := h.hB
 have hp := h.hp
 obtain ⟨h1, h2⟩ := own_setCells vs o wx CS2 h.ownT
 have hk : ∀ b, b < wx.heap.size → b < B → (wx.setCells g o vs).heap[b]? = wx.heap[b]? := fun b hb hp => h2.block b hb (fun e => by injection e; omega)
 refine ⟨own_grown h.ownO h2 (ownBlock_ne h.ownO fun b hb => by have := h.sepO b hb; omega), h.sepO, h1, h.hp, h.elsO.keep h2.size (fun b hb hp => ⟨hp, hk b hb hp⟩), he.keep h2.size (fun b hb hp => ⟨hp, hk b hb hp⟩), h.lenO, hl, h.bo.kept h2 (fun e => by injection e; omega), h.bel.grown h2 (Nat.le_of_lt h.bo.lt) (fun b e => by injection e; omega), hB⟩
theorem ApSt.box (h : ApSt B w1 q N M A2 c2 CS2 ts A3 c3 CS3 os p bcs wx) (i : Nat) (v : Value) : ApSt B w1 q N M A2 c2 CS2 ts A3 c3 CS3 os p (bcs.set i v) (wx.setCell ⟨q, i, none⟩ v) := by
 have hB := h.hB
 have hp := h.hp
 have h2 := yH wx q i v
 have hk : ∀ b, b < wx.heap.size → b < B → (wx.setCell ⟨q, i, none⟩ v).heap[b]? = wx.heap[b]? := fun b hb hp => h2.block b hb (fun e => by injection e; omega)
 exact ⟨own_grown h.ownO h2 (ownBlock_ne h.ownO fun b hb => by have := own_base h.ownO b hb; omega), h.sepO, own_grown h.ownT h2 (ownBlock_ne h.ownT fun b hb => by have := own_base h.ownT b hb; omega), h.hp, h.elsO.keep h2.size (fun b hb hp => ⟨hp, hk b hb hp⟩), h.elsT.keep h2.size (fun b hb hp => ⟨hp, hk b hb hp⟩), h.lenO, h.lenT, h.bo.set i v, h.bel.setCell (p := ⟨q, i, none⟩) (Nat.le_refl _) _, hB⟩
theorem ApSt.ordAt (h : ApSt B w1 q N M A2 c2 CS2 ts (some ⟨g, 0, none⟩) c3 CS3 os p bcs wx) {j : Nat} {o : Ord} (hj : os[j]? = some o) : ∃ C0 c0, CellsAt wx ⟨g, j * 16, none⟩ (zA o C0 c0) ∧ yL o ∧ yM wx (fun b => b < B) C0 o.load ∧ wx.there g (j * 16) 16 := by
 have hkl := (List.getElem?_eq_some_iff.1 hj).1
 obtain ⟨cc, h3, h4, h5⟩ := h.elsO.at_ hj
 obtain ⟨C0, c0, rfl, h0, hf⟩ := oOrd_at h3
 have hll := h.lenO
 have hcl := h.ownO.1
 refine ⟨C0, c0, fun i u hu => ?_, hf, h0, own_there h.ownO (by omega)⟩
 have hi : i < 16 := (List.getElem?_eq_some_iff.1 hu).1
 rw [Addr.add_mid, h.ownO.cellAt (j * 16 + i) (by omega)]
 exact h5 i u hu
theorem ApSt.tyAt (h : ApSt B w1 q N M (some ⟨g, 0, none⟩) c2 CS2 ts A3 c3 CS3 os p bcs wx) {j : Nat} {o : Ty} (hj : ts[j]? = some o) : ∃ C0 c0, CellsAt wx ⟨g, j * 14, none⟩ (zG o C0 c0) ∧ TyFits o ∧ yM wx (fun b => b < B) C0 o.cap ∧ wx.there g (j * 14) 14 := by
 have hkl := (List.getElem?_eq_some_iff.1 hj).1
 obtain ⟨cc, h3, h4, h5⟩ := h.elsT.at_ hj
 obtain ⟨C0, c0, rfl, h0, hf⟩ := oTy_at h3
 have hll := h.lenT
 have hcl := h.ownT.1
 refine ⟨C0, c0, fun i u hu => ?_, hf, h0, own_there h.ownT (by omega)⟩
 have hi : i < 14 := (List.getElem?_eq_some_iff.1 hu).1
 rw [Addr.add_mid, h.ownT.cellAt (j * 14 + i) (by omega)]
 exact h5 i u hu
theorem ApSt.fr {x : Ins} {P : InP} {w : World} {A1 : Option Addr} {c1 : Nat} {Nt : Net} (h : ApSt B w1 q N M A2 c2 CS2 ts A3 c3 CS3 os p bcs wx) (hA : InAt w B x P) (hBw : B ≤ w.heap.size) (hq : w.heap.size + 3 ≤ q) (hbz : Below w.heap.size w wx)
  (hN : N ≤ 1000000) (hM : M ≤ 1000000) (hrow : yK oArc wx (fun b => b < B ∨ w.heap.size + 3 ≤ b) A1 Nt.arcs) (hpl : Nt.places = x.net.places) :
  InFr wx B (w.heap.size + 3) ⟨Nt, ts, os, x.apart, x.before⟩ ⟨P.a0, P.c0, A1, c1, A2, c2, A3, c3, P.a4, P.c4, P.a5, P.c5⟩ := fun w' hs hk => by
 have hsz := hbz.size
 have hpp := h.hp
 have hi := (hA.blocks (w' := w') (fun b hb => (hk b (by omega) (.inl hb)).trans (hbz.block b (by omega)))).more (show B ≤ w'.heap.size by omega)
 have hoO := own_fr h.ownO (w' := w') ⟨hs, fun b hb hp => hk b hb (.inr (by have h : q + 1 ≤ b := hp; omega))⟩
 have heO := h.elsO.keep hs (fun b hb hp => ⟨hp, hk b hb (.inl hp)⟩)
 have hoT := own_fr h.ownT (w' := w') ⟨hs, fun b hb hp => hk b hb (.inr (by have h : p ≤ b := hp; omega))⟩
 have heT := h.elsT.keep hs (fun b hb hp => ⟨hp, hk b hb (.inl hp)⟩)
 have hr := (hrow.keep (P' := fun _ => True) hs (fun b hb hp => ⟨trivial, hk b hb hp⟩)).row
 have hlO := h.lenO
 have hlT := h.lenT
 have h1 := ty_at' hi (EG.row (by rw [hlT]; exact hoT) heT (by omega)) (by rw [hlT]; exact own_len_cap hoT)
 have h2 := ord_at h1 (EG.row (by rw [hlO]; exact hoO) heO (by omega)) (by rw [hlO]; exact own_len_cap hoO)
 exact net_at' (c := c1) h2 hr hpl
end
theorem insCs_two (x : Ins) (P : InP) (ts : List Ty) (os : List Ord) (A2 A3 : Option Addr) (N c3 M c2 : Nat) (h3 : os.length = N) (h2 : ts.length = M) : ((insCs x P).set 3 (.slice A3 N c3)).set 2 (.slice A2 M c2) = insCs { x with types := ts, orders := os } ⟨P.a0, P.c0, P.a1, P.c1, A2, c2, A3, c3, P.a4, P.c4, P.a5, P.c5⟩ := by
 subst h3
 subst h2
 rfl
theorem insCs_three (x : Ins) (P : InP) (Nt : Net) (A2 A3 A1 : Option Addr) (N c3 M c2 c1 : Nat) (h3 : x.orders.length = N) (h2 : x.types.length = M) : ((((insCs x P).set 3 (.slice A3 N c3)).set 2 (.slice A2 M c2)).set 0 (.slice P.a0 Nt.places.length P.c0)).set 1 (.slice A1 Nt.arcs.length c1) = insCs { x with net := Nt } ⟨P.a0, P.c0, A1, c1, A2, c2, A3, c3, P.a4, P.c4, P.a5, P.c5⟩ := by
 subst h3
 subst h2
 rfl
theorem fitF_arcs {w : World} {P : Nat → Prop} {B : Nat} {A : Option Addr} {l : List Arc} (h : RowAt rArc w B A l) (hB : B ≤ w.heap.size) (hP : ∀ b, b < B → P b) : yK oArc w P A l := yK.of_row h hB hP (fun c x hx => oArc_low hB hP hx)
theorem cat_new {w2 w5 : World} {p n c s : Nat} {A : Option Addr} {t : TypeId} {CS : List Value} (hz : w2.heap.size = p) (hg : (w2.alloc (.cells #[] t)).grownBy w5 (Value.slice (some ⟨p, 0, none⟩) 0 0).ownBlock) (hown : w5.ownsRow p t s (.slice A n c) n ([] ++ CS)) :
  Below p w2 w5 ∧ w5.ownsRow p t s (.slice A n c) n CS :=
 ⟨((Below.refl _ _).alloc (by omega) _).grown hg (by simp; omega) (fun q e => by
  have e2 : some p = some q := e
  injection e2
  omega), hown⟩
theorem catO {w : World} {B : Nat} {A : Option Addr} {l : List Ord} (h : RowAt rOrd w B A l) (hB : B ≤ w.heap.size) : ∃ CS, CS.length = l.length * 16 ∧ (∀ w' D, Below B w w' → B ≤ D → Reads w' D 16 A l.length CS ∧ EG oOrd w' (fun b => b < B) CS l) ∧ ∀ u ∈ CS, u.oneCell' = true := by
 obtain ⟨CS, hcs, hca, hcb, hone⟩ := RowAt.cells (r := rOrd) (by decide) h
 refine ⟨CS, by rw [hcs.1]; rfl, fun w' D hb hD => ⟨⟨by rw [hcs.1]; rfl, fun h0 => ?_⟩, ?_⟩, hone (fun u => u.oneCell' = true) (fun cs o h => by obtain ⟨C0, c0, rfl, -⟩ := rOrd_at h; exact zR _ _ _)⟩
 ·obtain ⟨ad, h1, h2⟩ := hcb (by omega)
  exact ⟨ad, h1, Nat.lt_of_lt_of_le h2 hD, fun j u hu => (hb.cell (p := ad.add j) (by rw [ad_block]; exact h2)).trans (hca ad h1 j u hu)⟩
 ·exact EG.of_cells (hcs.keep hb) (fun c x hx => oOrd_low (Nat.le_trans hB hb.size) (fun b h => h) hx)
theorem catT {w : World} {B : Nat} {A : Option Addr} {l : List Ty} (h : RowAt rTy w B A l) (hB : B ≤ w.heap.size) : ∃ CS, CS.length = l.length * 14 ∧ (∀ w' D, Below B w w' → B ≤ D → Reads w' D 14 A l.length CS ∧ EG oTy w' (fun b => b < B) CS l) ∧ ∀ u ∈ CS, u.oneCell' = true := by
 obtain ⟨CS, hcs, hca, hcb, hone⟩ := RowAt.cells (r := rTy) (by decide) h
 refine ⟨CS, by rw [hcs.1]; rfl, fun w' D hb hD => ⟨⟨by rw [hcs.1]; rfl, fun h0 => ?_⟩, ?_⟩, hone (fun u => u.oneCell' = true) (fun cs o h => by obtain ⟨C0, c0, rfl, -⟩ := rTy_at h; exact tyCells_one _ _ _)⟩
 ·obtain ⟨ad, h1, h2⟩ := hcb (by omega)
  exact ⟨ad, h1, Nat.lt_of_lt_of_le h2 hD, fun j u hu => (hb.cell (p := ad.add j) (by rw [ad_block]; exact h2)).trans (hca ad h1 j u hu)⟩
 ·exact EG.of_cells (hcs.keep hb) (fun c x hx => oTy_low (Nat.le_trans hB hb.size) (fun b h => h) hx)
end Go.Proofs.YtofabhenmplkoaaGreatDoor.evt

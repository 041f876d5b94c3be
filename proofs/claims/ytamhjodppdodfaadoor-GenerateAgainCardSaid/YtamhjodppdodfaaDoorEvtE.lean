/- What an event does to an instance; which events can be applied. The program. -/
import Derived.Test.YtamhjodppdodfaaDoorEvtD
namespace Go.Proofs.YtamhjodppdodfaaDoor.evt
open Go.RowKit
open Go.Proofs.YtamhjodppdodfaaDoor.lib Go.Proofs.YtamhjodppdodfaaDoor.rd Go.Proofs.YtamhjodppdodfaaDoor.app Go.Proofs.YtamhjodppdodfaaDoor.els Go.Proofs.YtamhjodppdodfaaDoor.off Go.Proofs.YtamhjodppdodfaaDoor.typ Go.Proofs.YtamhjodppdodfaaDoor.big Go.Proofs.YtamhjodppdodfaaDoor.ins Go.Proofs.YtamhjodppdodfaaDoor.ord Go.Proofs.YtamhjodppdodfaaDoor.gen
set_option linter.unusedVariables false
set_option linter.unusedSimpArgs false

/-- Where an event about a type stands: its boxes, and the types, copied. -/
structure TcSt (x : Ins) (P : InP) (e : Evt) (C : Option Addr) (c : Nat) (w : World) (N g d : Nat) (CS : List Value) (xs : List Ty) (wx : World) : Prop where
  own : wx.ownsRow (w.heap.size + 3) 51 14 (.slice (some ⟨g, 0, none⟩) N d) N CS
  els : EG oTy wx (fun b => b < w.heap.size) CS xs
  len : xs.length = N
  bx : Blk wx w.heap.size 30 ((insCs x P).set 2 (.slice (some ⟨g, 0, none⟩) N d))
  be : Blk wx (w.heap.size + 1) 42 (EvtCells e C c)
  br : Blk wx (w.heap.size + 2) 30 nilCs
  bel : Below w.heap.size w wx
section
variable {x : Ins} {P : InP} {e : Evt} {C : Option Addr} {c : Nat} {w wx wy : World} {N g d : Nat} {CS : List Value} {xs : List Ty}
theorem TcSt.lo (h : TcSt x P e C c w N g d CS xs wx) : w.heap.size + 3 ≤ g ∧ g < wx.heap.size := World.ownsRow.lt h.own g rfl
theorem TcSt.below (h : TcSt x P e C c w N g d CS xs wx) (hb : Below wx.heap.size wx wy) : TcSt x P e C c w N g d CS xs wy :=
  ⟨own_below h.own hb, h.els.below hb, h.len, h.bx.below hb, h.be.below hb, h.br.below hb, h.bel.trans (hb.mono (by have := h.lo; omega))⟩
/-- Cells of the orders' row are written. -/
theorem TcSt.cells {xs' : List Ty} {o : Nat} {vs : List Value} (h : TcSt x P e C c w N g d CS xs wx) (hl : xs'.length = N) (he : EG oTy wx (fun b => b < w.heap.size) (setM CS o vs) xs') :
    TcSt x P e C c w N g d (setM CS o vs) xs' (wx.setCells g o vs) := by
  have hlo := h.lo
  obtain ⟨h1, h2⟩ := own_setCells vs o wx CS h.own
  refine ⟨h1, he.keep h2.size (fun b hb hp => ⟨hp, h2.block b hb (fun e => by injection e; omega)⟩), hl, h.bx.kept h2 (fun e => by injection e; omega), h.be.kept h2 (fun e => by injection e; omega), h.br.kept h2 (fun e => by injection e; omega), ?_⟩
  exact h.bel.grown h2 (by omega) (fun q e => by injection e; omega)
theorem TcSt.elem {j : Nat} {o : Ty} (h : TcSt x P e C c w N g d CS xs wx) (hj : xs[j]? = some o) : ∃ C0 c0, CellsAt wx ⟨g, j * 14, none⟩ (TyCells o C0 c0) ∧ TyFits o ∧ IntsOff wx (fun b => b < w.heap.size) C0 o.cap ∧ wx.there g (j * 14) 14 := by
  have hkl := (List.getElem?_eq_some_iff.1 hj).1
  obtain ⟨cc, h3, h4, h5⟩ := h.els.at_ hj
  obtain ⟨C0, c0, rfl, h0, hf⟩ := oTy_at h3
  have hll := h.len
  have hcl := h.own.1
  refine ⟨C0, c0, fun i u hu => ?_, hf, h0, own_there h.own (by omega)⟩
  have hi : i < 14 := (List.getElem?_eq_some_iff.1 hu).1
  rw [Addr.add_mid, h.own.cellAt (j * 14 + i) (by omega)]
  exact h5 i u hu
end
theorem insCs_ty (x : Ins) (P : InP) (ts : List Ty) (A : Option Addr) (N c : Nat) (h : ts.length = N) : (insCs x P).set 2 (.slice A N c) = insCs { x with types := ts } ⟨P.a0, P.c0, P.a1, P.c1, A, c, P.a3, P.c3, P.a4, P.c4, P.a5, P.c5⟩ := by
  subst h
  rfl
theorem ty_at' {w : World} {x : Ins} {P : InP} {ts : List Ty} {A : Option Addr} {c : Nat} (h : InAt w w.heap.size x P) (hr : RowAt rTy w w.heap.size A ts) (hc : ts.length ≤ c) : InAt w w.heap.size { x with types := ts } ⟨P.a0, P.c0, P.a1, P.c1, A, c, P.a3, P.c3, P.a4, P.c4, P.a5, P.c5⟩ :=
  ⟨h.places, h.arcs, hr, h.orders, h.apart, h.before, hc, h.capO, h.capA, h.capB⟩
theorem insCs_net (x : Ins) (P : InP) (N : Net) (A0 A1 : Option Addr) (n0 c0 n1 c1 : Nat) (h0 : N.places.length = n0) (h1 : N.arcs.length = n1) : ((insCs x P).set 0 (.slice A0 n0 c0)).set 1 (.slice A1 n1 c1) = insCs { x with net := N } ⟨A0, c0, A1, c1, P.a2, P.c2, P.a3, P.c3, P.a4, P.c4, P.a5, P.c5⟩ := by
  subst h0
  subst h1
  rfl
theorem net_at' {w : World} {x : Ins} {P : InP} {N : Net} {A : Option Addr} {c : Nat} (h : InAt w w.heap.size x P) (hr : RowAt rArc w w.heap.size A N.arcs) (hp : N.places = x.net.places) : InAt w w.heap.size { x with net := N } ⟨P.a0, P.c0, A, c, P.a2, P.c2, P.a3, P.c3, P.a4, P.c4, P.a5, P.c5⟩ :=
  ⟨by show RowAt rStr w w.heap.size P.a0 N.places; rw [hp]; exact h.places, hr, h.types, h.orders, h.apart, h.before, h.capT, h.capO, h.capA, h.capB⟩
theorem slw_places {N N' : Net} {f t at_ n : Int} (h : slwF N f t at_ n = .ok N') : N'.places = N.places := by
  unfold slwF at h
  split at h
  · cases h
  · split at h
    · cases h
    · split at h
      · cases h
      · split at h
        · injection h with h
          rw [← h]
        · cases h
theorem lim_add {x : Ins} (o : Ord) (h : Lim x) : x.orders.length < 10 → Lim (addI x o) := fun hl =>
  ⟨h.places, h.arcs, h.points, h.few, h.net, h.types, by show (x.orders ++ [o]).length ≤ 20; rw [List.length_append]; show _ + 1 ≤ 20; omega, h.apart, h.before⟩
theorem hap_con {x : Ins} {e : Evt} (h1 : ¬ e.kind = 1) (h3 : ¬ e.kind = 3) (h4 : ¬ e.kind = 4) : hapF x e = conF x e := by
  unfold hapF conF
  rw [if_neg h1, if_neg h3, if_neg h4]
  by_cases ht : thrF x e.a = 0
  · rw [if_neg (fun h => h ht), if_neg (fun h => h ht)]
    cases x.orders[e.a.toNat]? <;> rfl
  · rw [if_pos ht, if_pos ht]
/-- The code of what is handed back. -/
def hapK (r : Except Int Ins) : Int := match r with
  | .error k => k
  | .ok _ => 0
def slwK (r : Except Int Net) : Int := match r with
  | .error k => k
  | .ok _ => 0
def HapErr (w : World) (k : Int) (e : Ending) (w' : World) : Prop := ∃ Y Q, e = .returned (.tuple #[InV Y Q, .int .i64 k]) ∧ Below w.heap.size w w'
theorem HapOut.err {w w' : World} {r : Except Int Ins} {e : Ending} (h : HapOut w r e w') : HapErr w (hapK r) e w' := by
  rcases r with k | Y
  · exact h
  · obtain ⟨Q, h1, h2, h3⟩ := h
    exact ⟨Y, Q, h1, h3⟩
/-- The delays of an instance that is accepted. -/
theorem slow_of {x : Ins} (h : insF x = []) : ∀ a ∈ x.net.arcs, a.slow.length ≤ 500 ∧ ∀ p ∈ a.slow, -1000000 ≤ p.a ∧ p.a ≤ 1000000 := fun a ha => by
  obtain ⟨hN, hT, hO, hR⟩ := par.insF_nil.1 h
  unfold insN at hN
  obtain ⟨j, hj⟩ := List.mem_iff_getElem?.1 ha
  have h1 := (lim.netTo_nil _ hN).2 j a (List.getElem?_eq_some_iff.1 hj).1 hj
  unfold net.arcE at h1
  rw [List.append_eq_nil_iff, List.append_eq_nil_iff, List.map_eq_nil_iff] at h1
  have h2 := h1.2
  have key : ∀ k, net.slTo a.slow k = [] → a.slow.length ≤ 16 ∧ ∀ (i : Nat) p, i < k → a.slow[i]? = some p → net.slBad a.slow i p = false := by
    intro k
    induction k with
    | zero =>
      intro h
      unfold net.slTo at h
      split at h
      · cases h
      · exact ⟨by omega, fun i p hi => absurd hi (by omega)⟩
    | succ k ih =>
      intro h
      rw [net.slTo, List.append_eq_nil_iff] at h
      obtain ⟨g1, g2⟩ := ih h.1
      refine ⟨g1, fun i p hi hp => ?_⟩
      rcases Nat.lt_or_ge i k with hlt | hge
      · exact g2 i p hlt hp
      · obtain rfl : i = k := by omega
        have h3 := h.2
        unfold net.slAt at h3
        rw [hp] at h3
        have h4 : net.slP a.slow i p = [] := h3
        unfold net.slP at h4
        split at h4
        · cases h4
        · rename_i h5
          simpa using h5
  obtain ⟨g1, g2⟩ := key _ h2
  refine ⟨by omega, fun p hp => ?_⟩
  obtain ⟨i, hi⟩ := List.mem_iff_getElem?.1 hp
  have h3 := g2 i p (List.getElem?_eq_some_iff.1 hi).1 hi
  unfold net.slBad win.tickB at h3
  simp only [Bool.or_eq_false_iff] at h3
  simp at h3
  omega
/-- The counts of an instance that is accepted. -/
theorem cnt_of {x : Ins} (h : insF x = []) : ∀ t ∈ x.types, 0 ≤ t.count ∧ t.count ≤ 10 := fun t ht => by
  obtain ⟨hN, hT, hO, hR⟩ := par.insF_nil.1 h
  unfold insT at hT
  obtain ⟨j, hj⟩ := List.mem_iff_getElem?.1 ht
  have key : ∀ k, flt.fltsTo ((x.net.places.length : Int) - 1) x.types k = [] → ∀ (i : Nat) t, i < k → x.types[i]? = some t → flt.errsL ((x.net.places.length : Int) - 1) x.types i t (flt.dimsN x.types) = [] := by
    intro k
    induction k with
    | zero => intro _ i t hi; omega
    | succ k ih =>
      intro hk i t hi ht
      rw [flt.fltsTo, List.append_eq_nil_iff] at hk
      rcases Nat.lt_or_ge i k with h | h
      · exact ih hk.1 i t h ht
      · obtain rfl : i = k := by omega
        have h3 := hk.2
        unfold flt.fltsAt at h3
        rw [ht] at h3
        exact List.map_eq_nil_iff.1 h3
  have h0 := key _ hT j t (List.getElem?_eq_some_iff.1 hj).1 hj
  unfold flt.errsL at h0
  have hp : ∀ {xs : List Int} {r : Bool} {u : Int}, flt.pushIf xs r u = [] → xs = [] ∧ r = true := fun {xs r u} h => by
    unfold flt.pushIf at h
    cases r
    · simp at h
    · exact ⟨by simpa using h, rfl⟩
  have h7 := (hp (hp (hp (hp (hp (hp (hp h0).1).1).1).1).1).1).2
  unfold flt.inB at h7
  simpa using h7
set_option maxRecDepth 20000 in
set_option maxHeartbeats 8000000 in
theorem happens_any (x : Ins) (P : InP) (e : Evt) (C : Option Addr) (c : Nat) (w : World) (h : InAt w w.heap.size x P) (hF : insF x = []) (hC : Ints w w.heap.size C e.order.load) (hf : EvtFits e) :
    Calls Tryd.prog 30 #[InV x P, .agg (EvtCells e C c).toArray] w (HapErr w (hapK (hapF x e))) := by
  show Calls Tryd.prog 30 #[InV x P, .agg #[.int .i64 e.at_, .int .i64 e.kind, .int .i64 e.a, .int .i64 e.b, .int .i64 e.n, .string e.order.name, .slice C e.order.load.length c, .int .i64 e.order.pick.place, .int .i64 e.order.pick.opn, .int .i64 e.order.pick.close, .int .i64 e.order.pick.service, .int .i64 e.order.drop.place, .int .i64 e.order.drop.opn, .int .i64 e.order.drop.close, .int .i64 e.order.drop.service, .int .i64 e.order.skills, .int .i64 e.order.penalty, .int .i64 e.order.split, .int .i64 e.order.last, .int .i64 e.order.now, .bool e.order.off]] w _
  have HF := Lib.hid hF
  have HFT := Lib.hid hf
  have HCC := Lib.hid hC
  have HLM := Lib.hid (lim.lim_of hF)
  have HOW := Lib.hid h
  obtain ⟨W0, hW0⟩ : ∃ W0, ((w.alloc (.cells (insCs x P).toArray 30)).alloc (.cells (EvtCells e C c).toArray 42)).alloc (.cells nilCs.toArray 30) = W0 := ⟨_, rfl⟩
  have hB0 : Below w.heap.size w W0 := by rw [← hW0]; exact (((Below.refl _ _).alloc (Nat.le_refl _) _).alloc (by simp) _).alloc (by simp; omega) _
  have z0 : W0.heap.size = w.heap.size + 3 := by rw [← hW0]; simp
  have b0 : Blk W0 w.heap.size 30 (insCs x P) := by
    rw [← hW0]
    exact ((Blk.new w _ _).kept (World.grownBy_alloc _ _ none) (by simp)).kept (World.grownBy_alloc _ _ none) (by simp)
  have b1 : Blk W0 (w.heap.size + 1) 42 (EvtCells e C c) := by
    rw [← hW0]
    have h := Blk.new (w.alloc (.cells (insCs x P).toArray 30)) 42 (EvtCells e C c)
    rw [show (w.alloc (.cells (insCs x P).toArray 30)).heap.size = w.heap.size + 1 by simp] at h
    exact h.kept (World.grownBy_alloc _ _ none) (by simp)
  have b2 : Blk W0 (w.heap.size + 2) 30 nilCs := by
    rw [← hW0]
    have h := Blk.new ((w.alloc (.cells (insCs x P).toArray 30)).alloc (.cells (EvtCells e C c).toArray 42)) 30 nilCs
    rw [show ((w.alloc (.cells (insCs x P).toArray 30)).alloc (.cells (EvtCells e C c).toArray 42)).heap.size = w.heap.size + 2 by simp] at h
    exact h
  have hW1 : ((w.alloc (.cells #[.slice P.a0 x.net.places.length P.c0, .slice P.a1 x.net.arcs.length P.c1, .slice P.a2 x.types.length P.c2, .slice P.a3 x.orders.length P.c3, .slice P.a4 x.apart.length P.c4, .slice P.a5 x.before.length P.c5] 30)).alloc (.cells #[.int .i64 e.at_, .int .i64 e.kind, .int .i64 e.a, .int .i64 e.b, .int .i64 e.n, .string e.order.name, .slice C e.order.load.length c, .int .i64 e.order.pick.place, .int .i64 e.order.pick.opn, .int .i64 e.order.pick.close, .int .i64 e.order.pick.service, .int .i64 e.order.drop.place, .int .i64 e.order.drop.opn, .int .i64 e.order.drop.close, .int .i64 e.order.drop.service, .int .i64 e.order.skills, .int .i64 e.order.penalty, .int .i64 e.order.split, .int .i64 e.order.last, .int .i64 e.order.now, .bool e.order.off] 42)).alloc (.cells #[.slice none 0 0, .slice none 0 0, .slice none 0 0, .slice none 0 0, .slice none 0 0, .slice none 0 0] 30) = W0 := hW0
  have HX := Lib.hid (fun w' (h' : Below W0.heap.size W0 w') => And.intro (b0.below h') (And.intro (b1.below h') (b2.below h')))
  have HI := Lib.hid (fun w' (h' : Below w.heap.size w w') => h.go h')
  have HW1 := Lib.hid hW1
  have C0 := Below.refl W0.heap.size W0
  clear hW0 hW1 b0 b1 b2
  simp only [InV]
  obtain ⟨r, hr⟩ : ∃ r, hapK (hapF x e) = r := ⟨_, rfl⟩
  have HR := Lib.hid hr
  rw [hr]
  have HX0 := Lib.hid (HX.out _ C0)
  have e1 := HX0.out.2.1.cell (j := 1) rfl
  clear h hF hr hC hf
  go_enter Tryd.func30, Tryd.ntmps30
  go_upto_region 1 with fail
  rw [HW1.out]
  clear HW1
  obtain ⟨k1, hk1⟩ : ∃ b, (e.kind == 1) = b := ⟨_, rfl⟩
  obtain ⟨k3, hk3⟩ : ∃ b, (e.kind == 3) = b := ⟨_, rfl⟩
  obtain ⟨k4, hk4⟩ : ∃ b, (e.kind == 4) = b := ⟨_, rfl⟩
  have HK : Hid ((e.kind = 1 ↔ k1 = true) ∧ (e.kind = 3 ↔ k3 = true) ∧ (e.kind = 4 ↔ k4 = true)) := Lib.hid ⟨by rw [← hk1]; simp, by rw [← hk3]; simp, by rw [← hk4]; simp⟩
  cases k1
  rotate_left
  · have hkk := HK.out.1.2 rfl
    have HR1 : Hid (r = if e.order.off then 9 else (addR x e.order).2) := Lib.hid (by
      rw [← HR.out]
      unfold hapF
      rw [if_pos hkk]
      cases e.order.off
      · show hapK (if (addR x e.order).2 = 0 then _ else _) = (addR x e.order).2
        split
        · rename_i h
          exact h.symm
        · rfl
      · rfl)
    clear HR hkk
    have e20 := HX0.out.2.1.cell (j := 20) rfl
    obtain ⟨b, hb⟩ : ∃ b, e.order.off = b := ⟨_, rfl⟩
    cases b
    · have HR2 : Hid (r = (addR x e.order).2) := Lib.hid (by rw [HR1.out, hb]; rfl)
      clear HR1
      go_wp2_with (first
        | ((with_reducible refine wpList_loadG stIns _ rfl ⟨w.heap.size, 0, none⟩ (insCs (x) P) ?_ ?_ ?_ ?_ ?_); exact rfl; exact rfl; exact HX0.out.1.cells; exact rfl)
        | ((with_reducible refine wpList_loadG stOrd' _ rfl ⟨(w.heap.size + 1), 5, none⟩ (OrdCells e.order C c) ?_ ?_ ?_ ?_ ?_); exact rfl; exact rfl; exact (ord_evt HX0.out.2.1); exact rfl))
      clear e20
      refine (add_any x P e.order C c W0 (HI.out _ hB0) ((HCC.out.below hB0).more hB0.size) HFT.out.2.2.2.2.2 (lim_add e.order HLM.out)).mono ?_
      rintro e2 w1 ⟨P1, rfl, hI1, b1⟩
      obtain ⟨Y, hY⟩ : ∃ Y, (addR x e.order).1 = Y := ⟨_, rfl⟩
      obtain ⟨k, hk⟩ : ∃ k, (addR x e.order).2 = k := ⟨_, rfl⟩
      rw [hk] at HR2
      rw [hY, hk]
      have HRR := HR2
      have HX1 := Lib.hid (HX.out _ b1)
      have HB1 := Lib.hid (hB0.trans (b1.mono (by omega)))
      clear hI1 hY hk b1
      go_wp2_with ((with_reducible refine wpList_storeL stIns rfl _ _ rfl (w.heap.size + 2) nilCs (insCs (Y) P1) ?_ ?_ ?_ ?_ ?_ (insCs_one _ _) ?_); exact rfl; exact rfl; exact HX1.out.2.2; exact rfl; exact rfl; intro wz k1 k2 k3 k4; have K := Lib.hid (And.intro k1 (And.intro k2 (And.intro k3 k4))); clear k1 k2 k3 k4)
      have HRz : Blk wz (w.heap.size + 2) 30 (insCs (Y) P1) := K.out.1
      refine bodyPost_ret (v := .tuple #[.agg (insCs (Y) P1).toArray, .int .i64 k]) (big.res_cell_tmp stIns Tryd.results30 rfl rfl HRz.cells rfl) rfl ?_
      rw [HRR.out]
      exact ⟨_, _, rfl, (HB1.out).trans (K.out.2.2.2.mono (by omega))⟩
    · have HRR : Hid (r = 9) := Lib.hid (by rw [HR1.out, hb]; rfl)
      clear HR1
      go_wp2_with (first
        | ((with_reducible refine wpList_loadG stIns _ rfl ⟨w.heap.size, 0, none⟩ (insCs (x) P) ?_ ?_ ?_ ?_ ?_); exact rfl; exact rfl; exact HX0.out.1.cells; exact rfl)
        | ((with_reducible refine wpList_storeL stIns rfl _ _ rfl (w.heap.size + 2) nilCs (insCs (x) P) ?_ ?_ ?_ ?_ ?_ (insCs_one _ _) ?_); exact rfl; exact rfl; exact HX0.out.2.2; exact rfl; exact rfl; intro wz k1 k2 k3 k4; have K := Lib.hid (And.intro k1 (And.intro k2 (And.intro k3 k4))); clear k1 k2 k3 k4))
      have HRz : Blk wz (w.heap.size + 2) 30 (insCs (x) P) := K.out.1
      refine bodyPost_ret (v := .tuple #[.agg (insCs (x) P).toArray, .int .i64 9]) (big.res_cell_tmp stIns Tryd.results30 rfl rfl HRz.cells rfl) rfl ?_
      rw [HRR.out]
      exact ⟨_, _, rfl, (hB0).trans (K.out.2.2.2.mono (by omega))⟩
  cases k3
  rotate_left
  · have hkk := HK.out.2.1.2 rfl
    have hk1' : ¬ e.kind = 1 := fun h => by have := HK.out.1.1 h; cases this
    have HR1 : Hid (r = if ¬ (1 ≤ e.n ∧ e.n ≤ 4096) then 2 else slwK (slwF x.net e.a e.b e.at_ e.n)) := Lib.hid (by
      rw [← HR.out]
      unfold hapF
      rw [if_neg hk1', if_pos hkk]
      by_cases hn : 1 ≤ e.n ∧ e.n ≤ 4096
      · rw [if_neg (fun h => h hn), if_neg (fun h => h hn)]
        cases slwF x.net e.a e.b e.at_ e.n <;> rfl
      · rw [if_pos hn, if_pos hn]
        rfl)
    clear HR hkk hk1'
    have e4 := HX0.out.2.1.cell (j := 4) rfl
    by_cases hn1 : e.n < 1
    · have HRR : Hid (r = 2) := Lib.hid (by rw [HR1.out, if_pos (by omega)])
      clear HR1
      go_wp2_with (first
        | ((with_reducible refine wpList_loadG stIns _ rfl ⟨w.heap.size, 0, none⟩ (insCs (x) P) ?_ ?_ ?_ ?_ ?_); exact rfl; exact rfl; exact HX0.out.1.cells; exact rfl)
        | ((with_reducible refine wpList_storeL stIns rfl _ _ rfl (w.heap.size + 2) nilCs (insCs (x) P) ?_ ?_ ?_ ?_ ?_ (insCs_one _ _) ?_); exact rfl; exact rfl; exact HX0.out.2.2; exact rfl; exact rfl; intro wz k1 k2 k3 k4; have K := Lib.hid (And.intro k1 (And.intro k2 (And.intro k3 k4))); clear k1 k2 k3 k4))
      have HRz : Blk wz (w.heap.size + 2) 30 (insCs (x) P) := K.out.1
      refine bodyPost_ret (v := .tuple #[.agg (insCs (x) P).toArray, .int .i64 2]) (big.res_cell_tmp stIns Tryd.results30 rfl rfl HRz.cells rfl) rfl ?_
      rw [HRR.out]
      exact ⟨_, _, rfl, (hB0).trans (K.out.2.2.2.mono (by omega))⟩
    by_cases hn2 : 4096 < e.n
    · have HRR : Hid (r = 2) := Lib.hid (by rw [HR1.out, if_pos (by omega)])
      clear HR1
      go_wp2_with (first
        | ((with_reducible refine wpList_loadG stIns _ rfl ⟨w.heap.size, 0, none⟩ (insCs (x) P) ?_ ?_ ?_ ?_ ?_); exact rfl; exact rfl; exact HX0.out.1.cells; exact rfl)
        | ((with_reducible refine wpList_storeL stIns rfl _ _ rfl (w.heap.size + 2) nilCs (insCs (x) P) ?_ ?_ ?_ ?_ ?_ (insCs_one _ _) ?_); exact rfl; exact rfl; exact HX0.out.2.2; exact rfl; exact rfl; intro wz k1 k2 k3 k4; have K := Lib.hid (And.intro k1 (And.intro k2 (And.intro k3 k4))); clear k1 k2 k3 k4))
      have HRz : Blk wz (w.heap.size + 2) 30 (insCs (x) P) := K.out.1
      refine bodyPost_ret (v := .tuple #[.agg (insCs (x) P).toArray, .int .i64 2]) (big.res_cell_tmp stIns Tryd.results30 rfl rfl HRz.cells rfl) rfl ?_
      rw [HRR.out]
      exact ⟨_, _, rfl, (hB0).trans (K.out.2.2.2.mono (by omega))⟩
    obtain ⟨s, hs⟩ : ∃ s, slwF x.net e.a e.b e.at_ e.n = s := ⟨_, rfl⟩
    have HR2 : Hid (r = slwK s) := Lib.hid (by rw [HR1.out, if_neg (by omega), hs])
    have HS := Lib.hid hs
    clear HR1 hs
    have x0 := HX0.out.1.cell (j := 0) rfl
    have x1 := HX0.out.1.cell (j := 1) rfl
    have e0 := HX0.out.2.1.cell (j := 0) rfl
    have e2 := HX0.out.2.1.cell (j := 2) rfl
    have e3 := HX0.out.2.1.cell (j := 3) rfl
    go_wp2_with fail
    refine (slower_any x.net P.a0 P.c0 P.a1 P.c1 e.a e.b e.at_ e.n W0 (HI.out _ hB0).arcs (by have := HLM.out.arcs; omega) (slow_of HF.out)).mono ?_
    rw [HS.out]
    intro e5 w1 h2
    clear x0 x1 e0 e2 e3 e4
    rcases s with k | N'
    · obtain ⟨rfl, b1⟩ := h2
      have HRR : Hid (r = k) := Lib.hid (by rw [HR2.out]; rfl)
      have HX1 := Lib.hid (HX.out _ b1)
      have HB1 := Lib.hid (hB0.trans (b1.mono (by omega)))
      clear b1
      have p0 := HX1.out.1.cell (j := 0) rfl
      have p1 := HX1.out.1.cell (j := 1) rfl
      have g0 := HX1.out.1.frozen 0
      have g1 := HX1.out.1.frozen 1
      go_upto_region 11 with fail
      clear p0 p1 g0 g1
      obtain ⟨W4, hW4⟩ : ∃ W, (w1.setCell ⟨w.heap.size, 0, none⟩ (.slice none 0 0)).setCell ⟨w.heap.size, 1, none⟩ (.slice none 0 0) = W := ⟨_, rfl⟩
      rw [hW4]
      have X4 : Hid (Blk W4 w.heap.size 30 (insCs { x with net := (⟨[], []⟩ : Net) } ⟨none, 0, none, 0, P.a2, P.c2, P.a3, P.c3, P.a4, P.c4, P.a5, P.c5⟩)) := Lib.hid (by
        rw [← hW4, ← insCs_net x P (⟨[], []⟩ : Net) none none (0) 0 (0) 0 (rfl) (rfl)]
        exact (HX1.out.1.set 0 (.slice none 0 0)).set 1 (.slice none 0 0))
      have R4 : Hid (Blk W4 (w.heap.size + 2) 30 nilCs) := Lib.hid (by rw [← hW4]; exact blk_other (blk_other HX1.out.2.2 (by omega) _ _) (by omega) _ _)
      have B4 : Hid (Below w.heap.size w W4) := Lib.hid (by rw [← hW4]; exact (HB1.out.setCell (p := ⟨w.heap.size, 0, none⟩) (Nat.le_refl _) _).setCell (p := ⟨w.heap.size, 1, none⟩) (Nat.le_refl _) _)
      clear hW4
      go_wp2_with (first
        | ((with_reducible refine wpList_loadG stIns _ rfl ⟨w.heap.size, 0, none⟩ (insCs ({ x with net := (⟨[], []⟩ : Net) }) ⟨none, 0, none, 0, P.a2, P.c2, P.a3, P.c3, P.a4, P.c4, P.a5, P.c5⟩) ?_ ?_ ?_ ?_ ?_); exact rfl; exact rfl; exact X4.out.cells; exact rfl)
        | ((with_reducible refine wpList_storeL stIns rfl _ _ rfl (w.heap.size + 2) nilCs (insCs ({ x with net := (⟨[], []⟩ : Net) }) ⟨none, 0, none, 0, P.a2, P.c2, P.a3, P.c3, P.a4, P.c4, P.a5, P.c5⟩) ?_ ?_ ?_ ?_ ?_ (insCs_one _ _) ?_); exact rfl; exact rfl; exact R4.out; exact rfl; exact rfl; intro wz k1 k2 k3 k4; have K := Lib.hid (And.intro k1 (And.intro k2 (And.intro k3 k4))); clear k1 k2 k3 k4))
      have HRz : Blk wz (w.heap.size + 2) 30 (insCs ({ x with net := (⟨[], []⟩ : Net) }) ⟨none, 0, none, 0, P.a2, P.c2, P.a3, P.c3, P.a4, P.c4, P.a5, P.c5⟩) := K.out.1
      refine bodyPost_ret (v := .tuple #[.agg (insCs ({ x with net := (⟨[], []⟩ : Net) }) ⟨none, 0, none, 0, P.a2, P.c2, P.a3, P.c3, P.a4, P.c4, P.a5, P.c5⟩).toArray, .int .i64 k]) (big.res_cell_tmp stIns Tryd.results30 rfl rfl HRz.cells rfl) rfl ?_
      rw [HRR.out]
      exact ⟨_, _, rfl, (B4.out).trans (K.out.2.2.2.mono (by omega))⟩
    · obtain ⟨A9, c9, rfl, hrow, b1⟩ := h2
      have HRR : Hid (r = 0) := Lib.hid (by rw [HR2.out]; rfl)
      have HX1 := Lib.hid (HX.out _ b1)
      have HB1 := Lib.hid (hB0.trans (b1.mono (by omega)))
      clear b1 hrow
      have p0 := HX1.out.1.cell (j := 0) rfl
      have p1 := HX1.out.1.cell (j := 1) rfl
      have g0 := HX1.out.1.frozen 0
      have g1 := HX1.out.1.frozen 1
      go_upto_region 11 with fail
      clear p0 p1 g0 g1
      obtain ⟨W4, hW4⟩ : ∃ W, (w1.setCell ⟨w.heap.size, 0, none⟩ (.slice P.a0 N'.places.length P.c0)).setCell ⟨w.heap.size, 1, none⟩ (.slice A9 N'.arcs.length c9) = W := ⟨_, rfl⟩
      rw [hW4]
      have X4 : Hid (Blk W4 w.heap.size 30 (insCs { x with net := N' } ⟨P.a0, P.c0, A9, c9, P.a2, P.c2, P.a3, P.c3, P.a4, P.c4, P.a5, P.c5⟩)) := Lib.hid (by
        rw [← hW4, ← insCs_net x P N' P.a0 A9 (N'.places.length) P.c0 (N'.arcs.length) c9 (rfl) (rfl)]
        exact (HX1.out.1.set 0 (.slice P.a0 N'.places.length P.c0)).set 1 (.slice A9 N'.arcs.length c9))
      have R4 : Hid (Blk W4 (w.heap.size + 2) 30 nilCs) := Lib.hid (by rw [← hW4]; exact blk_other (blk_other HX1.out.2.2 (by omega) _ _) (by omega) _ _)
      have B4 : Hid (Below w.heap.size w W4) := Lib.hid (by rw [← hW4]; exact (HB1.out.setCell (p := ⟨w.heap.size, 0, none⟩) (Nat.le_refl _) _).setCell (p := ⟨w.heap.size, 1, none⟩) (Nat.le_refl _) _)
      clear hW4
      go_wp2_with (first
        | ((with_reducible refine wpList_loadG stIns _ rfl ⟨w.heap.size, 0, none⟩ (insCs ({ x with net := N' }) ⟨P.a0, P.c0, A9, c9, P.a2, P.c2, P.a3, P.c3, P.a4, P.c4, P.a5, P.c5⟩) ?_ ?_ ?_ ?_ ?_); exact rfl; exact rfl; exact X4.out.cells; exact rfl)
        | ((with_reducible refine wpList_storeL stIns rfl _ _ rfl (w.heap.size + 2) nilCs (insCs ({ x with net := N' }) ⟨P.a0, P.c0, A9, c9, P.a2, P.c2, P.a3, P.c3, P.a4, P.c4, P.a5, P.c5⟩) ?_ ?_ ?_ ?_ ?_ (insCs_one _ _) ?_); exact rfl; exact rfl; exact R4.out; exact rfl; exact rfl; intro wz k1 k2 k3 k4; have K := Lib.hid (And.intro k1 (And.intro k2 (And.intro k3 k4))); clear k1 k2 k3 k4))
      have HRz : Blk wz (w.heap.size + 2) 30 (insCs ({ x with net := N' }) ⟨P.a0, P.c0, A9, c9, P.a2, P.c2, P.a3, P.c3, P.a4, P.c4, P.a5, P.c5⟩) := K.out.1
      refine bodyPost_ret (v := .tuple #[.agg (insCs ({ x with net := N' }) ⟨P.a0, P.c0, A9, c9, P.a2, P.c2, P.a3, P.c3, P.a4, P.c4, P.a5, P.c5⟩).toArray, .int .i64 0]) (big.res_cell_tmp stIns Tryd.results30 rfl rfl HRz.cells rfl) rfl ?_
      rw [HRR.out]
      exact ⟨_, _, rfl, (B4.out).trans (K.out.2.2.2.mono (by omega))⟩
  cases k4
  rotate_left
  · have hkk := HK.out.2.2.2 rfl
    have hk1' : ¬ e.kind = 1 := fun h => by have := HK.out.1.1 h; cases this
    have hk3' : ¬ e.kind = 3 := fun h => by have := HK.out.2.1.1 h; cases this
    have HR1 : Hid (r = hapK (if e.a < 0 ∨ (x.types.length : Int) ≤ e.a then .error 7 else match x.types[e.a.toNat]? with
        | none => .error 7
        | some t => if t.count = 0 then .error 22 else .ok { x with types := x.types.set e.a.toNat { t with count := t.count - 1 } })) := Lib.hid (by
      rw [← HR.out]
      unfold hapF
      rw [if_neg hk1', if_neg hk3', if_pos hkk]
      by_cases hz : (e.a < 0 ∨ (x.types.length : Int) ≤ e.a)
      · rw [if_pos hz, if_pos hz]
      · rw [if_neg hz, if_neg hz]
        cases x.types[e.a.toNat]? <;> rfl)
    clear HR hkk hk1' hk3'
    obtain ⟨N, hNN⟩ : ∃ N, x.types.length = N := ⟨_, rfl⟩
    rw [hNN] at HR1
    have HNN := Lib.hid hNN
    have x2 : W0.cell? ⟨w.heap.size, 2, none⟩ = some (.slice P.a2 N P.c2) := by rw [← hNN]; exact HX0.out.1.cell (j := 2) rfl
    have f2 := HX0.out.1.frozen 2
    have e2 := HX0.out.2.1.cell (j := 2) rfl
    have hN20 : N ≤ 20 := by rw [← hNN]; exact HLM.out.types
    clear hNN
    by_cases ha1 : e.a < 0
    · have HRR : Hid (r = 7) := Lib.hid (by rw [HR1.out, if_pos (.inl ha1)]; rfl)
      clear HR1
      go_wp2_with (first
        | ((with_reducible refine wpList_loadG stIns _ rfl ⟨w.heap.size, 0, none⟩ (insCs (x) P) ?_ ?_ ?_ ?_ ?_); exact rfl; exact rfl; exact HX0.out.1.cells; exact rfl)
        | ((with_reducible refine wpList_storeL stIns rfl _ _ rfl (w.heap.size + 2) nilCs (insCs (x) P) ?_ ?_ ?_ ?_ ?_ (insCs_one _ _) ?_); exact rfl; exact rfl; exact HX0.out.2.2; exact rfl; exact rfl; intro wz k1 k2 k3 k4; have K := Lib.hid (And.intro k1 (And.intro k2 (And.intro k3 k4))); clear k1 k2 k3 k4))
      have HRz : Blk wz (w.heap.size + 2) 30 (insCs (x) P) := K.out.1
      refine bodyPost_ret (v := .tuple #[.agg (insCs (x) P).toArray, .int .i64 7]) (big.res_cell_tmp stIns Tryd.results30 rfl rfl HRz.cells rfl) rfl ?_
      rw [HRR.out]
      exact ⟨_, _, rfl, (hB0).trans (K.out.2.2.2.mono (by omega))⟩
    by_cases ha2 : (N : Int) ≤ e.a
    · have HRR : Hid (r = 7) := Lib.hid (by rw [HR1.out, if_pos (.inr ha2)]; rfl)
      clear HR1
      go_wp2_with (first
        | ((with_reducible refine wpList_loadG stIns _ rfl ⟨w.heap.size, 0, none⟩ (insCs (x) P) ?_ ?_ ?_ ?_ ?_); exact rfl; exact rfl; exact HX0.out.1.cells; exact rfl)
        | ((with_reducible refine wpList_storeL stIns rfl _ _ rfl (w.heap.size + 2) nilCs (insCs (x) P) ?_ ?_ ?_ ?_ ?_ (insCs_one _ _) ?_); exact rfl; exact rfl; exact HX0.out.2.2; exact rfl; exact rfl; intro wz k1 k2 k3 k4; have K := Lib.hid (And.intro k1 (And.intro k2 (And.intro k3 k4))); clear k1 k2 k3 k4))
      have HRz : Blk wz (w.heap.size + 2) 30 (insCs (x) P) := K.out.1
      refine bodyPost_ret (v := .tuple #[.agg (insCs (x) P).toArray, .int .i64 7]) (big.res_cell_tmp stIns Tryd.results30 rfl rfl HRz.cells rfl) rfl ?_
      rw [HRR.out]
      exact ⟨_, _, rfl, (hB0).trans (K.out.2.2.2.mono (by omega))⟩
    obtain ⟨j, hj⟩ : ∃ j : Nat, e.a = j := ⟨e.a.toNat, by omega⟩
    have hjN : j < N := by omega
    obtain ⟨t, ht⟩ : ∃ t, x.types[j]? = some t := ⟨_, List.getElem?_eq_getElem (by rw [HNN.out]; exact hjN)⟩
    have HR2 : Hid (r = if t.count = 0 then 22 else 0) := Lib.hid (by
      rw [HR1.out, if_neg (by omega), hj, Int.toNat_natCast, ht]
      show hapK (if t.count = 0 then _ else _) = _
      split <;> rfl)
    have hcb := cnt_of HF.out t (List.mem_of_getElem? ht)
    have HT := Lib.hid ht
    obtain ⟨ad, cs0, hA, hadb, hat, hcs⟩ := ((HI.out _ hB0).types).elem ht
    obtain ⟨D, dd, rfl, hI, hf⟩ := rTy_at hat
    have y1 : W0.cell? ⟨(ad.add (j * 14)).block, (ad.add (j * 14)).off + 1, none⟩ = some (.int .i64 t.count) := by rw [← add_split, ← add_of_add]; exact hcs 1 _ rfl
    rw [hA] at x2
    rw [hj] at e2
    have hj0 : (0 : Int) ≤ (j : Int) := by omega
    have hjn : (j : Int) < (N : Int) := by omega
    clear HR1 ha1 ha2 ht hat hcs hI hf
    by_cases hc0 : t.count = 0
    · have HRR : Hid (r = 22) := Lib.hid (by rw [HR2.out, if_pos hc0])
      have hcc : (t.count == 0) = true := by simp [hc0]
      clear HR2 hc0
      go_wp2_with (first
        | ((with_reducible refine wpList_loadG stIns _ rfl ⟨w.heap.size, 0, none⟩ (insCs (x) P) ?_ ?_ ?_ ?_ ?_); exact rfl; exact rfl; exact HX0.out.1.cells; exact rfl)
        | ((with_reducible refine wpList_storeL stIns rfl _ _ rfl (w.heap.size + 2) nilCs (insCs (x) P) ?_ ?_ ?_ ?_ ?_ (insCs_one _ _) ?_); exact rfl; exact rfl; exact HX0.out.2.2; exact rfl; exact rfl; intro wz k1 k2 k3 k4; have K := Lib.hid (And.intro k1 (And.intro k2 (And.intro k3 k4))); clear k1 k2 k3 k4))
      have HRz : Blk wz (w.heap.size + 2) 30 (insCs (x) P) := K.out.1
      refine bodyPost_ret (v := .tuple #[.agg (insCs (x) P).toArray, .int .i64 22]) (big.res_cell_tmp stIns Tryd.results30 rfl rfl HRz.cells rfl) rfl ?_
      rw [HRR.out]
      exact ⟨_, _, rfl, (hB0).trans (K.out.2.2.2.mono (by omega))⟩
    have HRR : Hid (r = 0) := Lib.hid (by rw [HR2.out, if_neg hc0])
    have hcc : (t.count == 0) = false := by simp [hc0]
    clear HR2 hc0
    go_wp2_with fail
    have hcl := cloneT_any P.a2 P.c2 x.types w.heap.size W0 hB0.size (HOW.out.types.below hB0) (by rw [HNN.out]; omega)
    rw [HNN.out, hA] at hcl
    refine hcl.mono ?_
    rintro e9 w2 ⟨A', c', CS, rfl, hown, hels, b2⟩
    obtain ⟨g, cap, hv, hgb, hglt⟩ := hown.form (by omega)
    obtain rfl : A' = some ⟨g, 0, none⟩ := by injection hv
    have hX2 := HX.out _ b2
    have x2 : w2.cell? ⟨w.heap.size, 2, none⟩ = some (.slice (some ad) N P.c2) := by rw [← HNN.out, ← hA]; exact hX2.1.cell (j := 2) rfl
    have f2 := hX2.1.frozen 2
    clear y1
    go_upto_region 18 with fail
    obtain ⟨W3, hW3⟩ : ∃ W, w2.setCell ⟨w.heap.size, 2, none⟩ (.slice (some ⟨g, 0, none⟩) N c') = W := ⟨_, rfl⟩
    rw [hW3]
    have HS : Hid (TcSt x P e C c w N g c' CS x.types W3) := Lib.hid (by
      have hgr := grownBy_set w2 w.heap.size 2 (.slice (some ⟨g, 0, none⟩) N c')
      rw [← hW3]
      refine ⟨own_less (ownsRow_setCell_below hown (by show w.heap.size < W0.heap.size; omega) _) (by omega), hels.keep hgr.size (fun b hb hp => ⟨hp, hgr.block b hb (fun e => by injection e; omega)⟩), HNN.out, hX2.1.set 2 _, hX2.2.1.kept hgr (fun e => by injection e; omega), hX2.2.2.kept hgr (fun e => by injection e; omega), ?_⟩
      exact (hB0.trans (b2.mono hB0.size)).setCell (p := ⟨w.heap.size, 2, none⟩) (Nat.le_refl _) _)
    clear hW3 hown hels b2 hX2 x2 f2 hcl hgb hglt
    obtain ⟨D1, d1, hce, hof, hio, hth⟩ := HS.out.elem HT.out
    have x2 : W3.cell? ⟨w.heap.size, 2, none⟩ = some (.slice (some ⟨g, 0, none⟩) N c') := HS.out.bx.cell (j := 2) rfl
    have e2 : W3.cell? ⟨w.heap.size + 1, 2, none⟩ = some (.int .i64 j) := by rw [← hj]; exact HS.out.be.cell (j := 2) rfl
    have y1 : W3.cell? ⟨g, j * 14 + 1, none⟩ = some (.int .i64 t.count) := hce 1 _ rfl
    have f1 := HS.out.own.frozenAt (j * 14 + 1)
    obtain ⟨hcb1, hcb2⟩ := hcb
    clear hce hof hio hth
    go_upto_region 19 with fail
    obtain ⟨W4, hW4⟩ : ∃ W, W3.setCell ⟨g, j * 14 + 1, none⟩ (.int .i64 (t.count - 1)) = W := ⟨_, rfl⟩
    rw [hW4]
    have HS4 : Hid (TcSt x P e C c w N g c' (setM CS (j * 14 + 1) [.int .i64 (t.count - 1)]) (x.types.set j { t with count := t.count - 1 }) W4) := Lib.hid (by
      rw [← hW4]
      refine HS.out.cells (o := j * 14 + 1) (vs := [.int .i64 (t.count - 1)]) (by rw [List.length_set]; exact HNN.out) ?_
      refine EG.mod (r := oTy) HS.out.els (by rw [HNN.out]; exact hjN) (show 1 < 14 by decide) ?_
      obtain ⟨D, dd, hc, hi, hf⟩ := oTy_at (HS.out.els.2 j t HT.out)
      rw [hc]
      refine oTy_mk (t := { t with count := t.count - 1 }) hi ?_
      unfold TyFits at hf ⊢
      simp only
      omega)
    clear hW4 y1 f1 x2 e2
    have HB4 : Hid (Blk W4 w.heap.size 30 (insCs { x with types := x.types.set j { t with count := t.count - 1 } } ⟨P.a0, P.c0, P.a1, P.c1, some ⟨g, 0, none⟩, c', P.a3, P.c3, P.a4, P.c4, P.a5, P.c5⟩)) := Lib.hid (by
      have h := HS4.out.bx
      rw [insCs_ty x P (x.types.set j { t with count := t.count - 1 }) _ N c' (by rw [List.length_set]; exact HNN.out)] at h
      exact h)
    go_wp2_with (first
      | ((with_reducible refine wpList_loadG stIns _ rfl ⟨w.heap.size, 0, none⟩ (insCs ({ x with types := x.types.set j { t with count := t.count - 1 } }) ⟨P.a0, P.c0, P.a1, P.c1, some ⟨g, 0, none⟩, c', P.a3, P.c3, P.a4, P.c4, P.a5, P.c5⟩) ?_ ?_ ?_ ?_ ?_); exact rfl; exact rfl; exact HB4.out.cells; exact rfl)
      | ((with_reducible refine wpList_storeL stIns rfl _ _ rfl (w.heap.size + 2) nilCs (insCs ({ x with types := x.types.set j { t with count := t.count - 1 } }) ⟨P.a0, P.c0, P.a1, P.c1, some ⟨g, 0, none⟩, c', P.a3, P.c3, P.a4, P.c4, P.a5, P.c5⟩) ?_ ?_ ?_ ?_ ?_ (insCs_one _ _) ?_); exact rfl; exact rfl; exact HS4.out.br; exact rfl; exact rfl; intro wz k1 k2 k3 k4; have K := Lib.hid (And.intro k1 (And.intro k2 (And.intro k3 k4))); clear k1 k2 k3 k4))
    have HRz : Blk wz (w.heap.size + 2) 30 (insCs ({ x with types := x.types.set j { t with count := t.count - 1 } }) ⟨P.a0, P.c0, P.a1, P.c1, some ⟨g, 0, none⟩, c', P.a3, P.c3, P.a4, P.c4, P.a5, P.c5⟩) := K.out.1
    refine bodyPost_ret (v := .tuple #[.agg (insCs ({ x with types := x.types.set j { t with count := t.count - 1 } }) ⟨P.a0, P.c0, P.a1, P.c1, some ⟨g, 0, none⟩, c', P.a3, P.c3, P.a4, P.c4, P.a5, P.c5⟩).toArray, .int .i64 0]) (big.res_cell_tmp stIns Tryd.results30 rfl rfl HRz.cells rfl) rfl ?_
    rw [HRR.out]
    exact ⟨_, _, rfl, (HS4.out.bel).trans (K.out.2.2.2.mono (by omega))⟩
  · have HR1 : Hid (hapK (conF x e) = r) := Lib.hid (by
      rw [← hap_con (fun h => by have := HK.out.1.1 h; cases this) (fun h => by have := HK.out.2.1.1 h; cases this) (fun h => by have := HK.out.2.2.1 h; cases this)]
      exact HR.out)
    clear HR
    go_wp2_with (first
      | ((with_reducible refine wpList_loadG stIns _ rfl ⟨w.heap.size, 0, none⟩ (insCs (x) P) ?_ ?_ ?_ ?_ ?_); exact rfl; exact rfl; exact HX0.out.1.cells; exact rfl)
      | ((with_reducible refine wpList_loadG stEvt _ rfl ⟨(w.heap.size + 1), 0, none⟩ (EvtCells e C c) ?_ ?_ ?_ ?_ ?_); exact rfl; exact rfl; exact HX0.out.2.1.cells; exact rfl))
    refine (concerns_any x P e C c W0 (HI.out _ hB0) HF.out HFT.out.2.2.2.2.1).mono ?_
    intro e2 w1 h2
    have h2' := h2.err
    rw [HR1.out] at h2'
    obtain ⟨Y, P1, rfl, b1⟩ := h2'
    have HRR : Hid (r = r) := Lib.hid rfl
    have HX1 := Lib.hid (HX.out _ b1)
    have HB1 := Lib.hid (hB0.trans (b1.mono (by omega)))
    clear h2 b1 HR1
    go_wp2_with ((with_reducible refine wpList_storeL stIns rfl _ _ rfl (w.heap.size + 2) nilCs (insCs (Y) P1) ?_ ?_ ?_ ?_ ?_ (insCs_one _ _) ?_); exact rfl; exact rfl; exact HX1.out.2.2; exact rfl; exact rfl; intro wz k1 k2 k3 k4; have K := Lib.hid (And.intro k1 (And.intro k2 (And.intro k3 k4))); clear k1 k2 k3 k4)
    have HRz : Blk wz (w.heap.size + 2) 30 (insCs Y P1) := K.out.1
    refine bodyPost_ret (v := .tuple #[.agg (insCs Y P1).toArray, .int .i64 r]) (big.res_cell_tmp stIns Tryd.results30 rfl rfl HRz.cells rfl) rfl ?_
    exact ⟨_, _, rfl, HB1.out.trans (K.out.2.2.2.mono (by omega))⟩
end Go.Proofs.YtamhjodppdodfaaDoor.evt

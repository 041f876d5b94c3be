/- Events that are drawn: the program. -/
import Derived.Test.YtamhjodppdodfaaDoorEvtF
import Derived.Test.YtamhjodppdodfaaDoorGenF
import Derived.Test.YtamhjodppdodfaaDoorGenI
import Derived.Deep.RegionHeld3
namespace Go.Proofs.YtamhjodppdodfaaDoor.evt
open Go.RowKit
open Go.Proofs.YtamhjodppdodfaaDoor.lib Go.Proofs.YtamhjodppdodfaaDoor.rd Go.Proofs.YtamhjodppdodfaaDoor.app Go.Proofs.YtamhjodppdodfaaDoor.els Go.Proofs.YtamhjodppdodfaaDoor.off Go.Proofs.YtamhjodppdodfaaDoor.typ Go.Proofs.YtamhjodppdodfaaDoor.big Go.Proofs.YtamhjodppdodfaaDoor.ins Go.Proofs.YtamhjodppdodfaaDoor.ord Go.Proofs.YtamhjodppdodfaaDoor.gen
set_option linter.unusedVariables false
set_option linter.unusedSimpArgs false

def zeroO : Ord := ⟨⟨#[]⟩, [], ⟨0, 0, 0, 0⟩, ⟨0, 0, 0, 0⟩, 0, 0, 0, 0, 0, false⟩
/-- What Order answers, as an order and an error. -/
def ordQ (seed : Int) (x : Ins) : Ord × Int := match ordE seed x with
  | .error k => (zeroO, k)
  | .ok o => (o, 0)
theorem ordQ_out {w w' : World} {s : Int} {x : Ins} {e : Ending} (hd : flt.dimsN x.types ≤ 1000) (hp : x.net.places.length ≤ 1000000) (h : OrdOut w (ordE s x) e w') : ∃ A c, e = .returned (.tuple #[.agg (OrdCells (ordQ s x).1 A c).toArray, .int .i64 (ordQ s x).2]) ∧ IntsOff w' (fun b => w.heap.size ≤ b) A (ordQ s x).1.load ∧ OrdFits (ordQ s x).1 ∧ Below w.heap.size w w' := by
  unfold ordQ
  cases hE : ordE s x with
  | error k =>
    rw [hE] at h
    obtain ⟨rfl, hb⟩ := h
    exact ⟨none, 0, rfl, ⟨Ints.nil, fun h => absurd h (by show ¬ 0 < zeroO.load.length; decide)⟩, by unfold OrdFits StpFits zeroO; simp; decide, hb⟩
  | ok o =>
    rw [hE] at h
    obtain ⟨A, c, rfl, hown, hb⟩ := h
    have hl : o.load.length ≤ 1000 ∧ OrdFits o := by
      unfold ordE at hE
      split at hE
      · cases hE
      · split at hE
        · cases hE
        · injection hE with hE
          rw [← hE]
          refine ⟨?_, ordF_fits _ _ _ _ (by omega) hp⟩
          show (loadTo s (flt.dimsN x.types)).length ≤ _
          rw [loadTo_len]
          exact hd
    refine ⟨A, c, rfl, ⟨Ints.of_own hown (show o.load.length ≤ _ by omega), fun h0 => ?_⟩, hl.2, hb⟩
    obtain ⟨g, cap, hv, hgb, _⟩ := hown.form h0
    injection hv with hv
    exact ⟨_, hv, hgb⟩
/-- The number of one of n. -/
def oneV (s : Int) (n : Nat) : Int := if n = 0 then 0 else frm s 0 ((n : Int) - 1)
def oneS (s : Int) (n : Nat) : Int := if n = 0 then s else nx 1 s
theorem oneV_bd (s : Int) (n : Nat) (h : n ≤ 1000000) : 0 ≤ oneV s n ∧ oneV s n ≤ 1000000 := by
  unfold oneV
  split
  · omega
  · have := frm_bd (s := s) (a := 0) (b := (n : Int) - 1) (by omega)
    omega
def drawE (now kind a b n : Int) : Evt := ⟨now, kind, a, b, n, zeroO⟩
/-- The event drawn: the event, whether there is one, the next state. -/
def evD (x : Ins) (now kind s : Int) : Evt × Bool × Int :=
  if kind = 1 then (⟨now, 1, 0, 0, 0, (ordQ s x).1⟩, (ordQ s x).2 == 0, rnd.nxt s)
  else if kind = 2 then (drawE now 2 (oneV s x.orders.length) 0 0, true, oneS s x.orders.length)
  else if kind = 3 then (drawE now 3 (oneV s x.net.places.length) (oneV (oneS s x.net.places.length) x.net.places.length) (frm (oneS (oneS s x.net.places.length) x.net.places.length) 1 60), true, nx 1 (oneS (oneS s x.net.places.length) x.net.places.length))
  else if kind = 4 then (drawE now 4 (oneV s x.types.length) 0 0, true, oneS s x.types.length)
  else (drawE now 5 (oneV s x.orders.length) 0 (frm (oneS s x.orders.length) (-30) 30), true, nx 1 (oneS s x.orders.length))
set_option maxRecDepth 20000 in
theorem one_any (p : Nat) (s : Int) (b n : Nat) (w : World) (h : Boxed w p 48 (.int .i64 s)) (hb : w.cell? ⟨b, 0, none⟩ = some (.pointer (some ⟨p, 0, none⟩))) (hn : n ≤ 1000000) :
    Calls Tryd.prog 28 #[.int .i64 n, .pointer (some ⟨b, 0, none⟩)] w (DrawOut 48 p (.int .i64 (oneV s n)) (oneS s n) w) := by
  have H := Lib.hid h
  clear h
  by_cases h0 : n = 0
  · subst h0
    have HV : Hid (oneV s 0 = 0 ∧ oneS s 0 = s) := Lib.hid ⟨rfl, rfl⟩
    go_enter Tryd.func28, Tryd.ntmps28
    go_wp2_with fail
    go_ret
    rw [HV.out.1, HV.out.2]
    exact ⟨rfl, H.out, World.grownBy.refl _ _⟩
  · have HV : Hid (oneV s n = frm s 0 ((n : Int) - 1) ∧ oneS s n = nx 1 s) := Lib.hid ⟨by unfold oneV; rw [if_neg h0], by unfold oneS; rw [if_neg h0]⟩
    have hnn : ((n : Int) == 0) = false := by simp; omega
    have hn1 : (1 : Int) ≤ n := by omega
    rw [HV.out.1, HV.out.2]
    go_enter Tryd.func28, Tryd.ntmps28
    go_wp2_with fail
    refine (from_any p s 0 ((n : Int) - 1) w H.out (by omega) (by omega) (by omega)).mono ?_
    rintro e w1 ⟨rfl, hbx, hgr⟩
    have HB := Lib.hid (And.intro hbx hgr)
    clear hbx hgr
    go_wp2_with fail
    go_ret
    exact ⟨rfl, HB.out.1, HB.out.2⟩
theorem blk_setCells {b : Nat} {t : TypeId} : ∀ (vs : List Value) (o : Nat) (w : World) (cs : List Value), Blk w b t cs → Blk (w.setCells b o vs) b t (setM cs o vs)
  | [], o, w, cs, h => h
  | v :: r, o, w, cs, h => blk_setCells r (o + 1) _ _ (h.set o v)
theorem grown_setCells {b : Nat} : ∀ (vs : List Value) (o : Nat) (w : World), w.grownBy (w.setCells b o vs) (some b)
  | [], o, w => World.grownBy.refl _ _
  | v :: r, o, w => (grownBy_set w b o v).trans (grown_setCells r (o + 1) _)
theorem blk_there {w : World} {b : Nat} {t : TypeId} {cs : List Value} {o n : Nat} (h : Blk w b t cs) (hn : o + n ≤ cs.length) : w.there b o n := fun j hj => by
  refine ⟨?_, h.frozen _⟩
  rw [h.cell (j := o + j) (List.getElem?_eq_getElem (by omega))]
  rfl
/-- Where a call that draws an event stands. -/
structure DSt (x : Ins) (P : InP) (W : World) (p : Nat) (s : Int) (cs : List Value) (wx : World) : Prop where
  gs : GS W p 48 s wx
  bp : Blk wx W.heap.size 46 [.pointer (some ⟨p, 0, none⟩)]
  bx : Blk wx (W.heap.size + 1) 30 (insCs x P)
  br : Blk wx (W.heap.size + 2) 42 (EvtCells (drawE 0 0 0 0 0) none 0)
  be : Blk wx (W.heap.size + 3) 42 cs
section
variable {x : Ins} {P : InP} {W wx wy : World} {p : Nat} {s s' : Int} {cs : List Value}
theorem DSt.draw (h : DSt x P W p s cs wx) (hb : Boxed wy p 48 (.int .i64 s')) (hg : wx.grownBy wy (some p)) : DSt x P W p s' cs wy := by
  have hp := h.gs.lt
  exact ⟨h.gs.draw hb hg, h.bp.kept hg (fun e => by injection e; omega), h.bx.kept hg (fun e => by injection e; omega), h.br.kept hg (fun e => by injection e; omega), h.be.kept hg (fun e => by injection e; omega)⟩
theorem DSt.below (h : DSt x P W p s cs wx) (hb : Below wx.heap.size wx wy) : DSt x P W p s cs wy := ⟨h.gs.below hb, h.bp.below hb, h.bx.below hb, h.br.below hb, h.be.below hb⟩
theorem DSt.set (h : DSt x P W p s cs wx) (i : Nat) (u : Value) : DSt x P W p s (cs.set i u) (wx.setCell ⟨W.heap.size + 3, i, none⟩ u) :=
  ⟨h.gs.set (by omega) i u, blk_other h.bp (by omega) i u, blk_other h.bx (by omega) i u, blk_other h.br (by omega) i u, h.be.set i u⟩
theorem DSt.setM (h : DSt x P W p s cs wx) (o : Nat) (vs : List Value) : DSt x P W p s (setM cs o vs) (wx.setCells (W.heap.size + 3) o vs) := by
  have hg := grown_setCells (b := W.heap.size + 3) vs o wx
  have hp := h.gs.lt
  exact ⟨h.gs.grow hg (fun k e => by injection e; omega), h.bp.kept hg (fun e => by injection e; omega), h.bx.kept hg (fun e => by injection e; omega), h.br.kept hg (fun e => by injection e; omega), blk_setCells vs o wx cs h.be⟩
end
/-- What a call that draws an event answers. -/
def EvOut (w : World) (p : Nat) (r : Evt × Bool × Int) (e : Ending) (w' : World) : Prop := ∃ C c, e = .returned (.tuple #[.agg (EvtCells r.1 C c).toArray, .bool r.2.1]) ∧ Ints w' w'.heap.size C r.1.order.load ∧ Boxed w' p 48 (.int .i64 r.2.2) ∧ w.grownBy w' (some p)
theorem bEvt : BuildOf 42 (.agg (EvtCells (drawE 0 0 0 0 0) none 0).toArray) #[(0, 1), (1, 1), (2, 1), (3, 1), (4, 1), (5, 16)] := ⟨⟨_, Tryd.underlying42, fun w => by kernel_rfl⟩, fun w => by kernel_rfl⟩
theorem evt_fill (now kind : Int) : Instr.fill ((#[(0, 1), (1, 1), (2, 1), (3, 1), (4, 1), (5, 16)] : Array (Nat × Nat))[·]?) (Value.agg (EvtCells (drawE 0 0 0 0 0) none 0).toArray).cells [(0, .int .i64 now), (1, .int .i64 kind)] = some (EvtCells (drawE now kind 0 0 0) none 0).toArray := by kernel_rfl
theorem evtCells_one (e : Evt) (C : Option Addr) (c : Nat) : ∀ u ∈ EvtCells e C c, u.oneCell' = true := fun u hu => by
  simp only [EvtCells, List.mem_cons, List.not_mem_nil, or_false] at hu
  rcases hu with rfl | rfl | rfl | rfl | rfl | rfl | rfl | rfl | rfl | rfl | rfl | rfl | rfl | rfl | rfl | rfl | rfl | rfl | rfl | rfl | rfl <;> rfl
set_option maxRecDepth 20000 in
set_option maxHeartbeats 8000000 in
theorem drawn_any (p : Nat) (s : Int) (x : Ins) (P : InP) (now kind : Int) (w : World) (h : Boxed w p 48 (.int .i64 s)) (B : Nat) (hB : B ≤ p) (hI : InAt w B x P) (hd : flt.dimsN x.types ≤ 1000) (hpl : x.net.places.length ≤ 1000000) (hol : x.orders.length ≤ 1000000) (htl : x.types.length ≤ 1000000) (hk : 1 ≤ kind ∧ kind ≤ 5) (hnow : 0 ≤ now ∧ now ≤ 4096) :
    Calls Tryd.prog 18 #[.pointer (some ⟨p, 0, none⟩), InV x P, .int .i64 now, .int .i64 kind] w (EvOut w p (evD x now kind s)) := by
  have hlt := h.lt
  have HG0 := Lib.hid (GS.start h)
  have HII := Lib.hid hI
  clear h hI
  simp only [InV]
  go_enter Tryd.func18, Tryd.ntmps18
  go_upto_region 1 with fail
  obtain ⟨W0, hW0⟩ : ∃ W0, ((w.alloc (.cells #[.pointer (some ⟨p, 0, none⟩)] 46)).alloc (.cells (insCs x P).toArray 30)).alloc (.cells (EvtCells (drawE 0 0 0 0 0) none 0).toArray 42) = W0 := ⟨_, rfl⟩
  have hW0' : ((w.alloc (.cells #[.pointer (some ⟨p, 0, none⟩)] 46)).alloc (.cells #[.slice P.a0 x.net.places.length P.c0, .slice P.a1 x.net.arcs.length P.c1, .slice P.a2 x.types.length P.c2, .slice P.a3 x.orders.length P.c3, .slice P.a4 x.apart.length P.c4, .slice P.a5 x.before.length P.c5] 30)).alloc (.cells #[.int .i64 0, .int .i64 0, .int .i64 0, .int .i64 0, .int .i64 0, .string ⟨#[]⟩, .slice none 0 0, .int .i64 0, .int .i64 0, .int .i64 0, .int .i64 0, .int .i64 0, .int .i64 0, .int .i64 0, .int .i64 0, .int .i64 0, .int .i64 0, .int .i64 0, .int .i64 0, .int .i64 0, .bool false] 42) = W0 := hW0
  rw [hW0']
  have HB0 : Hid (Blk W0 w.heap.size 46 [.pointer (some ⟨p, 0, none⟩)] ∧ Blk W0 (w.heap.size + 1) 30 (insCs x P) ∧ Blk W0 (w.heap.size + 2) 42 (EvtCells (drawE 0 0 0 0 0) none 0) ∧ GS w p 48 s W0 ∧ W0.heap.size = w.heap.size + 3) := Lib.hid (by
    obtain ⟨w1, e1⟩ : ∃ W, w.alloc (.cells #[.pointer (some ⟨p, 0, none⟩)] 46) = W := ⟨_, rfl⟩
    obtain ⟨w2, e2⟩ : ∃ W, w1.alloc (.cells (insCs x P).toArray 30) = W := ⟨_, rfl⟩
    rw [e1, e2] at hW0
    have z1 : w1.heap.size = w.heap.size + 1 := by rw [← e1]; simp
    have z2 : w2.heap.size = w.heap.size + 2 := by rw [← e2]; simp; omega
    have z3 : W0.heap.size = w.heap.size + 3 := by rw [← hW0]; simp; omega
    have b1 : Blk w1 w.heap.size 46 [.pointer (some ⟨p, 0, none⟩)] := by rw [← e1]; exact Blk.new w _ _
    have b2 : Blk w2 (w.heap.size + 1) 30 (insCs x P) := by rw [← e2, ← z1]; exact Blk.new w1 _ _
    have b3 : Blk W0 (w.heap.size + 2) 42 (EvtCells (drawE 0 0 0 0 0) none 0) := by rw [← hW0, ← z2]; exact Blk.new w2 _ _
    have l2 : Below w1.heap.size w1 w2 := by rw [← e2]; exact (Below.refl _ _).alloc (Nat.le_refl _) _
    have l3 : Below w2.heap.size w2 W0 := by rw [← hW0]; exact (Below.refl _ _).alloc (Nat.le_refl _) _
    have g1 : GS w p 48 s w1 := by rw [← e1]; exact HG0.out.alloc _
    exact ⟨(b1.below l2).below l3, b2.below l3, b3, (g1.below l2).below l3, z3⟩)
  clear hW0 hW0' HG0
  go_upto_region 2 with (first
    | ((with_reducible refine wpList_buildL bEvt rfl [(0, .tmp 14), (1, .tmp 15)] rfl [(0, .int .i64 now), (1, .int .i64 kind)] (EvtCells (drawE now kind 0 0 0) none 0) ?_ (evt_fill now kind) ?_); exact rfl)
    | ((with_reducible refine wpList_storeL stEvt rfl _ _ rfl W0.heap.size (EvtCells (drawE 0 0 0 0 0) none 0) (EvtCells (drawE now kind 0 0 0) none 0) ?_ ?_ ?_ ?_ ?_ (evtCells_one _ _ _) ?_); exact rfl; exact rfl; exact Blk.new W0 _ _; exact rfl; exact rfl; intro W1 k1 k2 k3 k4; have K := Lib.hid (And.intro k1 (And.intro k2 (And.intro k3 k4))); clear k1 k2 k3 k4))
  have HD0 : Hid (DSt x P w p s (EvtCells (drawE now kind 0 0 0) none 0) W1) := Lib.hid (by
    obtain ⟨b1, b2, b3, g1, z3⟩ := HB0.out
    have bl : Below W0.heap.size W0 W1 := ((Below.refl _ _).alloc (Nat.le_refl _) _).trans K.out.2.2.2
    exact ⟨g1.below bl, b1.below bl, b2.below bl, b3.below bl, by rw [← z3]; exact K.out.1⟩)
  have z3 := HB0.out.2.2.2.2
  rw [z3]
  clear K HB0 z3
  have hk5 : kind = 1 ∨ kind = 2 ∨ kind = 3 ∨ kind = 4 ∨ kind = 5 := by omega
  clear hk
  rcases hk5 with rfl | rfl | rfl | rfl | rfl
  · as_aux_lemma =>
      have HEV : Hid (evD x now 1 s = (⟨now, 1, 0, 0, 0, (ordQ s x).1⟩, (ordQ s x).2 == 0, rnd.nxt s)) := Lib.hid (by unfold evD; rw [if_pos rfl])
      obtain ⟨o, ho⟩ : ∃ o, (ordQ s x).1 = o := ⟨_, rfl⟩
      obtain ⟨kq, hkq⟩ : ∃ k, (ordQ s x).2 = k := ⟨_, rfl⟩
      obtain ⟨M, hM⟩ : ∃ M, W1.heap.size = M := ⟨_, rfl⟩
      have HM := Lib.hid hM
      have hbe9 := HD0.out.be.lt
      have HOQ : Hid (∀ w', Below W1.heap.size W1 w' → Calls Tryd.prog 11 #[.int .i64 s, .agg (insCs x P).toArray] w' fun e w2 => ∃ A c, e = .returned (.tuple #[.agg (OrdCells o A c).toArray, .int .i64 kq]) ∧ IntsOff w2 (fun b => w'.heap.size ≤ b) A o.load ∧ OrdFits o ∧ Below w'.heap.size w' w2) := Lib.hid (fun w' hb => by
        have hbw : Below B w w' := (HD0.out.gs.bel hB).trans (hb.mono (by have := HD0.out.gs.size; omega))
        have hsz := hb.size
        refine (order_any s x P w' ((HII.out.below hbw).more (by have := HD0.out.gs.size; omega)) hd hpl).mono ?_
        intro e w2 h2
        obtain ⟨A, c, h3, h4, h5, h6⟩ := ordQ_out hd hpl h2
        rw [ho] at h3 h4 h5
        rw [hkq] at h3
        exact ⟨A, c, h3, h4, h5, h6⟩)
      rw [ho, hkq] at HEV
      clear ho hkq hM
      go_upto_region 5 with fail
      go_cut [12, 13] (fun v e wx => ∃ (q : Nat) (Ao : Option Addr) (co : Nat), v = .pointer (some ⟨q, 0, none⟩) ∧ e = .int .i64 kq ∧ M ≤ q ∧ Blk wx q 40 (OrdCells o Ao co) ∧ IntsOff wx (fun b => M ≤ b) Ao o.load ∧ OrdFits o ∧ DSt x P w p s (EvtCells (drawE now 1 0 0 0) none 0) wx)
      case first => as_aux_lemma =>
        have HSS : Hid (∀ w', Below W1.heap.size W1 w' → w'.cell? ⟨w.heap.size, 0, none⟩ = some (.pointer (some ⟨p, 0, none⟩)) ∧ w'.cell? ⟨p, 0, none⟩ = some (.int .i64 s) ∧ CellsAt w' ⟨w.heap.size + 1, 0, none⟩ (insCs x P)) := Lib.hid (fun w' hb => by
          have h := HD0.out.below hb
          exact ⟨h.bp.cell (j := 0) rfl, h.gs.box.cell, h.bx.cells⟩)
        (refine wp_region_held_drew (S := (fun w' => w'.cell? ⟨w.heap.size, 0, none⟩ = some (.pointer (some ⟨p, 0, none⟩)) ∧ w'.cell? ⟨p, 0, none⟩ = some (.int .i64 s) ∧ CellsAt w' ⟨w.heap.size + 1, 0, none⟩ (insCs x P))) (by kernel_rfl) ?_ (fun hHeld => ?_))
        · exact HSS.out _ (Below.refl _ _).drew
        (refine wpAnyH_take (i := 0) (v := ?_) rfl (by kernel_rfl) (by kernel_rfl) (by kernel_rfl) (fun _ _ _ h => h) (Or.inl ⟨by kernel_rfl, ?_⟩) (by assumption) ?_; rotate_left; (focus (intro w hSw; (try dsimp only at hSw); go_simp; all_goals with_reducible rfl)); (try simp only [Act.put, List.getElem_toArray, List.getElem_cons_succ, List.getElem_cons_zero, List.setIfInBounds_toArray, List.set_cons_zero, List.set_cons_succ]))
        (refine wpAnyH_take (i := 1) (v := ?_) rfl (by kernel_rfl) (by kernel_rfl) (by kernel_rfl) (fun _ _ _ h => h) (Or.inl ⟨by kernel_rfl, ?_⟩) (by assumption) ?_; rotate_left; (focus (intro w hSw; (try dsimp only at hSw); go_simp; all_goals with_reducible rfl)); (try simp only [Act.put, List.getElem_toArray, List.getElem_cons_succ, List.getElem_cons_zero, List.setIfInBounds_toArray, List.set_cons_zero, List.set_cons_succ]))
        (refine wpAnyH_take (i := 2) (v := ?_) rfl (by kernel_rfl) (by kernel_rfl) (by kernel_rfl) (fun _ _ _ h => h) (Or.inl ⟨by kernel_rfl, ?_⟩) (by assumption) ?_; rotate_left; (focus (intro w hSw; (try dsimp only at hSw); go_simp; all_goals with_reducible rfl)); (try simp only [Act.put, List.getElem_toArray, List.getElem_cons_succ, List.getElem_cons_zero, List.setIfInBounds_toArray, List.set_cons_zero, List.set_cons_succ]))
        (refine wpAnyH_take (i := 3) (v := ?_) rfl (by kernel_rfl) (by kernel_rfl) (by kernel_rfl) (fun _ _ _ h => h) (Or.inl ⟨by kernel_rfl, ?_⟩) (by assumption) ?_; rotate_left; (focus (intro w hSw; (try dsimp only at hSw); go_simp; all_goals with_reducible rfl)); (try simp only [Act.put, List.getElem_toArray, List.getElem_cons_succ, List.getElem_cons_zero, List.setIfInBounds_toArray, List.set_cons_zero, List.set_cons_succ]))
        (refine wpAnyH_take (i := 4) (v := _) rfl (by kernel_rfl) (by kernel_rfl) (by kernel_rfl) (fun _ _ _ h => h) (Or.inl ⟨by kernel_rfl, fun _ hSw => exec_loadS stIns rfl rfl hSw.2.2 rfl⟩) (by assumption) ?_; (try simp only [Act.put, List.getElem_toArray, List.getElem_cons_succ, List.getElem_cons_zero, List.setIfInBounds_toArray, List.set_cons_zero, List.set_cons_succ]))
        refine wpAnyH_ready (rs := [5, 9]) (by kernel_rfl) (by simp) ?_
        refine AllReadyH.cons rfl (fun K hK => ?_) (AllReadyH.cons rfl (fun K hK => ?_) AllReadyH.nil)
        · go_simp
          refine (HOQ.out _ (Below.refl _ _).drew).mono ?_
          rintro e w2 ⟨Ao, co, rfl, hio, hof, hb⟩
          have BA : Below W1.heap.size W1 w2 := ((Below.refl _ _).drew).trans hb
          have HIO := Lib.hid (And.intro hio hof)
          clear hio hof hb
          refine hK.out _ _ (HSS.out _ BA) (fun hHeld => ?_)
          clear hK K
          (try simp only [Act.put, List.getElem_toArray, List.getElem_cons_succ, List.getElem_cons_zero, List.setIfInBounds_toArray, List.set_cons_zero, List.set_cons_succ])
          (refine wpAnyH_take (i := 6) (v := ?_) rfl (by kernel_rfl) (by kernel_rfl) (by kernel_rfl) (fun _ _ _ h => h) (Or.inl ⟨by kernel_rfl, ?_⟩) (by assumption) ?_; rotate_left; (focus (intro w hSw; (try dsimp only at hSw); go_simp; all_goals with_reducible rfl)); (try simp only [Act.put, List.getElem_toArray, List.getElem_cons_succ, List.getElem_cons_zero, List.setIfInBounds_toArray, List.set_cons_zero, List.set_cons_succ]))
          (refine wpAnyH_take (i := 7) (v := ?_) rfl (by kernel_rfl) (by kernel_rfl) (by kernel_rfl) (fun _ _ _ h => h) (Or.inl ⟨by kernel_rfl, ?_⟩) (by assumption) ?_; rotate_left; (focus (intro w hSw; (try dsimp only at hSw); go_simp; all_goals with_reducible rfl)); (try simp only [Act.put, List.getElem_toArray, List.getElem_cons_succ, List.getElem_cons_zero, List.setIfInBounds_toArray, List.set_cons_zero, List.set_cons_succ]))
          (refine wpAnyH_take (i := 8) (v := ?_) rfl (by kernel_rfl) (by kernel_rfl) (by kernel_rfl) (fun _ _ _ h => h) (Or.inl ⟨by kernel_rfl, ?_⟩) (by assumption) ?_; rotate_left; (focus (intro w hSw; (try dsimp only at hSw); go_simp; all_goals with_reducible rfl)); (try simp only [Act.put, List.getElem_toArray, List.getElem_cons_succ, List.getElem_cons_zero, List.setIfInBounds_toArray, List.set_cons_zero, List.set_cons_succ]))
          (refine wpAnyH_ready (rs := [9]) (by kernel_rfl) (by simp) ?_; refine AllReadyH.cons rfl (fun K hK => ?_) AllReadyH.nil)
          go_simp
          have BB : Below W1.heap.size W1 (w2.alloc (.cells gen.zOrd.toArray 40)) := BA.alloc BA.size _
          refine hK.out _ _ (HSS.out _ BB) (fun hHeld => ?_)
          clear hK K
          (try simp only [Act.put, List.getElem_toArray, List.getElem_cons_succ, List.getElem_cons_zero, List.setIfInBounds_toArray, List.set_cons_zero, List.set_cons_succ])
          (refine wpAnyH_ready (rs := [10]) (by kernel_rfl) (by simp) ?_; refine AllReadyH.cons rfl (fun K hK => ?_) AllReadyH.nil)
          refine step_storeL stOrd' rfl _ _ rfl (w2.heap.size) gen.zOrd (OrdCells o Ao co) rfl rfl (Blk.new w2 _ gen.zOrd) rfl rfl (ordCells_one o Ao co) ?_
          intro w8 k1 k2 k3 k4
          have B8 : Below W1.heap.size W1 w8 := (BB).trans (k4.mono (BA.size))
          have H8 : Hid (M ≤ w2.heap.size ∧ Blk w8 (w2.heap.size) 40 (OrdCells o Ao co) ∧ IntsOff w8 (fun b => M ≤ b) Ao o.load ∧ OrdFits o ∧ DSt x P w p s (EvtCells (drawE now 1 0 0 0) none 0) w8) := Lib.hid ⟨by rw [← HM.out]; exact BA.size, k1, intsOff_keep HIO.out.1 (Nat.le_trans (by simp) k4.size) (fun b hb hp => ⟨by have h : W1.heap.size ≤ b := hp; have := HM.out; omega, (k2 b (Nat.ne_of_lt hb)).trans (Below.heap_alloc _ _ _ hb)⟩), HIO.out.2, HD0.out.below B8⟩
          clear k1 k2 k3 k4
          refine hK.out _ _ (HSS.out _ B8) (fun hHeld => ?_)
          clear hK K
          (try simp only [Act.put, List.getElem_toArray, List.getElem_cons_succ, List.getElem_cons_zero, List.setIfInBounds_toArray, List.set_cons_zero, List.set_cons_succ])
          (refine wpAnyH_take (i := 11) (v := ?_) rfl (by kernel_rfl) (by kernel_rfl) (by kernel_rfl) (fun _ _ _ h => h) (Or.inl ⟨by kernel_rfl, ?_⟩) (by assumption) ?_; rotate_left; (focus (intro w hSw; (try dsimp only at hSw); go_simp; all_goals with_reducible rfl)); (try simp only [Act.put, List.getElem_toArray, List.getElem_cons_succ, List.getElem_cons_zero, List.setIfInBounds_toArray, List.set_cons_zero, List.set_cons_succ]))
          (refine wpAnyH_done (by kernel_rfl) ?_ _)
          go_wp2
          go_meet
          exact ⟨_, Ao, co, rfl, rfl, H8.out.1, H8.out.2.1, H8.out.2.2.1, H8.out.2.2.2.1, H8.out.2.2.2.2⟩
        · go_simp
          have BA : Below W1.heap.size W1 (W1.drew.alloc (.cells gen.zOrd.toArray 40)) := ((Below.refl _ _).drew).alloc (Nat.le_refl _) _
          have HBN : Hid (Blk (W1.drew.alloc (.cells gen.zOrd.toArray 40)) W1.drew.heap.size 40 gen.zOrd) := Lib.hid (Blk.new W1.drew _ gen.zOrd)
          refine hK.out _ _ (HSS.out _ BA) (fun hHeld => ?_)
          clear hK K
          (try simp only [Act.put, List.getElem_toArray, List.getElem_cons_succ, List.getElem_cons_zero, List.setIfInBounds_toArray, List.set_cons_zero, List.set_cons_succ])
          (refine wpAnyH_ready (rs := [5]) (by kernel_rfl) (by simp) ?_; refine AllReadyH.cons rfl (fun K hK => ?_) AllReadyH.nil)
          go_simp
          refine (HOQ.out _ BA).mono ?_
          rintro e w2 ⟨Ao, co, rfl, hio, hof, hb⟩
          have BB : Below W1.heap.size W1 w2 := BA.trans (hb.mono BA.size)
          have HIO := Lib.hid (And.intro hio hof)
          have HB1 := Lib.hid (HBN.out.below hb)
          clear hio hof hb
          refine hK.out _ _ (HSS.out _ BB) (fun hHeld => ?_)
          clear hK K
          (try simp only [Act.put, List.getElem_toArray, List.getElem_cons_succ, List.getElem_cons_zero, List.setIfInBounds_toArray, List.set_cons_zero, List.set_cons_succ])
          (refine wpAnyH_take (i := 6) (v := ?_) rfl (by kernel_rfl) (by kernel_rfl) (by kernel_rfl) (fun _ _ _ h => h) (Or.inl ⟨by kernel_rfl, ?_⟩) (by assumption) ?_; rotate_left; (focus (intro w hSw; (try dsimp only at hSw); go_simp; all_goals with_reducible rfl)); (try simp only [Act.put, List.getElem_toArray, List.getElem_cons_succ, List.getElem_cons_zero, List.setIfInBounds_toArray, List.set_cons_zero, List.set_cons_succ]))
          (refine wpAnyH_take (i := 7) (v := ?_) rfl (by kernel_rfl) (by kernel_rfl) (by kernel_rfl) (fun _ _ _ h => h) (Or.inl ⟨by kernel_rfl, ?_⟩) (by assumption) ?_; rotate_left; (focus (intro w hSw; (try dsimp only at hSw); go_simp; all_goals with_reducible rfl)); (try simp only [Act.put, List.getElem_toArray, List.getElem_cons_succ, List.getElem_cons_zero, List.setIfInBounds_toArray, List.set_cons_zero, List.set_cons_succ]))
          (refine wpAnyH_take (i := 8) (v := ?_) rfl (by kernel_rfl) (by kernel_rfl) (by kernel_rfl) (fun _ _ _ h => h) (Or.inl ⟨by kernel_rfl, ?_⟩) (by assumption) ?_; rotate_left; (focus (intro w hSw; (try dsimp only at hSw); go_simp; all_goals with_reducible rfl)); (try simp only [Act.put, List.getElem_toArray, List.getElem_cons_succ, List.getElem_cons_zero, List.setIfInBounds_toArray, List.set_cons_zero, List.set_cons_succ]))
          (refine wpAnyH_ready (rs := [10]) (by kernel_rfl) (by simp) ?_; refine AllReadyH.cons rfl (fun K hK => ?_) AllReadyH.nil)
          refine step_storeL stOrd' rfl _ _ rfl (W1.drew.heap.size) gen.zOrd (OrdCells o Ao co) rfl rfl (HB1.out) rfl rfl (ordCells_one o Ao co) ?_
          intro w8 k1 k2 k3 k4
          have B8 : Below W1.heap.size W1 w8 := (BB).trans (k4.mono (Nat.le_refl _))
          have H8 : Hid (M ≤ W1.drew.heap.size ∧ Blk w8 (W1.drew.heap.size) 40 (OrdCells o Ao co) ∧ IntsOff w8 (fun b => M ≤ b) Ao o.load ∧ OrdFits o ∧ DSt x P w p s (EvtCells (drawE now 1 0 0 0) none 0) w8) := Lib.hid ⟨by rw [← HM.out]; exact Nat.le_refl _, k1, intsOff_keep HIO.out.1 (by rw [k3]; exact Nat.le_refl _) (fun b hb hp => by
                      have h : (W1.drew.alloc (.cells gen.zOrd.toArray 40)).heap.size ≤ b := hp
                      simp at h
                      have := HM.out
                      exact ⟨by omega, k2 b (by show b ≠ W1.heap.size; omega)⟩), HIO.out.2, HD0.out.below B8⟩
          clear k1 k2 k3 k4
          refine hK.out _ _ (HSS.out _ B8) (fun hHeld => ?_)
          clear hK K
          (try simp only [Act.put, List.getElem_toArray, List.getElem_cons_succ, List.getElem_cons_zero, List.setIfInBounds_toArray, List.set_cons_zero, List.set_cons_succ])
          (refine wpAnyH_take (i := 11) (v := ?_) rfl (by kernel_rfl) (by kernel_rfl) (by kernel_rfl) (fun _ _ _ h => h) (Or.inl ⟨by kernel_rfl, ?_⟩) (by assumption) ?_; rotate_left; (focus (intro w hSw; (try dsimp only at hSw); go_simp; all_goals with_reducible rfl)); (try simp only [Act.put, List.getElem_toArray, List.getElem_cons_succ, List.getElem_cons_zero, List.setIfInBounds_toArray, List.set_cons_zero, List.set_cons_succ]))
          (refine wpAnyH_done (by kernel_rfl) ?_ _)
          go_wp2
          go_meet
          exact ⟨_, Ao, co, rfl, rfl, H8.out.1, H8.out.2.1, H8.out.2.2.1, H8.out.2.2.2.1, H8.out.2.2.2.2⟩
      obtain ⟨q, Ao, co, hv1, hv2, hqM, hb8, hio8, hof8, hd8⟩ := hcut
      subst hv1
      subst hv2
      have H8 := Lib.hid (And.intro hb8 (And.intro hio8 (And.intro hof8 hd8)))
      clear hb8 hio8 hof8 hd8 HOQ HD0
      go_upto_region 6 with fail
      (refine wp_region_held_drew (S := (fun w' => w'.cell? ⟨w.heap.size, 0, none⟩ = some (.pointer (some ⟨p, 0, none⟩)))) (by kernel_rfl) ?_ (fun hHeld => ?_))
      · exact (H8.out.2.2.2.below (Below.refl _ _).drew).bp.cell (j := 0) rfl
      (refine wpAnyH_take (i := 0) (v := ?_) rfl (by kernel_rfl) (by kernel_rfl) (by kernel_rfl) (fun _ _ _ h => h) (Or.inl ⟨by kernel_rfl, ?_⟩) (by assumption) ?_; rotate_left; (focus (intro w hSw; (try dsimp only at hSw); go_simp; all_goals with_reducible rfl)); (try simp only [Act.put, List.getElem_toArray, List.getElem_cons_succ, List.getElem_cons_zero, List.setIfInBounds_toArray, List.set_cons_zero, List.set_cons_succ]))
      (refine wpAnyH_take (i := 1) (v := ?_) rfl (by kernel_rfl) (by kernel_rfl) (by kernel_rfl) (fun _ _ _ h => h) (Or.inl ⟨by kernel_rfl, ?_⟩) (by assumption) ?_; rotate_left; (focus (intro w hSw; (try dsimp only at hSw); go_simp; all_goals with_reducible rfl)); (try simp only [Act.put, List.getElem_toArray, List.getElem_cons_succ, List.getElem_cons_zero, List.setIfInBounds_toArray, List.set_cons_zero, List.set_cons_succ]))
      (refine wpAnyH_take (i := 2) (v := ?_) rfl (by kernel_rfl) (by kernel_rfl) (by kernel_rfl) (fun _ _ _ h => h) (Or.inl ⟨by kernel_rfl, ?_⟩) (by assumption) ?_; rotate_left; (focus (intro w hSw; (try dsimp only at hSw); go_simp; all_goals with_reducible rfl)); (try simp only [Act.put, List.getElem_toArray, List.getElem_cons_succ, List.getElem_cons_zero, List.setIfInBounds_toArray, List.set_cons_zero, List.set_cons_succ]))
      (refine wpAnyH_take (i := 3) (v := ?_) rfl (by kernel_rfl) (by kernel_rfl) (by kernel_rfl) (fun _ _ _ h => h) (Or.inl ⟨by kernel_rfl, ?_⟩) (by assumption) ?_; rotate_left; (focus (intro w hSw; (try dsimp only at hSw); go_simp; all_goals with_reducible rfl)); (try simp only [Act.put, List.getElem_toArray, List.getElem_cons_succ, List.getElem_cons_zero, List.setIfInBounds_toArray, List.set_cons_zero, List.set_cons_succ]))
      have cp : wc.drew.cell? ⟨p, 0, none⟩ = some (.int .i64 s) := H8.out.2.2.2.gs.box.cell
      (refine wpAnyH_ready (rs := [4]) (by kernel_rfl) (by simp) ?_; refine AllReadyH.cons rfl (fun K hK => ?_) AllReadyH.nil)
      go_simp
      clear cp
      refine hK.out _ _ ((H8.out.2.2.2.below (Below.refl _ _).drew).bp.cell (j := 0) rfl) (fun hHeld => ?_)
      clear hK K
      (try simp only [Act.put, List.getElem_toArray, List.getElem_cons_succ, List.getElem_cons_zero, List.setIfInBounds_toArray, List.set_cons_zero, List.set_cons_succ])
      (refine wpAnyH_ready (rs := [5]) (by kernel_rfl) (by simp) ?_; refine AllReadyH.cons rfl (fun K hK => ?_) AllReadyH.nil)
      go_simp
      refine (rnd.next_any s _).mono ?_
      rintro e wn ⟨rfl, rfl⟩
      refine hK.out _ _ ((H8.out.2.2.2.below (Below.refl _ _).drew).bp.cell (j := 0) rfl) (fun hHeld => ?_)
      clear hK K
      (try simp only [Act.put, List.getElem_toArray, List.getElem_cons_succ, List.getElem_cons_zero, List.setIfInBounds_toArray, List.set_cons_zero, List.set_cons_succ])
      (refine wpAnyH_take (i := 6) (v := ?_) rfl (by kernel_rfl) (by kernel_rfl) (by kernel_rfl) (fun _ _ _ h => h) (Or.inl ⟨by kernel_rfl, ?_⟩) (by assumption) ?_; rotate_left; (focus (intro w hSw; (try dsimp only at hSw); go_simp; all_goals with_reducible rfl)); (try simp only [Act.put, List.getElem_toArray, List.getElem_cons_succ, List.getElem_cons_zero, List.setIfInBounds_toArray, List.set_cons_zero, List.set_cons_succ]))
      (refine wpAnyH_take (i := 7) (v := ?_) rfl (by kernel_rfl) (by kernel_rfl) (by kernel_rfl) (fun _ _ _ h => h) (Or.inl ⟨by kernel_rfl, ?_⟩) (by assumption) ?_; rotate_left; (focus (intro w hSw; (try dsimp only at hSw); go_simp; all_goals with_reducible rfl)); (try simp only [Act.put, List.getElem_toArray, List.getElem_cons_succ, List.getElem_cons_zero, List.setIfInBounds_toArray, List.set_cons_zero, List.set_cons_succ]))
      have cp : wc.drew.cell? ⟨p, 0, none⟩ = some (.int .i64 s) := H8.out.2.2.2.gs.box.cell
      have fp : wc.drew.frozen? ⟨p, 0, none⟩ = false := H8.out.2.2.2.gs.box.frozen
      (refine wpAnyH_ready (rs := [8]) (by kernel_rfl) (by simp) ?_; refine AllReadyH.cons rfl (fun K hK => ?_) AllReadyH.nil)
      go_simp
      clear cp fp
      obtain ⟨W7, hW7⟩ : ∃ W, (wc.setCell ⟨p, 0, none⟩ (.int .i64 (rnd.nxt s))).drew = W := ⟨_, rfl⟩
      rw [hW7]
      have hMp : p < M := by have h1 := HM.out; omega
      have hM3 : w.heap.size + 3 < M := by rw [← HM.out]; exact hbe9
      have H9 : Hid (Blk W7 q 40 (OrdCells o Ao co) ∧ IntsOff W7 (fun b => M ≤ b) Ao o.load ∧ DSt x P w p (rnd.nxt s) (EvtCells (drawE now 1 0 0 0) none 0) W7) := Lib.hid (by
        have hg0 := grownBy_setCell' wc p (.int .i64 (rnd.nxt s))
        have hg : wc.grownBy (wc.setCell ⟨p, 0, none⟩ (.int .i64 (rnd.nxt s))).drew (some p) := ⟨hg0.os, hg0.tape, hg0.output, hg0.size, hg0.block⟩
        rw [← hW7]
        refine ⟨(H8.out.1.kept hg (fun e => by injection e; omega)), intsOff_keep H8.out.2.1 (by simp [World.setCell]) (fun b hb hp => ⟨hp, hg.block b hb (fun e => by have h9 : M ≤ b := hp; injection e; omega)⟩), (H8.out.2.2.2.draw (H8.out.2.2.2.gs.box.set _) hg0).below (Below.refl _ _).drew⟩)
      clear hW7
      refine hK.out _ _ (H9.out.2.2.bp.cell (j := 0) rfl) (fun hHeld => ?_)
      clear hK K
      (try simp only [Act.put, List.getElem_toArray, List.getElem_cons_succ, List.getElem_cons_zero, List.setIfInBounds_toArray, List.set_cons_zero, List.set_cons_succ])
      (refine wpAnyH_done (by kernel_rfl) ?_ _)
      go_upto_region 8 with (first
        | ((with_reducible refine wpList_loadG stOrd' _ rfl ⟨q, 0, none⟩ (OrdCells o Ao co) ?_ ?_ ?_ ?_ ?_); exact rfl; exact rfl; exact H9.out.1.cells; exact rfl)
        | ((with_reducible refine wpList_storeM stOrd' rfl _ _ rfl (w.heap.size + 3) 5 (OrdCells o Ao co) ?_ ?_ ?_ ?_ (ordCells_one _ _ _) ?_); exact rfl; exact rfl; exact blk_there H9.out.2.2.be (show 5 + 16 ≤ 21 by omega); exact rfl))
      obtain ⟨W8, hW8⟩ : ∃ W, W7.setCells (w.heap.size + 3) 5 (OrdCells o Ao co) = W := ⟨_, rfl⟩
      rw [hW8]
      have D8 : Hid (DSt x P w p (rnd.nxt s) (EvtCells ⟨now, 1, 0, 0, 0, o⟩ Ao co) W8) := Lib.hid (by rw [← hW8]; exact H9.out.2.2.setM 5 (OrdCells o Ao co))
      have HI8 : Hid (IntsOff W8 (fun b => M ≤ b) Ao o.load) := Lib.hid (by
        have hg := grown_setCells (b := w.heap.size + 3) (OrdCells o Ao co) 5 W7
        rw [← hW8]
        exact intsOff_keep H9.out.2.1 hg.size (fun b hb hp => ⟨hp, hg.block b hb (fun e => by have h9 : M ≤ b := hp; injection e; omega)⟩))
      clear hW8 H9
      go_wp2_with (first
        | ((with_reducible refine wpList_loadG stEvt _ rfl ⟨(w.heap.size + 3), 0, none⟩ (EvtCells ((⟨now, 1, 0, 0, 0, o⟩ : Evt)) Ao co) ?_ ?_ ?_ ?_ ?_); exact rfl; exact rfl; exact D8.out.be.cells; exact rfl)
        | ((with_reducible refine wpList_storeL stEvt rfl _ _ rfl (w.heap.size + 2) (EvtCells (drawE 0 0 0 0 0) none 0) (EvtCells ((⟨now, 1, 0, 0, 0, o⟩ : Evt)) Ao co) ?_ ?_ ?_ ?_ ?_ (evtCells_one _ _ _) ?_); exact rfl; exact rfl; exact D8.out.br; exact rfl; exact rfl; intro wz k1 k2 k3 k4; have K := Lib.hid (And.intro k1 (And.intro k2 (And.intro k3 k4))); clear k1 k2 k3 k4))
      have HRz : Blk wz (w.heap.size + 2) 42 (EvtCells ((⟨now, 1, 0, 0, 0, o⟩ : Evt)) Ao co) := K.out.1
      have hgz := D8.out.gs.store (by omega) K.out.2.1 K.out.2.2.2
      refine bodyPost_ret (v := .tuple #[.agg (EvtCells ((⟨now, 1, 0, 0, 0, o⟩ : Evt)) Ao co).toArray, .bool (kq == 0)]) (big.res_cell_tmp stEvt Tryd.results18 rfl rfl HRz.cells rfl) rfl ?_
      rw [HEV.out]
      exact ⟨Ao, co, rfl, (intsOff_keep (P' := fun _ => True) HI8.out (by rw [K.out.2.2.1]; exact Nat.le_refl _) (fun b hb hp => ⟨trivial, K.out.2.1 b (by have h9 : M ≤ b := hp; omega)⟩)).1, hgz.box, hgz.grown⟩
  · as_aux_lemma =>
      -- [[
      have HEV : Hid (evD x now 2 s = (drawE now 2 (oneV s x.orders.length) 0 0, true, oneS s x.orders.length)) := Lib.hid (by unfold evD; rw [if_neg (by decide), if_pos rfl])
      have c0 := HD0.out.bp.cell (j := 0) rfl
      have xx : W1.cell? ⟨w.heap.size + 1, 3, none⟩ = some (.slice P.a3 x.orders.length P.c3) := HD0.out.bx.cell (j := 3) rfl
      go_wp2_with fail
      refine (one_any p (s) w.heap.size (x.orders.length) W1 HD0.out.gs.box c0 (by omega)).mono ?_
      rintro e5 w5 ⟨rfl, hbx, hgr⟩
      have D5 := Lib.hid (HD0.out.draw hbx hgr)
      obtain ⟨v1, hv⟩ : ∃ v, oneV (s) (x.orders.length) = v := ⟨_, rfl⟩
      have Hv1 := Lib.hid hv
      rw [hv]
      have ff := D5.out.be.frozen 2
      have ci := D5.out.be.cell (j := 2) rfl
      clear hbx hgr hv xx
      go_upto_region 20 with fail
      obtain ⟨W2, hW2⟩ : ∃ W, w5.setCell ⟨w.heap.size + 3, 2, none⟩ (.int .i64 v1) = W := ⟨_, rfl⟩
      rw [hW2]
      have D2 : Hid (DSt x P w p (oneS (s) (x.orders.length)) (EvtCells (drawE now 2 v1 0 0) none 0) W2) := Lib.hid (by rw [← hW2]; exact D5.out.set 2 (.int .i64 v1))
      clear hW2 D5 ff ci c0
      rw [Hv1.out] at HEV
      go_wp2_with (first
        | ((with_reducible refine wpList_loadG stEvt _ rfl ⟨(w.heap.size + 3), 0, none⟩ (EvtCells (drawE now 2 v1 0 0) none 0) ?_ ?_ ?_ ?_ ?_); exact rfl; exact rfl; exact D2.out.be.cells; exact rfl)
        | ((with_reducible refine wpList_storeL stEvt rfl _ _ rfl (w.heap.size + 2) (EvtCells (drawE 0 0 0 0 0) none 0) (EvtCells (drawE now 2 v1 0 0) none 0) ?_ ?_ ?_ ?_ ?_ (evtCells_one _ _ _) ?_); exact rfl; exact rfl; exact D2.out.br; exact rfl; exact rfl; intro wz k1 k2 k3 k4; have K := Lib.hid (And.intro k1 (And.intro k2 (And.intro k3 k4))); clear k1 k2 k3 k4))
      have HRz : Blk wz (w.heap.size + 2) 42 (EvtCells (drawE now 2 v1 0 0) none 0) := K.out.1
      have hgz := D2.out.gs.store (by omega) K.out.2.1 K.out.2.2.2
      refine bodyPost_ret (v := .tuple #[.agg (EvtCells (drawE now 2 v1 0 0) none 0).toArray, .bool (true)]) (big.res_cell_tmp stEvt Tryd.results18 rfl rfl HRz.cells rfl) rfl ?_
      rw [HEV.out]
      exact ⟨none, 0, rfl, Ints.nil, hgz.box, hgz.grown⟩
      -- ]]
  · as_aux_lemma =>
      -- [[
      have HEV : Hid (evD x now 3 s = (drawE now 3 (oneV s x.net.places.length) (oneV (oneS s x.net.places.length) x.net.places.length) (frm (oneS (oneS s x.net.places.length) x.net.places.length) 1 60), true, nx 1 (oneS (oneS s x.net.places.length) x.net.places.length))) := Lib.hid (by unfold evD; rw [if_neg (by decide), if_neg (by decide), if_pos rfl])
      have c0 := HD0.out.bp.cell (j := 0) rfl
      have xx : W1.cell? ⟨w.heap.size + 1, 0, none⟩ = some (.slice P.a0 x.net.places.length P.c0) := HD0.out.bx.cell (j := 0) rfl
      go_wp2_with fail
      refine (one_any p (s) w.heap.size (x.net.places.length) W1 HD0.out.gs.box c0 (by omega)).mono ?_
      rintro e5 w5 ⟨rfl, hbx, hgr⟩
      have D5 := Lib.hid (HD0.out.draw hbx hgr)
      obtain ⟨v1, hv⟩ : ∃ v, oneV (s) (x.net.places.length) = v := ⟨_, rfl⟩
      have Hv1 := Lib.hid hv
      rw [hv]
      have ff := D5.out.be.frozen 2
      have ci := D5.out.be.cell (j := 2) rfl
      clear hbx hgr hv xx
      go_upto_region 13 with fail
      obtain ⟨W2, hW2⟩ : ∃ W, w5.setCell ⟨w.heap.size + 3, 2, none⟩ (.int .i64 v1) = W := ⟨_, rfl⟩
      rw [hW2]
      have D2 : Hid (DSt x P w p (oneS (s) (x.net.places.length)) (EvtCells (drawE now 3 v1 0 0) none 0) W2) := Lib.hid (by rw [← hW2]; exact D5.out.set 2 (.int .i64 v1))
      clear hW2 D5 ff ci c0
      have c0 := D2.out.bp.cell (j := 0) rfl
      have xx : W2.cell? ⟨w.heap.size + 1, 0, none⟩ = some (.slice P.a0 x.net.places.length P.c0) := D2.out.bx.cell (j := 0) rfl
      go_wp2_with fail
      refine (one_any p (oneS s x.net.places.length) w.heap.size (x.net.places.length) W2 D2.out.gs.box c0 (by omega)).mono ?_
      rintro e5 w5 ⟨rfl, hbx, hgr⟩
      have D5 := Lib.hid (D2.out.draw hbx hgr)
      obtain ⟨v2, hv⟩ : ∃ v, oneV (oneS s x.net.places.length) (x.net.places.length) = v := ⟨_, rfl⟩
      have Hv2 := Lib.hid hv
      rw [hv]
      have ff := D5.out.be.frozen 3
      have ci := D5.out.be.cell (j := 3) rfl
      clear hbx hgr hv xx
      go_upto_region 14 with fail
      obtain ⟨W3, hW2⟩ : ∃ W, w5.setCell ⟨w.heap.size + 3, 3, none⟩ (.int .i64 v2) = W := ⟨_, rfl⟩
      rw [hW2]
      have D3 : Hid (DSt x P w p (oneS (oneS s x.net.places.length) (x.net.places.length)) (EvtCells (drawE now 3 v1 v2 0) none 0) W3) := Lib.hid (by rw [← hW2]; exact D5.out.set 3 (.int .i64 v2))
      clear hW2 D5 ff ci c0
      have c0 := D3.out.bp.cell (j := 0) rfl
      go_wp2_with fail
      refine (from_any p (oneS (oneS s x.net.places.length) x.net.places.length) (1) (60) W3 D3.out.gs.box (by omega) (by omega) (by omega)).mono ?_
      rintro e5 w5 ⟨rfl, hbx, hgr⟩
      have D5 := Lib.hid (D3.out.draw hbx hgr)
      obtain ⟨v3, hv⟩ : ∃ v, frm (oneS (oneS s x.net.places.length) x.net.places.length) (1) (60) = v := ⟨_, rfl⟩
      have Hv3 := Lib.hid hv
      rw [hv]
      have ff := D5.out.be.frozen 4
      have ci := D5.out.be.cell (j := 4) rfl
      clear hbx hgr hv
      go_upto_region 20 with fail
      obtain ⟨W4, hW2⟩ : ∃ W, w5.setCell ⟨w.heap.size + 3, 4, none⟩ (.int .i64 v3) = W := ⟨_, rfl⟩
      rw [hW2]
      have D4 : Hid (DSt x P w p (nx 1 (oneS (oneS s x.net.places.length) x.net.places.length)) (EvtCells (drawE now 3 v1 v2 v3) none 0) W4) := Lib.hid (by rw [← hW2]; exact D5.out.set 4 (.int .i64 v3))
      clear hW2 D5 ff ci c0
      rw [Hv1.out, Hv2.out, Hv3.out] at HEV
      go_wp2_with (first
        | ((with_reducible refine wpList_loadG stEvt _ rfl ⟨(w.heap.size + 3), 0, none⟩ (EvtCells (drawE now 3 v1 v2 v3) none 0) ?_ ?_ ?_ ?_ ?_); exact rfl; exact rfl; exact D4.out.be.cells; exact rfl)
        | ((with_reducible refine wpList_storeL stEvt rfl _ _ rfl (w.heap.size + 2) (EvtCells (drawE 0 0 0 0 0) none 0) (EvtCells (drawE now 3 v1 v2 v3) none 0) ?_ ?_ ?_ ?_ ?_ (evtCells_one _ _ _) ?_); exact rfl; exact rfl; exact D4.out.br; exact rfl; exact rfl; intro wz k1 k2 k3 k4; have K := Lib.hid (And.intro k1 (And.intro k2 (And.intro k3 k4))); clear k1 k2 k3 k4))
      have HRz : Blk wz (w.heap.size + 2) 42 (EvtCells (drawE now 3 v1 v2 v3) none 0) := K.out.1
      have hgz := D4.out.gs.store (by omega) K.out.2.1 K.out.2.2.2
      refine bodyPost_ret (v := .tuple #[.agg (EvtCells (drawE now 3 v1 v2 v3) none 0).toArray, .bool (true)]) (big.res_cell_tmp stEvt Tryd.results18 rfl rfl HRz.cells rfl) rfl ?_
      rw [HEV.out]
      exact ⟨none, 0, rfl, Ints.nil, hgz.box, hgz.grown⟩
      -- ]]
  · as_aux_lemma =>
      -- [[
      have HEV : Hid (evD x now 4 s = (drawE now 4 (oneV s x.types.length) 0 0, true, oneS s x.types.length)) := Lib.hid (by unfold evD; rw [if_neg (by decide), if_neg (by decide), if_neg (by decide), if_pos rfl])
      have c0 := HD0.out.bp.cell (j := 0) rfl
      have xx : W1.cell? ⟨w.heap.size + 1, 2, none⟩ = some (.slice P.a2 x.types.length P.c2) := HD0.out.bx.cell (j := 2) rfl
      go_wp2_with fail
      refine (one_any p (s) w.heap.size (x.types.length) W1 HD0.out.gs.box c0 (by omega)).mono ?_
      rintro e5 w5 ⟨rfl, hbx, hgr⟩
      have D5 := Lib.hid (HD0.out.draw hbx hgr)
      obtain ⟨v1, hv⟩ : ∃ v, oneV (s) (x.types.length) = v := ⟨_, rfl⟩
      have Hv1 := Lib.hid hv
      rw [hv]
      have ff := D5.out.be.frozen 2
      have ci := D5.out.be.cell (j := 2) rfl
      clear hbx hgr hv xx
      go_upto_region 20 with fail
      obtain ⟨W2, hW2⟩ : ∃ W, w5.setCell ⟨w.heap.size + 3, 2, none⟩ (.int .i64 v1) = W := ⟨_, rfl⟩
      rw [hW2]
      have D2 : Hid (DSt x P w p (oneS (s) (x.types.length)) (EvtCells (drawE now 4 v1 0 0) none 0) W2) := Lib.hid (by rw [← hW2]; exact D5.out.set 2 (.int .i64 v1))
      clear hW2 D5 ff ci c0
      rw [Hv1.out] at HEV
      go_wp2_with (first
        | ((with_reducible refine wpList_loadG stEvt _ rfl ⟨(w.heap.size + 3), 0, none⟩ (EvtCells (drawE now 4 v1 0 0) none 0) ?_ ?_ ?_ ?_ ?_); exact rfl; exact rfl; exact D2.out.be.cells; exact rfl)
        | ((with_reducible refine wpList_storeL stEvt rfl _ _ rfl (w.heap.size + 2) (EvtCells (drawE 0 0 0 0 0) none 0) (EvtCells (drawE now 4 v1 0 0) none 0) ?_ ?_ ?_ ?_ ?_ (evtCells_one _ _ _) ?_); exact rfl; exact rfl; exact D2.out.br; exact rfl; exact rfl; intro wz k1 k2 k3 k4; have K := Lib.hid (And.intro k1 (And.intro k2 (And.intro k3 k4))); clear k1 k2 k3 k4))
      have HRz : Blk wz (w.heap.size + 2) 42 (EvtCells (drawE now 4 v1 0 0) none 0) := K.out.1
      have hgz := D2.out.gs.store (by omega) K.out.2.1 K.out.2.2.2
      refine bodyPost_ret (v := .tuple #[.agg (EvtCells (drawE now 4 v1 0 0) none 0).toArray, .bool (true)]) (big.res_cell_tmp stEvt Tryd.results18 rfl rfl HRz.cells rfl) rfl ?_
      rw [HEV.out]
      exact ⟨none, 0, rfl, Ints.nil, hgz.box, hgz.grown⟩
      -- ]]
  · as_aux_lemma =>
      -- [[
      have HEV : Hid (evD x now 5 s = (drawE now 5 (oneV s x.orders.length) 0 (frm (oneS s x.orders.length) (-30) 30), true, nx 1 (oneS s x.orders.length))) := Lib.hid (by unfold evD; rw [if_neg (by decide), if_neg (by decide), if_neg (by decide), if_neg (by decide)])
      have c0 := HD0.out.bp.cell (j := 0) rfl
      have xx : W1.cell? ⟨w.heap.size + 1, 3, none⟩ = some (.slice P.a3 x.orders.length P.c3) := HD0.out.bx.cell (j := 3) rfl
      go_wp2_with fail
      refine (one_any p (s) w.heap.size (x.orders.length) W1 HD0.out.gs.box c0 (by omega)).mono ?_
      rintro e5 w5 ⟨rfl, hbx, hgr⟩
      have D5 := Lib.hid (HD0.out.draw hbx hgr)
      obtain ⟨v1, hv⟩ : ∃ v, oneV (s) (x.orders.length) = v := ⟨_, rfl⟩
      have Hv1 := Lib.hid hv
      rw [hv]
      have ff := D5.out.be.frozen 2
      have ci := D5.out.be.cell (j := 2) rfl
      clear hbx hgr hv xx
      go_upto_region 19 with fail
      obtain ⟨W2, hW2⟩ : ∃ W, w5.setCell ⟨w.heap.size + 3, 2, none⟩ (.int .i64 v1) = W := ⟨_, rfl⟩
      rw [hW2]
      have D2 : Hid (DSt x P w p (oneS (s) (x.orders.length)) (EvtCells (drawE now 5 v1 0 0) none 0) W2) := Lib.hid (by rw [← hW2]; exact D5.out.set 2 (.int .i64 v1))
      clear hW2 D5 ff ci c0
      have c0 := D2.out.bp.cell (j := 0) rfl
      go_wp2_with fail
      refine (from_any p (oneS s x.orders.length) ((-30)) (30) W2 D2.out.gs.box (by omega) (by omega) (by omega)).mono ?_
      rintro e5 w5 ⟨rfl, hbx, hgr⟩
      have D5 := Lib.hid (D2.out.draw hbx hgr)
      obtain ⟨v3, hv⟩ : ∃ v, frm (oneS s x.orders.length) ((-30)) (30) = v := ⟨_, rfl⟩
      have Hv3 := Lib.hid hv
      rw [hv]
      have ff := D5.out.be.frozen 4
      have ci := D5.out.be.cell (j := 4) rfl
      clear hbx hgr hv
      go_upto_region 20 with fail
      obtain ⟨W4, hW2⟩ : ∃ W, w5.setCell ⟨w.heap.size + 3, 4, none⟩ (.int .i64 v3) = W := ⟨_, rfl⟩
      rw [hW2]
      have D4 : Hid (DSt x P w p (nx 1 (oneS s x.orders.length)) (EvtCells (drawE now 5 v1 0 v3) none 0) W4) := Lib.hid (by rw [← hW2]; exact D5.out.set 4 (.int .i64 v3))
      clear hW2 D5 ff ci c0
      rw [Hv1.out, Hv3.out] at HEV
      go_wp2_with (first
        | ((with_reducible refine wpList_loadG stEvt _ rfl ⟨(w.heap.size + 3), 0, none⟩ (EvtCells (drawE now 5 v1 0 v3) none 0) ?_ ?_ ?_ ?_ ?_); exact rfl; exact rfl; exact D4.out.be.cells; exact rfl)
        | ((with_reducible refine wpList_storeL stEvt rfl _ _ rfl (w.heap.size + 2) (EvtCells (drawE 0 0 0 0 0) none 0) (EvtCells (drawE now 5 v1 0 v3) none 0) ?_ ?_ ?_ ?_ ?_ (evtCells_one _ _ _) ?_); exact rfl; exact rfl; exact D4.out.br; exact rfl; exact rfl; intro wz k1 k2 k3 k4; have K := Lib.hid (And.intro k1 (And.intro k2 (And.intro k3 k4))); clear k1 k2 k3 k4))
      have HRz : Blk wz (w.heap.size + 2) 42 (EvtCells (drawE now 5 v1 0 v3) none 0) := K.out.1
      have hgz := D4.out.gs.store (by omega) K.out.2.1 K.out.2.2.2
      refine bodyPost_ret (v := .tuple #[.agg (EvtCells (drawE now 5 v1 0 v3) none 0).toArray, .bool (true)]) (big.res_cell_tmp stEvt Tryd.results18 rfl rfl HRz.cells rfl) rfl ?_
      rw [HEV.out]
      exact ⟨none, 0, rfl, Ints.nil, hgz.box, hgz.grown⟩
      -- ]]
end Go.Proofs.YtamhjodppdodfaaDoor.evt

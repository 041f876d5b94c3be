/- The errors of a type. -/
import Derived.Test.YtceceomaheobhaaGreatDoorFltX
import Derived.Test.YtceceomaheobhaaGreatDoorBase
import Derived.Deep.RegionHeld3
import Derived.Deep.DeepCutAuto
import Derived.Outline
namespace Go.Proofs.YtceceomaheobhaaGreatDoor.flt
open Go.RowKit
open Go.Proofs.YtceceomaheobhaaGreatDoor.lib Go.Proofs.YtceceomaheobhaaGreatDoor.rd Go.Proofs.YtceceomaheobhaaGreatDoor.typ Go.Proofs.YtceceomaheobhaaGreatDoor.txt
set_option linter.unusedVariables false
set_option linter.unusedSimpArgs false

def pushIf (xs : List Int) (right : Bool) (u : Int) : List Int := if right then xs else xs ++ [u]
theorem add_any (b base : Nat) (xs : List Int) (right : Bool) (u : Int) (w : World) (h : BoxRow w b base xs) (hx : xs.length < 100) :
    Calls Tryz.prog 97 #[.bool right, .int .i64 u, .pointer (some ⟨b, 0, none⟩)] w (AddOut w b base (pushIf xs right u)) := by
  cases right
  · exact add_no b base xs u w h hx
  · exact add_yes b base xs u w h
theorem pushIf_len (xs : List Int) (r : Bool) (u : Int) : (pushIf xs r u).length ≤ xs.length + 1 := by unfold pushIf; split <;> simp

/-- Block k holds a type's cells. -/
def TyBlk (w : World) (k : Nat) (t : Ty) (C : Option Addr) (c : Nat) : Prop := w.heap[k]? = some (.cells (TyCells t C c).toArray 53 (0, 0))
theorem TyBlk.cells {w : World} {k : Nat} {t : Ty} {C : Option Addr} {c : Nat} (h : TyBlk w k t C c) : w.cell? ⟨k, 0, none⟩ = some (.string t.name) ∧ w.cell? ⟨k, 1, none⟩ = some (.int .i64 t.count) ∧ w.cell? ⟨k, 2, none⟩ = some (.int .i64 t.frm) ∧ w.cell? ⟨k, 3, none⟩ = some (.int .i64 t.to) ∧ w.cell? ⟨k, 4, none⟩ = some (.slice C t.cap.length c) ∧
    w.cell? ⟨k, 5, none⟩ = some (.int .i64 t.skills) ∧ w.cell? ⟨k, 6, none⟩ = some (.int .i64 t.profile) ∧ w.cell? ⟨k, 7, none⟩ = some (.int .i64 t.opn) ∧ w.cell? ⟨k, 8, none⟩ = some (.int .i64 t.close) ∧ w.cell? ⟨k, 9, none⟩ = some (.int .i64 t.drive) ∧ w.cell? ⟨k, 10, none⟩ = some (.int .i64 t.rest) ∧ w.cell? ⟨k, 11, none⟩ = some (.int .i64 t.fixed) ∧ w.cell? ⟨k, 12, none⟩ = some (.int .i64 t.mile) ∧ w.cell? ⟨k, 13, none⟩ = some (.int .i64 t.tick) := by
  refine ⟨?_, ?_, ?_, ?_, ?_, ?_, ?_, ?_, ?_, ?_, ?_, ?_, ?_, ?_⟩ <;> simp [World.cell?, show w.heap[k]? = _ from h, TyCells]

/-- Where the walk of errors stands between two questions. -/
structure St (H : Nat) (w : World) (t : Ty) (C : Option Addr) (c : Nat) (xs : List Int) (wx : World) : Prop where
  box : BoxRow wx (H + 1) (H + 1 + 1 + 1) xs
  blk : TyBlk wx (H + 1 + 1) t C c
  bel : Below H w wx
  len : xs.length < 50
theorem St.size {H : Nat} {w : World} {t : Ty} {C : Option Addr} {c : Nat} {xs : List Int} {wx : World} (h : St H w t C c xs wx) : H + 1 + 1 + 1 ≤ wx.heap.size := by obtain ⟨_, _, _, _, _, h4, _⟩ := h.box; exact h4
theorem St.below {H : Nat} {w : World} {t : Ty} {C : Option Addr} {c : Nat} {xs : List Int} {wx wy : World} (h : St H w t C c xs wx) (hb : Below wx.heap.size wx wy) : St H w t C c xs wy := by
  have hs := h.size
  exact ⟨h.box.below hb, (hb.block _ (by omega)).trans h.blk, h.bel.trans (hb.mono (by omega)), h.len⟩
theorem St.add {H : Nat} {w : World} {t : Ty} {C : Option Addr} {c : Nat} {xs ys : List Int} {wx wy : World} {e : Ending} (h : St H w t C c xs wx) (ha : AddOut wx (H + 1) (H + 1 + 1 + 1) ys e wy) (hl : ys.length < 50) : St H w t C c ys wy := by
  obtain ⟨_, h1, h2, h3, _⟩ := ha
  exact ⟨h1, (h3 _ (by omega) (by omega)).trans h.blk, h.bel.trans (h2.mono (by omega)), hl⟩

/-- The errors of a type, in order. -/
def errsL (places : Int) (l : List Ty) (i : Nat) (t : Ty) (d : Nat) : List Int :=
  pushIf (pushIf (pushIf (pushIf (pushIf (pushIf (pushIf (pushIf (pushIf [] (nameB t.name) 5) (!((l.take i).any (fun x => sameS x.name t.name))) 6) (inB t.count 0 10) 22) (inB t.frm 0 places && inB t.to 0 places) 11) (capB t.cap d) 17) (inB t.skills 0 1073741823) 18)
    (inB t.opn 0 t.close && decide (t.close ≤ 4096)) 15) (inB t.drive 1 4096 && inB t.rest 0 4096) 16) (inB t.profile 0 7 && inB t.fixed 0 100000 && inB t.mile 0 100 && inB t.tick 0 100) 2

/-- A row of errors, handed back. -/
def ErrsOut (w : World) (xs : List Int) (e : Ending) (w' : World) : Prop :=
  ∃ A c, e = .returned (.slice A xs.length c) ∧ w'.ownsRow w.heap.size 35 1 (.slice A xs.length c) xs.length (xs.map (.int .i64)) ∧ Below w.heap.size w w'

set_option maxRecDepth 100000 in
set_option maxHeartbeats 4000000 in
theorem errors_any (n : Net) (A0 : Option Addr) (d0 : Nat) (A1 : Option Addr) (d1 : Nat) (A : Option Addr) (c : Nat) (l : List Ty) (i : Nat) (t t0 : Ty) (w : World) (hL : RowAt rTy w w.heap.size A l) (hi : l[i]? = some t) (h0 : l[0]? = some t0) (hl : l.length ≤ 100) (hcap : l.length ≤ c) (hn : n.places.length ≤ 17592186043904) :
    Calls Tryz.prog 66 #[.agg #[.slice A0 n.places.length d0, .slice A1 n.arcs.length d1], .slice A l.length c, .int .i64 i] w (ErrsOut w (errsL ((n.places.length : Int) - 1) l i t t0.cap.length)) := by
  obtain ⟨ad, C, cc, rfl, hadb, ⟨m0, m1, m2, m3, m4, m5, m6, m7, m8, m9, m10, m11, m12, m13⟩, hIC, hfit⟩ := row_Ty hL hi
  have hil : i < l.length := (List.getElem?_eq_some_iff.1 hi).1
  have hi0 : (0 : Int) ≤ (i : Int) := by omega
  have hin : (i : Int) < (l.length : Int) := by omega
  have hnp : (n.places.length : Int) ≤ 17592186043904 := by omega
  have hb0 : (ad.add (i * 14)).block < w.heap.size := by rw [block_of_add]; exact hadb
  have hb1 : (ad.add (i * 14)).block < w.heap.size + 1 := by omega
  have hb2 : (ad.add (i * 14)).block < w.heap.size + 1 + 1 := by omega
  go_enter Tryz.func66, Tryz.ntmps66
  go_upto_region 5 with fail
  obtain ⟨W0, hW0⟩ : ∃ W0, ((w.alloc (.cells #[.slice A0 n.places.length d0, .slice A1 n.arcs.length d1] 25)).alloc (.cells #[.slice none 0 0] 109)).alloc (.cells (TyCells t C cc).toArray 53) = W0 := ⟨_, rfl⟩
  have st0 : St w.heap.size w t C cc [] W0 := by
    rw [← hW0]
    refine ⟨⟨none, 0, ?_, World.ownsRow_nil _ _ _ _, by omega, by simp, by simp⟩, ?_, ?_, by simp⟩
    · have h := (Boxed.new (w.alloc (.cells #[.slice A0 n.places.length d0, .slice A1 n.arcs.length d1] 25)) 109 (.slice none 0 0)).alloc (.cells (TyCells t C cc).toArray 53)
      simpa using h
    · have h := World.alloc_heap_new ((w.alloc (.cells #[.slice A0 n.places.length d0, .slice A1 n.arcs.length d1] 25)).alloc (.cells #[.slice none 0 0] 109)) (.cells (TyCells t C cc).toArray 53)
      simpa [TyBlk] using h
    · exact (((Below.refl _ _).alloc (Nat.le_refl _) _).alloc (by simp) _).alloc (by simp; omega) _
  have hW1 : ((w.alloc (.cells #[.slice A0 n.places.length d0, .slice A1 n.arcs.length d1] 25)).alloc (.cells #[.slice none 0 0] 109)).alloc (.cells #[.string t.name, .int .i64 t.count, .int .i64 t.frm, .int .i64 t.to, .slice C t.cap.length cc, .int .i64 t.skills, .int .i64 t.profile, .int .i64 t.opn, .int .i64 t.close, .int .i64 t.drive, .int .i64 t.rest, .int .i64 t.fixed, .int .i64 t.mile, .int .i64 t.tick] 53) = W0 := hW0
  rw [hW1]
  clear hW0 hW1 m0 m1 m2 m3 m4 m5 m6 m7 m8 m9 m10 m11 m12 m13
  have lx0 : ([] : List Int).length ≤ 0 := Nat.le_refl _
  obtain ⟨x1, hx1⟩ : ∃ x, pushIf [] (nameB t.name) 5 = x := ⟨_, rfl⟩
  have lx1 : x1.length ≤ 1 := by have h := pushIf_len [] (nameB t.name) 5; rw [hx1] at h; omega
  have HX1 := Lib.hid hx1
  clear hx1
  go_cut [] (fun wx => St w.heap.size w t C cc x1 wx)
  case first =>
    have hbx := st0.box
    obtain ⟨m0, m1, m2, m3, m4, m5, m6, m7, m8, m9, m10, m11, m12, m13⟩ := st0.blk.cells
    have hn1 := hfit.1
    go_wp2_with (first | (go_at_call 62; refine (name_any _ hn1 _).mono ?_; rintro e w1 ⟨rfl, rfl⟩) | (go_at_call 97; refine (add_any _ _ _ _ _ _ hbx (by omega)).mono ?_; rintro e w1 hadd; have hadd' := hadd; obtain ⟨rfl, _⟩ := hadd'))
    go_meet
    exact st0.add (by rw [← HX1.out]; exact hadd) (by omega)
  have st1 := hcut
  clear hcut st0
  obtain ⟨x2, hx2⟩ : ∃ x, pushIf x1 (!((l.take i).any (fun x => sameS x.name t.name))) 6 = x := ⟨_, rfl⟩
  have lx2 : x2.length ≤ 2 := by have h := pushIf_len x1 (!((l.take i).any (fun x => sameS x.name t.name))) 6; rw [hx2] at h; omega
  have HX2 := Lib.hid hx2
  clear hx2
  go_upto_region 6 with fail
  go_cut [] (fun wx => St w.heap.size w t C cc x2 wx)
  case first =>
    have hbx := st1.box
    obtain ⟨m0, _⟩ := st1.blk.cells
    have hsz := st1.size
    have hic : (i : Int) ≤ (c : Int) := by omega
    have hLc := (hL.below st1.bel).take i
    have hilen : (l.take i).length = i := by rw [List.length_take]; omega
    have hsz2 := st1.bel.size
    have HA := Lib.hid (And.intro hLc hilen)
    clear hLc hilen
    go_wp2_with (first | (go_at_call 98; refine (hasTys_any _ _ (l.take i) i HA.out.2 _ t.name _ w.heap.size hsz2 HA.out.1 (by omega) m0).mono ?_; rintro e w2 ⟨rfl, hb2⟩; have st1b := st1.below hb2; have hbx2 := st1b.box) | (go_at_call 97; refine (add_any _ _ _ _ _ _ hbx2 (by omega)).mono ?_; rintro e w1 hadd; have hadd' := hadd; obtain ⟨rfl, _⟩ := hadd'))
    go_meet
    exact st1b.add (by rw [← HX2.out]; exact hadd) (by omega)
  have st2 := hcut
  clear hcut st1
  obtain ⟨x3, hx3⟩ : ∃ x, pushIf x2 (inB t.count 0 10) 22 = x := ⟨_, rfl⟩
  have lx3 : x3.length ≤ 3 := by have h := pushIf_len x2 (inB t.count 0 10) 22; rw [hx3] at h; omega
  have HX3 := Lib.hid hx3
  clear hx3
  go_upto_region 7 with fail
  go_cut [] (fun wx => St w.heap.size w t C cc x3 wx)
  case first =>
    have hbx := st2.box
    obtain ⟨m0, m1, m2, m3, m4, m5, m6, m7, m8, m9, m10, m11, m12, m13⟩ := st2.blk.cells
    go_wp2_with (first | (go_at_call 65; refine (within_any _ _ _ _).mono ?_; rintro e w1 ⟨rfl, rfl⟩) | (go_at_call 97; refine (add_any _ _ _ _ _ _ hbx (by omega)).mono ?_; rintro e w1 hadd; have hadd' := hadd; obtain ⟨rfl, _⟩ := hadd'))
    go_meet
    exact st2.add (by rw [← HX3.out]; exact hadd) (by omega)
  have st3 := hcut
  clear hcut st2
  obtain ⟨x4, hx4⟩ : ∃ x, pushIf x3 (inB t.frm 0 ((n.places.length : Int) - 1) && inB t.to 0 ((n.places.length : Int) - 1)) 11 = x := ⟨_, rfl⟩
  have lx4 : x4.length ≤ 4 := by have h := pushIf_len x3 (inB t.frm 0 ((n.places.length : Int) - 1) && inB t.to 0 ((n.places.length : Int) - 1)) 11; rw [hx4] at h; omega
  have HX4 := Lib.hid hx4
  clear hx4
  go_upto_region 8 with fail
  go_cut [] (fun wx => St w.heap.size w t C cc x4 wx)
  case first =>
    have hbx := st3.box
    obtain ⟨m0, m1, m2, m3, m4, m5, m6, m7, m8, m9, m10, m11, m12, m13⟩ := st3.blk.cells
    cases hq : inB t.frm 0 ((n.places.length : Int) - 1)
    all_goals go_wp2_with (first | (go_at_call 65; refine (within_any _ _ _ _).mono ?_; rintro e w1 ⟨rfl, rfl⟩) | (go_at_call 97; refine (add_any _ _ _ _ _ _ hbx (by omega)).mono ?_; rintro e w1 hadd; have hadd' := hadd; obtain ⟨rfl, _⟩ := hadd'))
    all_goals go_meet
    all_goals exact st3.add (by rw [← HX4.out, hq]; exact hadd) (by omega)
  have st4 := hcut
  clear hcut st3
  obtain ⟨x5, hx5⟩ : ∃ x, pushIf x4 (capB t.cap t0.cap.length) 17 = x := ⟨_, rfl⟩
  have lx5 : x5.length ≤ 5 := by have h := pushIf_len x4 (capB t.cap t0.cap.length) 17; rw [hx5] at h; omega
  have HX5 := Lib.hid hx5
  clear hx5
  go_upto_region 9 with fail
  go_cut [] (fun wx => St w.heap.size w t C cc x5 wx)
  case first =>
    have hbx := st4.box
    obtain ⟨_, _, _, _, m4, _⟩ := st4.blk.cells
    obtain ⟨ad0, C0, c0, hA0, hadb0, ⟨_, _, _, _, k4, _⟩, _, _⟩ := row_Ty (hL.below st4.bel) h0
    have e0 := Option.some.inj hA0
    subst e0
    have hz : ad.add (0 * 14) = ad := by simp [Addr.add]
    rw [hz] at k4
    have hsz2 := st4.bel.size
    have hIC2 := (hIC.below st4.bel).more hsz2
    have hpos : (0 : Int) < (l.length : Int) := by omega
    have hpos' : 0 < l.length := by omega
    have hcl : (ad.block) < wc.heap.size := by omega
    have HZ := Lib.hid (And.intro hadb (And.intro hadb0 hz))
    clear hz
    go_wp2
    (refine wp_region_held_drew (S := (fun w' => w'.cell? ⟨w.heap.size + 1 + 1, 4, none⟩ = some (.slice C t.cap.length cc) ∧ w'.cell? ⟨ad.block, ad.off + 4, none⟩ = some (.slice C0 t0.cap.length c0))) (by kernel_rfl) ?_ (fun hHeld => ?_))
    · exact ⟨m4, k4⟩
    (refine wpAnyH_take (i := 0) (v := ?_) rfl (by kernel_rfl) (by kernel_rfl) (by kernel_rfl) (fun _ _ _ h => h) (Or.inl ⟨by kernel_rfl, ?_⟩) (by assumption) ?_; rotate_left; (focus (intro w hSw; (try dsimp only at hSw); go_simp; all_goals with_reducible rfl)); (try simp only [Act.put, List.getElem_toArray, List.getElem_cons_succ, List.getElem_cons_zero, List.setIfInBounds_toArray, List.set_cons_zero, List.set_cons_succ]))
    (refine wpAnyH_take (i := 1) (v := ?_) rfl (by kernel_rfl) (by kernel_rfl) (by kernel_rfl) (fun _ _ _ h => h) (Or.inl ⟨by kernel_rfl, ?_⟩) (by assumption) ?_; rotate_left; (focus (intro w hSw; (try dsimp only at hSw); go_simp; all_goals with_reducible rfl)); (try simp only [Act.put, List.getElem_toArray, List.getElem_cons_succ, List.getElem_cons_zero, List.setIfInBounds_toArray, List.set_cons_zero, List.set_cons_succ]))
    (refine wpAnyH_take (i := 2) (v := ?_) rfl (by kernel_rfl) (by kernel_rfl) (by kernel_rfl) (fun _ _ _ h => h) (Or.inl ⟨by kernel_rfl, ?_⟩) (by assumption) ?_; rotate_left; (focus (intro w hSw; (try dsimp only at hSw); go_simp; all_goals with_reducible rfl)); (try simp only [Act.put, List.getElem_toArray, List.getElem_cons_succ, List.getElem_cons_zero, List.setIfInBounds_toArray, List.set_cons_zero, List.set_cons_succ]))
    (refine wpAnyH_take (i := 3) (v := ?_) rfl (by kernel_rfl) (by kernel_rfl) (by kernel_rfl) (fun _ _ _ h => h) (Or.inl ⟨by kernel_rfl, ?_⟩) (by assumption) ?_; rotate_left; (focus (intro w hSw; (try dsimp only at hSw); go_simp; all_goals with_reducible rfl)); (try simp only [Act.put, List.getElem_toArray, List.getElem_cons_succ, List.getElem_cons_zero, List.setIfInBounds_toArray, List.set_cons_zero, List.set_cons_succ]))
    (refine wpAnyH_take (i := 4) (v := ?_) rfl (by kernel_rfl) (by kernel_rfl) (by kernel_rfl) (fun _ _ _ h => h) (Or.inl ⟨by kernel_rfl, ?_⟩) (by assumption) ?_; rotate_left; (focus (intro w hSw; (try dsimp only at hSw); go_simp; all_goals with_reducible rfl)); (try simp only [Act.put, List.getElem_toArray, List.getElem_cons_succ, List.getElem_cons_zero, List.setIfInBounds_toArray, List.set_cons_zero, List.set_cons_succ]))
    (refine wpAnyH_take (i := 5) (v := ?_) rfl (by kernel_rfl) (by kernel_rfl) (by kernel_rfl) (fun _ _ _ h => h) (Or.inl ⟨by kernel_rfl, ?_⟩) (by assumption) ?_; rotate_left; (focus (intro w hSw; (try dsimp only at hSw); go_simp; all_goals with_reducible rfl)); (try simp only [Act.put, List.getElem_toArray, List.getElem_cons_succ, List.getElem_cons_zero, List.setIfInBounds_toArray, List.set_cons_zero, List.set_cons_succ]))
    (refine wpAnyH_take (i := 6) (v := ?_) rfl (by kernel_rfl) (by kernel_rfl) (by kernel_rfl) (fun _ _ _ h => h) (Or.inl ⟨by kernel_rfl, ?_⟩) (by assumption) ?_; rotate_left; (focus (intro w hSw; (try dsimp only at hSw); go_simp; all_goals with_reducible rfl)); (try simp only [Act.put, List.getElem_toArray, List.getElem_cons_succ, List.getElem_cons_zero, List.setIfInBounds_toArray, List.set_cons_zero, List.set_cons_succ]))
    (refine wpAnyH_ready (rs := [7]) (by kernel_rfl) (by simp) ?_; refine AllReadyH.cons rfl (fun K hK => ?_) AllReadyH.nil; go_simp)
    go_at_call 100
    refine (capacity_any _ _ _ _ _ _ _ (by exact hIC2)).mono ?_
    rintro e w2 ⟨rfl, hb2d⟩
    have hb2 : Below wc.heap.size wc w2 := ((Below.refl _ _).drew).trans (hb2d.mono (by simp))
    have st4b := st4.below hb2
    have hbx2 := st4b.box
    have s2 : wc.heap.size ≤ w2.heap.size := hb2.size
    obtain ⟨_, _, _, _, m4', _⟩ := st4b.blk.cells
    have k4' : w2.cell? ⟨ad.block, ad.off + 4, none⟩ = some (.slice C0 t0.cap.length c0) := (hb2.cell (p := ⟨ad.block, ad.off + 4, none⟩) (by exact hcl)).trans k4
    (refine hK.out _ _ ?_ (fun hHeld => ?_))
    · exact ⟨m4', k4'⟩
    clear hK K
    (try simp only [Act.put, List.getElem_toArray, List.getElem_cons_succ, List.getElem_cons_zero, List.setIfInBounds_toArray, List.set_cons_zero, List.set_cons_succ])
    (refine wpAnyH_ready (rs := [8]) (by kernel_rfl) (by simp) ?_; refine AllReadyH.cons rfl (fun K hK => ?_) AllReadyH.nil; go_simp)
    go_at_call 97
    refine (add_any _ _ _ _ _ _ hbx2 (by omega)).mono ?_
    rintro e w1 hadd
    have hadd' := hadd
    obtain ⟨rfl, _⟩ := hadd'
    have st5b := st4b.add (ys := x5) (by rw [← HX5.out]; exact hadd) (by omega)
    obtain ⟨_, _, _, _, m4'', _⟩ := st5b.blk.cells
    have k4'' : w1.cell? ⟨ad.block, ad.off + 4, none⟩ = some (.slice C0 t0.cap.length c0) := (hadd.2.2.1.cell (p := ⟨ad.block, ad.off + 4, none⟩) (show ad.block < w.heap.size + 1 by omega)).trans k4'
    (refine hK.out _ _ ?_ (fun hHeld => ?_))
    · exact ⟨m4'', k4''⟩
    clear hK K
    (try simp only [Act.put, List.getElem_toArray, List.getElem_cons_succ, List.getElem_cons_zero, List.setIfInBounds_toArray, List.set_cons_zero, List.set_cons_succ])
    (refine wpAnyH_done (by kernel_rfl) ?_ _)
    go_wp2_with fail
    go_meet
    exact st5b
  have st5 := hcut
  clear hcut st4
  obtain ⟨x6, hx6⟩ : ∃ x, pushIf x5 (inB t.skills 0 1073741823) 18 = x := ⟨_, rfl⟩
  have lx6 : x6.length ≤ 6 := by have h := pushIf_len x5 (inB t.skills 0 1073741823) 18; rw [hx6] at h; omega
  have HX6 := Lib.hid hx6
  clear hx6
  go_upto_region 10 with fail
  go_cut [] (fun wx => St w.heap.size w t C cc x6 wx)
  case first =>
    have hbx := st5.box
    obtain ⟨m0, m1, m2, m3, m4, m5, m6, m7, m8, m9, m10, m11, m12, m13⟩ := st5.blk.cells
    go_wp2_with (first | (go_at_call 65; refine (within_any _ _ _ _).mono ?_; rintro e w1 ⟨rfl, rfl⟩) | (go_at_call 97; refine (add_any _ _ _ _ _ _ hbx (by omega)).mono ?_; rintro e w1 hadd; have hadd' := hadd; obtain ⟨rfl, _⟩ := hadd'))
    go_meet
    exact st5.add (by rw [← HX6.out]; exact hadd) (by omega)
  have st6 := hcut
  clear hcut st5
  obtain ⟨x7, hx7⟩ : ∃ x, pushIf x6 (inB t.opn 0 t.close && decide (t.close ≤ 4096)) 15 = x := ⟨_, rfl⟩
  have lx7 : x7.length ≤ 7 := by have h := pushIf_len x6 (inB t.opn 0 t.close && decide (t.close ≤ 4096)) 15; rw [hx7] at h; omega
  have HX7 := Lib.hid hx7
  clear hx7
  go_upto_region 11 with fail
  go_cut [] (fun wx => St w.heap.size w t C cc x7 wx)
  case first =>
    have hbx := st6.box
    obtain ⟨m0, m1, m2, m3, m4, m5, m6, m7, m8, m9, m10, m11, m12, m13⟩ := st6.blk.cells
    cases hq : inB t.opn 0 t.close
    all_goals go_wp2_with (first | (go_at_call 65; refine (within_any _ _ _ _).mono ?_; rintro e w1 ⟨rfl, rfl⟩) | (go_at_call 97; refine (add_any _ _ _ _ _ _ hbx (by omega)).mono ?_; rintro e w1 hadd; have hadd' := hadd; obtain ⟨rfl, _⟩ := hadd'))
    all_goals go_meet
    all_goals exact st6.add (by rw [← HX7.out, hq]; exact hadd) (by omega)
  have st7 := hcut
  clear hcut st6
  obtain ⟨x8, hx8⟩ : ∃ x, pushIf x7 (inB t.drive 1 4096 && inB t.rest 0 4096) 16 = x := ⟨_, rfl⟩
  have lx8 : x8.length ≤ 8 := by have h := pushIf_len x7 (inB t.drive 1 4096 && inB t.rest 0 4096) 16; rw [hx8] at h; omega
  have HX8 := Lib.hid hx8
  clear hx8
  go_upto_region 12 with fail
  go_cut [] (fun wx => St w.heap.size w t C cc x8 wx)
  case first =>
    have hbx := st7.box
    obtain ⟨m0, m1, m2, m3, m4, m5, m6, m7, m8, m9, m10, m11, m12, m13⟩ := st7.blk.cells
    cases hq : inB t.drive 1 4096
    all_goals go_wp2_with (first | (go_at_call 65; refine (within_any _ _ _ _).mono ?_; rintro e w1 ⟨rfl, rfl⟩) | (go_at_call 97; refine (add_any _ _ _ _ _ _ hbx (by omega)).mono ?_; rintro e w1 hadd; have hadd' := hadd; obtain ⟨rfl, _⟩ := hadd'))
    all_goals go_meet
    all_goals exact st7.add (by rw [← HX8.out, hq]; exact hadd) (by omega)
  have st8 := hcut
  clear hcut st7
  obtain ⟨x9, hx9⟩ : ∃ x, pushIf x8 (inB t.profile 0 7 && inB t.fixed 0 100000 && inB t.mile 0 100 && inB t.tick 0 100) 2 = x := ⟨_, rfl⟩
  have lx9 : x9.length ≤ 9 := by have h := pushIf_len x8 (inB t.profile 0 7 && inB t.fixed 0 100000 && inB t.mile 0 100 && inB t.tick 0 100) 2; rw [hx9] at h; omega
  have HX9 := Lib.hid hx9
  clear hx9
  go_upto_region 13 with fail
  go_cut [] (fun wx => St w.heap.size w t C cc x9 wx)
  case first =>
    have hbx := st8.box
    obtain ⟨m0, m1, m2, m3, m4, m5, m6, m7, m8, m9, m10, m11, m12, m13⟩ := st8.blk.cells
    have hw4 : inB t.profile 0 7 = false ∨ (inB t.profile 0 7 = true ∧ inB t.fixed 0 100000 = false) ∨ (inB t.profile 0 7 = true ∧ inB t.fixed 0 100000 = true ∧ inB t.mile 0 100 = false) ∨ (inB t.profile 0 7 = true ∧ inB t.fixed 0 100000 = true ∧ inB t.mile 0 100 = true) := by
      cases inB t.profile 0 7 <;> cases inB t.fixed 0 100000 <;> cases inB t.mile 0 100 <;> simp
    rcases hw4 with hq | ⟨hq, hq2⟩ | ⟨hq, hq2, hq3⟩ | ⟨hq, hq2, hq3⟩
    all_goals go_wp2_with (first | (go_at_call 65; refine (within_any _ _ _ _).mono ?_; rintro e w1 ⟨rfl, rfl⟩) | (go_at_call 97; refine (add_any _ _ _ _ _ _ hbx (by omega)).mono ?_; rintro e w1 hadd; have hadd' := hadd; obtain ⟨rfl, _⟩ := hadd'))
    all_goals go_meet
    all_goals exact st8.add (by rw [← HX9.out]; first | (rw [hq, hq2, hq3]; exact hadd) | (rw [hq, hq2]; exact hadd) | (rw [hq]; exact hadd)) (by omega)
  have st9 := hcut
  clear hcut st8
  have EL : Hid (x9 = errsL ((n.places.length : Int) - 1) l i t t0.cap.length) := Lib.hid (by
    rw [← HX9.out, ← HX8.out, ← HX7.out, ← HX6.out, ← HX5.out, ← HX4.out, ← HX3.out, ← HX2.out, ← HX1.out]
    rfl)
  obtain ⟨⟨A9, c9, hbox, hown, _, _, _⟩, _, hbel, _⟩ := st9
  have hcb := hbox.cell
  go_wp2
  go_ret
  rw [← EL.out]
  refine ⟨A9, c9, rfl, ?_, hbel⟩
  rcases hown.2 with ⟨h6, h7⟩ | ⟨g, cap, cur, h6, h7, h8⟩
  · exact ⟨hown.1, .inl ⟨h6, h7⟩⟩
  · exact ⟨hown.1, .inr ⟨g, cap, cur, h6, by omega, h8⟩⟩
end Go.Proofs.YtceceomaheobhaaGreatDoor.flt

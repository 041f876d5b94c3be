/- Joined texts: FltD FltG InsA NetA NetB Trv NetC NetD Cat. -/
import Derived.Test.YthefooacfcagbaaGreatDoorFltX
import Derived.Test.YthefooacfcagbaaGreatDoorBase
import Derived.Deep.RegionHeld3
import Derived.Deep.DeepCutAuto
import Derived.Outline
import Derived.Deep.QuietTactic
import Derived.BigQuiet
import Derived.IntWalk
import Derived.Lib.AppendZeros
namespace Go.Proofs.YthefooacfcagbaaGreatDoor.flt
open Go.RowKit
open lib rd typ txt
set_option linter.unusedVariables false
set_option linter.unusedSimpArgs false
def pushIf (xs : List Int) (right : Bool) (u : Int) : List Int := if right then xs else xs ++ [u]
theorem add_any (b base : Nat) (xs : List Int) (right : Bool) (u : Int) (w : World) (h : BoxRow w b base xs) (hx : xs.length < 100) :
  Calls Tryz.prog 119 #[.bool right, .int .i64 u, .pointer (some ⟨b, 0, none⟩)] w (AddOut w b base (pushIf xs right u)) := by
 cases right
 ·exact add_no b base xs u w h hx
 ·exact add_yes b base xs u w h
theorem pushIf_len (xs : List Int) (r : Bool) (u : Int) : (pushIf xs r u).length ≤ xs.length + 1 := by unfold pushIf; split <;> simp
def TyBlk (w : World) (k : Nat) (t : Ty) (C : Option Addr) (c : Nat) : Prop := w.heap[k]? = some (.cells (TyCells t C c).toArray 63 (0, 0))
theorem TyBlk.cells {w : World} {k : Nat} {t : Ty} {C : Option Addr} {c : Nat} (h : TyBlk w k t C c) : w.cell? ⟨k, 0, none⟩ = some (.string t.name) ∧ w.cell? ⟨k, 1, none⟩ = some (.int .i64 t.count) ∧ w.cell? ⟨k, 2, none⟩ = some (.int .i64 t.frm) ∧ w.cell? ⟨k, 3, none⟩ = some (.int .i64 t.to) ∧ w.cell? ⟨k, 4, none⟩ = some (.slice C t.cap.length c) ∧
  w.cell? ⟨k, 5, none⟩ = some (.int .i64 t.skills) ∧ w.cell? ⟨k, 6, none⟩ = some (.int .i64 t.profile) ∧ w.cell? ⟨k, 7, none⟩ = some (.int .i64 t.opn) ∧ w.cell? ⟨k, 8, none⟩ = some (.int .i64 t.close) ∧ w.cell? ⟨k, 9, none⟩ = some (.int .i64 t.drive) ∧ w.cell? ⟨k, 10, none⟩ = some (.int .i64 t.rest) ∧ w.cell? ⟨k, 11, none⟩ = some (.int .i64 t.fixed) ∧ w.cell? ⟨k, 12, none⟩ = some (.int .i64 t.mile) ∧ w.cell? ⟨k, 13, none⟩ = some (.int .i64 t.tick) := by
 refine ⟨?_, ?_, ?_, ?_, ?_, ?_, ?_, ?_, ?_, ?_, ?_, ?_, ?_, ?_⟩ <;> simp [World.cell?, show w.heap[k]? = _ from h, TyCells]
structure St (H : Nat) (w : World) (t : Ty) (C : Option Addr) (c : Nat) (xs : List Int) (wx : World) : Prop where
 box : BoxRow wx (H + 1) (H + 1 + 1 + 1) xs
 blk : TyBlk wx (H + 1 + 1) t C c
 bel : Below H w wx
 len : xs.length < 50
theorem St.size {H : Nat} {w : World} {t : Ty} {C : Option Addr} {c : Nat} {xs : List Int} {wx : World} (h : St H w t C c xs wx) : H + 1 + 1 + 1 ≤ wx.heap.size := by obtain ⟨_, _, _, _, _, h4, _⟩ := h.box; exact h4
theorem St.below {H : Nat} {w : World} {t : Ty} {C : Option Addr} {c : Nat} {xs : List Int} {wx wy : World} (h : St H w t C c xs wx) (hb : Below wx.heap.size wx wy) : St H w t C c xs wy := by
 have hs := h.size
 exact ⟨h.box.below hb, (hb.block _ (by omega)).trans h.blk, h.bel.trans (hb.mono (by omega)), h.len⟩
theorem St.add {H : Nat} {w : World} {t : Ty} {C : Option Addr} {c : Nat} {xs ys : List Int} {wx wy : World} {e : Ending} (h : St H w t C c xs wx) (ha : AddOut wx (H + 1) (H + 1 + 1 + 1) ys e wy) (hl : ys.length < 50) : St H w t C c ys wy := by
 obtain ⟨_, h1, h2, h3, _⟩ := ha
 exact ⟨h1, (h3 _ (by omega) (by omega)).trans h.blk, h.bel.trans (h2.mono (by omega)), hl⟩
def errsL (places : Int) (l : List Ty) (i : Nat) (t : Ty) (d : Nat) : List Int :=
 pushIf (pushIf (pushIf (pushIf (pushIf (pushIf (pushIf (pushIf (pushIf [] (nameB t.name) 5) (!((l.take i).any (fun x => sameS x.name t.name))) 6) (inB t.count 0 10) 22) (inB t.frm 0 places && inB t.to 0 places) 11) (capB t.cap d) 17) (inB t.skills 0 1073741823) 18)
  (inB t.opn 0 t.close && decide (t.close ≤ 4096)) 15) (inB t.drive 1 4096 && inB t.rest 0 4096) 16) (inB t.profile 0 7 && inB t.fixed 0 100000 && inB t.mile 0 100 && inB t.tick 0 100) 2
def ErrsOut (w : World) (xs : List Int) (e : Ending) (w' : World) : Prop :=
 ∃ A c, e = .returned (.slice A xs.length c) ∧ w'.ownsRow w.heap.size 33 1 (.slice A xs.length c) xs.length (xs.map (.int .i64)) ∧ Below w.heap.size w w'
set_option maxRecDepth 100000 in
set_option maxHeartbeats 4000000 in
theorem errors_any (n : Net) (A0 : Option Addr) (d0 : Nat) (A1 : Option Addr) (d1 : Nat) (A : Option Addr) (c : Nat) (l : List Ty) (i : Nat) (t t0 : Ty) (w : World) (hL : RowAt rTy w w.heap.size A l) (hi : l[i]? = some t) (h0 : l[0]? = some t0) (hl : l.length ≤ 5000) (hcap : l.length ≤ c) (hn : n.places.length ≤ 17592186043904) :
  Calls Tryz.prog 84 #[.agg #[.slice A0 n.places.length d0, .slice A1 n.arcs.length d1], .slice A l.length c, .int .i64 i] w (ErrsOut w (errsL ((n.places.length : Int) - 1) l i t t0.cap.length)) := by
 obtain ⟨ad, C, cc, rfl, hadb, ⟨m0, m1, m2, m3, m4, m5, m6, m7, m8, m9, m10, m11, m12, m13⟩, hIC, hfit⟩ := row_Ty hL hi
 have hil : i < l.length := (List.getElem?_eq_some_iff.1 hi).1
 have hi0 : (0 : Int) ≤ (i : Int) := by omega
 have hin : (i : Int) < (l.length : Int) := by omega
 have hnp : (n.places.length : Int) ≤ 17592186043904 := by omega
 have hb0 : (ad.add (i * 14)).block < w.heap.size := by rw [block_of_add]; exact hadb
 have hb1 : (ad.add (i * 14)).block < w.heap.size + 1 := by omega
 have hb2 : (ad.add (i * 14)).block < w.heap.size + 1 + 1 := by omega
 go_enter Tryz.func84, Tryz.ntmps84
 go_upto_region 5 with fail
 obtain ⟨W0, hW0⟩ : ∃ W0, ((w.alloc (.cells #[.slice A0 n.places.length d0, .slice A1 n.arcs.length d1] 25)).alloc (.cells #[.slice none 0 0] 126)).alloc (.cells (TyCells t C cc).toArray 63) = W0 := ⟨_, rfl⟩
 have st0 : St w.heap.size w t C cc [] W0 := by
  rw [← hW0]
  refine ⟨⟨none, 0, ?_, World.ownsRow_nil _ _ _ _, by omega, by simp, by simp⟩, ?_, ?_, by simp⟩
  ·have h := (Boxed.new (w.alloc (.cells #[.slice A0 n.places.length d0, .slice A1 n.arcs.length d1] 25)) 126 (.slice none 0 0)).alloc (.cells (TyCells t C cc).toArray 63)
   simpa using h
  ·have h := World.alloc_heap_new ((w.alloc (.cells #[.slice A0 n.places.length d0, .slice A1 n.arcs.length d1] 25)).alloc (.cells #[.slice none 0 0] 126)) (.cells (TyCells t C cc).toArray 63)
   simpa [TyBlk] using h
  ·exact (((Below.refl _ _).alloc (Nat.le_refl _) _).alloc (by simp) _).alloc (by simp; omega) _
 have hW1 : ((w.alloc (.cells #[.slice A0 n.places.length d0, .slice A1 n.arcs.length d1] 25)).alloc (.cells #[.slice none 0 0] 126)).alloc (.cells #[.string t.name, .int .i64 t.count, .int .i64 t.frm, .int .i64 t.to, .slice C t.cap.length cc, .int .i64 t.skills, .int .i64 t.profile, .int .i64 t.opn, .int .i64 t.close, .int .i64 t.drive, .int .i64 t.rest, .int .i64 t.fixed, .int .i64 t.mile, .int .i64 t.tick] 63) = W0 := hW0
 rw [hW1]
 clear hW0 hW1 m0 m1 m2 m3 m4 m5 m6 m7 m8 m9 m10 m11 m12 m13
 have lx0 : ([] : List Int).length ≤ 0 := Nat.le_refl _
 obtain ⟨x1, hx1⟩ : ∃ x, pushIf [] (nameB t.name) 5 = x := ⟨_, rfl⟩
 have lx1 : x1.length ≤ 1 := by have h := pushIf_len [] (nameB t.name) 5; rw [hx1] at h; omega
 have HX1 := Lib.hid hx1
 clear hx1
 go_cut [] (fun wx => St w.heap.size w t C cc x1 wx)
 case first =>
  have hbx := st0.box
  obtain ⟨m0, m1, m2, m3, m4, m5, m6, m7, m8, m9, m10, m11, m12, m13⟩ := st0.blk.cells
  have hn1 := hfit.1
  go_wp2_with (first | (go_at_call 80; refine (name_any _ hn1 _).mono ?_; rintro e w1 ⟨rfl, rfl⟩) | (go_at_call 119; refine (add_any _ _ _ _ _ _ hbx (by omega)).mono ?_; rintro e w1 hadd; have hadd' := hadd; obtain ⟨rfl, _⟩ := hadd'))
  go_meet
  exact st0.add (by rw [← HX1.out]; exact hadd) (by omega)
 have st1 := hcut
 clear hcut st0
 obtain ⟨x2, hx2⟩ : ∃ x, pushIf x1 (!((l.take i).any (fun x => sameS x.name t.name))) 6 = x := ⟨_, rfl⟩
 have lx2 : x2.length ≤ 2 := by have h := pushIf_len x1 (!((l.take i).any (fun x => sameS x.name t.name))) 6; rw [hx2] at h; omega
 have HX2 := Lib.hid hx2
 clear hx2
 go_upto_region 6 with fail
 go_cut [] (fun wx => St w.heap.size w t C cc x2 wx)
 case first =>
  have hbx := st1.box
  obtain ⟨m0, _⟩ := st1.blk.cells
  have hsz := st1.size
  have hic : (i : Int) ≤ (c : Int) := by omega
  have hLc := (hL.below st1.bel).take i
  have hilen : (l.take i).length = i := by rw [List.length_take]; omega
  have hsz2 := st1.bel.size
  have HA := Lib.hid (And.intro hLc hilen)
  clear hLc hilen
  go_wp2_with (first | (go_at_call 120; refine (hasTys_any _ _ (l.take i) i HA.out.2 _ t.name _ w.heap.size hsz2 HA.out.1 (by omega) m0).mono ?_; rintro e w2 ⟨rfl, hb2⟩; have st1b := st1.below hb2; have hbx2 := st1b.box) | (go_at_call 119; refine (add_any _ _ _ _ _ _ hbx2 (by omega)).mono ?_; rintro e w1 hadd; have hadd' := hadd; obtain ⟨rfl, _⟩ := hadd'))
  go_meet
  exact st1b.add (by rw [← HX2.out]; exact hadd) (by omega)
 have st2 := hcut
 clear hcut st1
 obtain ⟨x3, hx3⟩ : ∃ x, pushIf x2 (inB t.count 0 10) 22 = x := ⟨_, rfl⟩
 have lx3 : x3.length ≤ 3 := by have h := pushIf_len x2 (inB t.count 0 10) 22; rw [hx3] at h; omega
 have HX3 := Lib.hid hx3
 clear hx3
 go_upto_region 7 with fail
 go_cut [] (fun wx => St w.heap.size w t C cc x3 wx)
 case first =>
  have hbx := st2.box
  obtain ⟨m0, m1, m2, m3, m4, m5, m6, m7, m8, m9, m10, m11, m12, m13⟩ := st2.blk.cells
  go_wp2_with (first | (go_at_call 83; refine (within_any _ _ _ _).mono ?_; rintro e w1 ⟨rfl, rfl⟩) | (go_at_call 119; refine (add_any _ _ _ _ _ _ hbx (by omega)).mono ?_; rintro e w1 hadd; have hadd' := hadd; obtain ⟨rfl, _⟩ := hadd'))
  go_meet
  exact st2.add (by rw [← HX3.out]; exact hadd) (by omega)
 have st3 := hcut
 clear hcut st2
 obtain ⟨x4, hx4⟩ : ∃ x, pushIf x3 (inB t.frm 0 ((n.places.length : Int) - 1) && inB t.to 0 ((n.places.length : Int) - 1)) 11 = x := ⟨_, rfl⟩
 have lx4 : x4.length ≤ 4 := by have h := pushIf_len x3 (inB t.frm 0 ((n.places.length : Int) - 1) && inB t.to 0 ((n.places.length : Int) - 1)) 11; rw [hx4] at h; omega
 have HX4 := Lib.hid hx4
 clear hx4
 go_upto_region 8 with fail
 go_cut [] (fun wx => St w.heap.size w t C cc x4 wx)
 case first =>
  have hbx := st3.box
  obtain ⟨m0, m1, m2, m3, m4, m5, m6, m7, m8, m9, m10, m11, m12, m13⟩ := st3.blk.cells
  cases hq : inB t.frm 0 ((n.places.length : Int) - 1)
  all_goals go_wp2_with (first | (go_at_call 83; refine (within_any _ _ _ _).mono ?_; rintro e w1 ⟨rfl, rfl⟩) | (go_at_call 119; refine (add_any _ _ _ _ _ _ hbx (by omega)).mono ?_; rintro e w1 hadd; have hadd' := hadd; obtain ⟨rfl, _⟩ := hadd'))
  all_goals go_meet
  all_goals exact st3.add (by rw [← HX4.out, hq]; exact hadd) (by omega)
 have st4 := hcut
 clear hcut st3
 obtain ⟨x5, hx5⟩ : ∃ x, pushIf x4 (capB t.cap t0.cap.length) 17 = x := ⟨_, rfl⟩
 have lx5 : x5.length ≤ 5 := by have h := pushIf_len x4 (capB t.cap t0.cap.length) 17; rw [hx5] at h; omega
 have HX5 := Lib.hid hx5
 clear hx5
 go_upto_region 9 with fail
 go_cut [] (fun wx => St w.heap.size w t C cc x5 wx)
 case first =>
  have hbx := st4.box
  obtain ⟨_, _, _, _, m4, _⟩ := st4.blk.cells
  obtain ⟨ad0, C0, c0, hA0, hadb0, ⟨_, _, _, _, k4, _⟩, _, _⟩ := row_Ty (hL.below st4.bel) h0
  have e0 := Option.some.inj hA0
  subst e0
  have hz : ad.add (0 * 14) = ad := by simp [Addr.add]
  rw [hz] at k4
  have hsz2 := st4.bel.size
  have hIC2 := (hIC.below st4.bel).more hsz2
  have hpos : (0 : Int) < (l.length : Int) := by omega
  have hpos' : 0 < l.length := by omega
  have hcl : (ad.block) < wc.heap.size := by omega
  have HZ := Lib.hid (And.intro hadb (And.intro hadb0 hz))
  clear hz
  go_wp2
  (refine wp_region_held_drew (S := (fun w' => w'.cell? ⟨w.heap.size + 1 + 1, 4, none⟩ = some (.slice C t.cap.length cc) ∧ w'.cell? ⟨ad.block, ad.off + 4, none⟩ = some (.slice C0 t0.cap.length c0))) (by kernel_rfl) ?_ (fun hHeld => ?_))
  ·exact ⟨m4, k4⟩
  (refine lib.tk 0 rfl ?_; (try simp only [lib.hly]))
  (refine lib.tk 1 rfl ?_; (try simp only [lib.hly]))
  (refine lib.tk 2 rfl ?_; (try simp only [lib.hly]))
  (refine lib.tk 3 rfl ?_; (try simp only [lib.hly]))
  (refine lib.tk 4 rfl ?_; (try simp only [lib.hly]))
  (refine lib.tk 5 rfl ?_; (try simp only [lib.hly]))
  (refine lib.tk 6 rfl ?_; (try simp only [lib.hly]))
  (refine lib.rk 7 rfl fun K hK => ?_; go_simp)
  go_at_call 122
  refine (capacity_any _ _ _ _ _ _ _ (by exact hIC2)).mono ?_
  rintro e w2 ⟨rfl, hb2d⟩
  have hb2 : Below wc.heap.size wc w2 := ((Below.refl _ _).drew).trans (hb2d.mono (by simp))
  have st4b := st4.below hb2
  have hbx2 := st4b.box
  have s2 : wc.heap.size ≤ w2.heap.size := hb2.size
  obtain ⟨_, _, _, _, m4', _⟩ := st4b.blk.cells
  have k4' : w2.cell? ⟨ad.block, ad.off + 4, none⟩ = some (.slice C0 t0.cap.length c0) := (hb2.cell (p := ⟨ad.block, ad.off + 4, none⟩) (by exact hcl)).trans k4
  (refine hK.out _ _ ?_ (fun hHeld => ?_))
  ·exact ⟨m4', k4'⟩
  clear hK K
  (try simp only [lib.hly])
  (refine lib.rk 8 rfl fun K hK => ?_; go_simp)
  go_at_call 119
  refine (add_any _ _ _ _ _ _ hbx2 (by omega)).mono ?_
  rintro e w1 hadd
  have hadd' := hadd
  obtain ⟨rfl, _⟩ := hadd'
  have st5b := st4b.add (ys := x5) (by rw [← HX5.out]; exact hadd) (by omega)
  obtain ⟨_, _, _, _, m4'', _⟩ := st5b.blk.cells
  have k4'' : w1.cell? ⟨ad.block, ad.off + 4, none⟩ = some (.slice C0 t0.cap.length c0) := (hadd.2.2.1.cell (p := ⟨ad.block, ad.off + 4, none⟩) (show ad.block < w.heap.size + 1 by omega)).trans k4'
  (refine hK.out _ _ ?_ (fun hHeld => ?_))
  ·exact ⟨m4'', k4''⟩
  clear hK K
  (try simp only [lib.hly])
  (refine wpAnyH_done (by kernel_rfl) ?_ _)
  go_wp2_with fail
  go_meet
  exact st5b
 have st5 := hcut
 clear hcut st4
 obtain ⟨x6, hx6⟩ : ∃ x, pushIf x5 (inB t.skills 0 1073741823) 18 = x := ⟨_, rfl⟩
 have lx6 : x6.length ≤ 6 := by have h := pushIf_len x5 (inB t.skills 0 1073741823) 18; rw [hx6] at h; omega
 have HX6 := Lib.hid hx6
 clear hx6
 go_upto_region 10 with fail
 go_cut [] (fun wx => St w.heap.size w t C cc x6 wx)
 case first =>
  have hbx := st5.box
  obtain ⟨m0, m1, m2, m3, m4, m5, m6, m7, m8, m9, m10, m11, m12, m13⟩ := st5.blk.cells
  go_wp2_with (first | (go_at_call 83; refine (within_any _ _ _ _).mono ?_; rintro e w1 ⟨rfl, rfl⟩) | (go_at_call 119; refine (add_any _ _ _ _ _ _ hbx (by omega)).mono ?_; rintro e w1 hadd; have hadd' := hadd; obtain ⟨rfl, _⟩ := hadd'))
  go_meet
  exact st5.add (by rw [← HX6.out]; exact hadd) (by omega)
 have st6 := hcut
 clear hcut st5
 obtain ⟨x7, hx7⟩ : ∃ x, pushIf x6 (inB t.opn 0 t.close && decide (t.close ≤ 4096)) 15 = x := ⟨_, rfl⟩
 have lx7 : x7.length ≤ 7 := by have h := pushIf_len x6 (inB t.opn 0 t.close && decide (t.close ≤ 4096)) 15; rw [hx7] at h; omega
 have HX7 := Lib.hid hx7
 clear hx7
 go_upto_region 11 with fail
 go_cut [] (fun wx => St w.heap.size w t C cc x7 wx)
 case first =>
  have hbx := st6.box
  obtain ⟨m0, m1, m2, m3, m4, m5, m6, m7, m8, m9, m10, m11, m12, m13⟩ := st6.blk.cells
  cases hq : inB t.opn 0 t.close
  all_goals go_wp2_with (first | (go_at_call 83; refine (within_any _ _ _ _).mono ?_; rintro e w1 ⟨rfl, rfl⟩) | (go_at_call 119; refine (add_any _ _ _ _ _ _ hbx (by omega)).mono ?_; rintro e w1 hadd; have hadd' := hadd; obtain ⟨rfl, _⟩ := hadd'))
  all_goals go_meet
  all_goals exact st6.add (by rw [← HX7.out, hq]; exact hadd) (by omega)
 have st7 := hcut
 clear hcut st6
 obtain ⟨x8, hx8⟩ : ∃ x, pushIf x7 (inB t.drive 1 4096 && inB t.rest 0 4096) 16 = x := ⟨_, rfl⟩
 have lx8 : x8.length ≤ 8 := by have h := pushIf_len x7 (inB t.drive 1 4096 && inB t.rest 0 4096) 16; rw [hx8] at h; omega
 have HX8 := Lib.hid hx8
 clear hx8
 go_upto_region 12 with fail
 go_cut [] (fun wx => St w.heap.size w t C cc x8 wx)
 case first =>
  have hbx := st7.box
  obtain ⟨m0, m1, m2, m3, m4, m5, m6, m7, m8, m9, m10, m11, m12, m13⟩ := st7.blk.cells
  cases hq : inB t.drive 1 4096
  all_goals go_wp2_with (first | (go_at_call 83; refine (within_any _ _ _ _).mono ?_; rintro e w1 ⟨rfl, rfl⟩) | (go_at_call 119; refine (add_any _ _ _ _ _ _ hbx (by omega)).mono ?_; rintro e w1 hadd; have hadd' := hadd; obtain ⟨rfl, _⟩ := hadd'))
  all_goals go_meet
  all_goals exact st7.add (by rw [← HX8.out, hq]; exact hadd) (by omega)
 have st8 := hcut
 clear hcut st7
 obtain ⟨x9, hx9⟩ : ∃ x, pushIf x8 (inB t.profile 0 7 && inB t.fixed 0 100000 && inB t.mile 0 100 && inB t.tick 0 100) 2 = x := ⟨_, rfl⟩
 have lx9 : x9.length ≤ 9 := by have h := pushIf_len x8 (inB t.profile 0 7 && inB t.fixed 0 100000 && inB t.mile 0 100 && inB t.tick 0 100) 2; rw [hx9] at h; omega
 have HX9 := Lib.hid hx9
 clear hx9
 go_upto_region 13 with fail
 go_cut [] (fun wx => St w.heap.size w t C cc x9 wx)
 case first =>
  have hbx := st8.box
  obtain ⟨m0, m1, m2, m3, m4, m5, m6, m7, m8, m9, m10, m11, m12, m13⟩ := st8.blk.cells
  have hw4 : inB t.profile 0 7 = false ∨ (inB t.profile 0 7 = true ∧ inB t.fixed 0 100000 = false) ∨ (inB t.profile 0 7 = true ∧ inB t.fixed 0 100000 = true ∧ inB t.mile 0 100 = false) ∨ (inB t.profile 0 7 = true ∧ inB t.fixed 0 100000 = true ∧ inB t.mile 0 100 = true) := by
   cases inB t.profile 0 7 <;> cases inB t.fixed 0 100000 <;> cases inB t.mile 0 100 <;> simp
  rcases hw4 with hq | ⟨hq, hq2⟩ | ⟨hq, hq2, hq3⟩ | ⟨hq, hq2, hq3⟩
  all_goals go_wp2_with (first | (go_at_call 83; refine (within_any _ _ _ _).mono ?_; rintro e w1 ⟨rfl, rfl⟩) | (go_at_call 119; refine (add_any _ _ _ _ _ _ hbx (by omega)).mono ?_; rintro e w1 hadd; have hadd' := hadd; obtain ⟨rfl, _⟩ := hadd'))
  all_goals go_meet
  all_goals exact st8.add (by rw [← HX9.out]; first | (rw [hq, hq2, hq3]; exact hadd) | (rw [hq, hq2]; exact hadd) | (rw [hq]; exact hadd)) (by omega)
 have st9 := hcut
 clear hcut st8
 have EL : Hid (x9 = errsL ((n.places.length : Int) - 1) l i t t0.cap.length) := Lib.hid (by
  rw [← HX9.out, ← HX8.out, ← HX7.out, ← HX6.out, ← HX5.out, ← HX4.out, ← HX3.out, ← HX2.out, ← HX1.out]
  rfl)
 obtain ⟨⟨A9, c9, hbox, hown, _, _, _⟩, _, hbel, _⟩ := st9
 have hcb := hbox.cell
 go_wp2
 go_ret
 rw [← EL.out]
 refine ⟨A9, c9, rfl, ?_, hbel⟩
 rcases hown.2 with ⟨h6, h7⟩ | ⟨g, cap, cur, h6, h7, h8⟩
 ·exact ⟨hown.1, .inl ⟨h6, h7⟩⟩
 ·exact ⟨hown.1, .inr ⟨g, cap, cur, h6, by omega, h8⟩⟩
end Go.Proofs.YthefooacfcagbaaGreatDoor.flt
namespace Go.Proofs.YthefooacfcagbaaGreatDoor.flt
open Go.RowKit
open lib rd typ txt app
set_option linter.unusedVariables false
theorem fault_elem : ElemOf 50 53 (.agg #[.int .i64 0, .string ⟨#[]⟩]) 2 24 := ⟨Tryz.underlying50, by kernel_rfl, rfl, by decide, by decide⟩
def fcs (fs : List Flt) : List Value := fs.flatMap fun f => [.int .i64 f.err, .string f.at_]
theorem fcs_snoc (fs : List Flt) (f : Flt) : fcs (fs ++ [f]) = fcs fs ++ [.int .i64 f.err, .string f.at_] := by simp [fcs]
def Fown (w : World) (base : Nat) (A : Option Addr) (c : Nat) (fs : List Flt) : Prop := w.ownsRow base 53 2 (.slice A fs.length c) fs.length (fcs fs)
def fltsAt (P : Int) (l : List Ty) (i : Nat) : List Flt := match l[i]? with
 | some t => (errsL P l i t (dimsN l)).map fun e => ⟨e, decS i⟩
 | none => []
def fltsTo (P : Int) (l : List Ty) : Nat → List Flt
 | 0 => if inB l.length 1 6 then [] else [⟨4, ⟨#[]⟩⟩]
 | j + 1 => fltsTo P l j ++ fltsAt P l j
theorem errsL_len (P : Int) (l : List Ty) (i : Nat) (t : Ty) (d : Nat) : (errsL P l i t d).length ≤ 9 := by
 unfold errsL
 repeat (refine Nat.le_trans (pushIf_len _ _ _) (Nat.add_le_add_right ?_ 1))
 exact Nat.le_refl _
theorem fltsTo_len (P : Int) (l : List Ty) : ∀ j, (fltsTo P l j).length ≤ 1 + 9 * j
 | 0 => by unfold fltsTo; split <;> simp
 | j + 1 => by
  have ih := fltsTo_len P l j
  have h : (fltsAt P l j).length ≤ 9 := by
   unfold fltsAt
   split
   ·rw [List.length_map]; exact errsL_len _ _ _ _ _
   ·exact Nat.zero_le _
  rw [fltsTo, List.length_append]
  omega
theorem row_place {w : World} {base c : Nat} {e : TypeId} {A : Option Addr} {l : List Int} (h : w.ownsRow base e 1 (.slice A l.length c) l.length (l.map (.int .i64))) :
  ∃ g, base ≤ g ∧ (0 < l.length → A = some ⟨g, 0, none⟩ ∧ g < w.heap.size) ∧ ∀ q, q < l.length → w.cell? ⟨g, q, none⟩ = some (.int .i64 (l[q]?.getD 0)) := by
 rcases h.2 with ⟨h1, h2⟩ | ⟨g, cap, cur, h1, h2, h3, h4⟩
 ·exact ⟨base, Nat.le_refl _, fun hh => absurd hh (by omega), fun q hq => absurd hq (by omega)⟩
 ·injection h1 with h1 _ _
  subst h1
  refine ⟨g, h2, fun _ => ⟨rfl, (Array.getElem?_eq_some_iff.1 h3).1⟩, fun q hq => ?_⟩
  rw [h.cellAt q (by omega), List.getElem?_map, List.getElem?_eq_getElem hq]
  rfl
theorem two_new (w : World) (a b : Value) (t : TypeId) (j : Nat) (u : Value) (h : [a, b][j]? = some u) : (w.alloc (.cells #[a, b] t)).cell? ((⟨w.heap.size, 0, none⟩ : Addr).add j) = some u :=
 World.news_of_block (w := w.alloc (.cells #[a, b] t)) (B := w.heap.size) (heap_alloc_new w _) j u (by simpa using h)
def mkF (i : Nat) (E : List Int) : List Flt := E.map fun e => ⟨e, decS i⟩
theorem mkF_take {i : Nat} {E : List Int} {q : Nat} {x : Int} (h : E[q]? = some x) : mkF i (E.take (q + 1)) = mkF i (E.take q) ++ [⟨x, decS i⟩] := by
 obtain ⟨h1, h2⟩ := List.getElem?_eq_some_iff.1 h
 unfold mkF
 rw [List.take_succ_eq_append_getElem h1, h2, List.map_append]
 rfl
def FltsOut (w : World) (fs : List Flt) (e : Ending) (w' : World) : Prop := ∃ A c, e = .returned (.slice A fs.length c) ∧ Fown w' w.heap.size A c fs ∧ Below w.heap.size w w'
end Go.Proofs.YthefooacfcagbaaGreatDoor.flt
namespace Go.Proofs.YthefooacfcagbaaGreatDoor.ins
open Go.RowKit
open lib rd typ sch sets
set_option linter.unusedVariables false
set_option linter.unusedSimpArgs false
structure InP where
 a0 : Option Addr
 c0 : Nat
 a1 : Option Addr
 c1 : Nat
 a2 : Option Addr
 c2 : Nat
 a3 : Option Addr
 c3 : Nat
 a4 : Option Addr
 c4 : Nat
 a5 : Option Addr
 c5 : Nat
abbrev InV (x : Ins) (P : InP) : Value := .agg #[.slice P.a0 x.net.places.length P.c0, .slice P.a1 x.net.arcs.length P.c1, .slice P.a2 x.types.length P.c2, .slice P.a3 x.orders.length P.c3, .slice P.a4 x.apart.length P.c4, .slice P.a5 x.before.length P.c5]
structure InAt (w : World) (B : Nat) (x : Ins) (P : InP) : Prop where
 places : RowAt rStr w B P.a0 x.net.places
 arcs : RowAt rArc w B P.a1 x.net.arcs
 types : RowAt rTy w B P.a2 x.types
 orders : RowAt rOrd w B P.a3 x.orders
 apart : RowAt (rPair rInt rInt) w B P.a4 x.apart
 before : RowAt (rPair rInt rInt) w B P.a5 x.before
 capT : x.types.length ≤ P.c2
 capO : x.orders.length ≤ P.c3
 capA : x.apart.length ≤ P.c4
 capB : x.before.length ≤ P.c5
theorem InAt.below {w w' : World} {B : Nat} {x : Ins} {P : InP} (h : InAt w B x P) (hb : Below B w w') : InAt w' B x P := ⟨h.1.below hb, h.2.below hb, h.3.below hb, h.4.below hb, h.5.below hb, h.6.below hb, h.7, h.8, h.9, h.10⟩
theorem InAt.more {w : World} {B B' : Nat} {x : Ins} {P : InP} (h : InAt w B x P) (hB : B ≤ B') : InAt w B' x P := ⟨h.1.more hB, h.2.more hB, h.3.more hB, h.4.more hB, h.5.more hB, h.6.more hB, h.7, h.8, h.9, h.10⟩
theorem InAt.go {w w' : World} {x : Ins} {P : InP} (h : InAt w w.heap.size x P) (hb : Below w.heap.size w w') : InAt w' w'.heap.size x P := (h.below hb).more hb.size
end Go.Proofs.YthefooacfcagbaaGreatDoor.ins
namespace Go.Proofs.YthefooacfcagbaaGreatDoor.net
open Go.RowKit
open lib rd typ app note mrk
open win (tickB tick_t tick_f)
set_option linter.unusedVariables false
set_option linter.unusedSimpArgs false
theorem ntick_any (n : Int) (w : World) : Calls Tryz.prog 161 #[.int .i64 n] w fun e w' => e = .returned (.bool (tickB n)) ∧ w = w' := by
 by_cases h : 0 ≤ n
 all_goals
  go_enter Tryz.func161, Tryz.ntmps161
  go_wp2
  go_ret
  exact ⟨ret_bool (by unfold tickB; first | (simp [h]; done) | (simp; omega)), rfl⟩
def placeB (n i : Int) : Bool := decide (0 ≤ i) && decide (i < n)
theorem place_any (n : Nat) (A0 : Option Addr) (d0 : Nat) (A1 : Option Addr) (n1 d1 : Nat) (i : Int) (w : World) :
  Calls Tryz.prog 116 #[.agg #[.slice A0 n d0, .slice A1 n1 d1], .int .i64 i] w fun e w' => e = .returned (.bool (placeB n i)) ∧ Below w.heap.size w w' := by
 by_cases h : 0 ≤ i
 all_goals
  go_enter Tryz.func116, Tryz.ntmps116
  go_wp2
  go_ret
  exact ⟨ret_bool (by unfold placeB; first | (simp [h]; done) | (simp; omega)), by repeat (first | assumption | exact Below.refl _ _ | refine Below.drew ?_ | refine Below.alloc ?_ (by first | omega | (simp <;> omega)) _ | refine Below.setCell ?_ (by first | omega | (simp <;> omega)) _)⟩
theorem wayOf_any (x : Arc) (C : Option Addr) (c : Nat) (D : Option Addr) (d : Nat) (w : World) :
  Calls Tryz.prog 82 #[.agg #[.int .i64 x.frm, .int .i64 x.to, .int .i64 x.profile, .int .i64 x.miles, .slice C x.travel.length c, .slice D x.slow.length d]] w fun e w' => e = .returned (.agg #[.int .i64 x.frm, .int .i64 x.to, .int .i64 x.profile]) ∧ Below w.heap.size w w' := by
 go_enter Tryz.func82, Tryz.ntmps82
 go_wp2
 exact bodyPost_ret (v := .agg #[.int .i64 x.frm, .int .i64 x.to, .int .i64 x.profile]) (by simp [results, Tryz.results82, go_sem]) rfl ⟨rfl, by repeat (first | assumption | exact Below.refl _ _ | refine Below.drew ?_ | refine Below.alloc ?_ (by first | omega | (simp <;> omega)) _ | refine Below.setCell ?_ (by first | omega | (simp <;> omega)) _)⟩
abbrev wayV (k : Int × Int × Int) : Value := .agg #[.int .i64 k.1, .int .i64 k.2.1, .int .i64 k.2.2]
def wayOk (k : Int × Int × Int) : Prop := (-9223372036854775808 ≤ k.1 ∧ k.1 ≤ 9223372036854775807) ∧ (-9223372036854775808 ≤ k.2.1 ∧ k.2.1 ≤ 9223372036854775807) ∧ (-9223372036854775808 ≤ k.2.2 ∧ k.2.2 ≤ 9223372036854775807)
theorem way_laidOut : laidOutB Tryz.prog = true := by kernel_rfl
theorem way_wide : (match Tryz.prog.underlying 129 with | some (.array _ _) | some (.struct _) => true | _ => false) = true := by kernel_rfl
set_option maxRecDepth 100000 in
theorem way_law : Go.Maps.Keyed Tryz.prog 129 := Go.Maps.Keyed.of_law (deep_law_laid way_laidOut (m := 2) (by omega) (of_decide_eq_true (by kernel_rfl)) (by kernel_rfl) way_wide)
theorem way_type : Tryz.prog.keyType 129 = true := by kernel_rfl
theorem way_cells : Tryz.prog.cellsOf 129 = 3 := by kernel_rfl
theorem int_cells : Tryz.prog.cellsOf 3 = 1 := by kernel_rfl
theorem types_pos : 0 < Tryz.prog.types.size := of_decide_eq_true (by kernel_rfl)
theorem way_key (k : Int × Int × Int) (h : wayOk k) : ∃ kl, keyOf Tryz.prog 129 (wayV k) = some kl := by
 obtain ⟨⟨h1, h2⟩, ⟨h3, h4⟩, h5, h6⟩ := h
 have hf : (wayV k).formed Tryz.prog 129 = true := by simp [Value.formed, Tryz.underlying129, way_cells]
 obtain ⟨d, hd⟩ : ∃ d, Tryz.prog.types.size + 1 = d + 1 + 1 := ⟨Tryz.prog.types.size - 1, by have := types_pos; omega⟩
 have a1 : (Lit.int .i64 k.1).wf = true := WalkArith.wf_i64 (by omega)
 have a2 : (Lit.int .i64 k.2.1).wf = true := WalkArith.wf_i64 (by omega)
 have a3 : (Lit.int .i64 k.2.2).wf = true := WalkArith.wf_i64 (by omega)
 unfold keyOf
 rw [hd]
 simp [Tryz.underlying129, way_type, hf, Program.keyLits, way_cells, int_cells, Value.cells, Tryz.underlying3, a1, a2, a3]
def wayE : KeyEnc (Int × Int × Int) 129 125 where
 val := wayV
 ok := wayOk
 law := way_law
 ht := Tryz.underlying125
 key := way_key
 inj x y h := by
  obtain ⟨a, b, c⟩ := x
  obtain ⟨a', b', c'⟩ := y
  simpa [wayV] using h
def nameE : KeyEnc ByteArray 9 124 where
 val := .string
 ok s := s.size ≤ 140737488351232
 law := Go.Maps.string_keyed Tryz.underlying9
 ht := Tryz.underlying124
 key s h := ⟨_, Go.WideMaps.keyOf_string_mk Tryz.underlying9 (by unfold maxLen; omega)⟩
 inj x y h := by injection h
def slBad (l : List Pt) (i : Nat) (p : Pt) : Bool := !tickB p.t || ((match i with
 | 0 => false
 | k + 1 => match l[k]? with
  | some q => decide (p.t ≤ q.t)
  | none => false) || !tickB p.a)
def slP (l : List Pt) (i : Nat) (p : Pt) : List Int := if slBad l i p = true then [2] else []
def slAt (l : List Pt) (i : Nat) : List Int := match l[i]? with
 | some p => slP l i p
 | none => []
def slTo (l : List Pt) : Nat → List Int
 | 0 => if 16 < l.length then [4] else []
 | j + 1 => slTo l j ++ slAt l j
theorem slP_len (l : List Pt) (i : Nat) (p : Pt) : (slP l i p).length ≤ 1 := by
 unfold slP
 split <;> simp
theorem slTo_len (l : List Pt) : ∀ j, (slTo l j).length ≤ 1 + j
 | 0 => by unfold slTo; split <;> simp
 | j + 1 => by
  have ih := slTo_len l j
  have h : (slAt l j).length ≤ 1 := by
   unfold slAt
   split
   ·exact slP_len _ _ _
   ·exact Nat.zero_le _
  rw [slTo, List.length_append]
  omega
theorem slTo_succ {l : List Pt} {j : Nat} {p : Pt} (h : l[j]? = some p) : slTo l (j + 1) = slTo l j ++ slP l j p := by
 rw [slTo]
 unfold slAt
 rw [h]
def EOwn (w : World) (base : Nat) (A : Option Addr) (c : Nat) (xs : List Int) : Prop := w.ownsRow base 33 1 (.slice A xs.length c) xs.length (xs.map (.int .i64))
end Go.Proofs.YthefooacfcagbaaGreatDoor.net
namespace Go.Proofs.YthefooacfcagbaaGreatDoor.net
open Go.RowKit
open lib rd typ app note mrk
open win (tickB tick_t tick_f)
set_option linter.unusedVariables false
set_option linter.unusedSimpArgs false
set_option maxRecDepth 20000 in
set_option maxHeartbeats 2000000 in
theorem slow_any (A : Option Addr) (c : Nat) (l : List Pt) (w : World) (hL : RowAt rPt w w.heap.size A l) (hl : l.length ≤ 1000000) :
  Calls Tryz.prog 118 #[.slice A l.length c] w (ErrsOut w (slTo l l.length)) := by
 obtain ⟨m, hm⟩ : ∃ m, l.length = m := ⟨_, rfl⟩
 have HM := Lib.hid hm
 obtain ⟨F, hF⟩ : ∃ F, slTo l = F := ⟨_, rfl⟩
 have HF := Lib.hid hF
 have hFl : ∀ j, (F j).length ≤ 1 + j := fun j => by rw [← hF]; exact slTo_len _ j
 have HF0 : Hid (F 0 = if 16 < m then [4] else []) := Lib.hid (by rw [← hF, ← hm]; rfl)
 rw [hm] at hl ⊢
 clear hm hF
 go_enter Tryz.func118, Tryz.ntmps118
 go_upto_if 8 with fail
 go_cut [3] (fun v wx => ∃ A' c', v = .slice A' (F 0).length c' ∧ EOwn wx w.heap.size A' c' (F 0) ∧ Below w.heap.size w wx)
 case first =>
  by_cases hq : 16 < m
  ·have HE : Hid (F 0 = [4]) := Lib.hid (by rw [HF0.out, if_pos hq])
   have hq' : (16 : Int) < (m : Int) := by omega
   clear hq
   go_wp2_with (at_builtin; refine push_errno rfl _ _ rfl w.heap.size _ 0 [] rfl (World.ownsRow_nil _ _ _ _) 4 rfl (by omega) (Nat.le_refl _) ?_; intro A1 c1 w1 hown1 hb1 hz1)
   go_meet
   exact ⟨A1, c1, by rw [HE.out]; rfl, by rw [HE.out]; exact hown1, hb1⟩
  ·have HE : Hid (F 0 = []) := Lib.hid (by rw [HF0.out, if_neg hq])
   have hq' : ¬ (16 : Int) < (m : Int) := by omega
   clear hq
   go_wp2
   go_meet
   exact ⟨none, 0, by rw [HE.out]; rfl, by rw [HE.out]; exact World.ownsRow_nil _ _ _ _, Below.refl _ _⟩
 obtain ⟨A', c', hv, hown, hB⟩ := hcut
 subst hv
 go_upto_region 5 with fail
 go_loopw [3, 14] (fun v k wr => ∃ (j : Nat) (A' : Option Addr) (c' : Nat), j ≤ m ∧ k = .int .i64 j ∧ v = .slice A' (F j).length c' ∧ EOwn wr w.heap.size A' c' (F j) ∧ Below w.heap.size w wr) (fun _ k _ => m - (intOf k).toNat)
 case atStart => exact ⟨0, A', c', by omega, rfl, rfl, hown, hB⟩
 case round =>
  clear hown hB
  obtain ⟨j, A', c', hj, rfl, rfl, hown, hB⟩ := hrel
  have hz := hB.size
  by_cases hlt : j < m
  ·obtain ⟨p, hp⟩ : ∃ p, l[j]? = some p := ⟨_, List.getElem?_eq_getElem (by rw [HM.out]; exact hlt)⟩
   obtain ⟨ad, rfl, hadb, ⟨m0, m1⟩, hpf⟩ := row_Pt (hL.below hB) hp
   have hk0 : (0 : Int) ≤ (j : Int) := by omega
   have hkn : (j : Int) < (m : Int) := by omega
   have hFj := hFl j
   have HP : Hid (F (j + 1) = F j ++ slP l j p) := Lib.hid (by rw [← HF.out, slTo_succ hp])
   go_upto_region 7 with fail
   have k0 : (wr.alloc (.cells #[.int .i64 p.t, .int .i64 p.a] 89)).cell? ⟨wr.heap.size, 0, none⟩ = some (.int .i64 p.t) := two_new wr _ _ _ 0 _ rfl
   have k1 : (wr.alloc (.cells #[.int .i64 p.t, .int .i64 p.a] 89)).cell? ⟨wr.heap.size, 1, none⟩ = some (.int .i64 p.a) := two_new wr _ _ _ 1 _ rfl
   obtain ⟨W, hW⟩ : ∃ W, wr.alloc (.cells #[.int .i64 p.t, .int .i64 p.a] 89) = W := ⟨_, rfl⟩
   have hownR : W.ownsRow w.heap.size 33 1 (.slice A' (F j).length c') (F j).length ((F j).map (.int .i64)) := by rw [← hW]; exact World.ownsRow.alloc hown _
   have zp : wr.heap.size < W.heap.size := by rw [← hW]; simp
   have BW : Below w.heap.size w W := by rw [← hW]; exact hB.alloc hz _
   rw [hW] at k0 k1 ⊢
   clear hW m0 m1 hown
   obtain ⟨P, hP⟩ : ∃ P, wr.heap.size = P := ⟨_, rfl⟩
   rw [hP] at k0 k1 zp ⊢
   clear hP
   have zW : w.heap.size ≤ W.heap.size := BW.size
   obtain ⟨pt, hpt⟩ : ∃ x, p.t = x := ⟨_, rfl⟩
   obtain ⟨pa, hpa⟩ : ∃ x, p.a = x := ⟨_, rfl⟩
   have HT := Lib.hid hpt
   have HA := Lib.hid hpa
   rw [hpt] at k0
   rw [hpa] at k1
   clear hpt hpa hpf
   obtain ⟨q, hq⟩ : ∃ q, slBad l j p = q := ⟨_, rfl⟩
   have HQ := Lib.hid hq
   have HP2 : Hid (F (j + 1) = F j ++ (if q = true then [2] else [])) := Lib.hid (by rw [HP.out]; unfold slP; rw [hq])
   have HLP := Lib.hid hp
   clear hq HP hp
   have HOW := Lib.hid hownR
   clear hownR
   go_cut [43] (fun v wx => v = .bool q ∧ ∃ n, wx = W.drewN n)
   case first =>
    cases hr1 : tickB pt
    case false =>
     have HE : Hid (q = true) := Lib.hid (by rw [← HQ.out]; unfold slBad; rw [HT.out, hr1]; rfl)
     go_quiet ((go_at_call 161; exact Calls.quiet_of_same ((ntick_any _ _).mono fun _ _ h => ⟨h.1, h.2.symm⟩)))
     go_wp2
     go_meet
     exact ⟨by rw [HE.out], _, rfl⟩
    case true =>
     rcases j with _ | k
     ·have HE : Hid (q = !tickB pa) := Lib.hid (by rw [← HQ.out]; unfold slBad; rw [HT.out, HA.out, hr1]; rfl)
      have hj0 : ¬ (0 : Int) < ((0 : Nat) : Int) := by omega
      go_quiet ((go_at_call 161; exact Calls.quiet_of_same ((ntick_any _ _).mono fun _ _ h => ⟨h.1, h.2.symm⟩)))
      go_wp2
      go_meet
      exact ⟨by rw [HE.out], _, rfl⟩
     ·obtain ⟨x, hx⟩ : ∃ x, l[k]? = some x := ⟨_, List.getElem?_eq_getElem (by rw [HM.out]; omega)⟩
      obtain ⟨ad2, hadeq, hadb2, ⟨n0, n1⟩, hxf⟩ := row_Pt (hL.below BW) hx
      obtain rfl : ad = ad2 := Option.some.inj hadeq
      have HE : Hid (q = (decide (pt ≤ x.t) || !tickB pa)) := Lib.hid (by rw [← HQ.out]; unfold slBad; rw [HT.out, HA.out, hr1]; simp only [hx]; rfl)
      have hj0 : (0 : Int) < ((k + 1 : Nat) : Int) := by omega
      have hj1 : IntKind.i64.wrap (((k + 1 : Nat) : Int) - 1) = (k : Int) := by rw [IntWalk.i64_in _ (by omega)]; omega
      clear hx hadeq
      cases hc1 : decide (pt ≤ x.t)
      ·have HE2 : Hid (q = !tickB pa) := Lib.hid (by rw [HE.out, hc1]; rfl)
       go_quiet ((go_at_call 161; exact Calls.quiet_of_same ((ntick_any _ _).mono fun _ _ h => ⟨h.1, h.2.symm⟩)))
       go_wp2
       go_meet
       exact ⟨by rw [HE2.out], _, rfl⟩
      ·have HE2 : Hid (q = true) := Lib.hid (by rw [HE.out, hc1]; rfl)
       go_quiet ((go_at_call 161; exact Calls.quiet_of_same ((ntick_any _ _).mono fun _ _ h => ⟨h.1, h.2.symm⟩)))
       go_wp2
       go_meet
       exact ⟨by rw [HE2.out], _, rfl⟩
   obtain ⟨h43, nq, hw43⟩ := hcut
   subst h43
   have ownD := own_below HOW.out (bel_drewN (Below.refl _ _) nq)
   have BD2 := bel_drewN BW nq
   rw [← hw43] at ownD BD2
   clear k0 k1 hw43
   go_upto_if 43 with fail
   have zD := BD2.size
   cases q
   ·have HE : Hid (F (j + 1) = F j) := Lib.hid (by rw [HP2.out]; simp)
    go_wp2
    go_roundw
    case rel => exact ⟨j + 1, A', c', by omega, by go_num, by rw [HE.out], by rw [HE.out]; exact ownD, BD2⟩
    case measure => simp [intOf]; omega
   ·have HE : Hid (F (j + 1) = F j ++ [2]) := Lib.hid (by rw [HP2.out]; simp)
    have HOD := Lib.hid ownD
    clear ownD
    go_wp2_with (at_builtin; refine push_errno rfl _ _ rfl w.heap.size _ (F j).length (F j) rfl HOD.out 2 rfl (by omega) (by omega) ?_; intro A1 c1 w1 hown1 hb1 hz1)
    go_roundw
    case rel => exact ⟨j + 1, A1, c1, by omega, by go_num, by rw [HE.out, List.length_append]; rfl, by unfold EOwn; rw [HE.out, List.length_append]; exact hown1, BD2.trans hb1⟩
    case measure => simp [intOf]; omega
  ·have hjm : j = m := by omega
   subst hjm
   go_wp2
   go_ret
   rw [HF.out]
   exact ⟨A', c', rfl, hown, hB⟩
end Go.Proofs.YthefooacfcagbaaGreatDoor.net
namespace Go.Proofs.YthefooacfcagbaaGreatDoor.trv
open Go.RowKit
open lib rd typ app flts txt note
set_option linter.unusedVariables false
set_option linter.unusedSimpArgs false
theorem within_any (a b c : Int) (w : World) : Calls Tryz.prog 160 #[.int .i64 a, .int .i64 b, .int .i64 c] w fun e w' => e = .returned (.bool (inB a b c)) ∧ w = w' := by
 by_cases h : b ≤ a
 all_goals
  go_enter Tryz.func160, Tryz.ntmps160
  go_wp2
  go_ret
  exact ⟨ret_bool (by unfold inB; first | (simp [h]; done) | (simp; omega)), rfl⟩
def tvBad (p : Pt) : Bool := !inB p.t 0 4096 || (decide (p.a < p.t) || decide (p.t + 4096 < p.a))
def tvFifo (l : List Pt) (i : Nat) (p : Pt) : Bool := match i with
 | 0 => false
 | k + 1 => match l[k]? with
  | some q => decide (p.t ≤ q.t) || decide (p.a < q.a)
  | none => false
def tvP (l : List Pt) (i : Nat) (p : Pt) : List Flt := (if tvBad p = true then [⟨2, decS i⟩] else []) ++ (if tvFifo l i p = true then [⟨13, decS i⟩] else [])
def szB (m : Nat) : Bool := decide (m = 0) || decide (16 < m)
def tvAt (l : List Pt) (i : Nat) : List Flt := match l[i]? with
 | some p => tvP l i p
 | none => []
def tvTo (l : List Pt) : Nat → List Flt
 | 0 => if szB l.length = true then [⟨4, ⟨#[]⟩⟩] else []
 | j + 1 => tvTo l j ++ tvAt l j
theorem tvP_len (l : List Pt) (i : Nat) (p : Pt) : (tvP l i p).length ≤ 2 := by
 unfold tvP
 split <;> split <;> simp
theorem tvTo_len (l : List Pt) : ∀ j, (tvTo l j).length ≤ 1 + 2 * j
 | 0 => by unfold tvTo; split <;> simp
 | j + 1 => by
  have ih := tvTo_len l j
  have h : (tvAt l j).length ≤ 2 := by
   unfold tvAt
   split
   ·exact tvP_len _ _ _
   ·exact Nat.zero_le _
  rw [tvTo, List.length_append]
  omega
theorem tvTo_succ {l : List Pt} {j : Nat} {p : Pt} (h : l[j]? = some p) : tvTo l (j + 1) = tvTo l j ++ tvP l j p := by
 rw [tvTo]
 unfold tvAt
 rw [h]
end Go.Proofs.YthefooacfcagbaaGreatDoor.trv
namespace Go.Proofs.YthefooacfcagbaaGreatDoor.net
open Go.RowKit
open lib rd typ app note mrk trv flts txt
set_option linter.unusedVariables false
set_option linter.unusedSimpArgs false
theorem errno_elem : ElemOf 126 33 (.int .i64 0) 1 8 := ⟨Tryz.underlying126, by kernel_rfl, rfl, by decide, by decide⟩
theorem flt_place {w : World} {base c : Nat} {A : Option Addr} {fs : List Flt} (h : Fown w base A c fs) :
  ∃ g, base ≤ g ∧ (0 < fs.length → A = some ⟨g, 0, none⟩ ∧ g < w.heap.size) ∧ ∀ (q : Nat) f, fs[q]? = some f → w.cell? ⟨g, q * 2, none⟩ = some (.int .i64 f.err) ∧ w.cell? ⟨g, q * 2 + 1, none⟩ = some (.string f.at_) := by
 unfold Fown at h
 rcases h.2 with ⟨h1, h2⟩ | ⟨g, cap, cur, h1, h2, h3, h4⟩
 ·exact ⟨base, Nat.le_refl _, fun hh => absurd hh (by omega), fun q f hq => absurd (List.getElem?_eq_some_iff.1 hq).1 (by omega)⟩
 ·injection h1 with h1 _ _
  subst h1
  refine ⟨g, h2, fun _ => ⟨rfl, (Array.getElem?_eq_some_iff.1 h3).1⟩, fun q f hq => ?_⟩
  have hlt := (List.getElem?_eq_some_iff.1 hq).1
  have hf := fun j hj => flat_at (g := fun f : Flt => [Value.int .i64 f.err, Value.string f.at_]) (s := 2) (fun _ => rfl) fs q f hq j hj
  have h0 := hf 0 (by decide)
  have h1' := hf 1 (by decide)
  refine ⟨?_, ?_⟩
  ·rw [h.cellAt (q * 2) (by omega)]
   exact h0
  ·rw [h.cellAt (q * 2 + 1) (by omega)]
   exact h1'
def arcOk (P : Int) (x : Arc) : Bool := placeB P x.frm && placeB P x.to
def arcBad (x : Arc) : Bool := decide (x.profile < 0) || (decide (7 < x.profile) || (decide (x.miles < 0) || (decide (10000 < x.miles) || (x.frm == x.to))))
def wayK (x : Arc) : Int × Int × Int := (x.frm, x.to, x.profile)
def arcE (P : Int) (ks : List (Int × Int × Int)) (x : Arc) : List Int :=
 ((pushIf (pushIf (pushIf [] (arcOk P x) 11) (!arcBad x) 2) (!hasB ks (wayK x)) 6) ++ (tvTo x.travel x.travel.length).map (·.err)) ++ slTo x.slow x.slow.length
theorem wayOk_of {x : Arc} (h : ArcFits x) : wayOk (wayK x) := by
 unfold ArcFits at h
 exact ⟨h.1, h.2.1, h.2.2.1⟩
end Go.Proofs.YthefooacfcagbaaGreatDoor.net
namespace Go.Proofs.YthefooacfcagbaaGreatDoor.net
open Go.RowKit
open lib rd typ app note mrk trv flts txt eqg
set_option linter.unusedVariables false
set_option linter.unusedSimpArgs false
def plcS (i : Nat) : ByteArray := ⟨#[112, 108, 97, 99, 101, 32]⟩ ++ decS i
def arcS (i : Nat) : ByteArray := ⟨#[97, 114, 99, 32]⟩ ++ decS i
def plP (l : List ByteArray) (i : Nat) (s : ByteArray) : List Flt := if nameB s = true then (if hasB (l.take i) s = true then [⟨6, plcS i⟩] else []) else [⟨5, plcS i⟩]
def plAt (l : List ByteArray) (i : Nat) : List Flt := match l[i]? with
 | some s => plP l i s
 | none => []
def plTo (l : List ByteArray) : Nat → List Flt
 | 0 => if 24 < l.length then [⟨4, ⟨#[112, 108, 97, 99, 101, 115]⟩⟩] else []
 | j + 1 => plTo l j ++ plAt l j
theorem plP_len (l : List ByteArray) (i : Nat) (s : ByteArray) : (plP l i s).length ≤ 1 := by
 unfold plP
 split
 ·split <;> simp
 ·simp
theorem plTo_len (l : List ByteArray) : ∀ j, (plTo l j).length ≤ 1 + j
 | 0 => by unfold plTo; split <;> simp
 | j + 1 => by
  have ih := plTo_len l j
  have h : (plAt l j).length ≤ 1 := by
   unfold plAt
   split
   ·exact plP_len _ _ _
   ·exact Nat.zero_le _
  rw [plTo, List.length_append]
  omega
theorem plTo_succ {l : List ByteArray} {j : Nat} {s : ByteArray} (h : l[j]? = some s) : plTo l (j + 1) = plTo l j ++ plP l j s := by
 rw [plTo]
 unfold plAt
 rw [h]
theorem take_snoc' {α : Type} {l : List α} {k : Nat} {x : α} (h : l[k]? = some x) : l.take (k + 1) = l.take k ++ [x] := by
 obtain ⟨h1, h2⟩ := List.getElem?_eq_some_iff.1 h
 rw [List.take_succ_eq_append_getElem h1, h2]
def arFs (P : Int) (l : List Arc) (i : Nat) (x : Arc) : List Flt := (arcE P ((l.take i).map wayK) x).map fun e => ⟨e, arcS i⟩
def arAt (P : Int) (l : List Arc) (i : Nat) : List Flt := match l[i]? with
 | some x => arFs P l i x
 | none => []
def netTo (n : Net) : Nat → List Flt
 | 0 => plTo n.places n.places.length ++ (if 1024 < n.arcs.length then [⟨4, ⟨#[97, 114, 99, 115]⟩⟩] else [])
 | j + 1 => netTo n j ++ arAt n.places.length n.arcs j
theorem netTo_succ {n : Net} {j : Nat} {x : Arc} (h : n.arcs[j]? = some x) : netTo n (j + 1) = netTo n j ++ arFs n.places.length n.arcs j x := by
 rw [netTo]
 unfold arAt
 rw [h]
theorem pushIf_le (xs : List Int) (r : Bool) (u : Int) (k : Nat) (h : xs.length ≤ k) : (pushIf xs r u).length ≤ k + 1 := Nat.le_trans (pushIf_len _ _ _) (Nat.add_le_add_right h 1)
theorem row_place' {w : World} {base c : Nat} {e : TypeId} {A : Option Addr} {l : List Int} (P : Nat) (hP : P < w.heap.size) (h : w.ownsRow base e 1 (.slice A l.length c) l.length (l.map (.int .i64))) :
  ∃ g, g < w.heap.size ∧ (g = P ∨ base ≤ g) ∧ (0 < l.length → A = some ⟨g, 0, none⟩) ∧ ∀ q, q < l.length → w.cell? ⟨g, q, none⟩ = some (.int .i64 (l[q]?.getD 0)) := by
 obtain ⟨g, h1, h2, h3⟩ := row_place h
 by_cases h0 : 0 < l.length
 ·exact ⟨g, (h2 h0).2, .inr h1, fun _ => (h2 h0).1, h3⟩
 ·exact ⟨P, hP, .inl rfl, fun hh => absurd hh h0, fun q hq => absurd hq (by omega)⟩
end Go.Proofs.YthefooacfcagbaaGreatDoor.net
namespace Go.Proofs.YthefooacfcagbaaGreatDoor.cat
open Go.RowKit
open lib rd typ app flts note
set_option linter.unusedVariables false
set_option linter.unusedSimpArgs false
theorem wpList_zeros {ops : Array Oper} {rest : List Oper} {o : Oper} {a : Act} {Q : Exit → Act → World → Prop} {w : World} (hgd : o.guard = none) (s x : Operand)
  (ho : o.op = .call { callee := .builtin .append, args := #[s, x], argTypes := #[50, 3] }) (n : Nat) (h0 : 0 < n) (hn : n ≤ 1000000) (hs : a.eval s = .slice none 0 0) (hx : a.eval x = .int .i64 n)
  (h : ∀ c w', n ≤ c → w'.ownsRow w.heap.size 53 2 (.slice (some ⟨w.heap.size, 0, none⟩) 0 c) 0 [] → Below w.heap.size w w' → wpList Tryz.prog ops Q rest (a.put o.dst (.slice (some ⟨w.heap.size, 0, none⟩) n c)) w') : wpList Tryz.prog ops Q (o :: rest) a w := by
 refine wpList_plain hgd fun _ hK => ?_
 obtain ⟨i0, hi, hz0, hz1, hz2⟩ := info_parts fault_elem.info
 have hr := Lib.run_append_nil_zeros (P := Tryz.prog) w 50 3 o.type 53 i0 (.agg #[.int .i64 0, .string ⟨#[]⟩]) .i64 .i64 Tryz.underlying50 Tryz.underlying3 hi hz0 n h0 (by omega) (by omega) (by rw [hz2]; omega)
 unfold Oper.wp execOp
 simp only [ho, resolve, invoke, builtin, Sem.run_bind, Sem.run_pure, Result.andThen_ok, List.map_toArray, List.map_cons, List.map_nil, hs, hx, hr]
 have hge := grownCap_ge w n 0 53
 refine hK _ _ (h _ _ hge ⟨rfl, .inr ⟨w.heap.size, grownCap w n 0 53, _, rfl, Nat.le_refl _, World.alloc_heap_new w.drew _, Nat.zero_le _, grownCap_le_maxLen w n 0 _ (by unfold maxLen; omega), ?_, by simp⟩⟩ ?_)
 ·rw [Array.size_append, size_zeroCells, size_zeroCells]
  simp [Value.cells]
  omega
 ·exact ((Below.refl _ _).drew).alloc (Nat.le_refl _) _
def GrowOut (w : World) (e : Ending) (w' : World) : Prop := ∃ A c, e = .returned (.slice A 0 c) ∧ w'.ownsRow w.heap.size 53 2 (.slice A 0 c) 0 [] ∧ Below w.heap.size w w'
theorem grow_any (n : Nat) (hn : n ≤ 1000000) (w : World) : Calls Tryz.prog 79 #[.slice none 0 0, .int .i64 n] w (GrowOut w) := by
 have h0 : (0 : Int) ≤ n := by omega
 by_cases h : 0 < n
 ·have h1 : (0 : Int) < n := by omega
  go_enter Tryz.func79, Tryz.ntmps79
  go_wp2_with (at_builtin; refine wpList_zeros rfl _ _ rfl n h hn rfl rfl ?_; intro c1 w1 hc1 hown1 hb1)
  go_ret
  exact ⟨some ⟨w.heap.size, 0, none⟩, c1, rfl, hown1, hb1⟩
 ·have h1 : ¬ (0 : Int) < n := by omega
  go_enter Tryz.func79, Tryz.ntmps79
  go_wp2
  go_ret
  exact ⟨none, 0, rfl, World.ownsRow_nil _ _ _ _, Below.refl _ _⟩
def FRows (w : World) (B : Nat) (A : Option Addr) (fss : List (List Flt)) : Prop :=
 ∀ (i : Nat) fs, fss[i]? = some fs → ∃ ad Ai ci, A = some ad ∧ ad.block < B ∧ w.cell? (ad.add i) = some (.slice Ai fs.length ci) ∧ Reads w B 2 Ai fs.length (fcs fs)
theorem FRows.below {w w' : World} {B : Nat} {A : Option Addr} {fss : List (List Flt)} (h : FRows w B A fss) (hb : Below B w w') : FRows w' B A fss := fun i fs hi => by
 obtain ⟨ad, Ai, ci, h1, h2, h3, h4⟩ := h i fs hi
 exact ⟨ad, Ai, ci, h1, h2, (hb.cell (by rw [block_of_add]; exact h2)).trans h3, h4.below hb⟩
def catL (fss : List (List Flt)) (k : Nat) : List Flt := (fss.take k).flatten
theorem catL_succ {fss : List (List Flt)} {k : Nat} {fs : List Flt} (h : fss[k]? = some fs) : catL fss (k + 1) = catL fss k ++ fs := by
 obtain ⟨h1, h2⟩ := List.getElem?_eq_some_iff.1 h
 unfold catL
 rw [List.take_succ_eq_append_getElem h1, h2, List.flatten_append]
 simp
theorem catL_le (fss : List (List Flt)) (k : Nat) : (catL fss k).length ≤ (catL fss fss.length).length := by
 have h : catL fss fss.length = (fss.take k).flatten ++ (fss.drop k).flatten := by unfold catL; rw [← List.flatten_append, List.take_append_drop, List.take_length]
 rw [h, List.length_append]
 exact Nat.le_add_right _ _
theorem fcs_one (fs : List Flt) : ∀ u ∈ fcs fs, u.oneCell' = true := fun u hu => by
 unfold fcs at hu
 rw [List.mem_flatMap] at hu
 obtain ⟨f, _, hf⟩ := hu
 simp at hf
 rcases hf with rfl | rfl <;> rfl
theorem fcs_append (a b : List Flt) : fcs (a ++ b) = fcs a ++ fcs b := by simp [fcs]
set_option maxRecDepth 20000 in
set_option maxHeartbeats 1000000 in
theorem concat_any (A : Option Addr) (c : Nat) (fss : List (List Flt)) (w : World) (hL : FRows w w.heap.size A fss) (hn : fss.length ≤ 1000) (ht : (catL fss fss.length).length ≤ 1000000) :
  Calls Tryz.prog 43 #[.slice A fss.length c] w (FltsOut w (catL fss fss.length)) := by
 obtain ⟨n, hn'⟩ : ∃ n, fss.length = n := ⟨_, rfl⟩
 have HN := Lib.hid hn'
 have HTL : Hid (∀ k, (catL fss k).length ≤ 1000000) := Lib.hid fun k => Nat.le_trans (catL_le fss k) ht
 rw [hn'] at hn ⊢
 clear hn' ht
 go_enter Tryz.func43, Tryz.ntmps43
 go_wp2
 go_loopw [3, 11] (fun v i wr => ∃ k : Nat, k ≤ n ∧ i = .int .i64 k ∧ v = .int .i64 (catL fss k).length ∧ Below w.heap.size w wr) (fun _ i _ => n - (intOf i).toNat)
 case atStart => exact ⟨0, by omega, rfl, rfl, Below.refl _ _⟩
 case round =>
  obtain ⟨k, hk, rfl, rfl, hb0⟩ := hrel
  have hlk := HTL.out k
  by_cases hlt : k < n
  ·obtain ⟨fs, hfs⟩ : ∃ fs, fss[k]? = some fs := ⟨_, List.getElem?_eq_getElem (by rw [HN.out]; exact hlt)⟩
   obtain ⟨ad, Ai, ci, rfl, hadb, hc, _⟩ := hL.below hb0 k fs hfs
   have hk0 : (0 : Int) ≤ (k : Int) := by omega
   have hkn : (k : Int) < (n : Int) := by omega
   have hl1 := HTL.out (k + 1)
   have HT : Hid ((catL fss (k + 1)).length = (catL fss k).length + fs.length) := Lib.hid (by rw [catL_succ hfs, List.length_append])
   rw [catL_succ hfs, List.length_append] at hl1
   obtain ⟨q, hq⟩ : ∃ q, (catL fss k).length = q := ⟨_, rfl⟩
   rw [hq] at HT hlk hl1
   simp only [hq]
   have h3 : ¬ ((q : Int) + (fs.length : Int) < 0) := by omega
   clear hfs hq
   go_wp2
   go_roundw
   case rel => exact ⟨k + 1, by omega, by go_num, by rw [HT.out]; go_num, hb0⟩
   case measure => simp [intOf]; omega
  ·have hkn : n = k := by omega
   subst hkn
   go_wp2_with (go_at_call 79; refine (grow_any _ hlk _).mono ?_; rintro e w1 ⟨A1, c1, rfl, hown1, hb1⟩)
   have hown1' := own_less hown1 hb0.size
   have hb1' : Below w.heap.size w w1 := hb0.trans (hb1.mono hb0.size)
   clear hown1 hb1
   go_loopw [6, 27] (fun v i wr => ∃ (k : Nat) (A2 : Option Addr) (c2 : Nat), k ≤ n ∧ i = .int .i64 k ∧ v = .slice A2 (catL fss k).length c2 ∧ wr.ownsRow w.heap.size 53 2 (.slice A2 (catL fss k).length c2) (catL fss k).length (fcs (catL fss k)) ∧ Below w.heap.size w wr) (fun _ i _ => n - (intOf i).toNat)
   case atStart => exact ⟨0, A1, c1, by omega, rfl, rfl, hown1', hb1'⟩
   case round =>
    clear hown1' hb1'
    obtain ⟨k, A2, c2, hk2, rfl, rfl, hown, hb⟩ := hrel
    have zb := hb.size
    have hlk2 := HTL.out k
    by_cases hlt2 : k < n
    ·obtain ⟨fs, hfs⟩ : ∃ fs, fss[k]? = some fs := ⟨_, List.getElem?_eq_getElem (by rw [HN.out]; exact hlt2)⟩
     obtain ⟨ad, Ai, ci, rfl, hadb, hc, hr⟩ := hL.below hb k fs hfs
     have hk0 : (0 : Int) ≤ (k : Int) := by omega
     have hkn : (k : Int) < (n : Int) := by omega
     have hl1 := HTL.out (k + 1)
     have HT : Hid (catL fss (k + 1) = catL fss k ++ fs) := Lib.hid (catL_succ hfs)
     rw [HT.out, List.length_append] at hl1
     obtain ⟨q, hq⟩ : ∃ q, catL fss k = q := ⟨_, rfl⟩
     rw [hq] at HT hlk2 hl1 hown
     simp only [hq]
     have HR := Lib.hid hr
     have HO := Lib.hid hown
     clear hfs hq hr hown
     go_wp2_with (at_builtin; refine wpList_appN fault_elem _ _ rfl w.heap.size (.slice A2 q.length c2) q.length (fcs q) rfl HO.out w.heap.size Ai fs.length ci (fcs fs) rfl HR.out (fcs_one _) (by omega) zb rfl ?_; intro A5 c5 w5 hown5 hg5)
     go_roundw
     case rel => exact ⟨k + 1, A5, c5, by omega, by go_num, by rw [HT.out, List.length_append]; first | done | rfl, by rw [HT.out, List.length_append, fcs_append]; exact hown5, hb.grown hg5 zb (fun q' e => (World.ownsRow.lt HO.out _ e).1)⟩
     case measure => simp [intOf]; omega
    ·have hkn : n = k := by omega
     subst hkn
     go_wp2
     go_ret
     exact ⟨A2, c2, rfl, hown, hb⟩
end Go.Proofs.YthefooacfcagbaaGreatDoor.cat

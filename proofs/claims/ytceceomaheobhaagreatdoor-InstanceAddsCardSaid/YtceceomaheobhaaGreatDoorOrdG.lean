/- The errors of an order. -/
import Derived.Test.YtceceomaheobhaaGreatDoorOrdF
import Derived.Test.YtceceomaheobhaaGreatDoorBase
import Derived.Deep.RegionHeld3
import Derived.Deep.DeepCutAuto
import Derived.Outline
namespace Go.Proofs.YtceceomaheobhaaGreatDoor.ord
open Go.RowKit
open Go.Proofs.YtceceomaheobhaaGreatDoor.lib Go.Proofs.YtceceomaheobhaaGreatDoor.rd Go.Proofs.YtceceomaheobhaaGreatDoor.typ Go.Proofs.YtceceomaheobhaaGreatDoor.txt Go.Proofs.YtceceomaheobhaaGreatDoor.note
set_option linter.unusedVariables false
set_option linter.unusedSimpArgs false

/-- Block k holds an order's cells. -/
def OrBlk (w : World) (k : Nat) (t : Ord) (C : Option Addr) (c : Nat) : Prop := w.heap[k]? = some (.cells (OrdCells t C c).toArray 42 (0, 0))
theorem OrBlk.cells {w : World} {k : Nat} {t : Ord} {C : Option Addr} {c : Nat} (h : OrBlk w k t C c) : w.cell? ⟨k, 0, none⟩ = some (.string t.name) ∧ w.cell? ⟨k, 1, none⟩ = some (.slice C t.load.length c) ∧ w.cell? ⟨k, 2, none⟩ = some (.int .i64 t.pick.place) ∧ w.cell? ⟨k, 3, none⟩ = some (.int .i64 t.pick.opn) ∧ w.cell? ⟨k, 4, none⟩ = some (.int .i64 t.pick.close) ∧ w.cell? ⟨k, 5, none⟩ = some (.int .i64 t.pick.service) ∧
    w.cell? ⟨k, 6, none⟩ = some (.int .i64 t.drop.place) ∧ w.cell? ⟨k, 7, none⟩ = some (.int .i64 t.drop.opn) ∧ w.cell? ⟨k, 8, none⟩ = some (.int .i64 t.drop.close) ∧ w.cell? ⟨k, 9, none⟩ = some (.int .i64 t.drop.service) ∧ w.cell? ⟨k, 10, none⟩ = some (.int .i64 t.skills) ∧ w.cell? ⟨k, 11, none⟩ = some (.int .i64 t.penalty) ∧ w.cell? ⟨k, 12, none⟩ = some (.int .i64 t.split) ∧ w.cell? ⟨k, 13, none⟩ = some (.int .i64 t.last) ∧ w.cell? ⟨k, 14, none⟩ = some (.int .i64 t.now) ∧ w.cell? ⟨k, 15, none⟩ = some (.bool t.off) := by
  refine ⟨?_, ?_, ?_, ?_, ?_, ?_, ?_, ?_, ?_, ?_, ?_, ?_, ?_, ?_, ?_, ?_⟩ <;> simp [World.cell?, show w.heap[k]? = _ from h, OrdCells]

/-- Where the walk of errors stands between two questions. -/
structure St (H : Nat) (w : World) (t : Ord) (C : Option Addr) (c : Nat) (xs : List Int) (wx : World) : Prop where
  box : BoxRow wx (H + 1) (H + 1 + 1 + 1) xs
  blk : OrBlk wx (H + 1 + 1) t C c
  bel : Below H w wx
  len : xs.length < 50
theorem St.size {H : Nat} {w : World} {t : Ord} {C : Option Addr} {c : Nat} {xs : List Int} {wx : World} (h : St H w t C c xs wx) : H + 1 + 1 + 1 ≤ wx.heap.size := by obtain ⟨_, _, _, _, _, h4, _⟩ := h.box; exact h4
theorem St.below {H : Nat} {w : World} {t : Ord} {C : Option Addr} {c : Nat} {xs : List Int} {wx wy : World} (h : St H w t C c xs wx) (hb : Below wx.heap.size wx wy) : St H w t C c xs wy := by
  have hs := h.size
  exact ⟨h.box.below hb, (hb.block _ (by omega)).trans h.blk, h.bel.trans (hb.mono (by omega)), h.len⟩
theorem St.add {H : Nat} {w : World} {t : Ord} {C : Option Addr} {c : Nat} {xs ys : List Int} {wx wy : World} {e : Ending} (h : St H w t C c xs wx) (ha : AddOut wx (H + 1) (H + 1 + 1 + 1) ys e wy) (hl : ys.length < 50) : St H w t C c ys wy := by
  obtain ⟨_, h1, h2, h3, _⟩ := ha
  exact ⟨h1, (h3 _ (by omega) (by omega)).trans h.blk, h.bel.trans (h2.mono (by omega)), hl⟩

/-- Both windows of an order are right. -/
def winB (o : Ord) : Bool := (win.chk o.pick.place o.pick.opn o.pick.close o.pick.service == 0) && (win.chk o.drop.place o.drop.opn o.drop.close o.drop.service == 0)
/-- The errors of an order, in order. -/
def errsO (places dims types : Int) (l : List Ord) (i : Nat) (o : Ord) : List Int :=
  pushIf (pushIf (pushIf (pushIf (pushIf (pushIf (pushIf (pushIf [] (nameB o.name) 5) (!((l.take i).any (fun x => sameS x.name o.name))) 6) (loads.rightB o.load dims) 17) (inB o.pick.place (-1) places && inB o.drop.place (-1) places) 11) ((o.pick.place != -1) || (o.drop.place != -1)) 19) (winB o) 14) (inB o.skills 0 1073741823) 18) (numB o types) 2

set_option maxRecDepth 100000 in
set_option maxHeartbeats 4000000 in
theorem errors_any (n : Nat) (A0 : Option Addr) (d0 : Nat) (A1 : Option Addr) (n1 d1 : Nat) (dims types : Int) (A : Option Addr) (c : Nat) (l : List Ord) (i : Nat) (t : Ord) (w : World) (hL : RowAt rOrd w w.heap.size A l) (hi : l[i]? = some t) (hl : l.length ≤ 100) (hcap : l.length ≤ c) (hn : n ≤ 17592186043904) :
    Calls Tryz.prog 67 #[.agg #[.slice A0 n d0, .slice A1 n1 d1], .int .i64 dims, .int .i64 types, .slice A l.length c, .int .i64 i] w (ErrsOut w (errsO ((n : Int) - 1) dims types l i t)) := by
  obtain ⟨ad, C, cc, rfl, hadb, ⟨m0, m1, m2, m3, m4, m5, m6, m7, m8, m9, m10, m11, m12, m13, m14, m15⟩, hIC, hfit⟩ := row_Ord hL hi
  have hil : i < l.length := (List.getElem?_eq_some_iff.1 hi).1
  have hi0 : (0 : Int) ≤ (i : Int) := by omega
  have hin : (i : Int) < (l.length : Int) := by omega
  have hnp : (n : Int) ≤ 17592186043904 := by omega
  have hb0 : (ad.add (i * 16)).block < w.heap.size := by rw [block_of_add]; exact hadb
  have hb1 : (ad.add (i * 16)).block < w.heap.size + 1 := by omega
  have hb2 : (ad.add (i * 16)).block < w.heap.size + 1 + 1 := by omega
  go_enter Tryz.func67, Tryz.ntmps67
  go_upto_region 5 with fail
  obtain ⟨W0, hW0⟩ : ∃ W0, ((w.alloc (.cells #[.slice A0 n d0, .slice A1 n1 d1] 25)).alloc (.cells #[.slice none 0 0] 109)).alloc (.cells (OrdCells t C cc).toArray 42) = W0 := ⟨_, rfl⟩
  have st0 : St w.heap.size w t C cc [] W0 := by
    rw [← hW0]
    refine ⟨⟨none, 0, ?_, World.ownsRow_nil _ _ _ _, by omega, by simp, by simp⟩, ?_, ?_, by simp⟩
    · have h := (Boxed.new (w.alloc (.cells #[.slice A0 n d0, .slice A1 n1 d1] 25)) 109 (.slice none 0 0)).alloc (.cells (OrdCells t C cc).toArray 42)
      simpa using h
    · have h := World.alloc_heap_new ((w.alloc (.cells #[.slice A0 n d0, .slice A1 n1 d1] 25)).alloc (.cells #[.slice none 0 0] 109)) (.cells (OrdCells t C cc).toArray 42)
      simpa [OrBlk] using h
    · exact (((Below.refl _ _).alloc (Nat.le_refl _) _).alloc (by simp) _).alloc (by simp; omega) _
  have hW1 : ((w.alloc (.cells #[.slice A0 n d0, .slice A1 n1 d1] 25)).alloc (.cells #[.slice none 0 0] 109)).alloc (.cells #[.string t.name, .slice C t.load.length cc, .int .i64 t.pick.place, .int .i64 t.pick.opn, .int .i64 t.pick.close, .int .i64 t.pick.service, .int .i64 t.drop.place, .int .i64 t.drop.opn, .int .i64 t.drop.close, .int .i64 t.drop.service, .int .i64 t.skills, .int .i64 t.penalty, .int .i64 t.split, .int .i64 t.last, .int .i64 t.now, .bool t.off] 42) = W0 := hW0
  rw [hW1]
  clear hW0 hW1 m0 m1 m2 m3 m4 m5 m6 m7 m8 m9 m10 m11 m12 m13 m14 m15
  obtain ⟨x0, hx0⟩ : ∃ x : List Int, [] = x := ⟨_, rfl⟩
  have lx0 : x0.length ≤ 0 := by rw [← hx0]; exact Nat.le_refl _
  rw [hx0] at st0
  have HX0 := Lib.hid hx0
  clear hx0
  obtain ⟨x1, hx1⟩ : ∃ x, pushIf x0 (nameB t.name) 5 = x := ⟨_, rfl⟩
  have lx1 : x1.length ≤ 1 := by have h := pushIf_len x0 (nameB t.name) 5; rw [hx1] at h; omega
  have HX1 := Lib.hid hx1
  clear hx1
  go_upto_region 5 with fail
  go_cut [] (fun wx => St w.heap.size w t C cc x1 wx)
  case first =>
    have stx := st0
    have hbx := stx.box
    obtain ⟨m0, m1, m2, m3, m4, m5, m6, m7, m8, m9, m10, m11, m12, m13, m14, m15⟩ := stx.blk.cells
    have hn1 := hfit.1
    all_goals go_wp2_with (first | (go_at_call 62; refine (name_any _ hn1 _).mono ?_; rintro e w1 ⟨rfl, rfl⟩) | (go_at_call 101; refine (add_any _ _ _ _ _ _ hbx (by omega)).mono ?_; rintro e w1 hadd; have hadd' := hadd; obtain ⟨rfl, _⟩ := hadd'))
    all_goals go_meet
    all_goals exact stx.add (by rw [← HX1.out]; exact hadd) (by omega)
  have st1 := hcut
  clear hcut st0
  obtain ⟨x2, hx2⟩ : ∃ x, pushIf x1 (!((l.take i).any (fun x => sameS x.name t.name))) 6 = x := ⟨_, rfl⟩
  have lx2 : x2.length ≤ 2 := by have h := pushIf_len x1 (!((l.take i).any (fun x => sameS x.name t.name))) 6; rw [hx2] at h; omega
  have HX2 := Lib.hid hx2
  clear hx2
  go_upto_region 6 with fail
  go_cut [] (fun wx => St w.heap.size w t C cc x2 wx)
  case first =>
    have stx := st1
    have hbx := stx.box
    obtain ⟨m0, m1, m2, m3, m4, m5, m6, m7, m8, m9, m10, m11, m12, m13, m14, m15⟩ := stx.blk.cells
    have hsz := stx.size; have hic : (i : Int) ≤ (c : Int) := (by omega); have HA := Lib.hid (And.intro ((hL.below stx.bel).take i) (show (l.take i).length = i by rw [List.length_take]; omega)); have hsz2 := stx.bel.size
    all_goals go_wp2_with (first | (go_at_call 88; refine (hasOrds_any _ _ (l.take i) i HA.out.2 _ t.name _ w.heap.size hsz2 HA.out.1 (by omega) m0).mono ?_; rintro e w2 ⟨rfl, hb2⟩; have stx := stx.below hb2; have hbx := stx.box) | (go_at_call 101; refine (add_any _ _ _ _ _ _ hbx (by omega)).mono ?_; rintro e w1 hadd; have hadd' := hadd; obtain ⟨rfl, _⟩ := hadd'))
    all_goals go_meet
    all_goals exact stx.add (by rw [← HX2.out]; exact hadd) (by omega)
  have st2 := hcut
  clear hcut st1
  obtain ⟨x3, hx3⟩ : ∃ x, pushIf x2 (loads.rightB t.load dims) 17 = x := ⟨_, rfl⟩
  have lx3 : x3.length ≤ 3 := by have h := pushIf_len x2 (loads.rightB t.load dims) 17; rw [hx3] at h; omega
  have HX3 := Lib.hid hx3
  clear hx3
  go_upto_region 7 with fail
  go_cut [] (fun wx => St w.heap.size w t C cc x3 wx)
  case first =>
    have stx := st2
    have hbx := stx.box
    obtain ⟨m0, m1, m2, m3, m4, m5, m6, m7, m8, m9, m10, m11, m12, m13, m14, m15⟩ := stx.blk.cells
    have hIC2 := hIC.below stx.bel
    all_goals go_wp2_with (first | (go_at_call 80; refine (loads.right_any _ _ _ _ _ _ hIC2).mono ?_; rintro e w1 ⟨rfl, rfl⟩) | (go_at_call 101; refine (add_any _ _ _ _ _ _ hbx (by omega)).mono ?_; rintro e w1 hadd; have hadd' := hadd; obtain ⟨rfl, _⟩ := hadd'))
    all_goals go_meet
    all_goals exact stx.add (by rw [← HX3.out]; exact hadd) (by omega)
  have st3 := hcut
  clear hcut st2
  obtain ⟨x4, hx4⟩ : ∃ x, pushIf x3 (inB t.pick.place (-1) ((n : Int) - 1) && inB t.drop.place (-1) ((n : Int) - 1)) 11 = x := ⟨_, rfl⟩
  have lx4 : x4.length ≤ 4 := by have h := pushIf_len x3 (inB t.pick.place (-1) ((n : Int) - 1) && inB t.drop.place (-1) ((n : Int) - 1)) 11; rw [hx4] at h; omega
  have HX4 := Lib.hid hx4
  clear hx4
  go_upto_region 8 with fail
  go_cut [] (fun wx => St w.heap.size w t C cc x4 wx)
  case first =>
    have stx := st3
    have hbx := stx.box
    obtain ⟨m0, m1, m2, m3, m4, m5, m6, m7, m8, m9, m10, m11, m12, m13, m14, m15⟩ := stx.blk.cells
    cases hq : inB t.pick.place (-1) ((n : Int) - 1)
    all_goals go_wp2_with (first | (go_at_call 103; refine (winB_any _ _ _ _).mono ?_; rintro e w1 ⟨rfl, rfl⟩) | (go_at_call 101; refine (add_any _ _ _ _ _ _ hbx (by omega)).mono ?_; rintro e w1 hadd; have hadd' := hadd; obtain ⟨rfl, _⟩ := hadd'))
    all_goals go_meet
    all_goals exact stx.add (by rw [← HX4.out]; rw [hq]; exact hadd) (by omega)
  have st4 := hcut
  clear hcut st3
  obtain ⟨x5, hx5⟩ : ∃ x, pushIf x4 ((t.pick.place != -1) || (t.drop.place != -1)) 19 = x := ⟨_, rfl⟩
  have lx5 : x5.length ≤ 5 := by have h := pushIf_len x4 ((t.pick.place != -1) || (t.drop.place != -1)) 19; rw [hx5] at h; omega
  have HX5 := Lib.hid hx5
  clear hx5
  go_upto_region 9 with fail
  go_cut [] (fun wx => St w.heap.size w t C cc x5 wx)
  case first =>
    have stx := st4
    have hbx := stx.box
    obtain ⟨m0, m1, m2, m3, m4, m5, m6, m7, m8, m9, m10, m11, m12, m13, m14, m15⟩ := stx.blk.cells
    cases hq : (t.pick.place != -1)
    all_goals go_wp2_with (first | fail | (go_at_call 101; refine (add_any _ _ _ _ _ _ hbx (by omega)).mono ?_; rintro e w1 hadd; have hadd' := hadd; obtain ⟨rfl, _⟩ := hadd'))
    all_goals go_meet
    all_goals exact stx.add (by rw [← HX5.out]; rw [hq]; exact hadd) (by omega)
  have st5 := hcut
  clear hcut st4
  obtain ⟨x6, hx6⟩ : ∃ x, pushIf x5 (winB t) 14 = x := ⟨_, rfl⟩
  have lx6 : x6.length ≤ 6 := by have h := pushIf_len x5 (winB t) 14; rw [hx6] at h; omega
  have HX6 := Lib.hid hx6
  clear hx6
  go_upto_region 10 with fail
  go_cut [] (fun wx => St w.heap.size w t C cc x6 wx)
  case first =>
    have stx := st5
    have hbx := stx.box
    obtain ⟨m0, m1, m2, m3, m4, m5, m6, m7, m8, m9, m10, m11, m12, m13, m14, m15⟩ := stx.blk.cells
    cases hq : (win.chk t.pick.place t.pick.opn t.pick.close t.pick.service == 0)
    all_goals go_wp2_with (first | (go_at_call 104; refine (win.check_any _ _ _ _ _).mono ?_; rintro e w2 ⟨rfl, hb2⟩; have stx := stx.below hb2; have hbx := stx.box; obtain ⟨m0, m1, m2, m3, m4, m5, m6, m7, m8, m9, m10, m11, m12, m13, m14, m15⟩ := stx.blk.cells) | (go_at_call 101; refine (add_any _ _ _ _ _ _ hbx (by omega)).mono ?_; rintro e w1 hadd; have hadd' := hadd; obtain ⟨rfl, _⟩ := hadd'))
    all_goals go_meet
    all_goals exact stx.add (by rw [← HX6.out]; unfold winB; rw [hq]; exact hadd) (by omega)
  have st6 := hcut
  clear hcut st5
  obtain ⟨x7, hx7⟩ : ∃ x, pushIf x6 (inB t.skills 0 1073741823) 18 = x := ⟨_, rfl⟩
  have lx7 : x7.length ≤ 7 := by have h := pushIf_len x6 (inB t.skills 0 1073741823) 18; rw [hx7] at h; omega
  have HX7 := Lib.hid hx7
  clear hx7
  go_upto_region 11 with fail
  go_cut [] (fun wx => St w.heap.size w t C cc x7 wx)
  case first =>
    have stx := st6
    have hbx := stx.box
    obtain ⟨m0, m1, m2, m3, m4, m5, m6, m7, m8, m9, m10, m11, m12, m13, m14, m15⟩ := stx.blk.cells
    skip
    all_goals go_wp2_with (first | (go_at_call 103; refine (winB_any _ _ _ _).mono ?_; rintro e w1 ⟨rfl, rfl⟩) | (go_at_call 101; refine (add_any _ _ _ _ _ _ hbx (by omega)).mono ?_; rintro e w1 hadd; have hadd' := hadd; obtain ⟨rfl, _⟩ := hadd'))
    all_goals go_meet
    all_goals exact stx.add (by rw [← HX7.out]; exact hadd) (by omega)
  have st7 := hcut
  clear hcut st6
  obtain ⟨x8, hx8⟩ : ∃ x, pushIf x7 (numB t types) 2 = x := ⟨_, rfl⟩
  have lx8 : x8.length ≤ 8 := by have h := pushIf_len x7 (numB t types) 2; rw [hx8] at h; omega
  have HX8 := Lib.hid hx8
  clear hx8
  go_upto_region 12 with fail
  go_cut [] (fun wx => St w.heap.size w t C cc x8 wx)
  case first =>
    have stx := st7
    have hbx := stx.box
    obtain ⟨m0, m1, m2, m3, m4, m5, m6, m7, m8, m9, m10, m11, m12, m13, m14, m15⟩ := stx.blk.cells
    skip
    all_goals go_wp2_with (first | (go_at_call 105; refine (numbers_any t C cc types _).mono ?_; rintro e w2 ⟨rfl, hb2⟩; have stx := stx.below hb2; have hbx := stx.box) | (go_at_call 101; refine (add_any _ _ _ _ _ _ hbx (by omega)).mono ?_; rintro e w1 hadd; have hadd' := hadd; obtain ⟨rfl, _⟩ := hadd'))
    all_goals go_meet
    all_goals exact stx.add (by rw [← HX8.out]; exact hadd) (by omega)
  have st8 := hcut
  clear hcut st7
  have EL : Hid (x8 = errsO ((n : Int) - 1) dims types l i t) := Lib.hid (by
    rw [← HX8.out, ← HX7.out, ← HX6.out, ← HX5.out, ← HX4.out, ← HX3.out, ← HX2.out, ← HX1.out, ← HX0.out]
    rfl)
  obtain ⟨⟨A9, c9, hbox, hown, _, _, _⟩, _, hbel, _⟩ := st8
  have hcb := hbox.cell
  go_wp2
  go_ret
  rw [← EL.out]
  refine ⟨A9, c9, rfl, ?_, hbel⟩
  rcases hown.2 with ⟨h6, h7⟩ | ⟨g, cap, cur, h6, h7, h8⟩
  · exact ⟨hown.1, .inl ⟨h6, h7⟩⟩
  · exact ⟨hown.1, .inr ⟨g, cap, cur, h6, by omega, h8⟩⟩
end Go.Proofs.YtceceomaheobhaaGreatDoor.ord

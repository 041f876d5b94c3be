import Derived.Test.YthefooacfcagbaaGreatDoorC2
import Derived.Test.YthefooacfcagbaaGreatDoorFltX
import Derived.Deep.QuietTactic
import Derived.BigQuiet
/- The reference's rules of a type. -/
namespace Go.Proofs.YthefooacfcagbaaGreatDoor.flt
open Go.RowKit
open lib rd typ txt
set_option linter.unusedVariables false
set_option linter.unusedSimpArgs false
structure Sr (H : Nat) (w : World) (A0 : Option Addr) (n0 d0 : Nat) (t : Ty) (C : Option Addr) (c : Nat) (xs : List Int) (v : Value) (wx : World) : Prop where
 row : ∃ A d, v = .slice A xs.length d ∧ wx.ownsRow (H + 1 + 1) 33 1 (.slice A xs.length d) xs.length (xs.map (.int .i64))
 blk : TyBlk wx (H + 1) t C c
 net : wx.cell? ⟨H, 0, none⟩ = some (.slice A0 n0 d0)
 bel : Below H w wx
 size : H + 1 + 1 ≤ wx.heap.size
 len : xs.length < 50
theorem Sr.keep {H : Nat} {w : World} {A0 : Option Addr} {n0 d0 : Nat} {t : Ty} {C : Option Addr} {c : Nat} {xs ys : List Int} {v v' : Value} {wx wy : World} (h : Sr H w A0 n0 d0 t C c xs v wx) (hb : Below (H + 1 + 1) wx wy)
  (hr : ∃ A d, v' = .slice A ys.length d ∧ wy.ownsRow (H + 1 + 1) 33 1 (.slice A ys.length d) ys.length (ys.map (.int .i64))) (hl : ys.length < 50) : Sr H w A0 n0 d0 t C c ys v' wy :=
 ⟨hr, (hb.block _ (by omega)).trans h.blk, (hb.cell (p := ⟨H, 0, none⟩) (show H < H + 1 + 1 by omega)).trans h.net, h.bel.trans (hb.mono (by omega)), Nat.le_trans h.size hb.size, hl⟩
theorem Sr.drewN {H : Nat} {w : World} {A0 : Option Addr} {n0 d0 : Nat} {t : Ty} {C : Option Addr} {c : Nat} {xs : List Int} {v : Value} {wx : World} (h : Sr H w A0 n0 d0 t C c xs v wx) (k : Nat) : Sr H w A0 n0 d0 t C c xs v (wx.drewN k) := by
 obtain ⟨A, d, h1, h2⟩ := h.row
 exact ⟨⟨A, d, h1, h2⟩, h.blk, h.net, bel_drewN h.bel _, h.size, h.len⟩
set_option maxRecDepth 100000 in
set_option maxHeartbeats 4000000 in
theorem rules_any (n : Net) (A0 : Option Addr) (d0 : Nat) (A1 : Option Addr) (d1 : Nat) (A : Option Addr) (c : Nat) (l : List Ty) (i : Nat) (t : Ty) (w : World) (hL : RowAt rTy w w.heap.size A l) (hi : l[i]? = some t) (hl : l.length ≤ 10000000) (hn : n.places.length ≤ 17592186043904) :
  Calls Tryz.prog 93 #[.agg #[.slice A0 n.places.length d0, .slice A1 n.arcs.length d1], .slice A l.length c, .int .i64 i] w (ErrsOut w (errsL ((n.places.length : Int) - 1) l i t (dimsN l))) := by
 obtain ⟨ad, C, cc, rfl, hadb, ⟨m0, m1, m2, m3, m4, m5, m6, m7, m8, m9, m10, m11, m12, m13⟩, hIC, hfit⟩ := row_Ty hL hi
 have hil : i < l.length := (List.getElem?_eq_some_iff.1 hi).1
 have hi0 : (0 : Int) ≤ (i : Int) := by omega
 have hin : (i : Int) < (l.length : Int) := by omega
 have hnp : (n.places.length : Int) ≤ 17592186043904 := by omega
 have hb0 : (ad.add (i * 14)).block < w.heap.size := by rw [block_of_add]; exact hadb
 have hb1 : (ad.add (i * 14)).block < w.heap.size + 1 := by omega
 have hb2 : (ad.add (i * 14)).block < w.heap.size + 1 + 1 := by omega
 go_enter Tryz.func93, Tryz.ntmps93
 go_upto_region 3 with fail
 obtain ⟨W0, hW0⟩ : ∃ W0, (w.alloc (.cells #[.slice A0 n.places.length d0, .slice A1 n.arcs.length d1] 25)).alloc (.cells (TyCells t C cc).toArray 63) = W0 := ⟨_, rfl⟩
 have st0 : Sr w.heap.size w A0 n.places.length d0 t C cc [] (.slice none 0 0) W0 := by
  rw [← hW0]
  refine ⟨⟨none, 0, rfl, World.ownsRow_nil _ _ _ _⟩, ?_, ?_, ?_, by simp, by simp⟩
  ·have h := World.alloc_heap_new (w.alloc (.cells #[.slice A0 n.places.length d0, .slice A1 n.arcs.length d1] 25)) (.cells (TyCells t C cc).toArray 63)
   simpa [TyBlk] using h
  ·rw [World.cell?_alloc_lt _ _ _ (by simp)]
   have h := World.alloc_heap_new w (.cells #[.slice A0 n.places.length d0, .slice A1 n.arcs.length d1] 25)
   simp only [World.cell?]
   rw [h]
   rfl
  ·exact ((Below.refl _ _).alloc (Nat.le_refl _) _).alloc (by simp) _
 have hW1 : (w.alloc (.cells #[.slice A0 n.places.length d0, .slice A1 n.arcs.length d1] 25)).alloc (.cells #[.string t.name, .int .i64 t.count, .int .i64 t.frm, .int .i64 t.to, .slice C t.cap.length cc, .int .i64 t.skills, .int .i64 t.profile, .int .i64 t.opn, .int .i64 t.close, .int .i64 t.drive, .int .i64 t.rest, .int .i64 t.fixed, .int .i64 t.mile, .int .i64 t.tick] 63) = W0 := hW0
 rw [hW1]
 clear hW0 hW1 m0 m1 m2 m3 m4 m5 m6 m7 m8 m9 m10 m11 m12 m13
 have lx0 : ([] : List Int).length ≤ 0 := Nat.le_refl _
 obtain ⟨x1, hx1⟩ : ∃ x, pushIf [] (nameB t.name) 5 = x := ⟨_, rfl⟩
 have lx1 : x1.length ≤ 1 := by have h := pushIf_len [] (nameB t.name) 5; rw [hx1] at h; omega
 have HX1 := Lib.hid hx1
 clear hx1
 obtain ⟨q1, hq1⟩ : ∃ q, (nameB t.name) = q := ⟨_, rfl⟩
 have HQ1 := Lib.hid hq1
 clear hq1
 go_cut [16] (fun s wx => s = .bool (!q1) ∧ Sr w.heap.size w A0 n.places.length d0 t C cc [] (.slice none 0 0) wx)
 case first => as_aux_lemma =>
  obtain ⟨m0, m1, m2, m3, m4, m5, m6, m7, m8, m9, m10, m11, m12, m13⟩ := st0.blk.cells
  have hnet := st0.net
  have hn1 := hfit.1
  go_wp2_with (go_at_call 133; refine (rname_any _ hn1 _).mono ?_; rintro e w1 ⟨rfl, rfl⟩)
  go_meet
  exact ⟨by rw [← HQ1.out], st0⟩
 obtain ⟨hs1, st1a⟩ := hcut
 clear st0
 rw [hs1]
 clear hs1
 go_upto_if 16 with fail
 go_cut [8] (fun v wx => Sr w.heap.size w A0 n.places.length d0 t C cc x1 v wx)
 case first => as_aux_lemma =>
  cases hqq : q1
  ·obtain ⟨Ar, dr, hv, hown⟩ := st1a.row
   injection hv with hv1 hv2 hv3
   subst hv1; subst hv3; clear hv2
   have hsz := st1a.size
   have hln := st1a.len
   rw [hqq] at HQ1
   have HE : Hid (x1 = [] ++ [5]) := Lib.hid (by rw [← HX1.out, HQ1.out]; rfl)
   clear hqq
   go_wp2_with (at_builtin; refine push_errno rfl _ _ rfl (w.heap.size + 1 + 1) _ 0 [] rfl hown 5 rfl (by omega) hsz ?_; intro A9 c9 w9 hown9 hb9 hz9)
   go_meet
   exact st1a.keep hb9 ⟨A9, c9, by rw [HE.out, List.length_append]; rfl, by rw [HE.out, List.length_append]; exact hown9⟩ (by omega)
  ·rw [hqq] at HQ1
   have HE : Hid (x1 = []) := Lib.hid (by rw [← HX1.out, HQ1.out]; rfl)
   clear hqq
   go_wp2
   go_meet
   rw [HE.out]
   exact st1a
 have st1 := hcut
 clear hcut st1a
 obtain ⟨x2, hx2⟩ : ∃ x, pushIf x1 (!((l.take i).any (fun x => sameS x.name t.name))) 6 = x := ⟨_, rfl⟩
 have lx2 : x2.length ≤ 2 := by have h := pushIf_len x1 (!((l.take i).any (fun x => sameS x.name t.name))) 6; rw [hx2] at h; omega
 have HX2 := Lib.hid hx2
 clear hx2
 obtain ⟨q2, hq2⟩ : ∃ q, (!((l.take i).any (fun x => sameS x.name t.name))) = q := ⟨_, rfl⟩
 have HQ2 := Lib.hid hq2
 clear hq2
 go_upto_region 5 with fail
 go_cut [24] (fun s wx => s = .bool (!q2) ∧ Sr w.heap.size w A0 n.places.length d0 t C cc x1 u8 wx)
 case first => as_aux_lemma =>
  obtain ⟨m0, _⟩ := st1.blk.cells
  have hnet := st1.net
  have hLc := Lib.hid (hL.below st1.bel)
  go_wp2_with (go_at_call 136; refine (known_any _ _ l i (by omega) t.name _ _ hLc.out).mono ?_; rintro e w1 ⟨rfl, rfl⟩)
  go_meet
  exact ⟨by rw [← HQ2.out, Bool.not_not], st1⟩
 obtain ⟨hs2, st2a⟩ := hcut
 clear st1
 rw [hs2]
 clear hs2
 go_upto_if 24 with fail
 go_cut [8] (fun v wx => Sr w.heap.size w A0 n.places.length d0 t C cc x2 v wx)
 case first => as_aux_lemma =>
  cases hqq : q2
  ·obtain ⟨Ar, dr, hv, hown⟩ := st2a.row
   subst hv
   have hsz := st2a.size
   have hln := st2a.len
   rw [hqq] at HQ2
   have HE : Hid (x2 = x1 ++ [6]) := Lib.hid (by rw [← HX2.out, HQ2.out]; rfl)
   clear hqq
   go_wp2_with (at_builtin; refine push_errno rfl _ _ rfl (w.heap.size + 1 + 1) _ x1.length x1 rfl hown 6 rfl (by omega) hsz ?_; intro A9 c9 w9 hown9 hb9 hz9)
   go_meet
   exact st2a.keep hb9 ⟨A9, c9, by rw [HE.out, List.length_append]; rfl, by rw [HE.out, List.length_append]; exact hown9⟩ (by omega)
  ·rw [hqq] at HQ2
   have HE : Hid (x2 = x1) := Lib.hid (by rw [← HX2.out, HQ2.out]; rfl)
   clear hqq
   go_wp2
   go_meet
   rw [HE.out]
   exact st2a
 have st2 := hcut
 clear hcut st2a
 obtain ⟨x3, hx3⟩ : ∃ x, pushIf x2 (inB t.count 0 10) 22 = x := ⟨_, rfl⟩
 have lx3 : x3.length ≤ 3 := by have h := pushIf_len x2 (inB t.count 0 10) 22; rw [hx3] at h; omega
 have HX3 := Lib.hid hx3
 clear hx3
 obtain ⟨q3, hq3⟩ : ∃ q, (inB t.count 0 10) = q := ⟨_, rfl⟩
 have HQ3 := Lib.hid hq3
 clear hq3
 go_upto_region 7 with fail
 go_cut [31] (fun s wx => s = .bool (!q3) ∧ Sr w.heap.size w A0 n.places.length d0 t C cc x2 u8 wx)
 case first => as_aux_lemma =>
  obtain ⟨m0, m1, m2, m3, m4, m5, m6, m7, m8, m9, m10, m11, m12, m13⟩ := st2.blk.cells
  have hnet := st2.net
  go_wp2_with (go_at_call 92; refine (in_any _ _ _ _).mono ?_; rintro e w1 ⟨rfl, rfl⟩)
  go_meet
  exact ⟨by rw [← HQ3.out], st2⟩
 obtain ⟨hs3, st3a⟩ := hcut
 clear st2
 rw [hs3]
 clear hs3
 go_upto_if 31 with fail
 go_cut [8] (fun v wx => Sr w.heap.size w A0 n.places.length d0 t C cc x3 v wx)
 case first => as_aux_lemma =>
  cases hqq : q3
  ·obtain ⟨Ar, dr, hv, hown⟩ := st3a.row
   subst hv
   have hsz := st3a.size
   have hln := st3a.len
   rw [hqq] at HQ3
   have HE : Hid (x3 = x2 ++ [22]) := Lib.hid (by rw [← HX3.out, HQ3.out]; rfl)
   clear hqq
   go_wp2_with (at_builtin; refine push_errno rfl _ _ rfl (w.heap.size + 1 + 1) _ x2.length x2 rfl hown 22 rfl (by omega) hsz ?_; intro A9 c9 w9 hown9 hb9 hz9)
   go_meet
   exact st3a.keep hb9 ⟨A9, c9, by rw [HE.out, List.length_append]; rfl, by rw [HE.out, List.length_append]; exact hown9⟩ (by omega)
  ·rw [hqq] at HQ3
   have HE : Hid (x3 = x2) := Lib.hid (by rw [← HX3.out, HQ3.out]; rfl)
   clear hqq
   go_wp2
   go_meet
   rw [HE.out]
   exact st3a
 have st3 := hcut
 clear hcut st3a
 obtain ⟨x4, hx4⟩ : ∃ x, pushIf x3 (inB t.frm 0 ((n.places.length : Int) - 1) && inB t.to 0 ((n.places.length : Int) - 1)) 11 = x := ⟨_, rfl⟩
 have lx4 : x4.length ≤ 4 := by have h := pushIf_len x3 (inB t.frm 0 ((n.places.length : Int) - 1) && inB t.to 0 ((n.places.length : Int) - 1)) 11; rw [hx4] at h; omega
 have HX4 := Lib.hid hx4
 clear hx4
 obtain ⟨q4, hq4⟩ : ∃ q, (inB t.frm 0 ((n.places.length : Int) - 1) && inB t.to 0 ((n.places.length : Int) - 1)) = q := ⟨_, rfl⟩
 have HQ4 := Lib.hid hq4
 clear hq4
 go_upto_region 9 with fail
 go_cut [52] (fun s wx => s = .bool (!q4) ∧ Sr w.heap.size w A0 n.places.length d0 t C cc x3 u8 wx)
 case first => as_aux_lemma =>
  obtain ⟨m0, m1, m2, m3, m4, m5, m6, m7, m8, m9, m10, m11, m12, m13⟩ := st3.blk.cells
  have hnet := st3.net
  cases hq : inB t.frm 0 ((n.places.length : Int) - 1)
  all_goals go_wp2_with (go_at_call 92; refine (in_any _ _ _ _).mono ?_; rintro e w1 ⟨rfl, rfl⟩)
  all_goals go_meet
  all_goals refine ⟨?_, st3⟩
  all_goals rw [← HQ4.out, hq]
  all_goals first | rfl | (simp; done) | (simp; rw [Bool.eq_iff_iff]; simp; done) | (simp; rw [Bool.eq_iff_iff]; simp; omega)
 obtain ⟨hs4, st4a⟩ := hcut
 clear st3
 rw [hs4]
 clear hs4
 go_upto_if 52 with fail
 go_cut [8] (fun v wx => Sr w.heap.size w A0 n.places.length d0 t C cc x4 v wx)
 case first => as_aux_lemma =>
  cases hqq : q4
  ·obtain ⟨Ar, dr, hv, hown⟩ := st4a.row
   subst hv
   have hsz := st4a.size
   have hln := st4a.len
   rw [hqq] at HQ4
   have HE : Hid (x4 = x3 ++ [11]) := Lib.hid (by rw [← HX4.out, HQ4.out]; rfl)
   clear hqq
   go_wp2_with (at_builtin; refine push_errno rfl _ _ rfl (w.heap.size + 1 + 1) _ x3.length x3 rfl hown 11 rfl (by omega) hsz ?_; intro A9 c9 w9 hown9 hb9 hz9)
   go_meet
   exact st4a.keep hb9 ⟨A9, c9, by rw [HE.out, List.length_append]; rfl, by rw [HE.out, List.length_append]; exact hown9⟩ (by omega)
  ·rw [hqq] at HQ4
   have HE : Hid (x4 = x3) := Lib.hid (by rw [← HX4.out, HQ4.out]; rfl)
   clear hqq
   go_wp2
   go_meet
   rw [HE.out]
   exact st4a
 have st4 := hcut
 clear hcut st4a
 obtain ⟨x5, hx5⟩ : ∃ x, pushIf x4 (capB t.cap (dimsN l)) 17 = x := ⟨_, rfl⟩
 have lx5 : x5.length ≤ 5 := by have h := pushIf_len x4 (capB t.cap (dimsN l)) 17; rw [hx5] at h; omega
 have HX5 := Lib.hid hx5
 clear hx5
 obtain ⟨q5, hq5⟩ : ∃ q, (capB t.cap (dimsN l)) = q := ⟨_, rfl⟩
 have HQ5 := Lib.hid hq5
 clear hq5
 go_upto_region 11 with fail
 go_cut [61] (fun s wx => s = .bool (!q5) ∧ Sr w.heap.size w A0 n.places.length d0 t C cc x4 u8 wx)
 case first => as_aux_lemma =>
  obtain ⟨m0, m1, m2, m3, m4, m5, m6, m7, m8, m9, m10, m11, m12, m13⟩ := st4.blk.cells
  have hnet := st4.net
  have hLc := Lib.hid (hL.below st4.bel)
  have hsz2 := st4.bel.size
  have hIC2 := Lib.hid ((hIC.below st4.bel).more hsz2)
  go_wp2
  (refine wp_region_held_drew (S := (fun w' => w' = wc.drew)) (by kernel_rfl) ?_ (fun hHeld => ?_))
  ·rfl
  (refine lib.tk 0 rfl ?_; (try simp only [lib.hly]))
  (refine lib.tk 1 rfl ?_; (try simp only [lib.hly]))
  (refine lib.tk 2 rfl ?_; (try simp only [lib.hly]))
  (refine lib.rk 3 rfl fun K hK => ?_; go_simp)
  go_at_call 56
  refine (rdims_any _ _ l _ _ (by exact hLc.out)).mono ?_
  rintro e w1 ⟨rfl, rfl⟩
  (refine hK.out _ _ ?_ (fun hHeld => ?_))
  ·rfl
  clear hK K
  (try simp only [lib.hly])
  (refine lib.rk 4 rfl fun K hK => ?_; go_simp)
  go_at_call 137
  refine (rcapacity_any _ _ t.cap _ _ (by exact hIC2.out)).mono ?_
  rintro e w1 ⟨rfl, rfl⟩
  (refine hK.out _ _ ?_ (fun hHeld => ?_))
  ·rfl
  clear hK K
  (try simp only [lib.hly])
  (refine lib.tk 5 rfl ?_; (try simp only [lib.hly]))
  (refine wpAnyH_done (by kernel_rfl) ?_ _)
  go_wp2_with fail
  go_meet
  exact ⟨by rw [← HQ5.out], st4.drewN 1⟩
 obtain ⟨hs5, st5a⟩ := hcut
 clear st4
 rw [hs5]
 clear hs5
 go_upto_if 61 with fail
 go_cut [8] (fun v wx => Sr w.heap.size w A0 n.places.length d0 t C cc x5 v wx)
 case first => as_aux_lemma =>
  cases hqq : q5
  ·obtain ⟨Ar, dr, hv, hown⟩ := st5a.row
   subst hv
   have hsz := st5a.size
   have hln := st5a.len
   rw [hqq] at HQ5
   have HE : Hid (x5 = x4 ++ [17]) := Lib.hid (by rw [← HX5.out, HQ5.out]; rfl)
   clear hqq
   go_wp2_with (at_builtin; refine push_errno rfl _ _ rfl (w.heap.size + 1 + 1) _ x4.length x4 rfl hown 17 rfl (by omega) hsz ?_; intro A9 c9 w9 hown9 hb9 hz9)
   go_meet
   exact st5a.keep hb9 ⟨A9, c9, by rw [HE.out, List.length_append]; rfl, by rw [HE.out, List.length_append]; exact hown9⟩ (by omega)
  ·rw [hqq] at HQ5
   have HE : Hid (x5 = x4) := Lib.hid (by rw [← HX5.out, HQ5.out]; rfl)
   clear hqq
   go_wp2
   go_meet
   rw [HE.out]
   exact st5a
 have st5 := hcut
 clear hcut st5a
 obtain ⟨x6, hx6⟩ : ∃ x, pushIf x5 (inB t.skills 0 1073741823) 18 = x := ⟨_, rfl⟩
 have lx6 : x6.length ≤ 6 := by have h := pushIf_len x5 (inB t.skills 0 1073741823) 18; rw [hx6] at h; omega
 have HX6 := Lib.hid hx6
 clear hx6
 obtain ⟨q6, hq6⟩ : ∃ q, (inB t.skills 0 1073741823) = q := ⟨_, rfl⟩
 have HQ6 := Lib.hid hq6
 clear hq6
 go_upto_region 13 with fail
 go_cut [68] (fun s wx => s = .bool (!q6) ∧ Sr w.heap.size w A0 n.places.length d0 t C cc x5 u8 wx)
 case first => as_aux_lemma =>
  obtain ⟨m0, m1, m2, m3, m4, m5, m6, m7, m8, m9, m10, m11, m12, m13⟩ := st5.blk.cells
  have hnet := st5.net
  go_wp2_with (go_at_call 92; refine (in_any _ _ _ _).mono ?_; rintro e w1 ⟨rfl, rfl⟩)
  go_meet
  exact ⟨by rw [← HQ6.out], st5⟩
 obtain ⟨hs6, st6a⟩ := hcut
 clear st5
 rw [hs6]
 clear hs6
 go_upto_if 68 with fail
 go_cut [8] (fun v wx => Sr w.heap.size w A0 n.places.length d0 t C cc x6 v wx)
 case first => as_aux_lemma =>
  cases hqq : q6
  ·obtain ⟨Ar, dr, hv, hown⟩ := st6a.row
   subst hv
   have hsz := st6a.size
   have hln := st6a.len
   rw [hqq] at HQ6
   have HE : Hid (x6 = x5 ++ [18]) := Lib.hid (by rw [← HX6.out, HQ6.out]; rfl)
   clear hqq
   go_wp2_with (at_builtin; refine push_errno rfl _ _ rfl (w.heap.size + 1 + 1) _ x5.length x5 rfl hown 18 rfl (by omega) hsz ?_; intro A9 c9 w9 hown9 hb9 hz9)
   go_meet
   exact st6a.keep hb9 ⟨A9, c9, by rw [HE.out, List.length_append]; rfl, by rw [HE.out, List.length_append]; exact hown9⟩ (by omega)
  ·rw [hqq] at HQ6
   have HE : Hid (x6 = x5) := Lib.hid (by rw [← HX6.out, HQ6.out]; rfl)
   clear hqq
   go_wp2
   go_meet
   rw [HE.out]
   exact st6a
 have st6 := hcut
 clear hcut st6a
 obtain ⟨x7, hx7⟩ : ∃ x, pushIf x6 (inB t.opn 0 t.close && decide (t.close ≤ 4096)) 15 = x := ⟨_, rfl⟩
 have lx7 : x7.length ≤ 7 := by have h := pushIf_len x6 (inB t.opn 0 t.close && decide (t.close ≤ 4096)) 15; rw [hx7] at h; omega
 have HX7 := Lib.hid hx7
 clear hx7
 obtain ⟨q7, hq7⟩ : ∃ q, (inB t.opn 0 t.close && decide (t.close ≤ 4096)) = q := ⟨_, rfl⟩
 have HQ7 := Lib.hid hq7
 clear hq7
 go_upto_region 15 with fail
 go_cut [82] (fun s wx => s = .bool (!q7) ∧ Sr w.heap.size w A0 n.places.length d0 t C cc x6 u8 wx)
 case first => as_aux_lemma =>
  obtain ⟨m0, m1, m2, m3, m4, m5, m6, m7, m8, m9, m10, m11, m12, m13⟩ := st6.blk.cells
  have hnet := st6.net
  cases hq : inB t.opn 0 t.close
  all_goals go_wp2_with (go_at_call 92; refine (in_any _ _ _ _).mono ?_; rintro e w1 ⟨rfl, rfl⟩)
  all_goals go_meet
  all_goals refine ⟨?_, st6⟩
  all_goals rw [← HQ7.out, hq]
  all_goals first | rfl | (simp; done) | (simp; rw [Bool.eq_iff_iff]; simp; done) | (simp; rw [Bool.eq_iff_iff]; simp; omega)
 obtain ⟨hs7, st7a⟩ := hcut
 clear st6
 rw [hs7]
 clear hs7
 go_upto_if 82 with fail
 go_cut [8] (fun v wx => Sr w.heap.size w A0 n.places.length d0 t C cc x7 v wx)
 case first => as_aux_lemma =>
  cases hqq : q7
  ·obtain ⟨Ar, dr, hv, hown⟩ := st7a.row
   subst hv
   have hsz := st7a.size
   have hln := st7a.len
   rw [hqq] at HQ7
   have HE : Hid (x7 = x6 ++ [15]) := Lib.hid (by rw [← HX7.out, HQ7.out]; rfl)
   clear hqq
   go_wp2_with (at_builtin; refine push_errno rfl _ _ rfl (w.heap.size + 1 + 1) _ x6.length x6 rfl hown 15 rfl (by omega) hsz ?_; intro A9 c9 w9 hown9 hb9 hz9)
   go_meet
   exact st7a.keep hb9 ⟨A9, c9, by rw [HE.out, List.length_append]; rfl, by rw [HE.out, List.length_append]; exact hown9⟩ (by omega)
  ·rw [hqq] at HQ7
   have HE : Hid (x7 = x6) := Lib.hid (by rw [← HX7.out, HQ7.out]; rfl)
   clear hqq
   go_wp2
   go_meet
   rw [HE.out]
   exact st7a
 have st7 := hcut
 clear hcut st7a
 obtain ⟨x8, hx8⟩ : ∃ x, pushIf x7 (inB t.drive 1 4096 && inB t.rest 0 4096) 16 = x := ⟨_, rfl⟩
 have lx8 : x8.length ≤ 8 := by have h := pushIf_len x7 (inB t.drive 1 4096 && inB t.rest 0 4096) 16; rw [hx8] at h; omega
 have HX8 := Lib.hid hx8
 clear hx8
 obtain ⟨q8, hq8⟩ : ∃ q, (inB t.drive 1 4096 && inB t.rest 0 4096) = q := ⟨_, rfl⟩
 have HQ8 := Lib.hid hq8
 clear hq8
 go_upto_region 17 with fail
 go_cut [95] (fun s wx => s = .bool (!q8) ∧ Sr w.heap.size w A0 n.places.length d0 t C cc x7 u8 wx)
 case first => as_aux_lemma =>
  obtain ⟨m0, m1, m2, m3, m4, m5, m6, m7, m8, m9, m10, m11, m12, m13⟩ := st7.blk.cells
  have hnet := st7.net
  cases hq : inB t.drive 1 4096
  all_goals go_wp2_with (go_at_call 92; refine (in_any _ _ _ _).mono ?_; rintro e w1 ⟨rfl, rfl⟩)
  all_goals go_meet
  all_goals refine ⟨?_, st7⟩
  all_goals rw [← HQ8.out, hq]
  all_goals first | rfl | (simp; done) | (simp; rw [Bool.eq_iff_iff]; simp; done) | (simp; rw [Bool.eq_iff_iff]; simp; omega)
 obtain ⟨hs8, st8a⟩ := hcut
 clear st7
 rw [hs8]
 clear hs8
 go_upto_if 95 with fail
 go_cut [8] (fun v wx => Sr w.heap.size w A0 n.places.length d0 t C cc x8 v wx)
 case first => as_aux_lemma =>
  cases hqq : q8
  ·obtain ⟨Ar, dr, hv, hown⟩ := st8a.row
   subst hv
   have hsz := st8a.size
   have hln := st8a.len
   rw [hqq] at HQ8
   have HE : Hid (x8 = x7 ++ [16]) := Lib.hid (by rw [← HX8.out, HQ8.out]; rfl)
   clear hqq
   go_wp2_with (at_builtin; refine push_errno rfl _ _ rfl (w.heap.size + 1 + 1) _ x7.length x7 rfl hown 16 rfl (by omega) hsz ?_; intro A9 c9 w9 hown9 hb9 hz9)
   go_meet
   exact st8a.keep hb9 ⟨A9, c9, by rw [HE.out, List.length_append]; rfl, by rw [HE.out, List.length_append]; exact hown9⟩ (by omega)
  ·rw [hqq] at HQ8
   have HE : Hid (x8 = x7) := Lib.hid (by rw [← HX8.out, HQ8.out]; rfl)
   clear hqq
   go_wp2
   go_meet
   rw [HE.out]
   exact st8a
 have st8 := hcut
 clear hcut st8a
 obtain ⟨x9, hx9⟩ : ∃ x, pushIf x8 (inB t.profile 0 7 && inB t.fixed 0 100000 && inB t.mile 0 100 && inB t.tick 0 100) 2 = x := ⟨_, rfl⟩
 have lx9 : x9.length ≤ 9 := by have h := pushIf_len x8 (inB t.profile 0 7 && inB t.fixed 0 100000 && inB t.mile 0 100 && inB t.tick 0 100) 2; rw [hx9] at h; omega
 have HX9 := Lib.hid hx9
 clear hx9
 obtain ⟨q9, hq9⟩ : ∃ q, (inB t.profile 0 7 && inB t.fixed 0 100000 && inB t.mile 0 100 && inB t.tick 0 100) = q := ⟨_, rfl⟩
 have HQ9 := Lib.hid hq9
 clear hq9
 go_upto_region 19 with fail
 go_cut [120] (fun s wx => s = .bool (!q9) ∧ Sr w.heap.size w A0 n.places.length d0 t C cc x8 u8 wx)
 case first => as_aux_lemma =>
  obtain ⟨m0, m1, m2, m3, m4, m5, m6, m7, m8, m9, m10, m11, m12, m13⟩ := st8.blk.cells
  have hnet := st8.net
  have hw4 : inB t.profile 0 7 = false ∨ (inB t.profile 0 7 = true ∧ inB t.fixed 0 100000 = false) ∨ (inB t.profile 0 7 = true ∧ inB t.fixed 0 100000 = true ∧ inB t.mile 0 100 = false) ∨ (inB t.profile 0 7 = true ∧ inB t.fixed 0 100000 = true ∧ inB t.mile 0 100 = true) := by
   cases inB t.profile 0 7 <;> cases inB t.fixed 0 100000 <;> cases inB t.mile 0 100 <;> simp
  rcases hw4 with hq | ⟨hq, hq2⟩ | ⟨hq, hq2, hq3⟩ | ⟨hq, hq2, hq3⟩
  all_goals go_wp2_with (go_at_call 92; refine (in_any _ _ _ _).mono ?_; rintro e w1 ⟨rfl, rfl⟩)
  all_goals go_meet
  all_goals refine ⟨?_, st8⟩
  all_goals rw [← HQ9.out]
  all_goals first | (rw [hq, hq2, hq3]; simp; done) | (rw [hq, hq2]; simp; done) | (rw [hq]; simp; done)
 obtain ⟨hs9, st9a⟩ := hcut
 clear st8
 rw [hs9]
 clear hs9
 go_upto_if 120 with fail
 go_cut [8] (fun v wx => Sr w.heap.size w A0 n.places.length d0 t C cc x9 v wx)
 case first => as_aux_lemma =>
  cases hqq : q9
  ·obtain ⟨Ar, dr, hv, hown⟩ := st9a.row
   subst hv
   have hsz := st9a.size
   have hln := st9a.len
   rw [hqq] at HQ9
   have HE : Hid (x9 = x8 ++ [2]) := Lib.hid (by rw [← HX9.out, HQ9.out]; rfl)
   clear hqq
   go_wp2_with (at_builtin; refine push_errno rfl _ _ rfl (w.heap.size + 1 + 1) _ x8.length x8 rfl hown 2 rfl (by omega) hsz ?_; intro A9 c9 w9 hown9 hb9 hz9)
   go_meet
   exact st9a.keep hb9 ⟨A9, c9, by rw [HE.out, List.length_append]; rfl, by rw [HE.out, List.length_append]; exact hown9⟩ (by omega)
  ·rw [hqq] at HQ9
   have HE : Hid (x9 = x8) := Lib.hid (by rw [← HX9.out, HQ9.out]; rfl)
   clear hqq
   go_wp2
   go_meet
   rw [HE.out]
   exact st9a
 have st9 := hcut
 clear hcut st9a
 obtain ⟨hrow, _, _, hbel, _, _⟩ := st9
 obtain ⟨A9, c9, hv, hown⟩ := hrow
 subst hv
 have EL : Hid (x9 = errsL ((n.places.length : Int) - 1) l i t (dimsN l)) := Lib.hid (by
  rw [← HX9.out, ← HX8.out, ← HX7.out, ← HX6.out, ← HX5.out, ← HX4.out, ← HX3.out, ← HX2.out, ← HX1.out]
  rfl)
 go_wp2
 go_ret
 rw [← EL.out]
 refine ⟨A9, c9, rfl, ?_, hbel⟩
 rcases hown.2 with ⟨h6, h7⟩ | ⟨g, cap, cur, h6, h7, h8⟩
 ·exact ⟨hown.1, .inl ⟨h6, h7⟩⟩
 ·exact ⟨hown.1, .inr ⟨g, cap, cur, h6, by omega, h8⟩⟩
end Go.Proofs.YthefooacfcagbaaGreatDoor.flt

/- The violations of types: Check of the reference. -/
namespace Go.Proofs.YthefooacfcagbaaGreatDoor.flt
open Go.RowKit
open lib rd typ txt app
set_option linter.unusedVariables false
set_option linter.unusedSimpArgs false
set_option maxRecDepth 20000 in
set_option maxHeartbeats 4000000 in
theorem rcheck_any (n : Net) (A0 : Option Addr) (d0 : Nat) (A1 : Option Addr) (d1 : Nat) (A : Option Addr) (c : Nat) (l : List Ty) (w : World) (hL : RowAt rTy w w.heap.size A l) (hl : l.length ≤ 10000000) (hn : n.places.length ≤ 17592186043904) :
  Calls Tryz.prog 54 #[.agg #[.slice A0 n.places.length d0, .slice A1 n.arcs.length d1], .slice A l.length c] w (FltsOut w (fltsTo ((n.places.length : Int) - 1) l l.length)) := by
 obtain ⟨m, hm⟩ : ∃ m, l.length = m := ⟨_, rfl⟩
 have hm20 : m ≤ 10000000 := by omega
 have HM := Lib.hid hm
 obtain ⟨F, hF⟩ : ∃ F, fltsTo ((n.places.length : Int) - 1) l = F := ⟨_, rfl⟩
 have HF := Lib.hid hF
 have hFl : ∀ j, (F j).length ≤ 1 + 9 * j := fun j => by rw [← hF]; exact fltsTo_len _ _ j
 have HF0 : Hid (F 0 = if inB (m : Int) 1 6 then [] else [⟨4, ⟨#[]⟩⟩]) := Lib.hid (by rw [← hF, ← hm]; rfl)
 rw [hm]
 have hcells : w.heap.size < w.heap.size + 1 := by omega
 clear hm hF hl
 go_enter Tryz.func54, Tryz.ntmps54
 go_upto_if 12 with (go_at_call 92; refine (in_any _ _ _ _).mono ?_; rintro e w1 ⟨rfl, rfl⟩)
 go_cut [5] (fun v wx => ∃ A' c', v = .slice A' (F 0).length c' ∧ Fown wx (w.heap.size + 1) A' c' (F 0) ∧ wx.cell? ⟨w.heap.size, 0, none⟩ = some (.slice A0 n.places.length d0) ∧ wx.cell? ⟨w.heap.size, 1, none⟩ = some (.slice A1 n.arcs.length d1) ∧ Below w.heap.size w wx ∧ w.heap.size + 1 ≤ wx.heap.size)
 case first =>
  obtain ⟨W1, hW1⟩ : ∃ W1, w.alloc (.cells #[.slice A0 n.places.length d0, .slice A1 n.arcs.length d1] 25) = W1 := ⟨_, rfl⟩
  have hc0 : W1.cell? ⟨w.heap.size, 0, none⟩ = some (.slice A0 n.places.length d0) := by rw [← hW1]; exact two_new w _ _ _ 0 _ rfl
  have hc1 : W1.cell? ⟨w.heap.size, 1, none⟩ = some (.slice A1 n.arcs.length d1) := by rw [← hW1]; exact two_new w _ _ _ 1 _ rfl
  have hs1 : W1.heap.size = w.heap.size + 1 := by rw [← hW1]; simp
  have hB1 : Below w.heap.size w W1 := by rw [← hW1]; exact (Below.refl _ _).alloc (Nat.le_refl _) _
  rw [hW1]
  clear hW1
  have HS := Lib.hid hs1
  clear hs1
  cases hq : inB (m : Int) 1 6
  ·have HE : Hid (F 0 = [⟨4, ⟨#[]⟩⟩]) := Lib.hid (by rw [HF0.out, hq]; rfl)
   clear hq
   go_wp2_with (at_builtin; refine wpList_app fault_elem _ _ rfl (w.heap.size + 1) none 0 0 [] rfl ((World.ownsRow_nil _ _ _ _).alloc _) ⟨W1.heap.size, 0, none⟩ 1 [.int .i64 4, .string ⟨#[]⟩] rfl rfl (two_new _ _ _ _) (by simp [Value.oneCell']) (by omega) (by simp; have := HS.out; omega) rfl ?_; intro g1 c1 w2 hown1 hg1 hd1)
   go_meet
   refine ⟨_, _, by rw [HE.out]; rfl, by rw [HE.out]; exact hown1, ?_, ?_, ?_, ?_⟩
   ·exact hg1.cell ((World.cell?_alloc_lt W1 _ _ (show w.heap.size < W1.heap.size by have := HS.out; omega)).trans hc0) (by intro e; cases e)
   ·exact hg1.cell ((World.cell?_alloc_lt W1 _ _ (show w.heap.size < W1.heap.size by have := HS.out; omega)).trans hc1) (by intro e; cases e)
   ·exact (hB1.alloc (by have := HS.out; omega) _).grown hg1 (by simp; have := HS.out; omega) (fun q e => by cases e)
   ·have := hg1.size; have := HS.out; simp at *; omega
  ·have HE : Hid (F 0 = []) := Lib.hid (by rw [HF0.out, hq]; rfl)
   clear hq
   go_wp2
   go_meet
   exact ⟨none, 0, by rw [HE.out]; rfl, by rw [HE.out]; exact World.ownsRow_nil _ _ _ _, hc0, hc1, hB1, by have := HS.out; omega⟩
 obtain ⟨A', c', hv, hown, hc0, hc1, hB, hs⟩ := hcut
 subst hv
 go_upto_region 5 with fail
 go_loopw [5, 6] (fun v k wr => ∃ (j : Nat) (A' : Option Addr) (c' : Nat), j ≤ m ∧ k = .int .i64 j ∧ v = .slice A' (F j).length c' ∧ Fown wr (w.heap.size + 1) A' c' (F j) ∧ wr.cell? ⟨w.heap.size, 0, none⟩ = some (.slice A0 n.places.length d0) ∧ wr.cell? ⟨w.heap.size, 1, none⟩ = some (.slice A1 n.arcs.length d1) ∧ Below w.heap.size w wr ∧ w.heap.size + 1 ≤ wr.heap.size) (fun _ k _ => m - (intOf k).toNat)
 case atStart => exact ⟨0, A', c', by omega, rfl, rfl, hown, hc0, hc1, hB, hs⟩
 case round =>
  clear hown hc0 hc1 hB hs
  obtain ⟨j, A', c', hj, rfl, rfl, hown, hc0, hc1, hB, hs⟩ := hrel
  by_cases hlt : j < m
  ·have hjl : j < l.length := by rw [HM.out]; exact hlt
   obtain ⟨t, ht⟩ : ∃ t, l[j]? = some t := ⟨_, List.getElem?_eq_getElem hjl⟩
   have hLr : RowAt rTy wr wr.heap.size A l := (hL.below hB).more (by omega)
   have herr := rules_any n A0 d0 A1 d1 A c l j t wr hLr ht (by rw [HM.out]; omega) hn
   rw [HM.out] at herr
   obtain ⟨E, hE⟩ : ∃ E, errsL ((n.places.length : Int) - 1) l j t (dimsN l) = E := ⟨_, rfl⟩
   have hE9 : E.length ≤ 9 := by rw [← hE]; exact errsL_len _ _ _ _ _
   have HFS : Hid (F (j + 1) = F j ++ mkF j E) := Lib.hid (by
    rw [← HF.out]
    show fltsTo _ l j ++ fltsAt _ l j = _
    unfold fltsAt
    rw [ht]
    simp only [hE]
    rfl)
   have hFj := hFl j
   rw [hE] at herr
   have HK := Lib.hid (And.intro hLr herr)
   clear ht hE hLr herr hjl
   have hjn : j < 10000000 := by omega
   go_wp2_with (go_at_call 93; refine HK.out.2.mono ?_; rintro e w1 ⟨Ae, ce, rfl, hownE, hb1⟩)
   obtain ⟨gE, hgE1, hgE2, hgE3⟩ := row_place hownE
   have s1 := hb1.size
   have hown1 : Fown w1 (w.heap.size + 1) A' c' (F j) := own_below hown hb1
   have hne : (Value.slice A' (F j).length c').ownBlock ≠ some gE := by
    intro e
    have := (World.ownsRow.lt hown gE e).2
    omega
   have hc01 : w1.cell? ⟨w.heap.size, 0, none⟩ = some (.slice A0 n.places.length d0) := (hb1.cell (p := ⟨w.heap.size, 0, none⟩) (show w.heap.size < wr.heap.size by omega)).trans hc0
   have hc11 : w1.cell? ⟨w.heap.size, 1, none⟩ = some (.slice A1 n.arcs.length d1) := (hb1.cell (p := ⟨w.heap.size, 1, none⟩) (show w.heap.size < wr.heap.size by omega)).trans hc1
   have hB1 : Below w.heap.size w w1 := hB.trans (hb1.mono (by omega))
   have HNE := Lib.hid hne
   have HG3 := Lib.hid hgE3
   have HX := Lib.hid (And.intro hc0 (And.intro hc1 hown))
   clear hownE hne hgE3 hc0 hc1 hown
   go_loopw [5, 8] (fun v k wr2 => ∃ (q : Nat) (A2 : Option Addr) (c2 : Nat), q ≤ E.length ∧ k = .int .i64 q ∧ v = .slice A2 ((F j).length + q) c2 ∧ wr2.ownsRow (w.heap.size + 1) 53 2 (.slice A2 ((F j).length + q) c2) ((F j).length + q) (fcs (F j ++ mkF j (E.take q))) ∧ Hid ((Value.slice A2 ((F j).length + q) c2).ownBlock ≠ some gE) ∧
    Hid (∀ q, q < E.length → wr2.cell? ⟨gE, q, none⟩ = some (.int .i64 (E[q]?.getD 0))) ∧ Hid (wr2.cell? ⟨w.heap.size, 0, none⟩ = some (.slice A0 n.places.length d0) ∧ wr2.cell? ⟨w.heap.size, 1, none⟩ = some (.slice A1 n.arcs.length d1)) ∧ Below w.heap.size w wr2 ∧ w1.heap.size ≤ wr2.heap.size) (fun _ k _ => E.length - (intOf k).toNat)
   case atStart => exact ⟨0, A', c', by omega, rfl, rfl, by unfold Fown at hown1; simpa [mkF] using hown1, HNE, HG3, Lib.hid ⟨hc01, hc11⟩, hB1, Nat.le_refl _⟩
   case round =>
    clear hown1 HNE HG3 hc01 hc11
    obtain ⟨q, A2, c2, hq, rfl, rfl, hown2, hne2, hcs2, hnet2, hB2, hs2⟩ := hrel
    by_cases hlq : q < E.length
    ·obtain ⟨rfl, hgw⟩ := hgE2 (by omega)
     obtain ⟨x, hx⟩ : ∃ x, E[q]? = some x := ⟨_, List.getElem?_eq_getElem hlq⟩
     have hcx : wr.cell? ⟨gE, q, none⟩ = some (.int .i64 x) := by have := hcs2.out q hlq; rw [hx] at this; exact this
     have hq0 : (0 : Int) ≤ (q : Int) := by omega
     have hqn : (q : Int) < (E.length : Int) := by omega
     have HT := Lib.hid (mkF_take (i := j) hx)
     clear hx hgE2
     have HW := Lib.hid hs2
     have hjn2 : j < 1000000000000000000 := by omega
     go_wp2
     (refine wp_region_held_drew (S := (fun w' => w'.cell? ⟨gE, q, none⟩ = some (.int .i64 x))) (by kernel_rfl) ?_ (fun hHeld => ?_))
     ·exact hcx
     (refine lib.tk 0 rfl ?_; (try simp only [lib.hly]))
     (refine lib.tk 1 rfl ?_; (try simp only [lib.hly]))
     (refine lib.tk 2 rfl ?_; (try simp only [lib.hly]))
     (refine lib.tk 3 rfl ?_; (try simp only [lib.hly]))
     (refine lib.tk 4 rfl ?_; (try simp only [lib.hly]))
     (refine lib.tk 5 rfl ?_; (try simp only [lib.hly]))
     (refine lib.rk 6 rfl fun K hK => ?_; go_simp)
     go_at_call 18
     refine (rdec_any j hjn2 _).mono ?_
     rintro e w3 ⟨rfl, hb3d⟩
     have hb3 : Below wr.heap.size wr w3 := ((Below.refl _ _).drew).trans (hb3d.mono (by simp))
     have s3 := hb3.size
     have hcx3 : w3.cell? ⟨gE, q, none⟩ = some (.int .i64 x) := (hb3.cell (p := ⟨gE, q, none⟩) (show gE < wr.heap.size by have := HW.out; omega)).trans hcx
     (refine hK.out _ _ ?_ (fun hHeld => ?_))
     ·exact hcx3
     clear hK K
     (try simp only [lib.hly])
     (refine lib.tk 7 rfl ?_; (try simp only [lib.hly]))
     (refine lib.rk 8 rfl fun K hK => ?_; go_simp)
     have hcx4 : (w3.alloc (.cells #[.int .i64 x, .string (decS j)] 53)).cell? ⟨gE, q, none⟩ = some (.int .i64 x) := (World.cell?_alloc_lt w3 _ _ (show gE < w3.heap.size by have := HW.out; omega)).trans hcx3
     (refine hK.out _ _ ?_ (fun hHeld => ?_))
     ·exact hcx4
     clear hK K
     (try simp only [lib.hly])
     (refine lib.rk 9 rfl fun K hK => ?_)
     refine step_app fault_elem _ _ rfl (w.heap.size + 1) A2 ((F j).length + q) c2 (fcs (F j ++ mkF j (E.take q))) rfl ((own_below hown2 hb3).alloc _) ⟨w3.heap.size, 0, none⟩ 1 [.int .i64 x, .string (decS j)] rfl rfl (two_new _ _ _ _) (by simp [Value.oneCell']) (by omega) (by simp; have := HW.out; omega) rfl ?_
     intro g3 c3 w5 hown3 hg3 hd3
     (refine hK.out _ _ ?_ (fun hHeld => ?_))
     ·exact hg3.cell hcx4 (by intro e; exact hne2.out e.symm)
     clear hK K
     (try simp only [lib.hly])
     (refine lib.tk 10 rfl ?_; (try simp only [lib.hly]))
     (refine wpAnyH_done (by kernel_rfl) ?_ _)
     go_wp2
     go_roundw
     case rel =>
      refine ⟨q + 1, some ⟨g3, 0, none⟩, c3, by omega, by go_num, rfl, ?_, Lib.hid ?_, Lib.hid ?_, Lib.hid ⟨?_, ?_⟩, ?_, ?_⟩
      ·rw [HT.out, ← List.append_assoc, fcs_snoc]; exact hown3
      ·rcases hd3 with h | h
       ·intro e; rw [show (Value.slice (some ⟨g3, 0, none⟩) ((F j).length + (q + 1)) c3).ownBlock = some g3 from rfl, ← h] at e; exact hne2.out e
       ·intro e; rw [show (Value.slice (some ⟨g3, 0, none⟩) ((F j).length + (q + 1)) c3).ownBlock = some g3 from rfl] at e; injection e with e; simp at h; have := HW.out; omega
      ·intro q' hq'
       exact hg3.cell ((World.cell?_alloc_lt w3 _ _ (show gE < w3.heap.size by have := HW.out; omega)).trans ((hb3.cell (p := ⟨gE, q', none⟩) (show gE < wr.heap.size by have := HW.out; omega)).trans (hcs2.out q' hq'))) (by intro e; exact hne2.out e.symm)
      ·exact hg3.cell ((World.cell?_alloc_lt w3 _ _ (show w.heap.size < w3.heap.size by have := HW.out; omega)).trans ((hb3.cell (p := ⟨w.heap.size, 0, none⟩) (show w.heap.size < wr.heap.size by have := HW.out; omega)).trans hnet2.out.1)) (by intro e; have := (World.ownsRow.lt hown2 _ e.symm).1; simp at this; omega)
      ·exact hg3.cell ((World.cell?_alloc_lt w3 _ _ (show w.heap.size < w3.heap.size by have := HW.out; omega)).trans ((hb3.cell (p := ⟨w.heap.size, 1, none⟩) (show w.heap.size < wr.heap.size by have := HW.out; omega)).trans hnet2.out.2)) (by intro e; have := (World.ownsRow.lt hown2 _ e.symm).1; simp at this; omega)
      ·exact ((hB2.trans (hb3.mono (by have := HW.out; omega))).alloc (by have := HW.out; omega) _).grown hg3 (by simp; have := HW.out; omega) (fun q' e => by have := (World.ownsRow.lt hown2 _ e).1; omega)
      ·have := hg3.size; have := HW.out; simp at *; omega
     case measure => simp [intOf]; omega
    ·have hqE : q = E.length := by omega
     subst hqE
     go_wp2
     go_roundw
     case rel => exact ⟨j + 1, A2, c2, by omega, by go_num, by rw [HFS.out, List.length_append]; simp [mkF], by unfold Fown; rw [HFS.out, List.length_append]; simpa [mkF] using hown2, hnet2.out.1, hnet2.out.2, hB2, by omega⟩
     case measure => simp [intOf]; omega
  ·have hjm : j = m := by omega
   subst hjm
   go_wp2
   go_ret
   rw [HF.out]
   unfold Fown at hown
   exact ⟨A', c', rfl, own_less hown (by omega), hB⟩
end Go.Proofs.YthefooacfcagbaaGreatDoor.flt

/- The law SpecRoundTrip, walked. -/
import Derived.Test.YthefooacfcagbaaGreatDoorAccS
import Derived.Test.YthefooacfcagbaaGreatDoorAwkS
import Derived.Test.YthefooacfcagbaaGreatDoorRsame
import Derived.Test.YthefooacfcagbaaGreatDoorRspE
import Derived.Test.YthefooacfcagbaaGreatDoorLimR
import Derived.Test.YthefooacfcagbaaGreatDoorNzF
namespace Go.Proofs.YthefooacfcagbaaGreatDoor.ins
open Go.RowKit
open lib rd typ eqg note big eqs net
set_option linter.unusedVariables false
set_option linter.unusedSimpArgs false
theorem insF_posT (x : Ins) : ∀ f ∈ insF x, f.err ≠ 0 := fun f hf => by
 have e : insF x = und.undL netS (insN x) ++ (und.undL typesS (insT x) ++ (und.undL ordersS (insO x) ++ (und.undL rulesS (insR x) ++ []))) := rfl
 rw [e] at hf
 simp only [List.mem_append, List.not_mem_nil, or_false] at hf
 have hg : ∃ word fs, nz.OkF fs ∧ f ∈ und.undL word fs := by
  rcases hf with hf | hf | hf | hf
  ·exact ⟨_, _, nz.netTo_ok _ _, hf⟩
  ·exact ⟨_, _, nz.fltsTo_ok _ _ _, hf⟩
  ·exact ⟨_, _, nz.ofltsTo_ok _ _ _ _ _, hf⟩
  ·exact ⟨_, _, nz.rulesF_ok _ _ _, hf⟩
 obtain ⟨word, fs, h, hf⟩ := hg
 unfold und.undL at hf
 obtain ⟨g, hg, rfl⟩ := List.mem_map.1 hf
 exact (h g hg).1
theorem self_S (a : ByteArray) : sameS a a = true := by simp [sameS]
theorem self_O (a : Ord) : ord.sameO a a = true := by simp [ord.sameO, sameB, ord.numsO, ord.stpEq, sameS]
theorem self_T (a : Ty) : flt.sameT a a = true := by simp [flt.sameT, flt.sameB, flt.sameS, flt.numsB]
theorem self_I (a : Ins) : sameI a a = true := by
 unfold sameI
 rw [eqL_self self_S, eqL_self sameA_self, eqL_self self_T, eqL_self self_O, eqL_self twoEq_self, eqL_self twoEq_self]
 rfl
end Go.Proofs.YthefooacfcagbaaGreatDoor.ins
namespace Go.Proofs.YthefooacfcagbaaGreatDoor.spc
open Go.RowKit
open lib rd app els typ big gen off eqg note
open ins (InP InAt InV Lim insF icheck_any richeck_any sameI insF_posT self_I)
open txt (in64 By strV strV_of)
set_option linter.unusedVariables false
set_option linter.unusedSimpArgs false
set_option maxRecDepth 20000 in
set_option maxHeartbeats 8000000 in
theorem lawTrip_any (x : Ins) (P : InP) (w : World) (ht : TabS w) (hI : InAt w w.heap.size x P) :
  Calls Tryz.prog 3 #[InV x P] w fun e w' => e = .returned (.bool true) ∧ Below w.heap.size w w' := by
 have HTB := Lib.hid ht.at_
 have HI := Lib.hid (fun v (hv : Below w.heap.size w v) => (hI.below hv).more hv.size)
 obtain ⟨w0, hw0⟩ : ∃ W, w.alloc (.cells (xCs x P).toArray 30) = W := ⟨_, rfl⟩
 have HW0 := Lib.hid (show w.alloc (.cells #[.slice P.a0 x.net.places.length P.c0, .slice P.a1 x.net.arcs.length P.c1, .slice P.a2 x.types.length P.c2, .slice P.a3 x.orders.length P.c3, .slice P.a4 x.apart.length P.c4, .slice P.a5 x.before.length P.c5] 30) = w0 from hw0)
 have HL0 : Hid (Below w.heap.size w w0) := Lib.hid (by rw [← hw0]; exact (Below.refl _ _).alloc (Nat.le_refl _) _)
 have HX : Hid (∀ v, Below w0.heap.size w0 v → Blk v w.heap.size 30 (xCs x P) ∧ Below w.heap.size w v) := Lib.hid (fun v hv => ⟨(by rw [← hw0]; exact Blk.new w _ _ : Blk w0 w.heap.size 30 (xCs x P)).below hv, HL0.out.trans (hv.mono HL0.out.size)⟩)
 clear ht hI hw0
 go_enter Tryz.func3, Tryz.ntmps3
 go_upto_region 1 with fail
 rw [HW0.out]
 clear HW0
 go_wp2_with ((with_reducible refine wpList_loadG sIns _ rfl ⟨w.heap.size, 0, none⟩ (xCs x P) ?_ ?_ ?_ ?_ ?_); exact rfl; exact rfl; exact (HX.out _ (Below.refl _ _)).1.cells; exact rfl)
 refine (light_any x P w0 (HI.out _ HL0.out)).mono ?_
 rintro e w1 ⟨b, rfl, hlg, b1⟩
 have HB1 := Lib.hid b1
 clear b1
 cases b
 case false =>
  clear hlg
  go_wp2_with (go_at_call 8; refine (awake_any w1 (HTB.out.below (HX.out _ HB1.out).2).now).mono ?_; rintro e w2 ⟨rfl, hb⟩)
  go_ret
  exact ⟨rfl, (HX.out _ (HB1.out.trans (hb.mono HB1.out.size))).2⟩
 have HLG := Lib.hid (hlg rfl)
 clear hlg
 go_wp2_with ((with_reducible refine wpList_loadG sIns _ rfl ⟨w.heap.size, 0, none⟩ (xCs x P) ?_ ?_ ?_ ?_ ?_); exact rfl; exact rfl; exact (HX.out _ HB1.out).1.cells; exact rfl)
 refine (print_any insF x P w1 (HTB.out.below (HX.out _ HB1.out).2).now (HI.out _ (HX.out _ HB1.out).2) (fun hF => prOk_at (HI.out _ (HX.out _ HB1.out).2) HLG.out hF) (fun w' hb' => icheck_any x P w' (HI.out _ ((HX.out _ HB1.out).2.trans (hb'.mono (HX.out _ HB1.out).2.size))) (lgt_lim HLG.out))).mono ?_
 rintro e w2 ⟨rfl, b2⟩
 have HB2 := Lib.hid (HB1.out.trans (b2.mono HB1.out.size))
 clear b2
 have HRP := Lib.hid (rprint_any insF x P w2 (HI.out _ (HX.out _ HB2.out).2) (fun hF => prOk_at (HI.out _ (HX.out _ HB1.out).2) HLG.out hF) (fun w' hb' => richeck_any x P w' (HI.out _ ((HX.out _ HB2.out).2.trans (hb'.mono (HX.out _ HB2.out).2.size))) (ins.lim_rlim' (lgt_lim HLG.out))))
 obtain ⟨S, hS⟩ : ∃ S, (prnF insF x).1 = S := ⟨_, rfl⟩
 obtain ⟨E, hE⟩ : ∃ E, (prnF insF x).2 = E := ⟨_, rfl⟩
 have HPF := Lib.hid (And.intro hS hE)
 rw [hS, hE] at HRP ⊢
 obtain ⟨Sb, hSb⟩ : ∃ Sb : ByteArray, ⟨S.toArray⟩ = Sb := ⟨_, rfl⟩
 have HSB : Hid (⟨S.toArray⟩ = Sb) := Lib.hid hSb
 rw [hSb] at HRP ⊢
 clear hS hE hSb
 go_wp2_with ((with_reducible refine wpList_loadG sIns _ rfl ⟨w.heap.size, 0, none⟩ (xCs x P) ?_ ?_ ?_ ?_ ?_); exact rfl; exact rfl; exact (HX.out _ HB2.out).1.cells; exact rfl)
 refine HRP.out.mono ?_
 rintro e w3 ⟨rfl, b3⟩
 have HB3 := Lib.hid (HB2.out.trans (b3.mono HB2.out.size))
 clear b3 HRP
 by_cases hE0 : E = 0
 rotate_left
 ·have hEb : (E != 0) = true := by simpa using hE0
  go_wp2_with (go_at_call 8; refine (awake_any w3 (HTB.out.below (HX.out _ HB3.out).2).now).mono ?_; rintro e w4 ⟨rfl, hb⟩)
  go_ret
  exact ⟨rfl, (HX.out _ (HB3.out.trans (hb.mono HB3.out.size))).2⟩
 subst hE0
 have HTX : Hid (S = textI x ∧ insF x = [] ∧ PrOk x ∧ S.length ≤ 65536) := Lib.hid (by
  obtain ⟨h1, h2⟩ := HPF.out
  cases hF : insF x with
  | cons f fs =>
   rw [prnF_bad hF] at h2
   exact absurd h2 (insF_posT x f (by rw [hF]; exact List.mem_cons_self ..))
  | nil =>
   by_cases hb : 65536 < (textI x).length
   ·rw [prnF_big hF hb] at h2
    exact absurd h2 (by decide)
   ·rw [prnF_ok hF hb] at h1
    exact ⟨h1.symm, rfl, prOk_at (HI.out _ (HX.out _ HB1.out).2) HLG.out hF, by rw [← h1]; exact Nat.le_of_not_lt hb⟩)
 have HPA : Hid (Calls Tryz.prog 11 #[.string Sb] w3 (ParOut w3 (x, 0, 0))) := Lib.hid (by
  obtain ⟨h1, h2, h3, h4⟩ := HTX.out
  have hp := prs_text h3.ok
  rw [← h1] at hp
  have h := parse_any insF S (by omega) w3 (HTB.out.below (HX.out _ HB3.out).2).now (fun y Q w' hq hb hat => by
   rw [hp] at hq
   obtain rfl : x = y := by injection hq with hq _; exact Option.some.inj hq
   exact icheck_any x Q w' hat (lgt_lim HLG.out))
  rw [parF_ok (by omega) hp h2, HSB.out] at h
  exact h)
 go_upto_region 10 with (go_at_call 11; refine HPA.out.mono ?_; rintro e w4 ⟨Q, rfl, hat, b4⟩)
 obtain ⟨g, hg⟩ : ∃ g, w4.heap.size = g := ⟨_, rfl⟩
 obtain ⟨w5, hw5⟩ : ∃ W, w4.alloc (.cells (xCs x Q).toArray 30) = W := ⟨_, rfl⟩
 have HW5 := Lib.hid (show w4.alloc (.cells #[.slice Q.a0 x.net.places.length Q.c0, .slice Q.a1 x.net.arcs.length Q.c1, .slice Q.a2 x.types.length Q.c2, .slice Q.a3 x.orders.length Q.c3, .slice Q.a4 x.apart.length Q.c4, .slice Q.a5 x.before.length Q.c5] 30) = w5 from hw5)
 have b5 : Below w4.heap.size w4 w5 := by rw [← hw5]; exact (Below.refl _ _).alloc (Nat.le_refl _) _
 have HK5 : Hid (Blk w5 g 30 (xCs x Q)) := Lib.hid (by rw [← hw5, ← hg]; exact Blk.new w4 _ _)
 have HA5 : Hid (InAt w5 w5.heap.size x Q) := Lib.hid ((hat.below b5).more b5.size)
 have HB5 := Lib.hid ((HB3.out.trans (b4.mono HB3.out.size)).trans (b5.mono (HB3.out.trans (b4.mono HB3.out.size)).size))
 rw [HW5.out, hg]
 clear hw5 b5 hat b4 HW5 hg
 go_wp2_with (first
  | ((with_reducible refine wpList_loadG sIns _ rfl ⟨w.heap.size, 0, none⟩ (xCs x P) ?_ ?_ ?_ ?_ ?_); exact rfl; exact rfl; exact (HX.out _ HB5.out).1.cells; exact rfl)
  | ((with_reducible refine wpList_loadG sIns _ rfl ⟨g, 0, none⟩ (xCs x Q) ?_ ?_ ?_ ?_ ?_); exact rfl; exact rfl; exact HK5.out.cells; exact rfl)
  | (go_at_call 12; refine (ins.rsame_any x x P Q _ (HI.out _ (HX.out _ HB5.out).2) HA5.out).mono ?_; rw [self_I]; rintro e4 w6 ⟨rfl, b6⟩; have HB6 := Lib.hid (HB5.out.trans (b6.mono HB5.out.size)))
  | (go_at_call 8; refine (awake_any _ (HTB.out.below (HX.out _ HB6.out).2).now).mono ?_; rintro e7 w7 ⟨rfl, b7⟩; have HB7 := Lib.hid (HB6.out.trans (b7.mono HB6.out.size))))
 go_ret
 exact ⟨rfl, (HX.out _ HB7.out).2⟩
end Go.Proofs.YthefooacfcagbaaGreatDoor.spc

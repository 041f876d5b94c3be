/- The law SplitExpands, walked. -/
import Derived.Test.YtceceomaheobhaaSpvF
import Derived.Test.YtceceomaheobhaaSplY
import Derived.Test.YtceceomaheobhaaSplW
import Derived.Test.YtceceomaheobhaaRsame
import Derived.Test.YtceceomaheobhaaR13C
import Derived.Test.YtceceomaheobhaaZip
namespace Go.Proofs.Ytceceomaheobhaa.spl
open Go.RowKit
open Go.Proofs.Ytceceomaheobhaa.lib Go.Proofs.Ytceceomaheobhaa.rd Go.Proofs.Ytceceomaheobhaa.app Go.Proofs.Ytceceomaheobhaa.els Go.Proofs.Ytceceomaheobhaa.loads Go.Proofs.Ytceceomaheobhaa.typ Go.Proofs.Ytceceomaheobhaa.big Go.Proofs.Ytceceomaheobhaa.ins Go.Proofs.Ytceceomaheobhaa.ord Go.Proofs.Ytceceomaheobhaa.flts
set_option linter.unusedVariables false
set_option linter.unusedSimpArgs false

theorem right_any (x : Ins) (P : InP) (w : World) (h : InAt w w.heap.size x P) (hl : RLim x) : Calls Try.prog 12 #[InV x P] w fun e w' => e = .returned (.bool (decide (insF x = []))) ∧ Below w.heap.size w w' := by
  obtain ⟨fs, hfs⟩ : ∃ fs, insF x = fs := ⟨_, rfl⟩
  rw [hfs]
  have HFS := Lib.hid hfs
  clear hfs
  obtain ⟨W0, hW0⟩ : ∃ W0, w.alloc (.cells (insCs x P).toArray 38) = W0 := ⟨_, rfl⟩
  have hB0 : Below w.heap.size w W0 := by rw [← hW0]; exact (Below.refl _ _).alloc (Nat.le_refl _) _
  have z0 := hB0.size
  have b0 : SixAt W0 w.heap.size (insCs x P) := by rw [← hW0]; exact World.alloc_heap_new w _
  have hs0 : w.heap.size < W0.heap.size := by rw [← hW0]; simp
  have HX := Lib.hid (fun w' (h' : Below W0.heap.size W0 w') => (b0.below h').cells)
  have HI := Lib.hid (fun w' (h' : Below W0.heap.size W0 w') => (h.go hB0).go h')
  have hW1 : w.alloc (.cells #[.slice P.a0 x.net.places.length P.c0, .slice P.a1 x.net.arcs.length P.c1, .slice P.a2 x.types.length P.c2, .slice P.a3 x.orders.length P.c3, .slice P.a4 x.apart.length P.c4, .slice P.a5 x.before.length P.c5] 38) = W0 := hW0
  have HW1 := Lib.hid hW1
  have C0 := Below.refl W0.heap.size W0
  clear hW0 hW1 h b0
  simp only [InV]
  have HL := Lib.hid hl
  clear hl
  go_enter Try.func12, Try.ntmps12
  go_upto_region 1 with fail
  rw [HW1.out]
  go_wp2_with ((with_reducible refine wpList_loadG stIns _ rfl ⟨w.heap.size, 0, none⟩ (insCs (x) P) ?_ ?_ ?_ ?_ ?_); exact rfl; exact rfl; exact HX.out _ C0; exact rfl)
  refine (richeck_any x P W0 (HI.out _ C0) HL.out).mono ?_
  rw [HFS.out]
  rintro e w1 ⟨A, c, rfl, -, b1⟩
  have HB := Lib.hid (hB0.trans (b1.mono z0))
  cases fs with
  | nil =>
    go_wp2_with fail
    go_ret
    exact ⟨ret_bool (by simp), HB.out⟩
  | cons f fs =>
    have hne : ¬ (((f :: fs).length : Nat) : Int) = 0 := by simp only [List.length_cons]; omega
    go_wp2_with fail
    go_ret
    exact ⟨ret_bool (by rw [decide_eq_false (show ¬ (f :: fs) = [] by simp), beq_eq_false_iff_ne]; omega), HB.out⟩
def expY (r : Except Int (Ins × List Int)) : Ins := match r with
  | .error _ => nilI
  | .ok (y, _) => y
def expG (r : Except Int (Ins × List Int)) : List Int := match r with
  | .error _ => []
  | .ok (_, g) => g
def expK (r : Except Int (Ins × List Int)) : Int := match r with
  | .error k => k
  | .ok _ => 0
theorem ExpOut.gen {w w' : World} {r : Except Int (Ins × List Int)} {e : Ending} (h : ExpOut w r e w') : ∃ Q A n c, e = .returned (.tuple #[InV (expY r) Q, .slice A n c, .int .i64 (expK r)]) ∧ (expG r).length = n ∧ InAt w' w'.heap.size (expY r) Q ∧ Ints w' w'.heap.size A (expG r) ∧ Below w.heap.size w w' := by
  match r, h with
  | .error k, ⟨h1, h2⟩ => exact ⟨nilP, none, 0, 0, h1, rfl, nil_at _, ⟨⟨rfl, fun h => absurd h (by simp [expG])⟩, by simp [expG]⟩, h2⟩
  | .ok (y, org), ⟨P, A, c, h1, h2, h3, h4⟩ => exact ⟨P, A, org.length, c, h1, rfl, h2, h3, h4⟩
theorem r15same_any (a b : Ins) (P Q : InP) (w : World) (hP : InAt w w.heap.size a P) (hQ : InAt w w.heap.size b Q) :
    Calls Try.prog 16 #[InV a P, InV b Q] w fun e w' => e = .returned (.bool (sameI a b)) ∧ Below w.heap.size w w' := by
  obtain ⟨W0, hW0⟩ : ∃ W0, (w.alloc (.cells (insCs a P).toArray 38)).alloc (.cells (insCs b Q).toArray 38) = W0 := ⟨_, rfl⟩
  have hB0 : Below w.heap.size w W0 := by rw [← hW0]; exact ((Below.refl _ _).alloc (Nat.le_refl _) _).alloc (by simp) _
  have z0 := hB0.size
  have b0 : SixAt W0 w.heap.size (insCs a P) := by
    rw [← hW0]
    unfold SixAt
    rw [Below.heap_alloc _ _ _ (by simp)]
    exact World.alloc_heap_new w _
  have b1 : SixAt W0 (w.heap.size + 1) (insCs b Q) := by
    rw [← hW0]
    have h := World.alloc_heap_new (w.alloc (.cells (insCs a P).toArray 38)) (.cells (insCs b Q).toArray 38)
    simpa [SixAt] using h
  have HX := Lib.hid (And.intro (And.intro b0.cells b1.cells) (And.intro (hP.go hB0) (hQ.go hB0)))
  have hW1 : (w.alloc (.cells #[.slice P.a0 a.net.places.length P.c0, .slice P.a1 a.net.arcs.length P.c1, .slice P.a2 a.types.length P.c2, .slice P.a3 a.orders.length P.c3, .slice P.a4 a.apart.length P.c4, .slice P.a5 a.before.length P.c5] 38)).alloc (.cells #[.slice Q.a0 b.net.places.length Q.c0, .slice Q.a1 b.net.arcs.length Q.c1, .slice Q.a2 b.types.length Q.c2, .slice Q.a3 b.orders.length Q.c3, .slice Q.a4 b.apart.length Q.c4, .slice Q.a5 b.before.length Q.c5] 38) = W0 := hW0
  have HW1 := Lib.hid hW1
  clear hW0 hW1 hP hQ b0 b1
  simp only [InV]
  go_enter Try.func16, Try.ntmps16
  go_upto_region 1 with fail
  rw [HW1.out]
  go_wp2_with (first
    | ((with_reducible refine wpList_loadG stIns _ rfl ⟨w.heap.size, 0, none⟩ (insCs (a) P) ?_ ?_ ?_ ?_ ?_); exact rfl; exact rfl; exact HX.out.1.1; exact rfl)
    | ((with_reducible refine wpList_loadG stIns _ rfl ⟨w.heap.size + 1, 0, none⟩ (insCs (b) Q) ?_ ?_ ?_ ?_ ?_); exact rfl; exact rfl; exact HX.out.1.2; exact rfl))
  refine (rsame_any a b P Q W0 HX.out.2.1 HX.out.2.2).mono ?_
  rintro e w1 ⟨rfl, b1⟩
  have HB := Lib.hid (hB0.trans (b1.mono z0))
  go_wp2_with fail
  go_ret
  exact ⟨rfl, HB.out⟩
set_option maxRecDepth 20000 in
set_option maxHeartbeats 4000000 in
theorem lawExp_any (x : Ins) (P : InP) (w : World) (h : InAt w w.heap.size x P) (hl : RLim x) :
    Calls Try.prog 4 #[InV x P] w fun e w' => e = .returned (.bool true) ∧ Below w.heap.size w w' := by
  obtain ⟨W0, hW0⟩ : ∃ W0, w.alloc (.cells (insCs x P).toArray 38) = W0 := ⟨_, rfl⟩
  have hB0 : Below w.heap.size w W0 := by rw [← hW0]; exact (Below.refl _ _).alloc (Nat.le_refl _) _
  have z0 := hB0.size
  have b0 : SixAt W0 w.heap.size (insCs x P) := by rw [← hW0]; exact World.alloc_heap_new w _
  have hs0 : w.heap.size < W0.heap.size := by rw [← hW0]; simp
  have HX := Lib.hid (fun w' (h' : Below W0.heap.size W0 w') => (b0.below h').cells)
  have HI := Lib.hid (fun w' (h' : Below W0.heap.size W0 w') => (h.go hB0).go h')
  have hW1 : w.alloc (.cells #[.slice P.a0 x.net.places.length P.c0, .slice P.a1 x.net.arcs.length P.c1, .slice P.a2 x.types.length P.c2, .slice P.a3 x.orders.length P.c3, .slice P.a4 x.apart.length P.c4, .slice P.a5 x.before.length P.c5] 38) = W0 := hW0
  have HW1 := Lib.hid hW1
  have C0 := Below.refl W0.heap.size W0
  clear hW0 hW1 h b0
  simp only [InV]
  have HL := Lib.hid hl
  clear hl
  go_enter Try.func4, Try.ntmps4
  go_upto_region 1 with fail
  rw [HW1.out]
  clear HW1
  go_wp2_with ((with_reducible refine wpList_loadG stIns _ rfl ⟨w.heap.size, 0, none⟩ (insCs (x) P) ?_ ?_ ?_ ?_ ?_); exact rfl; exact rfl; exact HX.out _ C0; exact rfl)
  refine (right_any x P W0 (HI.out _ C0) HL.out).mono ?_
  rintro e w1 ⟨rfl, b1⟩
  have z1 := b1.size
  by_cases hF : insF x = []
  · rw [decide_eq_true hF]
    have HA := Lib.hid (acc_of hF)
    clear hF
    go_wp2_with ((with_reducible refine wpList_loadG stIns _ rfl ⟨w.heap.size, 0, none⟩ (insCs (x) P) ?_ ?_ ?_ ?_ ?_); exact rfl; exact rfl; exact HX.out _ b1; exact rfl)
    refine (expand_any x P _ (HI.out _ b1) HA.out.lim).mono ?_
    obtain ⟨r, hr⟩ : ∃ r, expF x = r := ⟨_, rfl⟩
    have HR := Lib.hid hr
    rw [hr]
    intro e w2 h2
    obtain ⟨P1, A1, n1, c1, rfl, hn1, hI1, hG1, b2⟩ := h2.gen
    obtain ⟨Y, hY⟩ : ∃ Y, expY r = Y := ⟨_, rfl⟩
    obtain ⟨k, hk⟩ : ∃ k, expK r = k := ⟨_, rfl⟩
    rw [hY] at hI1 ⊢
    rw [hk]
    have HYK := Lib.hid (And.intro hY hk)
    have B2 : Below W0.heap.size W0 w2 := b1.trans (b2.mono z1)
    have z2 := B2.size
    have HI1 := Lib.hid (And.intro hI1 (And.intro hG1 hn1))
    clear h2 hn1 hI1 hG1 hY hk hr
    go_upto_region 4 with ((with_reducible refine wpList_storeL stIns rfl _ _ rfl w2.heap.size nilCs (insCs Y P1) ?_ ?_ ?_ ?_ ?_ (insCs_one _ _) ?_); exact rfl; exact rfl; exact World.alloc_heap_new w2 _; exact rfl; exact rfl; intro w3 k1 k2 k3 k4; have K := Lib.hid (And.intro k1 (And.intro k2 (And.intro k3 k4))); clear k1 k2 k3 k4)
    (try simp only [Act.put, List.getElem_toArray, List.getElem_cons_succ, List.getElem_cons_zero, List.setIfInBounds_toArray, List.set_cons_zero, List.set_cons_succ])
    obtain ⟨k1, k2, k3, k4⟩ := K.out
    have b3 : Below w2.heap.size w2 w3 := ((Below.refl _ _).alloc (Nat.le_refl _) _).trans k4
    have B3 : Below W0.heap.size W0 w3 := B2.trans (b3.mono z2)
    have z3 := B3.size
    have k1' : SixAt w3 w2.heap.size (insCs Y P1) := k1
    obtain ⟨g1, hg1⟩ : ∃ g1, w2.heap.size = g1 := ⟨_, rfl⟩
    have HY3 : Hid (∀ w', Below w3.heap.size w3 w' → (SixAt w' g1 (insCs Y P1) ∧ InAt w' w'.heap.size Y P1) ∧ Ints w' w'.heap.size A1 (expG r)) := Lib.hid fun w' hb => ⟨⟨by rw [← hg1]; exact k1'.below hb, (HI1.out.1.go b3).go hb⟩, (HI1.out.2.1.below (b3.trans (hb.mono b3.size))).more (Nat.le_trans b3.size hb.size)⟩
    have HN1 := Lib.hid HI1.out.2.2
    rw [hg1]
    clear k1 k2 k3 k4 K k1' hg1 b3 HI1
    go_wp2_with ((with_reducible refine wpList_loadG stIns _ rfl ⟨w.heap.size, 0, none⟩ (insCs (x) P) ?_ ?_ ?_ ?_ ?_); exact rfl; exact rfl; exact HX.out _ B3; exact rfl)
    refine (rexpand_any x P _ (HI.out _ B3) HA.out).mono ?_
    rw [HR.out]
    intro e w4 h4
    obtain ⟨P2, A2, n2, c2, rfl, hn2, hI2, hG2, b4⟩ := h4.gen
    rw [HYK.out.1] at hI2 ⊢
    rw [HYK.out.2]
    have B4 : Below W0.heap.size W0 w4 := B3.trans (b4.mono z3)
    have z4 := B4.size
    have HI2 := Lib.hid (And.intro hI2 (And.intro hG2 hn2))
    clear h4 hn2 hI2 hG2
    go_upto_region 5 with ((with_reducible refine wpList_storeL stIns rfl _ _ rfl w4.heap.size nilCs (insCs Y P2) ?_ ?_ ?_ ?_ ?_ (insCs_one _ _) ?_); exact rfl; exact rfl; exact World.alloc_heap_new w4 _; exact rfl; exact rfl; intro w5 k1 k2 k3 k4; have K := Lib.hid (And.intro k1 (And.intro k2 (And.intro k3 k4))); clear k1 k2 k3 k4)
    (try simp only [Act.put, List.getElem_toArray, List.getElem_cons_succ, List.getElem_cons_zero, List.setIfInBounds_toArray, List.set_cons_zero, List.set_cons_succ])
    obtain ⟨k1, k2, k3, k4⟩ := K.out
    have b5 : Below w4.heap.size w4 w5 := ((Below.refl _ _).alloc (Nat.le_refl _) _).trans k4
    have b35 : Below w3.heap.size w3 w5 := b4.trans (b5.mono b4.size)
    have B5 : Below W0.heap.size W0 w5 := B4.trans (b5.mono z4)
    have z5 := B5.size
    have k1' : SixAt w5 w4.heap.size (insCs Y P2) := k1
    obtain ⟨g2, hg2⟩ : ∃ g2, w4.heap.size = g2 := ⟨_, rfl⟩
    have HY5 : Hid (∀ w', Below w5.heap.size w5 w' → ((SixAt w' g1 (insCs Y P1) ∧ InAt w' w'.heap.size Y P1) ∧ Ints w' w'.heap.size A1 (expG r)) ∧ (SixAt w' g2 (insCs Y P2) ∧ InAt w' w'.heap.size Y P2) ∧ Ints w' w'.heap.size A2 (expG r)) := Lib.hid fun w' hb => ⟨HY3.out w' (b35.trans (hb.mono b35.size)), ⟨by rw [← hg2]; exact k1'.below hb, (HI2.out.1.go b5).go hb⟩, (HI2.out.2.1.below (b5.trans (hb.mono b5.size))).more (Nat.le_trans b5.size hb.size)⟩
    have HN2 := Lib.hid HI2.out.2.2
    rw [hg2]
    clear k1 k2 k3 k4 K k1' hg2 b5 b35 HI2 HY3
    have C5 := Below.refl w5.heap.size w5
    go_wp2_with fail
    refine (ints_any A1 c1 _ n1 HN1.out A2 c2 _ n2 HN2.out w5 _ _ (Nat.le_refl _) (Nat.le_refl _) (HY5.out _ C5).1.2 (HY5.out _ C5).2.2).mono ?_
    rintro e w6 ⟨rfl, b6⟩
    rw [show eqs.sameB (expG r) (expG r) = true by unfold eqs.sameB; simp]
    have z6 := b6.size
    go_wp2_with (first
      | ((with_reducible refine wpList_loadG stIns _ rfl ⟨g1, 0, none⟩ (insCs (Y) P1) ?_ ?_ ?_ ?_ ?_); exact rfl; exact rfl; exact (HY5.out _ b6).1.1.1.cells; exact rfl)
      | ((with_reducible refine wpList_loadG stIns _ rfl ⟨g2, 0, none⟩ (insCs (Y) P2) ?_ ?_ ?_ ?_ ?_); exact rfl; exact rfl; exact (HY5.out _ b6).2.1.1.cells; exact rfl))
    refine (r15same_any Y Y P1 P2 _ (HY5.out _ b6).1.1.2 (HY5.out _ b6).2.1.2).mono ?_
    rw [sameI_self]
    rintro e w7 ⟨rfl, b7⟩
    have HB7 := Lib.hid ((hB0.trans (B5.mono z0)).trans ((b6.trans (b7.mono z6)).mono (by omega)))
    go_wp2_with fail
    refine (examples_any w7).mono ?_
    rintro e w8 ⟨rfl, b8⟩
    have HB8 := Lib.hid (HB7.out.trans (b8.mono HB7.out.size))
    go_wp2_with fail
    go_ret
    exact ⟨rfl, HB8.out⟩
  · rw [decide_eq_false hF]
    have HB1 := Lib.hid (hB0.trans (b1.mono z0))
    go_wp2_with fail
    refine (examples_any w1).mono ?_
    rintro e w8 ⟨rfl, b8⟩
    have HB8 := Lib.hid (HB1.out.trans (b8.mono HB1.out.size))
    go_wp2_with fail
    go_ret
    exact ⟨rfl, HB8.out⟩
end Go.Proofs.Ytceceomaheobhaa.spl

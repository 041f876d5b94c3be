/- The examples, walked. -/
import Derived.Test.YtceceomaheobhaaGreatDoorSplX
import Derived.Deep.DeepCutAuto
import Derived.Deep.CutBlock
import Derived.Outline
namespace Go.Proofs.YtceceomaheobhaaGreatDoor.spl
open Go.RowKit
open Go.Proofs.YtceceomaheobhaaGreatDoor.lib Go.Proofs.YtceceomaheobhaaGreatDoor.rd Go.Proofs.YtceceomaheobhaaGreatDoor.app Go.Proofs.YtceceomaheobhaaGreatDoor.els Go.Proofs.YtceceomaheobhaaGreatDoor.loads Go.Proofs.YtceceomaheobhaaGreatDoor.typ Go.Proofs.YtceceomaheobhaaGreatDoor.big Go.Proofs.YtceceomaheobhaaGreatDoor.ins Go.Proofs.YtceceomaheobhaaGreatDoor.ord Go.Proofs.YtceceomaheobhaaGreatDoor.flts Go.Proofs.YtceceomaheobhaaGreatDoor.off Go.Proofs.YtceceomaheobhaaGreatDoor.eqg
set_option linter.unusedVariables false
set_option linter.unusedSimpArgs false

/-- What Loads gave, in every later world. -/
def ExL (w1 : World) (g : Nat) (C0 : Option Addr) (d0 : Nat) (C1 : Option Addr) (d1 : Nat) (C2 : Option Addr) (d2 : Nat) : Prop :=
  g < w1.heap.size ∧ (w1.cell? ⟨g, 0, none⟩ = some (.slice C0 2 d0) ∧ w1.cell? ⟨g, 1, none⟩ = some (.slice C1 2 d1) ∧ w1.cell? ⟨g, 2, none⟩ = some (.slice C2 2 d2)) ∧ Ints w1 w1.heap.size C0 [3, 1] ∧ Ints w1 w1.heap.size C1 [2, 1] ∧ Ints w1 w1.heap.size C2 [2, 0]
theorem ExL.below {w1 w2 : World} {g : Nat} {C0 : Option Addr} {d0 : Nat} {C1 : Option Addr} {d1 : Nat} {C2 : Option Addr} {d2 : Nat} (h : ExL w1 g C0 d0 C1 d1 C2 d2) (hb : Below w1.heap.size w1 w2) : ExL w2 g C0 d0 C1 d1 C2 d2 := by
  obtain ⟨h1, ⟨h2, h3, h4⟩, h5, h6, h7⟩ := h
  have k := fun o => hb.cell (p := ⟨g, o, none⟩) h1
  exact ⟨Nat.lt_of_lt_of_le h1 hb.size, ⟨(k 0).trans h2, (k 1).trans h3, (k 2).trans h4⟩, (h5.below hb).more hb.size, (h6.below hb).more hb.size, (h7.below hb).more hb.size⟩
theorem bVis : BuildOf 74 (.agg #[.int .i64 0, .bool false]) #[(0, 1), (1, 1)] := ⟨⟨_, Tryz.underlying74, fun w => by kernel_rfl⟩, fun w => by kernel_rfl⟩
def rouZs : List Value := [.int .i64 0, .int .i64 0, .slice none 0 0, .slice none 0 0]
theorem bRou : BuildOf 78 (.agg rouZs.toArray) #[(0, 1), (1, 1), (2, 1), (3, 1)] := ⟨⟨_, Tryz.underlying78, fun w => by kernel_rfl⟩, fun w => by kernel_rfl⟩
theorem rou_elem : ElemOf 79 78 (.agg rouZs.toArray) 4 64 := ⟨Tryz.underlying79, by kernel_rfl, rfl, by decide, by decide⟩
theorem rou_range : (List.range (2 * 4)).map (fun i => (Value.agg rouZs.toArray).cells[i % (Value.agg rouZs.toArray).cells.size]!) = rouZs ++ rouZs := by kernel_rfl
def exPlan (w : World) : World := ((((w.alloc (.cells #[.int .i64 0, .bool true] 74)).alloc (.cells #[.int .i64 2, .bool true] 74)).alloc (.cells #[.int .i64 0, .int .i64 0, .slice none 0 0, .slice (some ⟨w.heap.size, 0, none⟩) 1 1, .int .i64 0, .int .i64 0, .slice none 0 0, .slice (some ⟨w.heap.size + 1, 0, none⟩) 1 1] 78)).alloc (.cells #[.int .i64 1] 3)).alloc (.cells #[.slice (some ⟨w.heap.size + 1 + 1, 0, none⟩) 2 2, .slice (some ⟨w.heap.size + 1 + 1 + 1, 0, none⟩) 1 1] 81)
theorem exPlan_at (w : World) : w.heap.size + 1 + 1 + 1 + 1 < (exPlan w).heap.size ∧ ((exPlan w).cell? ⟨w.heap.size + 1 + 1 + 1 + 1, 0, none⟩ = some (.slice (some ⟨w.heap.size + 1 + 1, 0, none⟩) 2 2) ∧ (exPlan w).cell? ⟨w.heap.size + 1 + 1 + 1 + 1, 1, none⟩ = some (.slice (some ⟨w.heap.size + 1 + 1 + 1, 0, none⟩) 1 1)) ∧ RowAt rRou (exPlan w) (exPlan w).heap.size (some ⟨w.heap.size + 1 + 1, 0, none⟩) exR ∧ Below w.heap.size w (exPlan w) := by
  obtain ⟨t1, t2, t3, t4, t5, t6⟩ := stack4 w (.cells #[.int .i64 0, .bool true] 74) (.cells #[.int .i64 2, .bool true] 74) (.cells #[.int .i64 0, .int .i64 0, .slice none 0 0, .slice (some ⟨w.heap.size, 0, none⟩) 1 1, .int .i64 0, .int .i64 0, .slice none 0 0, .slice (some ⟨w.heap.size + 1, 0, none⟩) 1 1] 78) (.cells #[.int .i64 1] 3)
  unfold exPlan
  generalize (((w.alloc (.cells #[.int .i64 0, .bool true] 74)).alloc (.cells #[.int .i64 2, .bool true] 74)).alloc (.cells #[.int .i64 0, .int .i64 0, .slice none 0 0, .slice (some ⟨w.heap.size, 0, none⟩) 1 1, .int .i64 0, .int .i64 0, .slice none 0 0, .slice (some ⟨w.heap.size + 1, 0, none⟩) 1 1] 78)).alloc (.cells #[.int .i64 1] 3) = W4 at *
  have hz : (W4.alloc (.cells #[.slice (some ⟨w.heap.size + 1 + 1, 0, none⟩) 2 2, .slice (some ⟨w.heap.size + 1 + 1 + 1, 0, none⟩) 1 1] 81)).heap.size = w.heap.size + 1 + 1 + 1 + 1 + 1 := by rw [World.size_alloc, t5]
  have hb : Below W4.heap.size W4 (W4.alloc (.cells #[.slice (some ⟨w.heap.size + 1 + 1, 0, none⟩) 2 2, .slice (some ⟨w.heap.size + 1 + 1 + 1, 0, none⟩) 1 1] 81)) := (Below.refl _ _).alloc (Nat.le_refl _) _
  have c0 := two_new W4 (.slice (some ⟨w.heap.size + 1 + 1, 0, none⟩) 2 2) (.slice (some ⟨w.heap.size + 1 + 1 + 1, 0, none⟩) 1 1) 81 0 _ rfl
  have c1 := two_new W4 (.slice (some ⟨w.heap.size + 1 + 1, 0, none⟩) 2 2) (.slice (some ⟨w.heap.size + 1 + 1 + 1, 0, none⟩) 1 1) 81 1 _ rfl
  rw [t5] at c0 c1
  generalize W4.alloc (.cells #[.slice (some ⟨w.heap.size + 1 + 1, 0, none⟩) 2 2, .slice (some ⟨w.heap.size + 1 + 1 + 1, 0, none⟩) 1 1] 81) = W5 at *
  have n1 := (hb.block _ (show w.heap.size < _ by omega)).trans t1
  have n2 := (hb.block _ (show w.heap.size + 1 < _ by omega)).trans t2
  have n3 := (hb.block _ (show w.heap.size + 1 + 1 < _ by omega)).trans t3
  have r1 : RowAt rVis W5 W5.heap.size (some ⟨w.heap.size, 0, none⟩) [⟨0, true⟩] := row_blk (r := rVis) (cs := VisCells ⟨0, true⟩) n1 (by omega) (rVis_mk (by unfold VisFits; decide))
  have r2 : RowAt rVis W5 W5.heap.size (some ⟨w.heap.size + 1, 0, none⟩) [⟨2, true⟩] := row_blk (r := rVis) (cs := VisCells ⟨2, true⟩) n2 (by omega) (rVis_mk (by unfold VisFits; decide))
  have q1 : rRou.at_ W5 W5.heap.size (RouCells ⟨0, 0, [⟨0, true⟩]⟩ (.slice none 0 0) (some ⟨w.heap.size, 0, none⟩) 1) ⟨0, 0, [⟨0, true⟩]⟩ := rRou_mk r1 rfl (by decide) (by decide)
  have q2 : rRou.at_ W5 W5.heap.size (RouCells ⟨0, 0, [⟨2, true⟩]⟩ (.slice none 0 0) (some ⟨w.heap.size + 1, 0, none⟩) 1) ⟨0, 0, [⟨2, true⟩]⟩ := rRou_mk r2 rfl (by decide) (by decide)
  exact ⟨by omega, ⟨c0, c1⟩, row_blk2 (r := rRou) n3 (by omega) q1 q2, t6.trans (hb.mono (by omega))⟩
theorem ex_dims : ∀ o ∈ smpI.orders, o.load.length ≤ 1000000 := fun o ho => by
  simp only [smpI, List.mem_cons, List.not_mem_nil, or_false] at ho
  rcases ho with rfl | rfl
  all_goals decide
theorem two_same (a b : Int) (w : World) : (Op.equalIn 10000 88 (.agg #[.int .i64 a, .int .i64 b]) (.agg #[.int .i64 a, .int .i64 b])).run Tryz.prog w = .ok true w := by
  obtain ⟨i0, hi, _⟩ := info_parts int_info
  have h := arr.run_eq_ints (t := 88) w 9998 Tryz.underlying88 hi [a, b] [a, b] rfl rfl
  rw [show decide ([a, b] = [a, b]) = true by simp] at h
  exact h
/-- What Merge gave. -/
def ExM (w : World) (g : Nat) (M0 : Option Addr) (e0 : Nat) (M1 : Option Addr) (e1 : Nat) (ad0 : Addr) (K0 : Option Addr) (f0 : Nat) (ad1 : Addr) : Prop :=
  w.cell? ⟨g, 0, none⟩ = some (.slice M0 1 e0) ∧ w.cell? ⟨g, 1, none⟩ = some (.slice M1 1 e1) ∧ g < w.heap.size ∧ RowAt (rSlice rSha) w w.heap.size (some ⟨g, 0, none⟩) [[⟨0, [4]⟩], [⟨1, [7]⟩]] ∧ M0 = some ad0 ∧ M1 = some ad1 ∧ w.cell? ⟨ad0.block, ad0.off + 1, none⟩ = some (.slice K0 1 f0) ∧ w.cell? ad1 = some (.int .i64 1) ∧ Ints w w.heap.size K0 [4] ∧ ad0.block < w.heap.size ∧ ad1.block < w.heap.size
theorem exM_of {w0 w : World} {A8 : Option Addr} {c8 : Nat} {cs : List Value} {P : Nat → Prop} (hown : w.ownsRow w0.heap.size 85 1 (.slice A8 2 c8) 2 cs) (hels : EG (oSlice oSha) w P cs [[⟨0, [4]⟩], [⟨1, [7]⟩]]) : ∃ g M0 e0 M1 e1 ad0 K0 f0 ad1, A8 = some ⟨g, 0, none⟩ ∧ ExM w g M0 e0 M1 e1 ad0 K0 f0 ad1 := by
  have hr := hels.row (r := oSlice oSha) (e := 85) hown (by decide)
  have add0 : ∀ a : Addr, a.add 0 = a := fun a => by unfold Addr.add; simp
  rcases hown.2 with ⟨h5, h6⟩ | ⟨g, cap, cur, h5, h6, h7, h8⟩
  · cases h6
  injection h5 with h5 _ _
  subst h5
  obtain ⟨ad, c1, hA, hb1, ⟨M0, e0, rfl, r0⟩, k0⟩ := hr.elem (i := 0) rfl
  obtain ⟨ad', c2, hA', hb2, ⟨M1, e1, rfl, r1⟩, k1⟩ := hr.elem (i := 1) rfl
  injection hA with hA
  subst hA
  injection hA' with hA'
  subst hA'
  obtain ⟨ad0, C0, d0, hM0, hb0, ⟨m0, m1⟩, hi0, -⟩ := row_Sha r0 (i := 0) rfl
  obtain ⟨ad1, C1, d1, hM1, hb1', ⟨n0, n1⟩, hi1, -⟩ := row_Sha r1 (i := 0) rfl
  rw [Nat.zero_mul, add0] at m0 m1 n0 n1
  exact ⟨g, M0, e0, M1, e1, ad0, C0, d0, ad1, rfl, k0 0 _ rfl, k1 0 _ rfl, hb1, hr, hM0, hM1, m1, n0, hi0, hb0, hb1'⟩
theorem ExM.below {w w' : World} {g : Nat} {M0 : Option Addr} {e0 : Nat} {M1 : Option Addr} {e1 : Nat} {ad0 : Addr} {K0 : Option Addr} {f0 : Nat} {ad1 : Addr} (h : ExM w g M0 e0 M1 e1 ad0 K0 f0 ad1) (hb : Below w.heap.size w w') : ExM w' g M0 e0 M1 e1 ad0 K0 f0 ad1 := by
  obtain ⟨h1, h2, h3, h4, h5, h6, h7, h8, h9, h10, h11⟩ := h
  exact ⟨(hb.cell (p := ⟨g, 0, none⟩) h3).trans h1, (hb.cell (p := ⟨g, 1, none⟩) h3).trans h2, Nat.lt_of_lt_of_le h3 hb.size, (h4.below hb).more hb.size, h5, h6, (hb.cell (p := ⟨ad0.block, ad0.off + 1, none⟩) h10).trans h7, (hb.cell h11).trans h8, (h9.below hb).more hb.size, Nat.lt_of_lt_of_le h10 hb.size, Nat.lt_of_lt_of_le h11 hb.size⟩
set_option maxRecDepth 20000 in
set_option maxHeartbeats 4000000 in
theorem examples_any (w : World) : Calls Tryz.prog 14 #[] w fun e w' => e = .returned (.bool true) ∧ Below w.heap.size w w' := by
  go_enter Tryz.func14, Tryz.ntmps14
  go_upto_region 1 with fail
  go_cut [1, 2] (fun l e wx => ∃ g c C0 d0 C1 d1 C2 d2, l = .slice (some ⟨g, 0, none⟩) 3 c ∧ e = .int .i64 0 ∧ ExL wx g C0 d0 C1 d1 C2 d2 ∧ Below w.heap.size w wx)
  case first => as_aux_lemma =>
    have HI : Hid (Ints (w.alloc (.cells #[.int .i64 7, .int .i64 2] 3)) (w.alloc (.cells #[.int .i64 7, .int .i64 2] 3)).heap.size (some ⟨w.heap.size, 0, none⟩) [7, 2]) := Lib.hid ((Ints.lit w [7, 2] (by decide)).more (by simp))
    go_wp2_with fail
    refine (loads_any (some ⟨w.heap.size, 0, none⟩) 2 [7, 2] 3 _ HI.out).mono ?_
    rw [ex_loads]
    rintro e w1 (⟨ll, A1, c1, cs1, h, rfl, hown1, hels1, b1⟩ | ⟨h, -⟩)
    rotate_left
    · cases h
    injection h with h
    subst h
    obtain ⟨g, C0, d0, rfl, hg, i0, k0⟩ := els_cell (s := 1) (fun x A c => rfl) hels1 hown1 rfl (i := 0) rfl
    obtain ⟨g1, C1, d1, e1, -, i1, k1⟩ := els_cell (s := 1) (fun x A c => rfl) hels1 hown1 rfl (i := 1) rfl
    obtain ⟨g2, C2, d2, e2, -, i2, k2⟩ := els_cell (s := 1) (fun x A c => rfl) hels1 hown1 rfl (i := 2) rfl
    injection e1 with e1
    injection e1 with e1
    subst e1
    injection e2 with e2
    injection e2 with e2
    subst e2
    have H := Lib.hid (show ExL w1 g C0 d0 C1 d1 C2 d2 from ⟨hg, ⟨k0 0 _ rfl, k1 0 _ rfl, k2 0 _ rfl⟩, i0, i1, i2⟩)
    clear hown1 hels1 i0 k0 i1 k1 i2 k2
    go_wp2_with fail
    go_meet
    exact ⟨g, c1, C0, d0, C1, d1, C2, d2, rfl, rfl, H.out, ((Below.refl _ _).alloc (Nat.le_refl _) _).trans (b1.mono (by simp))⟩
  obtain ⟨g, c, C0, d0, C1, d1, C2, d2, h1, h2, hL, hB⟩ := hcut
  subst h1
  subst h2
  have HL := Lib.hid hL
  have HB := Lib.hid hB
  have z1 := hB.size
  clear hL hB
  go_upto_region 2 with fail
  go_cut [3] (fun p wx => ∃ P k, p = .pointer (some ⟨k, 0, none⟩) ∧ SixAt wx k (insCs smpI P) ∧ InAt wx wx.heap.size smpI P ∧ Below wc.heap.size wc wx)
  case first => as_aux_lemma =>
    go_wp2_with (first
      | (go_at_call 41; refine (sample_any _).mono ?_; rintro e w1 ⟨P, rfl, hI, hb⟩; have HI := Lib.hid hI; clear hI)
      | ((with_reducible refine wpList_storeL sIns rfl _ _ rfl w1.heap.size nilCs (insCs smpI P) ?_ ?_ ?_ ?_ ?_ (insCs_one _ _) ?_); exact rfl; exact rfl; exact World.alloc_heap_new w1 _; exact rfl; exact rfl; intro w2 k1 k2 k3 k4; have K := Lib.hid (And.intro k1 (And.intro k2 (And.intro k3 k4))); clear k1 k2 k3 k4))
    go_meet
    obtain ⟨k1, k2, k3, k4⟩ := K.out
    have hb2 : Below w1.heap.size w1 w2 := ((Below.refl _ _).alloc (Nat.le_refl _) _).trans k4
    exact ⟨P, w1.heap.size, rfl, k1, HI.out.go hb2, hb.trans (hb2.mono hb.size)⟩
  obtain ⟨P, px, h3, hx, hI, hb⟩ := hcut
  subst h3
  have HX := Lib.hid (And.intro hx hI)
  have hpx : px < wc.heap.size := (Array.getElem?_eq_some_iff.1 hx).1
  have HL2 := Lib.hid (HL.out.below hb)
  have HB2 := Lib.hid (HB.out.trans (hb.mono z1))
  have z2 := HB2.out.size
  clear HL HB z1 hx hI hb
  go_upto_region 3 with fail
  go_cut [4, 5, 6] (fun p l e wx => ∃ Q k A c, p = .pointer (some ⟨k, 0, none⟩) ∧ l = .slice A 3 c ∧ e = .int .i64 0 ∧ SixAt wx k (insCs exI Q) ∧ InAt wx wx.heap.size exI Q ∧ Ints wx wx.heap.size A [0, 0, 1] ∧ Below wc.heap.size wc wx)
  case first => as_aux_lemma =>
    go_wp2_with ((with_reducible refine wpList_loadG stIns _ rfl ⟨px, 0, none⟩ (insCs (smpI) P) ?_ ?_ ?_ ?_ ?_); exact rfl; exact rfl; exact HX.out.1.cells; exact rfl)
    refine (expand_any smpI P wc HX.out.2 ex_lim).mono ?_
    rw [ex_exp]
    rintro e w1 ⟨Q, A, c, rfl, hI1, hi1, hb1⟩
    have HI1 := Lib.hid (And.intro hI1 hi1)
    clear hI1 hi1
    go_wp2_with ((with_reducible refine wpList_storeL stIns rfl _ _ rfl w1.heap.size nilCs (insCs exI Q) ?_ ?_ ?_ ?_ ?_ (insCs_one _ _) ?_); exact rfl; exact rfl; exact World.alloc_heap_new w1 _; exact rfl; exact rfl; intro w2 k1 k2 k3 k4; have K := Lib.hid (And.intro k1 (And.intro k2 (And.intro k3 k4))); clear k1 k2 k3 k4)
    go_meet
    obtain ⟨k1, k2, k3, k4⟩ := K.out
    have hb2 : Below w1.heap.size w1 w2 := ((Below.refl _ _).alloc (Nat.le_refl _) _).trans k4
    exact ⟨Q, w1.heap.size, A, c, rfl, rfl, rfl, k1, HI1.out.1.go hb2, (HI1.out.2.below hb2).more hb2.size, hb1.trans (hb2.mono hb1.size)⟩
  obtain ⟨Q, py, A, cA, h4, h5, h6, hy, hI, hi, hb⟩ := hcut
  subst h4
  subst h5
  subst h6
  have HY := Lib.hid (And.intro hy (And.intro hI hi))
  have hpy : py < wc.heap.size := (Array.getElem?_eq_some_iff.1 hy).1
  have HX3 := Lib.hid (And.intro (HX.out.1.below hb) (HX.out.2.go hb))
  have HL3 := Lib.hid (HL2.out.below hb)
  have HB3 := Lib.hid (HB2.out.trans (hb.mono z2))
  have z3 := HB3.out.size
  have hpx3 : px < wc.heap.size := Nat.lt_of_lt_of_le hpx hb.size
  clear HL2 HB2 z2 HX hpx hy hI hi hb
  go_upto_region 4 with fail
  go_cut [74] (fun v wx => v = .bool false ∧ Below wc.heap.size wc wx)
  case first => as_aux_lemma =>
    obtain ⟨q0, q1, q2⟩ := HL3.out.2.1
    go_wp2_with fail
    have b0w5 : Below wc.heap.size wc (wc.alloc (.cells (([3, 1] : List Int).map (.int .i64)).toArray 3)) := (Below.refl _ _).alloc (Nat.le_refl _) _
    refine (ints_yes [3, 1] 2 rfl C0 d0 (some ⟨wc.heap.size, 0, none⟩) 2 _ ((HL3.out.below b0w5).2.2.1) ((Ints.lit wc [3, 1] (by decide)).more (by simp))).mono ?_
    rintro e w5 ⟨rfl, b1w5⟩
    have bw5 : Below wc.heap.size wc w5 := b0w5.trans (b1w5.mono b0w5.size)
    clear b0w5 b1w5
    have HL5 := Lib.hid (HL3.out.below bw5)
    clear q0 q1 q2
    obtain ⟨q0, q1, q2⟩ := HL5.out.2.1
    have HB5 := Lib.hid bw5
    clear bw5
    go_wp2_with fail
    have b0w6 : Below w5.heap.size w5 (w5.alloc (.cells (([2, 1] : List Int).map (.int .i64)).toArray 3)) := (Below.refl _ _).alloc (Nat.le_refl _) _
    refine (ints_yes [2, 1] 2 rfl C1 d1 (some ⟨w5.heap.size, 0, none⟩) 2 _ ((HL5.out.below b0w6).2.2.2.1) ((Ints.lit w5 [2, 1] (by decide)).more (by simp))).mono ?_
    rintro e w6 ⟨rfl, b1w6⟩
    have bw6 : Below w5.heap.size w5 w6 := b0w6.trans (b1w6.mono b0w6.size)
    clear b0w6 b1w6
    have HL6 := Lib.hid (HL5.out.below bw6)
    clear q0 q1 q2
    obtain ⟨q0, q1, q2⟩ := HL6.out.2.1
    have HB6 := Lib.hid (HB5.out.trans (bw6.mono HB5.out.size))
    clear bw6
    go_wp2_with fail
    have b0w7 : Below w6.heap.size w6 (w6.alloc (.cells (([2, 0] : List Int).map (.int .i64)).toArray 3)) := (Below.refl _ _).alloc (Nat.le_refl _) _
    refine (ints_yes [2, 0] 2 rfl C2 d2 (some ⟨w6.heap.size, 0, none⟩) 2 _ ((HL6.out.below b0w7).2.2.2.2) ((Ints.lit w6 [2, 0] (by decide)).more (by simp))).mono ?_
    rintro e w7 ⟨rfl, b1w7⟩
    have bw7 : Below w6.heap.size w6 w7 := b0w7.trans (b1w7.mono b0w7.size)
    clear b0w7 b1w7
    clear q0 q1 q2
    have HB7 := Lib.hid (HB6.out.trans (bw7.mono HB6.out.size))
    have HA7 : Hid (Ints w7 w7.heap.size A [0, 0, 1]) := Lib.hid ((HY.out.2.2.below HB7.out).more HB7.out.size)
    clear bw7
    go_wp2_with fail
    have b0w8 : Below w7.heap.size w7 (w7.alloc (.cells (([0, 0, 1] : List Int).map (.int .i64)).toArray 3)) := (Below.refl _ _).alloc (Nat.le_refl _) _
    refine (ints_yes [0, 0, 1] 3 rfl A cA (some ⟨w7.heap.size, 0, none⟩) 3 _ ((HA7.out.below b0w8).more b0w8.size) ((Ints.lit w7 [0, 0, 1] (by decide)).more (by simp))).mono ?_
    rintro e w8 ⟨rfl, b1w8⟩
    have bw8 : Below w7.heap.size w7 w8 := b0w8.trans (b1w8.mono b0w8.size)
    clear b0w8 b1w8
    have HB8 := Lib.hid (HB7.out.trans (bw8.mono HB7.out.size))
    have hy8 := HY.out.1.below HB8.out
    have y3 : w8.cell? ⟨py, 3, none⟩ = some (.slice Q.a3 3 Q.c3) := hy8.cell (j := 3) rfl
    have y4 : w8.cell? ⟨py, 4, none⟩ = some (.slice Q.a4 2 Q.c4) := hy8.cell (j := 4) rfl
    clear bw8 hy8
    go_wp2_with fail
    go_meet
    exact ⟨rfl, HB8.out⟩
  obtain ⟨h74, hb⟩ := hcut
  subst h74
  have HY4 := Lib.hid (And.intro (HY.out.1.below hb) (And.intro (HY.out.2.1.go hb) ((HY.out.2.2.below hb).more hb.size)))
  have HX4 := Lib.hid (And.intro (HX3.out.1.below hb) (HX3.out.2.go hb))
  have HB4 := Lib.hid (HB3.out.trans (hb.mono z3))
  have z4 := HB4.out.size
  have hpx4 : px < wc.heap.size := Nat.lt_of_lt_of_le hpx3 hb.size
  have hpy4 : py < wc.heap.size := Nat.lt_of_lt_of_le hpy hb.size
  clear HY HX3 HB3 z3 hpx3 hpy HL3 hb
  go_upto_region 6 with fail
  go_cut [7] (fun p wx => ∃ kp AR AU, p = .pointer (some ⟨kp, 0, none⟩) ∧ kp < wx.heap.size ∧ (wx.cell? ⟨kp, 0, none⟩ = some (.slice AR 2 2) ∧ wx.cell? ⟨kp, 1, none⟩ = some (.slice AU 1 1)) ∧ RowAt rRou wx wx.heap.size AR exR ∧ Below wc.heap.size wc wx)
  case first => as_aux_lemma =>
    go_wp2_with (first
      | ((with_reducible refine wpList_buildL bVis rfl _ rfl [(0, .int .i64 0), (1, .bool true)] [.int .i64 0, .bool true] ?_ (by kernel_rfl) ?_); exact rfl)
      | ((with_reducible refine wpList_buildL bVis rfl _ rfl [(0, .int .i64 2), (1, .bool true)] [.int .i64 2, .bool true] ?_ (by kernel_rfl) ?_); exact rfl)
      | ((with_reducible refine wpList_buildL bRou rfl _ rfl [(3, .slice (some ⟨wc.heap.size, 0, none⟩) 1 1)] [.int .i64 0, .int .i64 0, .slice none 0 0, .slice (some ⟨wc.heap.size, 0, none⟩) 1 1] ?_ (by kernel_rfl) ?_); exact rfl)
      | ((with_reducible refine wpList_buildL bRou rfl _ rfl [(3, .slice (some ⟨wc.heap.size + 1, 0, none⟩) 1 1)] [.int .i64 0, .int .i64 0, .slice none 0 0, .slice (some ⟨wc.heap.size + 1, 0, none⟩) 1 1] ?_ (by kernel_rfl) ?_); exact rfl)
      | ((with_reducible refine wpList_bsliceL rou_elem rfl 2 _ rfl [(0, .agg #[.int .i64 0, .int .i64 0, .slice none 0 0, .slice (some ⟨wc.heap.size, 0, none⟩) 1 1]), (1, .agg #[.int .i64 0, .int .i64 0, .slice none 0 0, .slice (some ⟨wc.heap.size + 1, 0, none⟩) 1 1])] [.int .i64 0, .int .i64 0, .slice none 0 0, .slice (some ⟨wc.heap.size, 0, none⟩) 1 1, .int .i64 0, .int .i64 0, .slice none 0 0, .slice (some ⟨wc.heap.size + 1, 0, none⟩) 1 1] (rouZs ++ rouZs) ?_ (by decide) (by decide) rou_range (by kernel_rfl) ?_); exact rfl))
    go_meet
    have H := exPlan_at wc
    exact ⟨wc.heap.size + 1 + 1 + 1 + 1, some ⟨wc.heap.size + 1 + 1, 0, none⟩, some ⟨wc.heap.size + 1 + 1 + 1, 0, none⟩, rfl, H.1, H.2.1, H.2.2.1, H.2.2.2⟩
  obtain ⟨kp, AR, AU, h7, hkp, ⟨hp0, hp1⟩, hR, hb⟩ := hcut
  subst h7
  have HR5 := Lib.hid hR
  have HY5 := Lib.hid (And.intro (HY4.out.1.below hb) (And.intro (HY4.out.2.1.go hb) ((HY4.out.2.2.below hb).more hb.size)))
  have HX5 := Lib.hid (And.intro (HX4.out.1.below hb) (HX4.out.2.go hb))
  have HB5 := Lib.hid (HB4.out.trans (hb.mono z4))
  have z5 := HB5.out.size
  have hpx5 : px < wc.heap.size := Nat.lt_of_lt_of_le hpx4 hb.size
  have hpy5 : py < wc.heap.size := Nat.lt_of_lt_of_le hpy4 hb.size
  clear HY4 HX4 HB4 z4 hpx4 hpy4 hb hR
  go_upto_region 7 with fail
  go_cut [8, 9] (fun l e wx => ∃ A8 c8 cs, l = .slice A8 2 c8 ∧ e = .int .i64 0 ∧ wx.ownsRow wc.heap.size 85 1 (.slice A8 2 c8) 2 cs ∧ EG (oSlice oSha) wx (fun b => wc.heap.size ≤ b) cs [[⟨0, [4]⟩], [⟨1, [7]⟩]] ∧ Below wc.heap.size wc wx)
  case first => as_aux_lemma =>
    go_wp2_with ((with_reducible refine wpList_loadG stIns _ rfl ⟨px, 0, none⟩ (insCs (smpI) P) ?_ ?_ ?_ ?_ ?_); exact rfl; exact rfl; exact HX5.out.1.cells; exact rfl)
    refine (merge_any smpI P A cA [0, 0, 1] AR 2 exR _ wc HX5.out.2 ex_lim HY5.out.2.2 HR5.out (by decide) ex_good).mono ?_
    rw [ex_merge]
    rintro e w1 ⟨A8, c8, cs, rfl, hown, hels, hb1⟩
    have HK := Lib.hid (And.intro hown (And.intro hels hb1))
    clear hown hels hb1
    go_wp2_with fail
    go_meet
    exact ⟨A8, c8, cs, rfl, rfl, HK.out.1, HK.out.2.1, HK.out.2.2⟩
  obtain ⟨A8, c8, cs8, h8, h9, hown, hels, hb⟩ := hcut
  subst h8
  subst h9
  have HY6 := Lib.hid (And.intro (HY5.out.1.below hb) (HY5.out.2.1.go hb))
  have HX6 := Lib.hid (And.intro (HX5.out.1.below hb) (HX5.out.2.go hb))
  have HB6 := Lib.hid (HB5.out.trans (hb.mono z5))
  have z6 := HB6.out.size
  have hpx6 : px < wc.heap.size := Nat.lt_of_lt_of_le hpx5 hb.size
  have hpy6 : py < wc.heap.size := Nat.lt_of_lt_of_le hpy5 hb.size
  obtain ⟨g8, M0, e0, M1, e1, ad0, K0, f0, ad1, hA8, HM⟩ := exM_of hown hels
  subst hA8
  have HM6 := Lib.hid HM
  clear HY5 HX5 HB5 z5 hpx5 hpy5 hb hown hels HM HR5 hp0 hp1
  go_upto_region 8 with fail
  go_cut [131] (fun v wx => v = .bool false ∧ Below wc.heap.size wc wx)
  case first => as_aux_lemma =>
    obtain ⟨q0, q1, -, -, hM0, hM1, q2, q3, q4, -⟩ := HM6.out
    subst hM0
    subst hM1
    go_wp2_with fail
    have hb0 : Below wc.heap.size wc (wc.alloc (.cells (([4] : List Int).map (.int .i64)).toArray 3)) := (Below.refl _ _).alloc (Nat.le_refl _) _
    refine (ints_yes [4] 1 rfl K0 f0 (some ⟨wc.heap.size, 0, none⟩) 1 _ (HM6.out.below hb0).2.2.2.2.2.2.2.2.1 ((Ints.lit wc [4] (by decide)).more (by simp))).mono ?_
    rintro e w5 ⟨rfl, hb1⟩
    have hb5 : Below wc.heap.size wc w5 := hb0.trans (hb1.mono hb0.size)
    have HB7 := Lib.hid hb5
    have HM7 := Lib.hid (HM6.out.below hb5)
    clear q0 q1 q2 q3 q4 hb0 hb1 hb5
    obtain ⟨q0, q1, -, -, -, -, q2, q3, q4, -⟩ := HM7.out
    go_wp2_with fail
    go_meet
    exact ⟨rfl, HB7.out⟩
  obtain ⟨h131, hb⟩ := hcut
  subst h131
  have HM8 := Lib.hid (HM6.out.below hb)
  have HY8 := Lib.hid (And.intro (HY6.out.1.below hb) (HY6.out.2.go hb))
  have HX8 := Lib.hid (And.intro (HX6.out.1.below hb) (HX6.out.2.go hb))
  have HB8 := Lib.hid (HB6.out.trans (hb.mono z6))
  have z8 := HB8.out.size
  clear HM6 HY6 HX6 HB6 z6 hb
  go_upto_region 10 with fail
  have y3 : wc.cell? ⟨py, 3, none⟩ = some (.slice Q.a3 3 Q.c3) := HY8.out.1.cell (j := 3) rfl
  have y4 : wc.cell? ⟨py, 4, none⟩ = some (.slice Q.a4 2 Q.c4) := HY8.out.1.cell (j := 4) rfl
  obtain ⟨ao, D0, k0, hQ3, hbo, ⟨m0, m1, m2, m3, m4, m5, m6, m7, m8, m9, m10, m11, -⟩, -, -⟩ := row_Ord HY8.out.2.orders (i := 0) rfl
  obtain ⟨ao', D1, k1, hQ3', -, ⟨n0, -⟩, -, -⟩ := row_Ord HY8.out.2.orders (i := 1) rfl
  obtain ⟨ap, hQ4, hbp, ⟨p0, p1⟩, -⟩ := row_Two HY8.out.2.apart (i := 1) rfl
  rw [hQ3] at hQ3'
  injection hQ3' with hQ3'
  subst hQ3'
  have add0 : ∀ a : Addr, a.add 0 = a := fun a => by unfold Addr.add; simp
  rw [Nat.zero_mul, add0] at m11
  have m11' : wc.cell? ⟨ao.block, ao.off + 11, none⟩ = some (.int .i64 5) := m11
  have n0' : wc.cell? ⟨ao.block, ao.off + 16, none⟩ = some (.string ⟨#[111, 95, 50]⟩) := n0
  have p0' : wc.cell? ⟨ap.block, ap.off + 2, none⟩ = some (.int .i64 1) := p0
  have p1' : wc.cell? ⟨ap.block, ap.off + 2 + 1, none⟩ = some (.int .i64 2) := p1
  have p1'' : wc.cell? ⟨ap.block, ap.off + 3, none⟩ = some (.int .i64 2) := p1
  have HQ := Lib.hid (And.intro hQ3 hQ4)
  have heq2 := two_same 1 2 wc
  rw [hQ3] at y3
  rw [hQ4] at y4
  have hW0 := ex_whole
  clear m0 m1 m2 m3 m4 m5 m6 m7 m8 m9 m10 m11 n0 p0 p1 add0 hQ3 hQ4 hW0
  go_wp2_with ((with_reducible refine wpList_loadG stIns _ rfl ⟨px, 0, none⟩ (insCs (smpI) P) ?_ ?_ ?_ ?_ ?_); exact rfl; exact rfl; exact HX8.out.1.cells; exact rfl)
  have hb0 : Below wc.heap.size wc (wc.alloc (.cells (([0] : List Int).map (.int .i64)).toArray 3)) := (Below.refl _ _).alloc (Nat.le_refl _) _
  have HW9 := Lib.hid (whole_any smpI P (some ⟨g8, 0, none⟩) c8 [[⟨0, [4]⟩], [⟨1, [7]⟩]] (some ⟨wc.heap.size, 0, none⟩) 1 [0] (wc.alloc (.cells (([0] : List Int).map (.int .i64)).toArray 3)) (HX8.out.2.go hb0) (HM8.out.below hb0).2.2.2.1 ((Ints.lit wc [0] (by decide)).more (by simp)) (by decide) ex_dims (by decide) (by decide))
  refine HW9.out.mono ?_
  rintro e w9 ⟨he, hb9'⟩
  rw [show ([[⟨0, [4]⟩], [⟨1, [7]⟩]] : List (List Sha)).flatten = [⟨0, [4]⟩, ⟨1, [7]⟩] from rfl, ex_whole] at he
  subst he
  have hb9 : Below wc.heap.size wc w9 := hb0.trans (hb9'.mono hb0.size)
  have HB9 := Lib.hid hb9
  have HX9 := Lib.hid (And.intro (HX8.out.1.below hb9) (HX8.out.2.go hb9))
  have HM9 := Lib.hid (HM8.out.below hb9)
  clear hb0 hb9 hb9' HW9 m11' n0' p0' p1' p1'' y3 y4 heq2
  go_wp2_with ((with_reducible refine wpList_loadG stIns _ rfl ⟨px, 0, none⟩ (insCs (smpI) P) ?_ ?_ ?_ ?_ ?_); exact rfl; exact rfl; exact HX9.out.1.cells; exact rfl)
  refine (whole_any smpI P (some ⟨g8, 0, none⟩) c8 [[⟨0, [4]⟩], [⟨1, [7]⟩]] none 0 [] w9 HX9.out.2 HM9.out.2.2.2.1 Ints.nil (by decide) ex_dims (by decide) (by decide)).mono ?_
  rintro e w10 ⟨he, hb10⟩
  rw [show ([[⟨0, [4]⟩], [⟨1, [7]⟩]] : List (List Sha)).flatten = [⟨0, [4]⟩, ⟨1, [7]⟩] from rfl, ex_miss] at he
  subst he
  go_wp2_with fail
  go_ret
  exact ⟨rfl, HB8.out.trans ((HB9.out.trans (hb10.mono HB9.out.size)).mono z8)⟩
end Go.Proofs.YtceceomaheobhaaGreatDoor.spl

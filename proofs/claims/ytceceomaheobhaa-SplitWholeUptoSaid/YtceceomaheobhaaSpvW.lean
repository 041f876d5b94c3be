/- The law SplitWhole, walked. -/
import Derived.Test.YtceceomaheobhaaSpvP
import Derived.Test.YtceceomaheobhaaSpvG
import Derived.Test.YtceceomaheobhaaAppT
import Derived.Deep.DeepCutAuto
import Derived.Deep.RegionHeld3
namespace Go.Proofs.Ytceceomaheobhaa.spl
open Go.RowKit
open Go.Proofs.Ytceceomaheobhaa.lib Go.Proofs.Ytceceomaheobhaa.rd Go.Proofs.Ytceceomaheobhaa.app Go.Proofs.Ytceceomaheobhaa.els Go.Proofs.Ytceceomaheobhaa.loads Go.Proofs.Ytceceomaheobhaa.typ Go.Proofs.Ytceceomaheobhaa.big Go.Proofs.Ytceceomaheobhaa.ins Go.Proofs.Ytceceomaheobhaa.ord Go.Proofs.Ytceceomaheobhaa.flts Go.Proofs.Ytceceomaheobhaa.off
set_option linter.unusedVariables false
set_option linter.unusedSimpArgs false

def rU8 : Rd Int where
  size := 1
  at_ _ _ cs x := cs = [.int .u8 x] ∧ 0 ≤ x ∧ x ≤ 255
  len h := by rw [h.1]; rfl
  keep _ h := h
  more _ h := h
/-- make([]api.Route, 3). -/
theorem make_routes {ops : Array Oper} {rest : List Oper} {o : Oper} {a : Act} {Q : Exit → Act → World → Prop} {w : World} (hg : o.guard = none) (l c : Operand) (hop : o.op = Op.makeSlice 44 l c)
    (hl : a.eval l = .int .i64 3) (hc : a.eval c = .int .i64 3)
    (h : ∀ w', w'.ownsRow w.heap.size 66 4 (.slice (some ⟨w.heap.size, 0, none⟩) 3 3) 3 (rouCs (fun _ => []) (fun _ => none) (fun _ => 0)) → Below w.heap.size w w' → w.heap.size < w'.heap.size → wpList Try.prog ops Q rest (a.put o.dst (.slice (some ⟨w.heap.size, 0, none⟩) 3 3)) w') :
    wpList Try.prog ops Q (o :: rest) a w := by
  obtain ⟨i0, hi, hz0, hz1, hz2⟩ := info_parts rou_elem.info
  refine wpList_make_full w hg l c 44 hop w.heap.size 66 i0 (.agg rouZs.toArray) 4 Try.underlying44 hi hz0 hz1 .i64 .i64 3 3 3 hl hc rfl rfl (by rw [hz2]; decide) (by unfold maxLen; decide) (Nat.le_refl _) ?_
  intro w' hown hg'
  refine h w' ?_ ((Below.refl _ _).grown hg' (Nat.le_refl _) (by intro k hk; cases hk)) ?_
  · have e : (madeCells (Value.agg rouZs.toArray).cells (3 * 4)).toList = rouCs (fun _ => []) (fun _ => none) (fun _ => 0) := by kernel_rfl
    rw [← e]
    exact hown
  · obtain ⟨cur, hh⟩ : ∃ o, w'.heap[w.heap.size]? = some o := by
      rcases hown.2 with ⟨h1, _⟩ | ⟨g, cap, cur, h1, _, h2, _⟩
      · cases h1
      · injection h1 with h1 _ _
        injection h1 with h1
        injection h1 with h1
        subst h1
        exact ⟨_, h2⟩
    rcases Nat.lt_or_ge w.heap.size w'.heap.size with h | h
    · exact h
    · rw [Array.getElem?_eq_none h] at hh; cases hh
/-- The route of each order, by the letters. -/
def kfOf (on : List Int) (i : Nat) : Nat := match on[i]? with
  | some x => (x % 4).toNat
  | none => 3
theorem kfOf_le (on : List Int) (i : Nat) : kfOf on i ≤ 3 := by
  unfold kfOf
  split <;> omega
theorem vis_elem : ElemOf 63 68 (.agg #[.int .i64 0, .bool false]) 2 16 := ⟨Try.underlying63, by kernel_rfl, rfl, by decide, by decide⟩
theorem un_len (kf : Nat → Nat) : ∀ i, (unTo kf i).length ≤ i
  | 0 => Nat.zero_le _
  | i + 1 => by
    have ih := un_len kf i
    rw [unTo]
    split
    · rw [List.length_append]; simp only [List.length_cons, List.length_nil]; omega
    · omega
theorem rsTo_len (os : List Ord) (want : List Int) (ps : List Ord) (vs : List Vis) : ∀ j, (rsTo os want ps vs j).length ≤ j
  | 0 => Nat.zero_le _
  | j + 1 => by
    have ih := rsTo_len os want ps vs j
    rw [rsTo]
    cases os[j]? with
    | none => exact Nat.le_succ_of_le ih
    | some o =>
      simp only [rsNext]
      split
      · rw [List.length_append]; simp only [List.length_cons, List.length_nil]; omega
      · omega
theorem rsK_len {x : Ins} (ha : Acc x) (y : Ins) (want : List Int) (kf : Nat → Nat) : [rsK x y want kf 0, rsK x y want kf 1, rsK x y want kf 2].flatten.length ≤ 1000000 := by
  have h := ha.orders
  simp only [List.flatten_cons, List.flatten_nil, List.append_nil, List.length_append]
  have h0 : ∀ r, (rsK x y want kf r).length ≤ x.orders.length := fun r => rsTo_len _ _ _ _ _
  have := h0 0
  have := h0 1
  have := h0 2
  omega
theorem merge_ok {x y : Ins} {want : List Int} (ha : Acc x) (he : expF x = .ok (y, want)) (kf : Nat → Nat) {N : Nat} (hN : want.length = N) :
    mergeF x want [⟨0, 0, rvTo kf 0 N⟩, ⟨0, 0, rvTo kf 1 N⟩, ⟨0, 0, rvTo kf 2 N⟩] = .ok [rsK x y want kf 0, rsK x y want kf 1, rsK x y want kf 2] := by
  have hl := (ha.good he).len
  have h : ∀ k, mgF y want ⟨0, 0, rvTo kf k N⟩ = some (rsK x y want kf k) := fun k => by
    unfold mgF
    rw [shF_rs ha he]
    rw [if_pos (by rw [← hl, hN]; exact rv_ok kf k N N (Nat.le_refl _))]
    unfold rsK
    rw [hN]
  unfold mergeF
  rw [he]
  show (if want = want then mgEnd (mgGo (mgF y want) _ []) else _) = _
  rw [if_pos rfl]
  simp only [mgGo, h, List.nil_append, List.cons_append]
  rfl
set_option maxRecDepth 20000 in
set_option maxHeartbeats 4000000 in
theorem lawWhole_any (x : Ins) (P : InP) (AO : Option Addr) (cO : Nat) (on : List Int) (w : World) (h : InAt w w.heap.size x P) (hl : RLim x) (hon : RowAt rU8 w w.heap.size AO on) :
    Calls Try.prog 7 #[InV x P, .slice AO on.length cO] w fun e w' => e = .returned (.bool true) ∧ Below w.heap.size w w' := by
  have hO := hon
  obtain ⟨W0, hW0⟩ : ∃ W0, w.alloc (.cells (insCs x P).toArray 38) = W0 := ⟨_, rfl⟩
  have hB0 : Below w.heap.size w W0 := by rw [← hW0]; exact (Below.refl _ _).alloc (Nat.le_refl _) _
  have z0 := hB0.size
  have b0 : SixAt W0 w.heap.size (insCs x P) := by rw [← hW0]; exact World.alloc_heap_new w _
  have hs0 : w.heap.size < W0.heap.size := by rw [← hW0]; simp
  have HX := Lib.hid (fun w' (h' : Below W0.heap.size W0 w') => (b0.below h').cells)
  have HI := Lib.hid (fun w' (h' : Below W0.heap.size W0 w') => (h.go hB0).go h')
  have hW1 : w.alloc (.cells #[.slice P.a0 x.net.places.length P.c0, .slice P.a1 x.net.arcs.length P.c1, .slice P.a2 x.types.length P.c2, .slice P.a3 x.orders.length P.c3, .slice P.a4 x.apart.length P.c4, .slice P.a5 x.before.length P.c5] 38) = W0 := hW0
  have HW1 := Lib.hid hW1
  have C0 := Below.refl W0.heap.size W0
  clear hW0 hW1 h b0
  simp only [InV]
  have HL := Lib.hid hl
  have HON := Lib.hid (fun w' (h' : Below W0.heap.size W0 w') => (hO.below hB0).below (h'.mono z0))
  have hol := hO.1
  obtain ⟨m, hm⟩ : ∃ m, on.length = m := ⟨_, rfl⟩
  have HM := Lib.hid hm
  rw [hm] at hol ⊢
  clear hl hO hon hm
  go_enter Try.func7, Try.ntmps7
  go_upto_region 1 with fail
  rw [HW1.out]
  clear HW1
  go_wp2_with ((with_reducible refine wpList_loadG stIns _ rfl ⟨w.heap.size, 0, none⟩ (insCs (x) P) ?_ ?_ ?_ ?_ ?_); exact rfl; exact rfl; exact HX.out _ C0; exact rfl)
  refine (right_any x P W0 (HI.out _ C0) HL.out).mono ?_
  rintro e w1 ⟨rfl, b1⟩
  have z1 := b1.size
  by_cases hF : insF x = []
  rotate_left
  · rw [decide_eq_false hF]
    have HB1 := Lib.hid (hB0.trans (b1.mono z0))
    go_wp2_with fail
    refine (examples_any w1).mono ?_
    rintro e w8 ⟨rfl, b8⟩
    have HB8 := Lib.hid (HB1.out.trans (b8.mono HB1.out.size))
    go_wp2_with fail
    go_ret
    exact ⟨rfl, HB8.out⟩
  rw [decide_eq_true hF]
  have HA := Lib.hid (acc_of hF)
  clear hF
  go_wp2_with ((with_reducible refine wpList_loadG stIns _ rfl ⟨w.heap.size, 0, none⟩ (insCs (x) P) ?_ ?_ ?_ ?_ ?_); exact rfl; exact rfl; exact HX.out _ b1; exact rfl)
  refine (expand_any x P _ (HI.out _ b1) HA.out.lim).mono ?_
  cases hr : expF x with
  | error k =>
    have hk := expF_err hr
    rintro e w2 ⟨rfl, b2⟩
    have HB2 := Lib.hid (hB0.trans ((b1.trans (b2.mono z1)).mono z0))
    have hne : (k == 0) = false := by simpa using hk
    clear hr
    go_upto_region 4 with ((with_reducible refine wpList_storeL stIns rfl _ _ rfl w2.heap.size nilCs (insCs nilI nilP) ?_ ?_ ?_ ?_ ?_ (insCs_one _ _) ?_); exact rfl; exact rfl; exact World.alloc_heap_new w2 _; exact rfl; exact rfl; intro w3 k1 k2 k3 k4; have K := Lib.hid (And.intro k1 (And.intro k2 (And.intro k3 k4))); clear k1 k2 k3 k4)
    (try simp only [Act.put, List.getElem_toArray, List.getElem_cons_succ, List.getElem_cons_zero, List.setIfInBounds_toArray, List.set_cons_zero, List.set_cons_succ])
    obtain ⟨k1, k2, k3, k4⟩ := K.out
    have b3 : Below w2.heap.size w2 w3 := ((Below.refl _ _).alloc (Nat.le_refl _) _).trans k4
    have HB3 := Lib.hid (HB2.out.trans (b3.mono HB2.out.size))
    clear k1 k2 k3 k4 K b3
    go_wp2_with fail
    refine (examples_any w3).mono ?_
    rintro e w8 ⟨rfl, b8⟩
    have HB8 := Lib.hid (HB3.out.trans (b8.mono HB3.out.size))
    go_wp2_with fail
    go_ret
    exact ⟨ret_bool (by first | rfl | (simp [bne, hne]; done) | (simp [hk])), HB8.out⟩
  | ok r =>
    obtain ⟨Y, want⟩ := r
    have HE := Lib.hid hr
    rintro e w2 ⟨P1, A1, c1, rfl, hI1, hG1, b2⟩
    have hwl : want.length = Y.orders.length := (HA.out.good hr).len
    have hwf : Y.orders.length ≤ 1000 := (HA.out.good hr).few
    have B2 : Below W0.heap.size W0 w2 := b1.trans (b2.mono z1)
    have z2 := B2.size
    have HI1 := Lib.hid (And.intro hI1 hG1)
    obtain ⟨N, hN⟩ : ∃ N, want.length = N := ⟨_, rfl⟩
    have hNY : Y.orders.length = N := by rw [← hwl, hN]
    have HNN := Lib.hid (And.intro hN hNY)
    rw [hN]
    rw [hNY] at hwf
    clear hr hwl hI1 hG1 hN hNY
    go_upto_region 4 with ((with_reducible refine wpList_storeL stIns rfl _ _ rfl w2.heap.size nilCs (insCs Y P1) ?_ ?_ ?_ ?_ ?_ (insCs_one _ _) ?_); exact rfl; exact rfl; exact World.alloc_heap_new w2 _; exact rfl; exact rfl; intro w3 k1 k2 k3 k4; have K := Lib.hid (And.intro k1 (And.intro k2 (And.intro k3 k4))); clear k1 k2 k3 k4)
    (try simp only [Act.put, List.getElem_toArray, List.getElem_cons_succ, List.getElem_cons_zero, List.setIfInBounds_toArray, List.set_cons_zero, List.set_cons_succ])
    obtain ⟨k1, k2, k3, k4⟩ := K.out
    have b3 : Below w2.heap.size w2 w3 := ((Below.refl _ _).alloc (Nat.le_refl _) _).trans k4
    have B3 : Below W0.heap.size W0 w3 := B2.trans (b3.mono z2)
    have z3 := B3.size
    have k1' : SixAt w3 w2.heap.size (insCs Y P1) := k1
    have zz3 : w2.heap.size < w3.heap.size := (Array.getElem?_eq_some_iff.1 k1).1
    have y3 : w3.cell? ⟨w2.heap.size, 3, none⟩ = some (.slice P1.a3 N P1.c3) := by rw [← HNN.out.2]; exact k1'.cell (j := 3) rfl
    obtain ⟨g1, hg1⟩ : ∃ g1, w2.heap.size = g1 := ⟨_, rfl⟩
    have HG1 : Hid (∀ w', Below w3.heap.size w3 w' → w'.cell? ⟨g1, 3, none⟩ = some (.slice P1.a3 N P1.c3) ∧ Ints w' w'.heap.size A1 want) := Lib.hid fun w' hb => ⟨by rw [← hg1, ← HNN.out.2]; exact (k1'.below hb).cell (j := 3) rfl, (HI1.out.2.below (b3.trans (hb.mono b3.size))).more (Nat.le_trans b3.size hb.size)⟩
    have HB3 := Lib.hid B3
    rw [hg1] at y3 ⊢
    clear k1 k2 k3 k4 K k1' hg1 b3 HI1 zz3
    go_upto_region 6 with fail
    clear y3
    go_upto_region 7 with (first
      | (at_make; refine make_routes rfl _ _ rfl rfl rfl ?_; intro w4 hown4 hb4 hz4)
      | fail)
    have bA : Below w4.heap.size w4 (w4.alloc (.cells #[.slice (some ⟨w3.heap.size, 0, none⟩) 3 3, .slice none 0 0] 46)) := (Below.refl _ _).alloc (Nat.le_refl _) _
    obtain ⟨W5, hW5⟩ : ∃ W5, w4.alloc (.cells #[.slice (some ⟨w3.heap.size, 0, none⟩) 3 3, .slice none 0 0] 46) = W5 := ⟨_, rfl⟩
    have hp5 : W5.heap[w4.heap.size]? = some (.cells #[.slice (some ⟨w3.heap.size, 0, none⟩) 3 3, .slice none 0 0] 46 (0, 0)) := by rw [← hW5]; exact World.alloc_heap_new w4 _
    have hz5 : w4.heap.size < W5.heap.size := (Array.getElem?_eq_some_iff.1 hp5).1
    rw [hW5] at bA ⊢
    obtain ⟨R, hR⟩ : ∃ R, w3.heap.size = R := ⟨_, rfl⟩
    obtain ⟨pp, hpp⟩ : ∃ pp, w4.heap.size = pp := ⟨_, rfl⟩
    obtain ⟨base, hbase⟩ : ∃ b, W5.heap.size = b := ⟨_, rfl⟩
    have hst : PlSt base R pp w3 W5 (fun r => rvTo (kfOf on) r 0) (unTo (kfOf on) 0) (lfTo (kfOf on) want 0) (fun _ => none) (fun _ => 0) none 0 none 0 := by
      rw [← hR, ← hpp, ← hbase]
      exact ⟨fun k _ => World.ownsRow_nil _ _ _ _, fun k k' _ _ _ q e => by (cases e), World.ownsRow_nil _ _ _ _, World.ownsRow_nil _ _ _ _, fun q e => by (cases e), own_below hown4 bA, hp5, hb4.trans (bA.mono hb4.size), Nat.le_refl _, ⟨Nat.le_refl _, hz4, hz5⟩⟩
    have HST := Lib.hid hst
    rw [hR, hpp]
    have hRp : R < pp ∧ pp < base := ⟨by omega, by omega⟩
    have y5 : W5.cell? ⟨g1, 3, none⟩ = some (.slice P1.a3 N P1.c3) := (HG1.out _ hst.bel).1
    have HRR := Lib.hid hR
    clear hst hown4 hb4 hz4 bA hW5 hp5 hz5 hbase hpp hR
    go_wp2_with fail
    clear y5
    go_loopw [9, 10, 11, 44] (fun v _ _ i wr => ∃ (j : Nat) (B : Nat → Option Addr) (d : Nat → Nat) (BU : Option Addr) (dU : Nat) (BL : Option Addr) (dL : Nat), j ≤ N ∧ i = .int .i64 j ∧ v = .slice BL (lfTo (kfOf on) want j).length dL ∧ Hid (PlSt base R pp w3 wr (fun r => rvTo (kfOf on) r j) (unTo (kfOf on) j) (lfTo (kfOf on) want j) B d BU dU BL dL)) (fun _ _ _ i _ => N - (intOf i).toNat)
    case atStart => exact ⟨0, fun _ => none, fun _ => 0, none, 0, none, 0, by omega, rfl, rfl, HST⟩
    case round =>
      obtain ⟨j, B, d, BU, dU, BL, dL, hj, rfl, rfl, hS⟩ := hrel
      obtain ⟨W6, hW6⟩ : ∃ W6, W6 = wr := ⟨_, rfl⟩
      subst hW6
      have hBW : Below W0.heap.size W0 W6 := HB3.out.trans (hS.out.bel.mono z3)
      have HBW := Lib.hid hBW
      by_cases hlt : j < N
      · have hj0 : (0 : Int) ≤ (j : Int) := by omega
        have hjN : (j : Int) < (N : Int) := by omega
        obtain ⟨k, hk⟩ : ∃ k, kfOf on j = k := ⟨_, rfl⟩
        have hk3 : k ≤ 3 := by rw [← hk]; exact kfOf_le on j
        have HK := Lib.hid hk
        obtain ⟨ad1, g, hA1, hadb1, hg, hcg⟩ := ((HG1.out _ (Below.refl _ _)).2).at_ (k := j) (by rw [HNN.out.1]; exact hlt)
        have HGJ := Lib.hid hg
        have HGC : Hid (∀ w', Below w3.heap.size w3 w' → w'.cell? (ad1.add j) = some (.int .i64 g)) := Lib.hid fun w' hb => (hb.cell (by rw [block_of_add]; exact hadb1)).trans hcg
        rw [hA1]
        clear hg hcg hk hBW
        by_cases hjm : j < m
        · obtain ⟨x8, hx8⟩ : ∃ x8, on[j]? = some x8 := ⟨_, List.getElem?_eq_getElem (by rw [HM.out]; exact hjm)⟩
          obtain ⟨ad8, cs8, hA8, hb8, ⟨rfl, hx0, hx1⟩, hc8⟩ := (HON.out _ HBW.out).2 j x8 hx8
          have hc8' : W6.cell? (ad8.add j) = some (.int .u8 x8) := by
            have h := hc8 0 _ rfl
            rw [show j * rU8.size + 0 = j by show j * 1 + 0 = j; omega] at h
            exact h
          have hx4 : x8 % 4 = (k : Int) := by
            have h := HK.out
            unfold kfOf at h
            rw [hx8] at h
            simp only at h
            omega
          have hjm' : (j : Int) < (m : Int) := by omega
          clear hx8 hc8
          rw [hA8]
          go_upto_region 14 with fail
          have hk4 : k = 3 ∨ k = 0 ∨ k = 1 ∨ k = 2 := by omega
          rcases hk4 with rfl | rfl | rfl | rfl
          · clear hc8' hx4 hjm' hjm
            obtain ⟨un, hun⟩ : ∃ un, unTo (kfOf on) j = un := ⟨_, rfl⟩
            obtain ⟨lf, hlf⟩ : ∃ un, lfTo (kfOf on) want j = un := ⟨_, rfl⟩
            have hunl : un.length ≤ 1000 := by rw [← hun]; exact Nat.le_trans (un_len _ _) (by omega)
            have hlfl : lf.length ≤ 1000 := by rw [← hlf]; exact Nat.le_trans (lf_len _ _ _) (by omega)
            rw [hun, hlf] at hS
            rw [hlf]
            have HUL := Lib.hid (And.intro hun hlf)
            have p1 := hS.out.here.2.1
            clear hun hlf
            have bl : Below W6.heap.size W6 (W6.alloc (.cells #[.int .i64 (j : Int)] 3)) := (Below.refl _ _).alloc (Nat.le_refl _) _
            have HSl := Lib.hid (hS.out.below bl)
            clear bl
            go_upto_region 16 with (at_builtin; refine wpList_app int_elem _ _ rfl base BU un.length dU (un.map (.int .i64)) rfl HSl.out.unr ⟨W6.heap.size, 0, none⟩ 1 [.int .i64 (j : Int)] rfl rfl (cell_one_new _ _ _) (fun u hu => by rw [List.mem_singleton] at hu; rw [hu]; rfl) (by omega) HSl.out.sz rfl ?_; intro g9 c9 w9 hown9 hg9 hd9; have U9 := Lib.hid (HSl.out.pushU hown9 hg9 hd9); have x9 := (HSl.out.plain hg9 HSl.out.baseU).2.1; have f9 := (HSl.out.plain hg9 HSl.out.baseU).2.2; clear hown9 hg9 hd9)
            clear x9 f9 p1
            have hcg := HGC.out _ U9.out.bel
            obtain ⟨W7, hW7⟩ : ∃ W7, w9.setCell ⟨pp, 1, none⟩ (.slice (some ⟨g9, 0, none⟩) (un.length + 1) c9) = W7 := ⟨_, rfl⟩
            rw [hW7] at hcg U9 ⊢
            have bl : Below W7.heap.size W7 (W7.alloc (.cells #[.int .i64 g] 3)) := (Below.refl _ _).alloc (Nat.le_refl _) _
            have HSm := Lib.hid (U9.out.below bl)
            clear bl hW7
            go_wp2_with (at_builtin; refine wpList_app int_elem _ _ rfl base BL lf.length dL (lf.map (.int .i64)) rfl HSm.out.lfr ⟨W7.heap.size, 0, none⟩ 1 [.int .i64 g] rfl rfl (cell_one_new _ _ _) (fun u hu => by rw [List.mem_singleton] at hu; rw [hu]; rfl) (by omega) HSm.out.sz rfl ?_; intro g10 c10 w10 hown10 hg10 hd10; have U10 := Lib.hid (HSm.out.pushL hown10 hg10 hd10); clear hown10 hg10 hd10)
            have e1 : unTo (kfOf on) (j + 1) = un ++ [(j : Int)] := by rw [unTo, if_pos HK.out, HUL.out.1]
            have e2 : lfTo (kfOf on) want (j + 1) = lf ++ [g] := by rw [lfTo, if_pos HK.out, HUL.out.2, HGJ.out]; rfl
            have e3 : ∀ r, r < 3 → rvTo (kfOf on) r (j + 1) = rvTo (kfOf on) r j := fun r hr => by rw [rvTo, if_neg (by rw [HK.out]; omega)]
            exact ⟨⟨j + 1, B, d, some ⟨g9, 0, none⟩, c9, some ⟨g10, 0, none⟩, c10, by omega, by go_num, by rw [e2, List.length_append]; rfl, Lib.hid (by rw [e1, e2]; exact U10.out.congr e3)⟩, by simp [intOf]; omega⟩
          · clear hc8' hx4 hjm' hjm
            obtain ⟨n, hn⟩ : ∃ n, (rvTo (kfOf on) 0 j).length = n := ⟨_, rfl⟩
            have hnl : n ≤ 2000 := by rw [← hn]; exact Nat.le_trans (rv_len _ _ _) (by omega)
            have HNV := Lib.hid hn
            have p0 := hS.out.here.1
            have q3 : W6.cell? ⟨R, 3, none⟩ = some (.slice (B 0) n (d 0)) := by rw [← hn]; exact hS.out.cell (k := 0) (by omega)
            clear hn
            go_upto_region 17 with fail
            (refine wp_region_held_drew (S := (fun w' => w'.cell? ⟨pp, 0, none⟩ = some (.slice (some ⟨R, 0, none⟩) 3 3))) (by kernel_rfl) ?_ (fun hHeld => ?_))
            · exact p0
            (refine wpAnyH_take (i := 0) (v := ?_) rfl (by kernel_rfl) (by kernel_rfl) (by kernel_rfl) (fun _ _ _ h => h) (Or.inl ⟨by kernel_rfl, ?_⟩) (by assumption) ?_; rotate_left; (focus (intro w hSw; (try dsimp only at hSw); go_simp; all_goals with_reducible rfl)); (try simp only [Act.put, List.getElem_toArray, List.getElem_cons_succ, List.getElem_cons_zero, List.setIfInBounds_toArray, List.set_cons_zero, List.set_cons_succ]))
            (refine wpAnyH_take (i := 1) (v := ?_) rfl (by kernel_rfl) (by kernel_rfl) (by kernel_rfl) (fun _ _ _ h => h) (Or.inl ⟨by kernel_rfl, ?_⟩) (by assumption) ?_; rotate_left; (focus (intro w hSw; (try dsimp only at hSw); go_simp; all_goals with_reducible rfl)); (try simp only [Act.put, List.getElem_toArray, List.getElem_cons_succ, List.getElem_cons_zero, List.setIfInBounds_toArray, List.set_cons_zero, List.set_cons_succ]))
            (refine wpAnyH_take (i := 2) (v := ?_) rfl (by kernel_rfl) (by kernel_rfl) (by kernel_rfl) (fun _ _ _ h => h) (Or.inl ⟨by kernel_rfl, ?_⟩) (by assumption) ?_; rotate_left; (focus (intro w hSw; (try dsimp only at hSw); go_simp; all_goals with_reducible rfl)); (try simp only [Act.put, List.getElem_toArray, List.getElem_cons_succ, List.getElem_cons_zero, List.setIfInBounds_toArray, List.set_cons_zero, List.set_cons_succ]))
            (refine wpAnyH_take (i := 3) (v := ?_) rfl (by kernel_rfl) (by kernel_rfl) (by kernel_rfl) (fun _ _ _ h => h) (Or.inl ⟨by kernel_rfl, ?_⟩) (by assumption) ?_; rotate_left; (focus (intro w hSw; (try dsimp only at hSw); go_simp; all_goals with_reducible rfl)); (try simp only [Act.put, List.getElem_toArray, List.getElem_cons_succ, List.getElem_cons_zero, List.setIfInBounds_toArray, List.set_cons_zero, List.set_cons_succ]))
            (refine wpAnyH_take (i := 4) (v := ?_) rfl (by kernel_rfl) (by kernel_rfl) (by kernel_rfl) (fun _ _ _ h => h) (Or.inl ⟨by kernel_rfl, ?_⟩) (by assumption) ?_; rotate_left; (focus (intro w hSw; (try dsimp only at hSw); go_simp; all_goals with_reducible rfl)); (try simp only [Act.put, List.getElem_toArray, List.getElem_cons_succ, List.getElem_cons_zero, List.setIfInBounds_toArray, List.set_cons_zero, List.set_cons_succ]))
            (refine wpAnyH_take (i := 5) (v := ?_) rfl (by kernel_rfl) (by kernel_rfl) (by kernel_rfl) (fun _ _ _ h => h) (Or.inl ⟨by kernel_rfl, ?_⟩) (by assumption) ?_; rotate_left; (focus (intro w hSw; (try dsimp only at hSw); go_simp; all_goals with_reducible rfl)); (try simp only [Act.put, List.getElem_toArray, List.getElem_cons_succ, List.getElem_cons_zero, List.setIfInBounds_toArray, List.set_cons_zero, List.set_cons_succ]))
            (refine wpAnyH_take (i := 6) (v := ?_) rfl (by kernel_rfl) (by kernel_rfl) (by kernel_rfl) (fun _ _ _ h => h) (Or.inl ⟨by kernel_rfl, ?_⟩) (by assumption) ?_; rotate_left; (focus (intro w hSw; (try dsimp only at hSw); go_simp; all_goals with_reducible rfl)); (try simp only [Act.put, List.getElem_toArray, List.getElem_cons_succ, List.getElem_cons_zero, List.setIfInBounds_toArray, List.set_cons_zero, List.set_cons_succ]))
            (refine wpAnyH_take (i := 7) (v := ?_) rfl (by kernel_rfl) (by kernel_rfl) (by kernel_rfl) (fun _ _ _ h => h) (Or.inl ⟨by kernel_rfl, ?_⟩) (by assumption) ?_; rotate_left; (focus (intro w hSw; (try dsimp only at hSw); go_simp; all_goals with_reducible rfl)); (try simp only [Act.put, List.getElem_toArray, List.getElem_cons_succ, List.getElem_cons_zero, List.setIfInBounds_toArray, List.set_cons_zero, List.set_cons_succ]))
            (refine wpAnyH_take (i := 9) (v := ?_) rfl (by kernel_rfl) (by kernel_rfl) (by kernel_rfl) (fun _ _ _ h => h) (Or.inl ⟨by kernel_rfl, ?_⟩) (by assumption) ?_; rotate_left; (focus (intro w hSw; (try dsimp only at hSw); go_simp; all_goals with_reducible rfl)); (try simp only [Act.put, List.getElem_toArray, List.getElem_cons_succ, List.getElem_cons_zero, List.setIfInBounds_toArray, List.set_cons_zero, List.set_cons_succ]))
            (refine wpAnyH_take (i := 11) (v := ?_) rfl (by kernel_rfl) (by kernel_rfl) (by kernel_rfl) (fun _ _ _ h => h) (Or.inl ⟨by kernel_rfl, ?_⟩) (by assumption) ?_; rotate_left; (focus (intro w hSw; (try dsimp only at hSw); go_simp; all_goals with_reducible rfl)); (try simp only [Act.put, List.getElem_toArray, List.getElem_cons_succ, List.getElem_cons_zero, List.setIfInBounds_toArray, List.set_cons_zero, List.set_cons_succ]))
            (refine wpAnyH_take (i := 10) (v := ?_) rfl (by kernel_rfl) (by kernel_rfl) (by kernel_rfl) (fun _ _ _ h => h) (Or.inl ⟨by kernel_rfl, ?_⟩) (by assumption) ?_; rotate_left; (focus (intro w hSw; (try dsimp only at hSw); go_simp; all_goals with_reducible rfl)); (try simp only [Act.put, List.getElem_toArray, List.getElem_cons_succ, List.getElem_cons_zero, List.setIfInBounds_toArray, List.set_cons_zero, List.set_cons_succ]))
            (refine wpAnyH_take (i := 12) (v := ?_) rfl (by kernel_rfl) (by kernel_rfl) (by kernel_rfl) (fun _ _ _ h => h) (Or.inl ⟨by kernel_rfl, ?_⟩) (by assumption) ?_; rotate_left; (focus (intro w hSw; (try dsimp only at hSw); go_simp; all_goals with_reducible rfl)); (try simp only [Act.put, List.getElem_toArray, List.getElem_cons_succ, List.getElem_cons_zero, List.setIfInBounds_toArray, List.set_cons_zero, List.set_cons_succ]))
            have bl : Below W6.heap.size W6 ((W6.alloc (.cells #[.int .i64 (j : Int), .bool false, .int .i64 (j : Int), .bool true] 68)).drew) := ((Below.refl _ _).alloc (Nat.le_refl _) _).drew
            have hnews0 : ((W6.alloc (.cells #[.int .i64 (j : Int), .bool false, .int .i64 (j : Int), .bool true] 68)).drew).heap[W6.heap.size]? = some (.cells #[.int .i64 (j : Int), .bool false, .int .i64 (j : Int), .bool true] 68 (0, 0)) := World.alloc_heap_new W6 _
            have HSl := Lib.hid (hS.out.below bl)
            have p7 := HSl.out.here.1
            have q7 : ((W6.alloc (.cells #[.int .i64 (j : Int), .bool false, .int .i64 (j : Int), .bool true] 68)).drew).cell? ⟨R, 3, none⟩ = some (.slice (B 0) n (d 0)) := by rw [← HNV.out]; exact HSl.out.cell (k := 0) (by omega)
            obtain ⟨W7, hW7⟩ : ∃ W7, (W6.alloc (.cells #[.int .i64 (j : Int), .bool false, .int .i64 (j : Int), .bool true] 68)).drew = W7 := ⟨_, rfl⟩
            have HW7 := Lib.hid hW7
            rw [hW7] at p7 q7 HSl hnews0
            have HNEW := Lib.hid (fun (jj : Nat) u (hu : [Value.int .i64 (j : Int), .bool false, .int .i64 (j : Int), .bool true][jj]? = some u) => (show W7.cell? ((⟨W6.heap.size, 0, none⟩ : Addr).add jj) = some u by rw [addr_add0]; unfold World.cell?; rw [hnews0]; simpa using hu))
            clear hW7 bl hnews0
            refine wpAnyH_ready (rs := [8, 13]) (by kernel_rfl) (by simp) ?_
            refine AllReadyH.cons rfl (fun K hK => ?_) (AllReadyH.cons rfl (fun K hK => ?_) AllReadyH.nil)
            · go_simp
              refine hK.out _ _ (p0) (fun hHeld => ?_)
              clear hK K
              (try simp only [Act.put, List.getElem_toArray, List.getElem_cons_succ, List.getElem_cons_zero, List.setIfInBounds_toArray, List.set_cons_zero, List.set_cons_succ])
              (refine wpAnyH_ready (rs := [13]) (by kernel_rfl) (by simp) ?_; refine AllReadyH.cons rfl (fun K hK => ?_) AllReadyH.nil)
              go_simp
              rw [HW7.out]
              refine hK.out _ _ (p7) (fun hHeld => ?_)
              clear hK K
              (try simp only [Act.put, List.getElem_toArray, List.getElem_cons_succ, List.getElem_cons_zero, List.setIfInBounds_toArray, List.set_cons_zero, List.set_cons_succ])
              have HOWN : Hid (W7.ownsRow base 68 2 (.slice (B 0) n (d 0)) n (vcs (rvTo (kfOf on) 0 j))) := Lib.hid (by rw [← HNV.out]; exact HSl.out.rows 0 (by omega))
              have HBB : Hid (∀ q, (Value.slice (B 0) n (d 0)).ownBlock = some q → base ≤ q) := Lib.hid (by rw [← HNV.out]; exact fun q e => (HSl.out.base_lt (k := 0) (by omega) e).1)
              (refine wpAnyH_ready (rs := [14]) (by kernel_rfl) (by simp) ?_; refine AllReadyH.cons rfl (fun K hK => ?_) AllReadyH.nil)
              refine step_app2 vis_elem _ _ rfl base (B 0) n (d 0) (vcs (rvTo (kfOf on) 0 j)) rfl HOWN.out ⟨W6.heap.size, 0, none⟩ 2 [.int .i64 (j : Int), .bool false, .int .i64 (j : Int), .bool true] rfl rfl HNEW.out (fun u hu => by simp only [List.mem_cons, List.not_mem_nil, or_false] at hu; rcases hu with rfl | rfl | rfl | rfl <;> rfl) (by omega) HSl.out.sz rfl ?_
              intro g9 c9 w9 hown9 hg9 hd9
              have hRb : R < base := by omega
              have p9 := (HSl.out.plain hg9 HBB.out).1
              have q9 : w9.cell? ⟨R, 3, none⟩ = some (.slice (B 0) n (d 0)) := hg9.cell q7 (fun e => by have h1 := HBB.out R (by first | exact e | exact e.symm); omega)
              have f9 : w9.frozen? ⟨R, 3, none⟩ = false := (HSl.out.rou.kept hg9 (.inr (fun e => by have h1 := HBB.out R (by first | exact e | exact e.symm); omega))).frozenAt 3
              have U9 : Hid (PlSt base R pp w3 (w9.setCell ⟨R, 3, none⟩ (.slice (some ⟨g9, 0, none⟩) (n + 2) c9)) (upd (fun r => rvTo (kfOf on) r j) 0 (rvTo (kfOf on) 0 j ++ [⟨(j : Int), false⟩, ⟨(j : Int), true⟩])) (unTo (kfOf on) j) (lfTo (kfOf on) want j) (upd B 0 (some ⟨g9, 0, none⟩)) (upd d 0 c9) BU dU BL dL) := Lib.hid (by
                rw [← HNV.out] at hown9 hg9 hd9 ⊢
                exact HSl.out.push (k := 0) (by omega) (v := ⟨(j : Int), false⟩) (v' := ⟨(j : Int), true⟩) hown9 hg9 hd9)
              have p10 := U9.out.here.1
              clear hown9 hg9 hd9
              refine hK.out _ _ (p9) (fun hHeld => ?_)
              clear hK K
              (try simp only [Act.put, List.getElem_toArray, List.getElem_cons_succ, List.getElem_cons_zero, List.setIfInBounds_toArray, List.set_cons_zero, List.set_cons_succ])
              (refine wpAnyH_take (i := 15) (v := ?_) rfl (by kernel_rfl) (by kernel_rfl) (by kernel_rfl) (fun _ _ _ h => h) (Or.inl ⟨by kernel_rfl, ?_⟩) (by assumption) ?_; rotate_left; (focus (intro w hSw; (try dsimp only at hSw); go_simp; all_goals with_reducible rfl)); (try simp only [Act.put, List.getElem_toArray, List.getElem_cons_succ, List.getElem_cons_zero, List.setIfInBounds_toArray, List.set_cons_zero, List.set_cons_succ]))
              (refine wpAnyH_take (i := 16) (v := ?_) rfl (by kernel_rfl) (by kernel_rfl) (by kernel_rfl) (fun _ _ _ h => h) (Or.inl ⟨by kernel_rfl, ?_⟩) (by assumption) ?_; rotate_left; (focus (intro w hSw; (try dsimp only at hSw); go_simp; all_goals with_reducible rfl)); (try simp only [Act.put, List.getElem_toArray, List.getElem_cons_succ, List.getElem_cons_zero, List.setIfInBounds_toArray, List.set_cons_zero, List.set_cons_succ]))
              (refine wpAnyH_ready (rs := [17]) (by kernel_rfl) (by simp) ?_; refine AllReadyH.cons rfl (fun K hK => ?_) AllReadyH.nil)
              go_simp
              refine hK.out _ _ (p10) (fun hHeld => ?_)
              clear hK K
              (try simp only [Act.put, List.getElem_toArray, List.getElem_cons_succ, List.getElem_cons_zero, List.setIfInBounds_toArray, List.set_cons_zero, List.set_cons_succ])
              (refine wpAnyH_done (by kernel_rfl) ?_ _)
              go_wp2
              have e1 : unTo (kfOf on) (j + 1) = unTo (kfOf on) j := by rw [unTo, if_neg (by rw [HK.out]; omega)]
              have e2 : lfTo (kfOf on) want (j + 1) = lfTo (kfOf on) want j := by rw [lfTo, if_neg (by rw [HK.out]; omega)]
              have e3 : ∀ r, r < 3 → rvTo (kfOf on) r (j + 1) = upd (fun r => rvTo (kfOf on) r j) 0 (rvTo (kfOf on) 0 j ++ [⟨(j : Int), false⟩, ⟨(j : Int), true⟩]) r := fun r hr => by
                rw [rvTo]
                unfold upd
                by_cases h : r = 0
                · subst h
                  rw [if_pos HK.out, if_pos rfl]
                · rw [if_neg (by rw [HK.out]; omega), if_neg h]
              exact ⟨⟨j + 1, upd B 0 (some ⟨g9, 0, none⟩), upd d 0 c9, BU, dU, BL, dL, by omega, by go_num, by rw [e2], Lib.hid (by rw [e1, e2]; exact U9.out.congr e3)⟩, by simp [intOf]; omega⟩
            · go_simp
              rw [HW7.out]
              refine hK.out _ _ (p7) (fun hHeld => ?_)
              clear hK K
              (try simp only [Act.put, List.getElem_toArray, List.getElem_cons_succ, List.getElem_cons_zero, List.setIfInBounds_toArray, List.set_cons_zero, List.set_cons_succ])
              (refine wpAnyH_ready (rs := [8]) (by kernel_rfl) (by simp) ?_; refine AllReadyH.cons rfl (fun K hK => ?_) AllReadyH.nil)
              go_simp
              refine hK.out _ _ (p7) (fun hHeld => ?_)
              clear hK K
              (try simp only [Act.put, List.getElem_toArray, List.getElem_cons_succ, List.getElem_cons_zero, List.setIfInBounds_toArray, List.set_cons_zero, List.set_cons_succ])
              have HOWN : Hid (W7.ownsRow base 68 2 (.slice (B 0) n (d 0)) n (vcs (rvTo (kfOf on) 0 j))) := Lib.hid (by rw [← HNV.out]; exact HSl.out.rows 0 (by omega))
              have HBB : Hid (∀ q, (Value.slice (B 0) n (d 0)).ownBlock = some q → base ≤ q) := Lib.hid (by rw [← HNV.out]; exact fun q e => (HSl.out.base_lt (k := 0) (by omega) e).1)
              (refine wpAnyH_ready (rs := [14]) (by kernel_rfl) (by simp) ?_; refine AllReadyH.cons rfl (fun K hK => ?_) AllReadyH.nil)
              refine step_app2 vis_elem _ _ rfl base (B 0) n (d 0) (vcs (rvTo (kfOf on) 0 j)) rfl HOWN.out ⟨W6.heap.size, 0, none⟩ 2 [.int .i64 (j : Int), .bool false, .int .i64 (j : Int), .bool true] rfl rfl HNEW.out (fun u hu => by simp only [List.mem_cons, List.not_mem_nil, or_false] at hu; rcases hu with rfl | rfl | rfl | rfl <;> rfl) (by omega) HSl.out.sz rfl ?_
              intro g9 c9 w9 hown9 hg9 hd9
              have hRb : R < base := by omega
              have p9 := (HSl.out.plain hg9 HBB.out).1
              have q9 : w9.cell? ⟨R, 3, none⟩ = some (.slice (B 0) n (d 0)) := hg9.cell q7 (fun e => by have h1 := HBB.out R (by first | exact e | exact e.symm); omega)
              have f9 : w9.frozen? ⟨R, 3, none⟩ = false := (HSl.out.rou.kept hg9 (.inr (fun e => by have h1 := HBB.out R (by first | exact e | exact e.symm); omega))).frozenAt 3
              have U9 : Hid (PlSt base R pp w3 (w9.setCell ⟨R, 3, none⟩ (.slice (some ⟨g9, 0, none⟩) (n + 2) c9)) (upd (fun r => rvTo (kfOf on) r j) 0 (rvTo (kfOf on) 0 j ++ [⟨(j : Int), false⟩, ⟨(j : Int), true⟩])) (unTo (kfOf on) j) (lfTo (kfOf on) want j) (upd B 0 (some ⟨g9, 0, none⟩)) (upd d 0 c9) BU dU BL dL) := Lib.hid (by
                rw [← HNV.out] at hown9 hg9 hd9 ⊢
                exact HSl.out.push (k := 0) (by omega) (v := ⟨(j : Int), false⟩) (v' := ⟨(j : Int), true⟩) hown9 hg9 hd9)
              have p10 := U9.out.here.1
              clear hown9 hg9 hd9
              refine hK.out _ _ (p9) (fun hHeld => ?_)
              clear hK K
              (try simp only [Act.put, List.getElem_toArray, List.getElem_cons_succ, List.getElem_cons_zero, List.setIfInBounds_toArray, List.set_cons_zero, List.set_cons_succ])
              (refine wpAnyH_take (i := 15) (v := ?_) rfl (by kernel_rfl) (by kernel_rfl) (by kernel_rfl) (fun _ _ _ h => h) (Or.inl ⟨by kernel_rfl, ?_⟩) (by assumption) ?_; rotate_left; (focus (intro w hSw; (try dsimp only at hSw); go_simp; all_goals with_reducible rfl)); (try simp only [Act.put, List.getElem_toArray, List.getElem_cons_succ, List.getElem_cons_zero, List.setIfInBounds_toArray, List.set_cons_zero, List.set_cons_succ]))
              (refine wpAnyH_take (i := 16) (v := ?_) rfl (by kernel_rfl) (by kernel_rfl) (by kernel_rfl) (fun _ _ _ h => h) (Or.inl ⟨by kernel_rfl, ?_⟩) (by assumption) ?_; rotate_left; (focus (intro w hSw; (try dsimp only at hSw); go_simp; all_goals with_reducible rfl)); (try simp only [Act.put, List.getElem_toArray, List.getElem_cons_succ, List.getElem_cons_zero, List.setIfInBounds_toArray, List.set_cons_zero, List.set_cons_succ]))
              (refine wpAnyH_ready (rs := [17]) (by kernel_rfl) (by simp) ?_; refine AllReadyH.cons rfl (fun K hK => ?_) AllReadyH.nil)
              go_simp
              refine hK.out _ _ (p10) (fun hHeld => ?_)
              clear hK K
              (try simp only [Act.put, List.getElem_toArray, List.getElem_cons_succ, List.getElem_cons_zero, List.setIfInBounds_toArray, List.set_cons_zero, List.set_cons_succ])
              (refine wpAnyH_done (by kernel_rfl) ?_ _)
              go_wp2
              have e1 : unTo (kfOf on) (j + 1) = unTo (kfOf on) j := by rw [unTo, if_neg (by rw [HK.out]; omega)]
              have e2 : lfTo (kfOf on) want (j + 1) = lfTo (kfOf on) want j := by rw [lfTo, if_neg (by rw [HK.out]; omega)]
              have e3 : ∀ r, r < 3 → rvTo (kfOf on) r (j + 1) = upd (fun r => rvTo (kfOf on) r j) 0 (rvTo (kfOf on) 0 j ++ [⟨(j : Int), false⟩, ⟨(j : Int), true⟩]) r := fun r hr => by
                rw [rvTo]
                unfold upd
                by_cases h : r = 0
                · subst h
                  rw [if_pos HK.out, if_pos rfl]
                · rw [if_neg (by rw [HK.out]; omega), if_neg h]
              exact ⟨⟨j + 1, upd B 0 (some ⟨g9, 0, none⟩), upd d 0 c9, BU, dU, BL, dL, by omega, by go_num, by rw [e2], Lib.hid (by rw [e1, e2]; exact U9.out.congr e3)⟩, by simp [intOf]; omega⟩
          · clear hc8' hx4 hjm' hjm
            obtain ⟨n, hn⟩ : ∃ n, (rvTo (kfOf on) 1 j).length = n := ⟨_, rfl⟩
            have hnl : n ≤ 2000 := by rw [← hn]; exact Nat.le_trans (rv_len _ _ _) (by omega)
            have HNV := Lib.hid hn
            have p0 := hS.out.here.1
            have q3 : W6.cell? ⟨R, 7, none⟩ = some (.slice (B 1) n (d 1)) := by rw [← hn]; exact hS.out.cell (k := 1) (by omega)
            clear hn
            go_upto_region 17 with fail
            (refine wp_region_held_drew (S := (fun w' => w'.cell? ⟨pp, 0, none⟩ = some (.slice (some ⟨R, 0, none⟩) 3 3))) (by kernel_rfl) ?_ (fun hHeld => ?_))
            · exact p0
            (refine wpAnyH_take (i := 0) (v := ?_) rfl (by kernel_rfl) (by kernel_rfl) (by kernel_rfl) (fun _ _ _ h => h) (Or.inl ⟨by kernel_rfl, ?_⟩) (by assumption) ?_; rotate_left; (focus (intro w hSw; (try dsimp only at hSw); go_simp; all_goals with_reducible rfl)); (try simp only [Act.put, List.getElem_toArray, List.getElem_cons_succ, List.getElem_cons_zero, List.setIfInBounds_toArray, List.set_cons_zero, List.set_cons_succ]))
            (refine wpAnyH_take (i := 1) (v := ?_) rfl (by kernel_rfl) (by kernel_rfl) (by kernel_rfl) (fun _ _ _ h => h) (Or.inl ⟨by kernel_rfl, ?_⟩) (by assumption) ?_; rotate_left; (focus (intro w hSw; (try dsimp only at hSw); go_simp; all_goals with_reducible rfl)); (try simp only [Act.put, List.getElem_toArray, List.getElem_cons_succ, List.getElem_cons_zero, List.setIfInBounds_toArray, List.set_cons_zero, List.set_cons_succ]))
            (refine wpAnyH_take (i := 2) (v := ?_) rfl (by kernel_rfl) (by kernel_rfl) (by kernel_rfl) (fun _ _ _ h => h) (Or.inl ⟨by kernel_rfl, ?_⟩) (by assumption) ?_; rotate_left; (focus (intro w hSw; (try dsimp only at hSw); go_simp; all_goals with_reducible rfl)); (try simp only [Act.put, List.getElem_toArray, List.getElem_cons_succ, List.getElem_cons_zero, List.setIfInBounds_toArray, List.set_cons_zero, List.set_cons_succ]))
            (refine wpAnyH_take (i := 3) (v := ?_) rfl (by kernel_rfl) (by kernel_rfl) (by kernel_rfl) (fun _ _ _ h => h) (Or.inl ⟨by kernel_rfl, ?_⟩) (by assumption) ?_; rotate_left; (focus (intro w hSw; (try dsimp only at hSw); go_simp; all_goals with_reducible rfl)); (try simp only [Act.put, List.getElem_toArray, List.getElem_cons_succ, List.getElem_cons_zero, List.setIfInBounds_toArray, List.set_cons_zero, List.set_cons_succ]))
            (refine wpAnyH_take (i := 4) (v := ?_) rfl (by kernel_rfl) (by kernel_rfl) (by kernel_rfl) (fun _ _ _ h => h) (Or.inl ⟨by kernel_rfl, ?_⟩) (by assumption) ?_; rotate_left; (focus (intro w hSw; (try dsimp only at hSw); go_simp; all_goals with_reducible rfl)); (try simp only [Act.put, List.getElem_toArray, List.getElem_cons_succ, List.getElem_cons_zero, List.setIfInBounds_toArray, List.set_cons_zero, List.set_cons_succ]))
            (refine wpAnyH_take (i := 5) (v := ?_) rfl (by kernel_rfl) (by kernel_rfl) (by kernel_rfl) (fun _ _ _ h => h) (Or.inl ⟨by kernel_rfl, ?_⟩) (by assumption) ?_; rotate_left; (focus (intro w hSw; (try dsimp only at hSw); go_simp; all_goals with_reducible rfl)); (try simp only [Act.put, List.getElem_toArray, List.getElem_cons_succ, List.getElem_cons_zero, List.setIfInBounds_toArray, List.set_cons_zero, List.set_cons_succ]))
            (refine wpAnyH_take (i := 6) (v := ?_) rfl (by kernel_rfl) (by kernel_rfl) (by kernel_rfl) (fun _ _ _ h => h) (Or.inl ⟨by kernel_rfl, ?_⟩) (by assumption) ?_; rotate_left; (focus (intro w hSw; (try dsimp only at hSw); go_simp; all_goals with_reducible rfl)); (try simp only [Act.put, List.getElem_toArray, List.getElem_cons_succ, List.getElem_cons_zero, List.setIfInBounds_toArray, List.set_cons_zero, List.set_cons_succ]))
            (refine wpAnyH_take (i := 7) (v := ?_) rfl (by kernel_rfl) (by kernel_rfl) (by kernel_rfl) (fun _ _ _ h => h) (Or.inl ⟨by kernel_rfl, ?_⟩) (by assumption) ?_; rotate_left; (focus (intro w hSw; (try dsimp only at hSw); go_simp; all_goals with_reducible rfl)); (try simp only [Act.put, List.getElem_toArray, List.getElem_cons_succ, List.getElem_cons_zero, List.setIfInBounds_toArray, List.set_cons_zero, List.set_cons_succ]))
            (refine wpAnyH_take (i := 9) (v := ?_) rfl (by kernel_rfl) (by kernel_rfl) (by kernel_rfl) (fun _ _ _ h => h) (Or.inl ⟨by kernel_rfl, ?_⟩) (by assumption) ?_; rotate_left; (focus (intro w hSw; (try dsimp only at hSw); go_simp; all_goals with_reducible rfl)); (try simp only [Act.put, List.getElem_toArray, List.getElem_cons_succ, List.getElem_cons_zero, List.setIfInBounds_toArray, List.set_cons_zero, List.set_cons_succ]))
            (refine wpAnyH_take (i := 11) (v := ?_) rfl (by kernel_rfl) (by kernel_rfl) (by kernel_rfl) (fun _ _ _ h => h) (Or.inl ⟨by kernel_rfl, ?_⟩) (by assumption) ?_; rotate_left; (focus (intro w hSw; (try dsimp only at hSw); go_simp; all_goals with_reducible rfl)); (try simp only [Act.put, List.getElem_toArray, List.getElem_cons_succ, List.getElem_cons_zero, List.setIfInBounds_toArray, List.set_cons_zero, List.set_cons_succ]))
            (refine wpAnyH_take (i := 10) (v := ?_) rfl (by kernel_rfl) (by kernel_rfl) (by kernel_rfl) (fun _ _ _ h => h) (Or.inl ⟨by kernel_rfl, ?_⟩) (by assumption) ?_; rotate_left; (focus (intro w hSw; (try dsimp only at hSw); go_simp; all_goals with_reducible rfl)); (try simp only [Act.put, List.getElem_toArray, List.getElem_cons_succ, List.getElem_cons_zero, List.setIfInBounds_toArray, List.set_cons_zero, List.set_cons_succ]))
            (refine wpAnyH_take (i := 12) (v := ?_) rfl (by kernel_rfl) (by kernel_rfl) (by kernel_rfl) (fun _ _ _ h => h) (Or.inl ⟨by kernel_rfl, ?_⟩) (by assumption) ?_; rotate_left; (focus (intro w hSw; (try dsimp only at hSw); go_simp; all_goals with_reducible rfl)); (try simp only [Act.put, List.getElem_toArray, List.getElem_cons_succ, List.getElem_cons_zero, List.setIfInBounds_toArray, List.set_cons_zero, List.set_cons_succ]))
            have bl : Below W6.heap.size W6 ((W6.alloc (.cells #[.int .i64 (j : Int), .bool false, .int .i64 (j : Int), .bool true] 68)).drew) := ((Below.refl _ _).alloc (Nat.le_refl _) _).drew
            have hnews0 : ((W6.alloc (.cells #[.int .i64 (j : Int), .bool false, .int .i64 (j : Int), .bool true] 68)).drew).heap[W6.heap.size]? = some (.cells #[.int .i64 (j : Int), .bool false, .int .i64 (j : Int), .bool true] 68 (0, 0)) := World.alloc_heap_new W6 _
            have HSl := Lib.hid (hS.out.below bl)
            have p7 := HSl.out.here.1
            have q7 : ((W6.alloc (.cells #[.int .i64 (j : Int), .bool false, .int .i64 (j : Int), .bool true] 68)).drew).cell? ⟨R, 7, none⟩ = some (.slice (B 1) n (d 1)) := by rw [← HNV.out]; exact HSl.out.cell (k := 1) (by omega)
            obtain ⟨W7, hW7⟩ : ∃ W7, (W6.alloc (.cells #[.int .i64 (j : Int), .bool false, .int .i64 (j : Int), .bool true] 68)).drew = W7 := ⟨_, rfl⟩
            have HW7 := Lib.hid hW7
            rw [hW7] at p7 q7 HSl hnews0
            have HNEW := Lib.hid (fun (jj : Nat) u (hu : [Value.int .i64 (j : Int), .bool false, .int .i64 (j : Int), .bool true][jj]? = some u) => (show W7.cell? ((⟨W6.heap.size, 0, none⟩ : Addr).add jj) = some u by rw [addr_add0]; unfold World.cell?; rw [hnews0]; simpa using hu))
            clear hW7 bl hnews0
            refine wpAnyH_ready (rs := [8, 13]) (by kernel_rfl) (by simp) ?_
            refine AllReadyH.cons rfl (fun K hK => ?_) (AllReadyH.cons rfl (fun K hK => ?_) AllReadyH.nil)
            · go_simp
              refine hK.out _ _ (p0) (fun hHeld => ?_)
              clear hK K
              (try simp only [Act.put, List.getElem_toArray, List.getElem_cons_succ, List.getElem_cons_zero, List.setIfInBounds_toArray, List.set_cons_zero, List.set_cons_succ])
              (refine wpAnyH_ready (rs := [13]) (by kernel_rfl) (by simp) ?_; refine AllReadyH.cons rfl (fun K hK => ?_) AllReadyH.nil)
              go_simp
              rw [HW7.out]
              refine hK.out _ _ (p7) (fun hHeld => ?_)
              clear hK K
              (try simp only [Act.put, List.getElem_toArray, List.getElem_cons_succ, List.getElem_cons_zero, List.setIfInBounds_toArray, List.set_cons_zero, List.set_cons_succ])
              have HOWN : Hid (W7.ownsRow base 68 2 (.slice (B 1) n (d 1)) n (vcs (rvTo (kfOf on) 1 j))) := Lib.hid (by rw [← HNV.out]; exact HSl.out.rows 1 (by omega))
              have HBB : Hid (∀ q, (Value.slice (B 1) n (d 1)).ownBlock = some q → base ≤ q) := Lib.hid (by rw [← HNV.out]; exact fun q e => (HSl.out.base_lt (k := 1) (by omega) e).1)
              (refine wpAnyH_ready (rs := [14]) (by kernel_rfl) (by simp) ?_; refine AllReadyH.cons rfl (fun K hK => ?_) AllReadyH.nil)
              refine step_app2 vis_elem _ _ rfl base (B 1) n (d 1) (vcs (rvTo (kfOf on) 1 j)) rfl HOWN.out ⟨W6.heap.size, 0, none⟩ 2 [.int .i64 (j : Int), .bool false, .int .i64 (j : Int), .bool true] rfl rfl HNEW.out (fun u hu => by simp only [List.mem_cons, List.not_mem_nil, or_false] at hu; rcases hu with rfl | rfl | rfl | rfl <;> rfl) (by omega) HSl.out.sz rfl ?_
              intro g9 c9 w9 hown9 hg9 hd9
              have hRb : R < base := by omega
              have p9 := (HSl.out.plain hg9 HBB.out).1
              have q9 : w9.cell? ⟨R, 7, none⟩ = some (.slice (B 1) n (d 1)) := hg9.cell q7 (fun e => by have h1 := HBB.out R (by first | exact e | exact e.symm); omega)
              have f9 : w9.frozen? ⟨R, 7, none⟩ = false := (HSl.out.rou.kept hg9 (.inr (fun e => by have h1 := HBB.out R (by first | exact e | exact e.symm); omega))).frozenAt 7
              have U9 : Hid (PlSt base R pp w3 (w9.setCell ⟨R, 7, none⟩ (.slice (some ⟨g9, 0, none⟩) (n + 2) c9)) (upd (fun r => rvTo (kfOf on) r j) 1 (rvTo (kfOf on) 1 j ++ [⟨(j : Int), false⟩, ⟨(j : Int), true⟩])) (unTo (kfOf on) j) (lfTo (kfOf on) want j) (upd B 1 (some ⟨g9, 0, none⟩)) (upd d 1 c9) BU dU BL dL) := Lib.hid (by
                rw [← HNV.out] at hown9 hg9 hd9 ⊢
                exact HSl.out.push (k := 1) (by omega) (v := ⟨(j : Int), false⟩) (v' := ⟨(j : Int), true⟩) hown9 hg9 hd9)
              have p10 := U9.out.here.1
              clear hown9 hg9 hd9
              refine hK.out _ _ (p9) (fun hHeld => ?_)
              clear hK K
              (try simp only [Act.put, List.getElem_toArray, List.getElem_cons_succ, List.getElem_cons_zero, List.setIfInBounds_toArray, List.set_cons_zero, List.set_cons_succ])
              (refine wpAnyH_take (i := 15) (v := ?_) rfl (by kernel_rfl) (by kernel_rfl) (by kernel_rfl) (fun _ _ _ h => h) (Or.inl ⟨by kernel_rfl, ?_⟩) (by assumption) ?_; rotate_left; (focus (intro w hSw; (try dsimp only at hSw); go_simp; all_goals with_reducible rfl)); (try simp only [Act.put, List.getElem_toArray, List.getElem_cons_succ, List.getElem_cons_zero, List.setIfInBounds_toArray, List.set_cons_zero, List.set_cons_succ]))
              (refine wpAnyH_take (i := 16) (v := ?_) rfl (by kernel_rfl) (by kernel_rfl) (by kernel_rfl) (fun _ _ _ h => h) (Or.inl ⟨by kernel_rfl, ?_⟩) (by assumption) ?_; rotate_left; (focus (intro w hSw; (try dsimp only at hSw); go_simp; all_goals with_reducible rfl)); (try simp only [Act.put, List.getElem_toArray, List.getElem_cons_succ, List.getElem_cons_zero, List.setIfInBounds_toArray, List.set_cons_zero, List.set_cons_succ]))
              (refine wpAnyH_ready (rs := [17]) (by kernel_rfl) (by simp) ?_; refine AllReadyH.cons rfl (fun K hK => ?_) AllReadyH.nil)
              go_simp
              refine hK.out _ _ (p10) (fun hHeld => ?_)
              clear hK K
              (try simp only [Act.put, List.getElem_toArray, List.getElem_cons_succ, List.getElem_cons_zero, List.setIfInBounds_toArray, List.set_cons_zero, List.set_cons_succ])
              (refine wpAnyH_done (by kernel_rfl) ?_ _)
              go_wp2
              have e1 : unTo (kfOf on) (j + 1) = unTo (kfOf on) j := by rw [unTo, if_neg (by rw [HK.out]; omega)]
              have e2 : lfTo (kfOf on) want (j + 1) = lfTo (kfOf on) want j := by rw [lfTo, if_neg (by rw [HK.out]; omega)]
              have e3 : ∀ r, r < 3 → rvTo (kfOf on) r (j + 1) = upd (fun r => rvTo (kfOf on) r j) 1 (rvTo (kfOf on) 1 j ++ [⟨(j : Int), false⟩, ⟨(j : Int), true⟩]) r := fun r hr => by
                rw [rvTo]
                unfold upd
                by_cases h : r = 1
                · subst h
                  rw [if_pos HK.out, if_pos rfl]
                · rw [if_neg (by rw [HK.out]; omega), if_neg h]
              exact ⟨⟨j + 1, upd B 1 (some ⟨g9, 0, none⟩), upd d 1 c9, BU, dU, BL, dL, by omega, by go_num, by rw [e2], Lib.hid (by rw [e1, e2]; exact U9.out.congr e3)⟩, by simp [intOf]; omega⟩
            · go_simp
              rw [HW7.out]
              refine hK.out _ _ (p7) (fun hHeld => ?_)
              clear hK K
              (try simp only [Act.put, List.getElem_toArray, List.getElem_cons_succ, List.getElem_cons_zero, List.setIfInBounds_toArray, List.set_cons_zero, List.set_cons_succ])
              (refine wpAnyH_ready (rs := [8]) (by kernel_rfl) (by simp) ?_; refine AllReadyH.cons rfl (fun K hK => ?_) AllReadyH.nil)
              go_simp
              refine hK.out _ _ (p7) (fun hHeld => ?_)
              clear hK K
              (try simp only [Act.put, List.getElem_toArray, List.getElem_cons_succ, List.getElem_cons_zero, List.setIfInBounds_toArray, List.set_cons_zero, List.set_cons_succ])
              have HOWN : Hid (W7.ownsRow base 68 2 (.slice (B 1) n (d 1)) n (vcs (rvTo (kfOf on) 1 j))) := Lib.hid (by rw [← HNV.out]; exact HSl.out.rows 1 (by omega))
              have HBB : Hid (∀ q, (Value.slice (B 1) n (d 1)).ownBlock = some q → base ≤ q) := Lib.hid (by rw [← HNV.out]; exact fun q e => (HSl.out.base_lt (k := 1) (by omega) e).1)
              (refine wpAnyH_ready (rs := [14]) (by kernel_rfl) (by simp) ?_; refine AllReadyH.cons rfl (fun K hK => ?_) AllReadyH.nil)
              refine step_app2 vis_elem _ _ rfl base (B 1) n (d 1) (vcs (rvTo (kfOf on) 1 j)) rfl HOWN.out ⟨W6.heap.size, 0, none⟩ 2 [.int .i64 (j : Int), .bool false, .int .i64 (j : Int), .bool true] rfl rfl HNEW.out (fun u hu => by simp only [List.mem_cons, List.not_mem_nil, or_false] at hu; rcases hu with rfl | rfl | rfl | rfl <;> rfl) (by omega) HSl.out.sz rfl ?_
              intro g9 c9 w9 hown9 hg9 hd9
              have hRb : R < base := by omega
              have p9 := (HSl.out.plain hg9 HBB.out).1
              have q9 : w9.cell? ⟨R, 7, none⟩ = some (.slice (B 1) n (d 1)) := hg9.cell q7 (fun e => by have h1 := HBB.out R (by first | exact e | exact e.symm); omega)
              have f9 : w9.frozen? ⟨R, 7, none⟩ = false := (HSl.out.rou.kept hg9 (.inr (fun e => by have h1 := HBB.out R (by first | exact e | exact e.symm); omega))).frozenAt 7
              have U9 : Hid (PlSt base R pp w3 (w9.setCell ⟨R, 7, none⟩ (.slice (some ⟨g9, 0, none⟩) (n + 2) c9)) (upd (fun r => rvTo (kfOf on) r j) 1 (rvTo (kfOf on) 1 j ++ [⟨(j : Int), false⟩, ⟨(j : Int), true⟩])) (unTo (kfOf on) j) (lfTo (kfOf on) want j) (upd B 1 (some ⟨g9, 0, none⟩)) (upd d 1 c9) BU dU BL dL) := Lib.hid (by
                rw [← HNV.out] at hown9 hg9 hd9 ⊢
                exact HSl.out.push (k := 1) (by omega) (v := ⟨(j : Int), false⟩) (v' := ⟨(j : Int), true⟩) hown9 hg9 hd9)
              have p10 := U9.out.here.1
              clear hown9 hg9 hd9
              refine hK.out _ _ (p9) (fun hHeld => ?_)
              clear hK K
              (try simp only [Act.put, List.getElem_toArray, List.getElem_cons_succ, List.getElem_cons_zero, List.setIfInBounds_toArray, List.set_cons_zero, List.set_cons_succ])
              (refine wpAnyH_take (i := 15) (v := ?_) rfl (by kernel_rfl) (by kernel_rfl) (by kernel_rfl) (fun _ _ _ h => h) (Or.inl ⟨by kernel_rfl, ?_⟩) (by assumption) ?_; rotate_left; (focus (intro w hSw; (try dsimp only at hSw); go_simp; all_goals with_reducible rfl)); (try simp only [Act.put, List.getElem_toArray, List.getElem_cons_succ, List.getElem_cons_zero, List.setIfInBounds_toArray, List.set_cons_zero, List.set_cons_succ]))
              (refine wpAnyH_take (i := 16) (v := ?_) rfl (by kernel_rfl) (by kernel_rfl) (by kernel_rfl) (fun _ _ _ h => h) (Or.inl ⟨by kernel_rfl, ?_⟩) (by assumption) ?_; rotate_left; (focus (intro w hSw; (try dsimp only at hSw); go_simp; all_goals with_reducible rfl)); (try simp only [Act.put, List.getElem_toArray, List.getElem_cons_succ, List.getElem_cons_zero, List.setIfInBounds_toArray, List.set_cons_zero, List.set_cons_succ]))
              (refine wpAnyH_ready (rs := [17]) (by kernel_rfl) (by simp) ?_; refine AllReadyH.cons rfl (fun K hK => ?_) AllReadyH.nil)
              go_simp
              refine hK.out _ _ (p10) (fun hHeld => ?_)
              clear hK K
              (try simp only [Act.put, List.getElem_toArray, List.getElem_cons_succ, List.getElem_cons_zero, List.setIfInBounds_toArray, List.set_cons_zero, List.set_cons_succ])
              (refine wpAnyH_done (by kernel_rfl) ?_ _)
              go_wp2
              have e1 : unTo (kfOf on) (j + 1) = unTo (kfOf on) j := by rw [unTo, if_neg (by rw [HK.out]; omega)]
              have e2 : lfTo (kfOf on) want (j + 1) = lfTo (kfOf on) want j := by rw [lfTo, if_neg (by rw [HK.out]; omega)]
              have e3 : ∀ r, r < 3 → rvTo (kfOf on) r (j + 1) = upd (fun r => rvTo (kfOf on) r j) 1 (rvTo (kfOf on) 1 j ++ [⟨(j : Int), false⟩, ⟨(j : Int), true⟩]) r := fun r hr => by
                rw [rvTo]
                unfold upd
                by_cases h : r = 1
                · subst h
                  rw [if_pos HK.out, if_pos rfl]
                · rw [if_neg (by rw [HK.out]; omega), if_neg h]
              exact ⟨⟨j + 1, upd B 1 (some ⟨g9, 0, none⟩), upd d 1 c9, BU, dU, BL, dL, by omega, by go_num, by rw [e2], Lib.hid (by rw [e1, e2]; exact U9.out.congr e3)⟩, by simp [intOf]; omega⟩
          · clear hc8' hx4 hjm' hjm
            obtain ⟨n, hn⟩ : ∃ n, (rvTo (kfOf on) 2 j).length = n := ⟨_, rfl⟩
            have hnl : n ≤ 2000 := by rw [← hn]; exact Nat.le_trans (rv_len _ _ _) (by omega)
            have HNV := Lib.hid hn
            have p0 := hS.out.here.1
            have q3 : W6.cell? ⟨R, 11, none⟩ = some (.slice (B 2) n (d 2)) := by rw [← hn]; exact hS.out.cell (k := 2) (by omega)
            clear hn
            go_upto_region 17 with fail
            (refine wp_region_held_drew (S := (fun w' => w'.cell? ⟨pp, 0, none⟩ = some (.slice (some ⟨R, 0, none⟩) 3 3))) (by kernel_rfl) ?_ (fun hHeld => ?_))
            · exact p0
            (refine wpAnyH_take (i := 0) (v := ?_) rfl (by kernel_rfl) (by kernel_rfl) (by kernel_rfl) (fun _ _ _ h => h) (Or.inl ⟨by kernel_rfl, ?_⟩) (by assumption) ?_; rotate_left; (focus (intro w hSw; (try dsimp only at hSw); go_simp; all_goals with_reducible rfl)); (try simp only [Act.put, List.getElem_toArray, List.getElem_cons_succ, List.getElem_cons_zero, List.setIfInBounds_toArray, List.set_cons_zero, List.set_cons_succ]))
            (refine wpAnyH_take (i := 1) (v := ?_) rfl (by kernel_rfl) (by kernel_rfl) (by kernel_rfl) (fun _ _ _ h => h) (Or.inl ⟨by kernel_rfl, ?_⟩) (by assumption) ?_; rotate_left; (focus (intro w hSw; (try dsimp only at hSw); go_simp; all_goals with_reducible rfl)); (try simp only [Act.put, List.getElem_toArray, List.getElem_cons_succ, List.getElem_cons_zero, List.setIfInBounds_toArray, List.set_cons_zero, List.set_cons_succ]))
            (refine wpAnyH_take (i := 2) (v := ?_) rfl (by kernel_rfl) (by kernel_rfl) (by kernel_rfl) (fun _ _ _ h => h) (Or.inl ⟨by kernel_rfl, ?_⟩) (by assumption) ?_; rotate_left; (focus (intro w hSw; (try dsimp only at hSw); go_simp; all_goals with_reducible rfl)); (try simp only [Act.put, List.getElem_toArray, List.getElem_cons_succ, List.getElem_cons_zero, List.setIfInBounds_toArray, List.set_cons_zero, List.set_cons_succ]))
            (refine wpAnyH_take (i := 3) (v := ?_) rfl (by kernel_rfl) (by kernel_rfl) (by kernel_rfl) (fun _ _ _ h => h) (Or.inl ⟨by kernel_rfl, ?_⟩) (by assumption) ?_; rotate_left; (focus (intro w hSw; (try dsimp only at hSw); go_simp; all_goals with_reducible rfl)); (try simp only [Act.put, List.getElem_toArray, List.getElem_cons_succ, List.getElem_cons_zero, List.setIfInBounds_toArray, List.set_cons_zero, List.set_cons_succ]))
            (refine wpAnyH_take (i := 4) (v := ?_) rfl (by kernel_rfl) (by kernel_rfl) (by kernel_rfl) (fun _ _ _ h => h) (Or.inl ⟨by kernel_rfl, ?_⟩) (by assumption) ?_; rotate_left; (focus (intro w hSw; (try dsimp only at hSw); go_simp; all_goals with_reducible rfl)); (try simp only [Act.put, List.getElem_toArray, List.getElem_cons_succ, List.getElem_cons_zero, List.setIfInBounds_toArray, List.set_cons_zero, List.set_cons_succ]))
            (refine wpAnyH_take (i := 5) (v := ?_) rfl (by kernel_rfl) (by kernel_rfl) (by kernel_rfl) (fun _ _ _ h => h) (Or.inl ⟨by kernel_rfl, ?_⟩) (by assumption) ?_; rotate_left; (focus (intro w hSw; (try dsimp only at hSw); go_simp; all_goals with_reducible rfl)); (try simp only [Act.put, List.getElem_toArray, List.getElem_cons_succ, List.getElem_cons_zero, List.setIfInBounds_toArray, List.set_cons_zero, List.set_cons_succ]))
            (refine wpAnyH_take (i := 6) (v := ?_) rfl (by kernel_rfl) (by kernel_rfl) (by kernel_rfl) (fun _ _ _ h => h) (Or.inl ⟨by kernel_rfl, ?_⟩) (by assumption) ?_; rotate_left; (focus (intro w hSw; (try dsimp only at hSw); go_simp; all_goals with_reducible rfl)); (try simp only [Act.put, List.getElem_toArray, List.getElem_cons_succ, List.getElem_cons_zero, List.setIfInBounds_toArray, List.set_cons_zero, List.set_cons_succ]))
            (refine wpAnyH_take (i := 7) (v := ?_) rfl (by kernel_rfl) (by kernel_rfl) (by kernel_rfl) (fun _ _ _ h => h) (Or.inl ⟨by kernel_rfl, ?_⟩) (by assumption) ?_; rotate_left; (focus (intro w hSw; (try dsimp only at hSw); go_simp; all_goals with_reducible rfl)); (try simp only [Act.put, List.getElem_toArray, List.getElem_cons_succ, List.getElem_cons_zero, List.setIfInBounds_toArray, List.set_cons_zero, List.set_cons_succ]))
            (refine wpAnyH_take (i := 9) (v := ?_) rfl (by kernel_rfl) (by kernel_rfl) (by kernel_rfl) (fun _ _ _ h => h) (Or.inl ⟨by kernel_rfl, ?_⟩) (by assumption) ?_; rotate_left; (focus (intro w hSw; (try dsimp only at hSw); go_simp; all_goals with_reducible rfl)); (try simp only [Act.put, List.getElem_toArray, List.getElem_cons_succ, List.getElem_cons_zero, List.setIfInBounds_toArray, List.set_cons_zero, List.set_cons_succ]))
            (refine wpAnyH_take (i := 11) (v := ?_) rfl (by kernel_rfl) (by kernel_rfl) (by kernel_rfl) (fun _ _ _ h => h) (Or.inl ⟨by kernel_rfl, ?_⟩) (by assumption) ?_; rotate_left; (focus (intro w hSw; (try dsimp only at hSw); go_simp; all_goals with_reducible rfl)); (try simp only [Act.put, List.getElem_toArray, List.getElem_cons_succ, List.getElem_cons_zero, List.setIfInBounds_toArray, List.set_cons_zero, List.set_cons_succ]))
            (refine wpAnyH_take (i := 10) (v := ?_) rfl (by kernel_rfl) (by kernel_rfl) (by kernel_rfl) (fun _ _ _ h => h) (Or.inl ⟨by kernel_rfl, ?_⟩) (by assumption) ?_; rotate_left; (focus (intro w hSw; (try dsimp only at hSw); go_simp; all_goals with_reducible rfl)); (try simp only [Act.put, List.getElem_toArray, List.getElem_cons_succ, List.getElem_cons_zero, List.setIfInBounds_toArray, List.set_cons_zero, List.set_cons_succ]))
            (refine wpAnyH_take (i := 12) (v := ?_) rfl (by kernel_rfl) (by kernel_rfl) (by kernel_rfl) (fun _ _ _ h => h) (Or.inl ⟨by kernel_rfl, ?_⟩) (by assumption) ?_; rotate_left; (focus (intro w hSw; (try dsimp only at hSw); go_simp; all_goals with_reducible rfl)); (try simp only [Act.put, List.getElem_toArray, List.getElem_cons_succ, List.getElem_cons_zero, List.setIfInBounds_toArray, List.set_cons_zero, List.set_cons_succ]))
            have bl : Below W6.heap.size W6 ((W6.alloc (.cells #[.int .i64 (j : Int), .bool false, .int .i64 (j : Int), .bool true] 68)).drew) := ((Below.refl _ _).alloc (Nat.le_refl _) _).drew
            have hnews0 : ((W6.alloc (.cells #[.int .i64 (j : Int), .bool false, .int .i64 (j : Int), .bool true] 68)).drew).heap[W6.heap.size]? = some (.cells #[.int .i64 (j : Int), .bool false, .int .i64 (j : Int), .bool true] 68 (0, 0)) := World.alloc_heap_new W6 _
            have HSl := Lib.hid (hS.out.below bl)
            have p7 := HSl.out.here.1
            have q7 : ((W6.alloc (.cells #[.int .i64 (j : Int), .bool false, .int .i64 (j : Int), .bool true] 68)).drew).cell? ⟨R, 11, none⟩ = some (.slice (B 2) n (d 2)) := by rw [← HNV.out]; exact HSl.out.cell (k := 2) (by omega)
            obtain ⟨W7, hW7⟩ : ∃ W7, (W6.alloc (.cells #[.int .i64 (j : Int), .bool false, .int .i64 (j : Int), .bool true] 68)).drew = W7 := ⟨_, rfl⟩
            have HW7 := Lib.hid hW7
            rw [hW7] at p7 q7 HSl hnews0
            have HNEW := Lib.hid (fun (jj : Nat) u (hu : [Value.int .i64 (j : Int), .bool false, .int .i64 (j : Int), .bool true][jj]? = some u) => (show W7.cell? ((⟨W6.heap.size, 0, none⟩ : Addr).add jj) = some u by rw [addr_add0]; unfold World.cell?; rw [hnews0]; simpa using hu))
            clear hW7 bl hnews0
            refine wpAnyH_ready (rs := [8, 13]) (by kernel_rfl) (by simp) ?_
            refine AllReadyH.cons rfl (fun K hK => ?_) (AllReadyH.cons rfl (fun K hK => ?_) AllReadyH.nil)
            · go_simp
              refine hK.out _ _ (p0) (fun hHeld => ?_)
              clear hK K
              (try simp only [Act.put, List.getElem_toArray, List.getElem_cons_succ, List.getElem_cons_zero, List.setIfInBounds_toArray, List.set_cons_zero, List.set_cons_succ])
              (refine wpAnyH_ready (rs := [13]) (by kernel_rfl) (by simp) ?_; refine AllReadyH.cons rfl (fun K hK => ?_) AllReadyH.nil)
              go_simp
              rw [HW7.out]
              refine hK.out _ _ (p7) (fun hHeld => ?_)
              clear hK K
              (try simp only [Act.put, List.getElem_toArray, List.getElem_cons_succ, List.getElem_cons_zero, List.setIfInBounds_toArray, List.set_cons_zero, List.set_cons_succ])
              have HOWN : Hid (W7.ownsRow base 68 2 (.slice (B 2) n (d 2)) n (vcs (rvTo (kfOf on) 2 j))) := Lib.hid (by rw [← HNV.out]; exact HSl.out.rows 2 (by omega))
              have HBB : Hid (∀ q, (Value.slice (B 2) n (d 2)).ownBlock = some q → base ≤ q) := Lib.hid (by rw [← HNV.out]; exact fun q e => (HSl.out.base_lt (k := 2) (by omega) e).1)
              (refine wpAnyH_ready (rs := [14]) (by kernel_rfl) (by simp) ?_; refine AllReadyH.cons rfl (fun K hK => ?_) AllReadyH.nil)
              refine step_app2 vis_elem _ _ rfl base (B 2) n (d 2) (vcs (rvTo (kfOf on) 2 j)) rfl HOWN.out ⟨W6.heap.size, 0, none⟩ 2 [.int .i64 (j : Int), .bool false, .int .i64 (j : Int), .bool true] rfl rfl HNEW.out (fun u hu => by simp only [List.mem_cons, List.not_mem_nil, or_false] at hu; rcases hu with rfl | rfl | rfl | rfl <;> rfl) (by omega) HSl.out.sz rfl ?_
              intro g9 c9 w9 hown9 hg9 hd9
              have hRb : R < base := by omega
              have p9 := (HSl.out.plain hg9 HBB.out).1
              have q9 : w9.cell? ⟨R, 11, none⟩ = some (.slice (B 2) n (d 2)) := hg9.cell q7 (fun e => by have h1 := HBB.out R (by first | exact e | exact e.symm); omega)
              have f9 : w9.frozen? ⟨R, 11, none⟩ = false := (HSl.out.rou.kept hg9 (.inr (fun e => by have h1 := HBB.out R (by first | exact e | exact e.symm); omega))).frozenAt 11
              have U9 : Hid (PlSt base R pp w3 (w9.setCell ⟨R, 11, none⟩ (.slice (some ⟨g9, 0, none⟩) (n + 2) c9)) (upd (fun r => rvTo (kfOf on) r j) 2 (rvTo (kfOf on) 2 j ++ [⟨(j : Int), false⟩, ⟨(j : Int), true⟩])) (unTo (kfOf on) j) (lfTo (kfOf on) want j) (upd B 2 (some ⟨g9, 0, none⟩)) (upd d 2 c9) BU dU BL dL) := Lib.hid (by
                rw [← HNV.out] at hown9 hg9 hd9 ⊢
                exact HSl.out.push (k := 2) (by omega) (v := ⟨(j : Int), false⟩) (v' := ⟨(j : Int), true⟩) hown9 hg9 hd9)
              have p10 := U9.out.here.1
              clear hown9 hg9 hd9
              refine hK.out _ _ (p9) (fun hHeld => ?_)
              clear hK K
              (try simp only [Act.put, List.getElem_toArray, List.getElem_cons_succ, List.getElem_cons_zero, List.setIfInBounds_toArray, List.set_cons_zero, List.set_cons_succ])
              (refine wpAnyH_take (i := 15) (v := ?_) rfl (by kernel_rfl) (by kernel_rfl) (by kernel_rfl) (fun _ _ _ h => h) (Or.inl ⟨by kernel_rfl, ?_⟩) (by assumption) ?_; rotate_left; (focus (intro w hSw; (try dsimp only at hSw); go_simp; all_goals with_reducible rfl)); (try simp only [Act.put, List.getElem_toArray, List.getElem_cons_succ, List.getElem_cons_zero, List.setIfInBounds_toArray, List.set_cons_zero, List.set_cons_succ]))
              (refine wpAnyH_take (i := 16) (v := ?_) rfl (by kernel_rfl) (by kernel_rfl) (by kernel_rfl) (fun _ _ _ h => h) (Or.inl ⟨by kernel_rfl, ?_⟩) (by assumption) ?_; rotate_left; (focus (intro w hSw; (try dsimp only at hSw); go_simp; all_goals with_reducible rfl)); (try simp only [Act.put, List.getElem_toArray, List.getElem_cons_succ, List.getElem_cons_zero, List.setIfInBounds_toArray, List.set_cons_zero, List.set_cons_succ]))
              (refine wpAnyH_ready (rs := [17]) (by kernel_rfl) (by simp) ?_; refine AllReadyH.cons rfl (fun K hK => ?_) AllReadyH.nil)
              go_simp
              refine hK.out _ _ (p10) (fun hHeld => ?_)
              clear hK K
              (try simp only [Act.put, List.getElem_toArray, List.getElem_cons_succ, List.getElem_cons_zero, List.setIfInBounds_toArray, List.set_cons_zero, List.set_cons_succ])
              (refine wpAnyH_done (by kernel_rfl) ?_ _)
              go_wp2
              have e1 : unTo (kfOf on) (j + 1) = unTo (kfOf on) j := by rw [unTo, if_neg (by rw [HK.out]; omega)]
              have e2 : lfTo (kfOf on) want (j + 1) = lfTo (kfOf on) want j := by rw [lfTo, if_neg (by rw [HK.out]; omega)]
              have e3 : ∀ r, r < 3 → rvTo (kfOf on) r (j + 1) = upd (fun r => rvTo (kfOf on) r j) 2 (rvTo (kfOf on) 2 j ++ [⟨(j : Int), false⟩, ⟨(j : Int), true⟩]) r := fun r hr => by
                rw [rvTo]
                unfold upd
                by_cases h : r = 2
                · subst h
                  rw [if_pos HK.out, if_pos rfl]
                · rw [if_neg (by rw [HK.out]; omega), if_neg h]
              exact ⟨⟨j + 1, upd B 2 (some ⟨g9, 0, none⟩), upd d 2 c9, BU, dU, BL, dL, by omega, by go_num, by rw [e2], Lib.hid (by rw [e1, e2]; exact U9.out.congr e3)⟩, by simp [intOf]; omega⟩
            · go_simp
              rw [HW7.out]
              refine hK.out _ _ (p7) (fun hHeld => ?_)
              clear hK K
              (try simp only [Act.put, List.getElem_toArray, List.getElem_cons_succ, List.getElem_cons_zero, List.setIfInBounds_toArray, List.set_cons_zero, List.set_cons_succ])
              (refine wpAnyH_ready (rs := [8]) (by kernel_rfl) (by simp) ?_; refine AllReadyH.cons rfl (fun K hK => ?_) AllReadyH.nil)
              go_simp
              refine hK.out _ _ (p7) (fun hHeld => ?_)
              clear hK K
              (try simp only [Act.put, List.getElem_toArray, List.getElem_cons_succ, List.getElem_cons_zero, List.setIfInBounds_toArray, List.set_cons_zero, List.set_cons_succ])
              have HOWN : Hid (W7.ownsRow base 68 2 (.slice (B 2) n (d 2)) n (vcs (rvTo (kfOf on) 2 j))) := Lib.hid (by rw [← HNV.out]; exact HSl.out.rows 2 (by omega))
              have HBB : Hid (∀ q, (Value.slice (B 2) n (d 2)).ownBlock = some q → base ≤ q) := Lib.hid (by rw [← HNV.out]; exact fun q e => (HSl.out.base_lt (k := 2) (by omega) e).1)
              (refine wpAnyH_ready (rs := [14]) (by kernel_rfl) (by simp) ?_; refine AllReadyH.cons rfl (fun K hK => ?_) AllReadyH.nil)
              refine step_app2 vis_elem _ _ rfl base (B 2) n (d 2) (vcs (rvTo (kfOf on) 2 j)) rfl HOWN.out ⟨W6.heap.size, 0, none⟩ 2 [.int .i64 (j : Int), .bool false, .int .i64 (j : Int), .bool true] rfl rfl HNEW.out (fun u hu => by simp only [List.mem_cons, List.not_mem_nil, or_false] at hu; rcases hu with rfl | rfl | rfl | rfl <;> rfl) (by omega) HSl.out.sz rfl ?_
              intro g9 c9 w9 hown9 hg9 hd9
              have hRb : R < base := by omega
              have p9 := (HSl.out.plain hg9 HBB.out).1
              have q9 : w9.cell? ⟨R, 11, none⟩ = some (.slice (B 2) n (d 2)) := hg9.cell q7 (fun e => by have h1 := HBB.out R (by first | exact e | exact e.symm); omega)
              have f9 : w9.frozen? ⟨R, 11, none⟩ = false := (HSl.out.rou.kept hg9 (.inr (fun e => by have h1 := HBB.out R (by first | exact e | exact e.symm); omega))).frozenAt 11
              have U9 : Hid (PlSt base R pp w3 (w9.setCell ⟨R, 11, none⟩ (.slice (some ⟨g9, 0, none⟩) (n + 2) c9)) (upd (fun r => rvTo (kfOf on) r j) 2 (rvTo (kfOf on) 2 j ++ [⟨(j : Int), false⟩, ⟨(j : Int), true⟩])) (unTo (kfOf on) j) (lfTo (kfOf on) want j) (upd B 2 (some ⟨g9, 0, none⟩)) (upd d 2 c9) BU dU BL dL) := Lib.hid (by
                rw [← HNV.out] at hown9 hg9 hd9 ⊢
                exact HSl.out.push (k := 2) (by omega) (v := ⟨(j : Int), false⟩) (v' := ⟨(j : Int), true⟩) hown9 hg9 hd9)
              have p10 := U9.out.here.1
              clear hown9 hg9 hd9
              refine hK.out _ _ (p9) (fun hHeld => ?_)
              clear hK K
              (try simp only [Act.put, List.getElem_toArray, List.getElem_cons_succ, List.getElem_cons_zero, List.setIfInBounds_toArray, List.set_cons_zero, List.set_cons_succ])
              (refine wpAnyH_take (i := 15) (v := ?_) rfl (by kernel_rfl) (by kernel_rfl) (by kernel_rfl) (fun _ _ _ h => h) (Or.inl ⟨by kernel_rfl, ?_⟩) (by assumption) ?_; rotate_left; (focus (intro w hSw; (try dsimp only at hSw); go_simp; all_goals with_reducible rfl)); (try simp only [Act.put, List.getElem_toArray, List.getElem_cons_succ, List.getElem_cons_zero, List.setIfInBounds_toArray, List.set_cons_zero, List.set_cons_succ]))
              (refine wpAnyH_take (i := 16) (v := ?_) rfl (by kernel_rfl) (by kernel_rfl) (by kernel_rfl) (fun _ _ _ h => h) (Or.inl ⟨by kernel_rfl, ?_⟩) (by assumption) ?_; rotate_left; (focus (intro w hSw; (try dsimp only at hSw); go_simp; all_goals with_reducible rfl)); (try simp only [Act.put, List.getElem_toArray, List.getElem_cons_succ, List.getElem_cons_zero, List.setIfInBounds_toArray, List.set_cons_zero, List.set_cons_succ]))
              (refine wpAnyH_ready (rs := [17]) (by kernel_rfl) (by simp) ?_; refine AllReadyH.cons rfl (fun K hK => ?_) AllReadyH.nil)
              go_simp
              refine hK.out _ _ (p10) (fun hHeld => ?_)
              clear hK K
              (try simp only [Act.put, List.getElem_toArray, List.getElem_cons_succ, List.getElem_cons_zero, List.setIfInBounds_toArray, List.set_cons_zero, List.set_cons_succ])
              (refine wpAnyH_done (by kernel_rfl) ?_ _)
              go_wp2
              have e1 : unTo (kfOf on) (j + 1) = unTo (kfOf on) j := by rw [unTo, if_neg (by rw [HK.out]; omega)]
              have e2 : lfTo (kfOf on) want (j + 1) = lfTo (kfOf on) want j := by rw [lfTo, if_neg (by rw [HK.out]; omega)]
              have e3 : ∀ r, r < 3 → rvTo (kfOf on) r (j + 1) = upd (fun r => rvTo (kfOf on) r j) 2 (rvTo (kfOf on) 2 j ++ [⟨(j : Int), false⟩, ⟨(j : Int), true⟩]) r := fun r hr => by
                rw [rvTo]
                unfold upd
                by_cases h : r = 2
                · subst h
                  rw [if_pos HK.out, if_pos rfl]
                · rw [if_neg (by rw [HK.out]; omega), if_neg h]
              exact ⟨⟨j + 1, upd B 2 (some ⟨g9, 0, none⟩), upd d 2 c9, BU, dU, BL, dL, by omega, by go_num, by rw [e2], Lib.hid (by rw [e1, e2]; exact U9.out.congr e3)⟩, by simp [intOf]; omega⟩
        · have hk3 : k = 3 := by
            have h := HK.out
            unfold kfOf at h
            rw [List.getElem?_eq_none (by rw [HM.out]; omega)] at h
            exact h.symm
          subst hk3
          have hjm' : ¬ (j : Int) < (m : Int) := by omega
          go_upto_region 14 with fail
          clear hjm'
          obtain ⟨un, hun⟩ : ∃ un, unTo (kfOf on) j = un := ⟨_, rfl⟩
          obtain ⟨lf, hlf⟩ : ∃ un, lfTo (kfOf on) want j = un := ⟨_, rfl⟩
          have hunl : un.length ≤ 1000 := by rw [← hun]; exact Nat.le_trans (un_len _ _) (by omega)
          have hlfl : lf.length ≤ 1000 := by rw [← hlf]; exact Nat.le_trans (lf_len _ _ _) (by omega)
          rw [hun, hlf] at hS
          rw [hlf]
          have HUL := Lib.hid (And.intro hun hlf)
          have p1 := hS.out.here.2.1
          clear hun hlf
          have bl : Below W6.heap.size W6 (W6.alloc (.cells #[.int .i64 (j : Int)] 3)) := (Below.refl _ _).alloc (Nat.le_refl _) _
          have HSl := Lib.hid (hS.out.below bl)
          clear bl
          go_upto_region 16 with (at_builtin; refine wpList_app int_elem _ _ rfl base BU un.length dU (un.map (.int .i64)) rfl HSl.out.unr ⟨W6.heap.size, 0, none⟩ 1 [.int .i64 (j : Int)] rfl rfl (cell_one_new _ _ _) (fun u hu => by rw [List.mem_singleton] at hu; rw [hu]; rfl) (by omega) HSl.out.sz rfl ?_; intro g9 c9 w9 hown9 hg9 hd9; have U9 := Lib.hid (HSl.out.pushU hown9 hg9 hd9); have x9 := (HSl.out.plain hg9 HSl.out.baseU).2.1; have f9 := (HSl.out.plain hg9 HSl.out.baseU).2.2; clear hown9 hg9 hd9)
          clear x9 f9 p1
          have hcg := HGC.out _ U9.out.bel
          obtain ⟨W7, hW7⟩ : ∃ W7, w9.setCell ⟨pp, 1, none⟩ (.slice (some ⟨g9, 0, none⟩) (un.length + 1) c9) = W7 := ⟨_, rfl⟩
          rw [hW7] at hcg U9 ⊢
          have bl : Below W7.heap.size W7 (W7.alloc (.cells #[.int .i64 g] 3)) := (Below.refl _ _).alloc (Nat.le_refl _) _
          have HSm := Lib.hid (U9.out.below bl)
          clear bl hW7
          go_wp2_with (at_builtin; refine wpList_app int_elem _ _ rfl base BL lf.length dL (lf.map (.int .i64)) rfl HSm.out.lfr ⟨W7.heap.size, 0, none⟩ 1 [.int .i64 g] rfl rfl (cell_one_new _ _ _) (fun u hu => by rw [List.mem_singleton] at hu; rw [hu]; rfl) (by omega) HSm.out.sz rfl ?_; intro g10 c10 w10 hown10 hg10 hd10; have U10 := Lib.hid (HSm.out.pushL hown10 hg10 hd10); clear hown10 hg10 hd10)
          have e1 : unTo (kfOf on) (j + 1) = un ++ [(j : Int)] := by rw [unTo, if_pos HK.out, HUL.out.1]
          have e2 : lfTo (kfOf on) want (j + 1) = lf ++ [g] := by rw [lfTo, if_pos HK.out, HUL.out.2, HGJ.out]; rfl
          have e3 : ∀ r, r < 3 → rvTo (kfOf on) r (j + 1) = rvTo (kfOf on) r j := fun r hr => by rw [rvTo, if_neg (by rw [HK.out]; omega)]
          exact ⟨⟨j + 1, B, d, some ⟨g9, 0, none⟩, c9, some ⟨g10, 0, none⟩, c10, by omega, by go_num, by rw [e2, List.length_append]; rfl, Lib.hid (by rw [e1, e2]; exact U10.out.congr e3)⟩, by simp [intOf]; omega⟩
      · have hjN : N = j := by omega
        subst hjN
        clear hlt
        have hS' := hS
        have HN1 := HNN.out.1
        have hlen : ∀ k, (rvTo (kfOf on) k N).length ≤ 1000000 := fun k => Nat.le_trans (rv_len _ _ _) (by omega)
        have hfit : ∀ k, ∀ v ∈ rvTo (kfOf on) k N, VisFits v := fun k v hv => by
          have h := List.all_eq_true.1 (rv_ok (kfOf on) k N N (Nat.le_refl _)) v hv
          unfold visOk at h
          rw [decide_eq_true_eq] at h
          show -9223372036854775808 ≤ v.order ∧ v.order ≤ 9223372036854775807
          omega
        have HV := Lib.hid (hS.out.routes (fun k _ => hlen k) (fun k _ => hfit k))
        have hMG := merge_any x P A1 c1 want (some ⟨R, 0, none⟩) 3 [⟨0, 0, rvTo (kfOf on) 0 N⟩, ⟨0, 0, rvTo (kfOf on) 1 N⟩, ⟨0, 0, rvTo (kfOf on) 2 N⟩] (.slice BU (unTo (kfOf on) N).length dU) W6 (HI.out _ hBW) HA.out.lim (HG1.out _ hS.out.bel).2 HV.out (by simp) (fun y w' he => HA.out.good he)
        rw [HN1, merge_ok HA.out HE.out (kfOf on) HN1] at hMG
        have HMG := Lib.hid hMG
        have hun : (unTo (kfOf on) N).length ≤ 1000 := Nat.le_trans (un_len _ _) (by omega)
        have hlf : (lfTo (kfOf on) want N).length ≤ 1000 := Nat.le_trans (lf_len _ _ _) (by omega)
        have HLF : Hid (Ints W6 W6.heap.size BL (lfTo (kfOf on) want N)) := Lib.hid (Ints.of_own hS.out.lfr (by omega))
        have HWL := Lib.hid (whole_law HA.out HE.out (kfOf on) (kfOf_le on))
        have p0 := hS.out.here.1
        have p1 := hS.out.here.2.1
        clear hMG hS' hBW hlen hfit
        go_wp2_with ((with_reducible refine wpList_loadG stIns _ rfl ⟨w.heap.size, 0, none⟩ (insCs (x) P) ?_ ?_ ?_ ?_ ?_); exact rfl; exact rfl; exact HX.out _ HBW.out; exact rfl)
        refine HMG.out.mono ?_
        rintro e w7 ⟨A7, c7, cs7, rfl, hown7, hE7, b7⟩
        have HB7 := Lib.hid (HBW.out.trans (b7.mono HBW.out.size))
        have HE7 := Lib.hid (And.intro (hE7.row (r := oSlice oSha) (e := 50) hown7 (by simp)) ((HLF.out.below b7).more b7.size))
        have hwh := whole_any x P A7 c7 [rsK x Y want (kfOf on) 0, rsK x Y want (kfOf on) 1, rsK x Y want (kfOf on) 2] BL dL (lfTo (kfOf on) want N) w7 (HI.out _ HB7.out) HE7.out.1 HE7.out.2 (Nat.le_trans HA.out.orders (by decide)) (fun o ho => by have := okLd_len (HA.out.load o ho); omega) (by simp) (rsK_len HA.out Y want (kfOf on))
        rw [show lfTo (kfOf on) want N = lfTo (kfOf on) want want.length by rw [HN1], HWL.out] at hwh
        rw [show (lfTo (kfOf on) want want.length) = lfTo (kfOf on) want N by rw [HN1]] at hwh
        have HWH := Lib.hid hwh
        clear hwh hown7 hE7 b7 p0 p1
        go_wp2_with ((with_reducible refine wpList_loadG stIns _ rfl ⟨w.heap.size, 0, none⟩ (insCs (x) P) ?_ ?_ ?_ ?_ ?_); exact rfl; exact rfl; exact HX.out _ HB7.out; exact rfl)
        refine HWH.out.mono ?_
        rintro e w8 ⟨rfl, b8⟩
        have HB8 := Lib.hid ((hB0.trans (HB7.out.mono z0)).trans (b8.mono (Nat.le_trans z0 HB7.out.size)))
        go_wp2_with fail
        refine (examples_any w8).mono ?_
        rintro e w9 ⟨rfl, b9⟩
        have HB9 := Lib.hid (HB8.out.trans (b9.mono HB8.out.size))
        go_wp2_with fail
        go_ret
        exact ⟨rfl, HB9.out⟩
end Go.Proofs.Ytceceomaheobhaa.spl

import Derived.Test.YthefooacfcagbaaGreatDoorNzX
import Derived.Test.YthefooacfcagbaaGreatDoorRefF
import Derived.Test.YthefooacfcagbaaGreatDoorRefB
import Derived.Test.YthefooacfcagbaaGreatDoorRefC
import Derived.Test.YthefooacfcagbaaGreatDoorRefD
import Derived.Test.YthefooacfcagbaaGreatDoorRefA
import Derived.Deep.DeepCutAuto
import Derived.Deep.RegionHeld3
/- The reference's check of an instance. -/
namespace Go.Proofs.YthefooacfcagbaaGreatDoor.ins
open Go.RowKit
open lib rd typ app flts note txt und cat rul net
set_option linter.unusedVariables false
set_option linter.unusedSimpArgs false
structure RLim (x : Ins) : Prop where
 places : x.net.places.length ≤ 10000000
 points : ∀ a ∈ x.net.arcs, a.travel.length ≤ 10000000 ∧ a.slow.length ≤ 10000000
 net : (insN x).length ≤ 400000000
 types : x.types.length ≤ 10000000
 orders : x.orders.length ≤ 10000000
 apart : x.apart.length ≤ 10000000
 before : x.before.length ≤ 10000000
theorem runder_of (word : ByteArray) (A : Option Addr) (c : Nat) (fs : List Flt) (w : World) (base : Nat) (h : Fown w base A c fs) (hok : OkF fs) (hl : fs.length ≤ 500000000) (hws : word.size ≤ 1000000) :
  Calls Tryz.prog 52 #[.string word, .slice A fs.length c] w (FltsOut w (undL word fs)) :=
 runder_any word A c fs w (flts_row h hok.fits (by omega)) hl hws (fun f hf => Nat.le_trans (hok f hf).2 (by decide))
set_option maxRecDepth 100000 in
set_option maxHeartbeats 8000000 in
theorem richeck_any (x : Ins) (Q : InP) (w : World) (h : InAt w w.heap.size x Q) (hl : RLim x) : Calls Tryz.prog 24 #[InV x Q] w (FltsOut w (insF x)) := by
 obtain ⟨A0, c0, A1, c1, A2, c2, A3, c3, A4, c4, A5, c5⟩ := Q
 obtain ⟨E, hE⟩ : ∃ E, insF x = E := ⟨_, rfl⟩
 obtain ⟨E1, hE1⟩ : ∃ E, insN x = E := ⟨_, rfl⟩
 obtain ⟨E2, hE2⟩ : ∃ E, insT x = E := ⟨_, rfl⟩
 obtain ⟨E3, hE3⟩ : ∃ E, insO x = E := ⟨_, rfl⟩
 obtain ⟨E4, hE4⟩ : ∃ E, insR x = E := ⟨_, rfl⟩
 have o1 : OkF E1 := by rw [← hE1]; exact netTo_ok _ _
 have o2 : OkF E2 := by rw [← hE2]; exact fltsTo_ok _ _ _
 have o3 : OkF E3 := by rw [← hE3]; exact ofltsTo_ok _ _ _ _ _
 have o4 : OkF E4 := by rw [← hE4]; exact rulesF_ok _ _ _
 have l1 : E1.length ≤ 400000000 := by rw [← hE1]; exact hl.net
 have l2 : E2.length ≤ 90000001 := by
  rw [← hE2]
  have := flt.fltsTo_len ((x.net.places.length : Int) - 1) x.types x.types.length
  have := hl.types
  unfold insT
  omega
 have l3 : E3.length ≤ 80000001 := by
  rw [← hE3]
  have := ord.ofltsTo_len ((x.net.places.length : Int) - 1) (flt.dimsN x.types) x.types.length x.orders x.orders.length
  have := hl.orders
  unfold insO
  omega
 have l4 : E4.length ≤ 20000002 := by
  rw [← hE4]
  have := pairsTo_len x.orders.length apartS looseB x.apart x.apart.length
  have := pairsTo_len x.orders.length beforeS eqg.twoEq x.before x.before.length
  have := hl.apart
  have := hl.before
  unfold insR rulesF
  rw [List.length_append]
  omega
 obtain ⟨L1, hL1⟩ : ∃ L, undL netS E1 = L := ⟨_, rfl⟩
 obtain ⟨L2, hL2⟩ : ∃ L, L1 ++ undL typesS E2 = L := ⟨_, rfl⟩
 obtain ⟨L3, hL3⟩ : ∃ L, L2 ++ undL ordersS E3 = L := ⟨_, rfl⟩
 obtain ⟨L4, hL4⟩ : ∃ L, L3 ++ undL rulesS E4 = L := ⟨_, rfl⟩
 have HE : Hid (E = L4) := Lib.hid (by
  rw [← hL4, ← hL3, ← hL2, ← hL1, ← hE, ← hE1, ← hE2, ← hE3, ← hE4]
  have e : insF x = undL netS (insN x) ++ (undL typesS (insT x) ++ (undL ordersS (insO x) ++ (undL rulesS (insR x) ++ []))) := rfl
  rw [e]
  simp)
 have m1 : L1.length ≤ 400000000 := by rw [← hL1, undL_len]; exact l1
 have m2 : L2.length ≤ 490000001 := by rw [← hL2, List.length_append, undL_len]; omega
 have m3 : L3.length ≤ 570000002 := by rw [← hL3, List.length_append, undL_len]; omega
 have m4 : L4.length ≤ 590000004 := by rw [← hL4, List.length_append, undL_len]; omega
 have HL := Lib.hid (And.intro hL1.symm (And.intro hL2.symm (And.intro hL3.symm hL4.symm)))
 clear hL1 hL2 hL3 hL4
 have k1 : ∀ w', InAt w' w'.heap.size x ⟨A0, c0, A1, c1, A2, c2, A3, c3, A4, c4, A5, c5⟩ → Calls Tryz.prog 53 #[.agg #[.slice A0 x.net.places.length c0, .slice A1 x.net.arcs.length c1]] w' (FltsOut w' E1) := fun w' hi => by
  rw [← hE1]
  exact rnet.rncheck_any x.net A0 c0 A1 c1 w' hi.places hi.arcs hl.places hl.points hl.net
 have k2 : ∀ w', InAt w' w'.heap.size x ⟨A0, c0, A1, c1, A2, c2, A3, c3, A4, c4, A5, c5⟩ → Calls Tryz.prog 54 #[.agg #[.slice A0 x.net.places.length c0, .slice A1 x.net.arcs.length c1], .slice A2 x.types.length c2] w' (flt.FltsOut w' E2) := fun w' hi => by
  rw [← hE2]
  exact flt.rcheck_any x.net A0 c0 A1 c1 A2 c2 x.types w' hi.types hl.types hi.places.len
 have k3 : ∀ w', InAt w' w'.heap.size x ⟨A0, c0, A1, c1, A2, c2, A3, c3, A4, c4, A5, c5⟩ → Calls Tryz.prog 55 #[.agg #[.slice A0 x.net.places.length c0, .slice A1 x.net.arcs.length c1], .int .i64 (flt.dimsN x.types), .int .i64 x.types.length, .slice A3 x.orders.length c3] w' (FltsOut w' E3) := fun w' hi => by
  rw [← hE3]
  exact rord.rocheck_any x.net.places.length A0 c0 A1 x.net.arcs.length c1 (flt.dimsN x.types) x.types.length A3 c3 x.orders w' hi.orders hl.orders hi.places.len
 have k4 : ∀ w', InAt w' w'.heap.size x ⟨A0, c0, A1, c1, A2, c2, A3, c3, A4, c4, A5, c5⟩ → Calls Tryz.prog 57 #[.int .i64 x.orders.length, .slice A4 x.apart.length c4, .slice A5 x.before.length c5] w' (FltsOut w' E4) := fun w' hi => by
  rw [← hE4]
  exact rrul.rrcheck_any x.orders.length A4 c4 x.apart A5 c5 x.before w' hi.apart hi.before hl.apart hl.before
 have kd : ∀ w', InAt w' w'.heap.size x ⟨A0, c0, A1, c1, A2, c2, A3, c3, A4, c4, A5, c5⟩ → Calls Tryz.prog 56 #[.slice A2 x.types.length c2] w' fun e w'' => e = .returned (.int .i64 (flt.dimsN x.types)) ∧ w' = w'' := fun w' hi => flt.rdims_any A2 c2 x.types w' _ hi.types
 obtain ⟨W0, hW0⟩ : ∃ W0, w.alloc (.cells #[.slice A0 x.net.places.length c0, .slice A1 x.net.arcs.length c1, .slice A2 x.types.length c2, .slice A3 x.orders.length c3, .slice A4 x.apart.length c4, .slice A5 x.before.length c5] 30) = W0 := ⟨_, rfl⟩
 have hB0 : Below w.heap.size w W0 := by rw [← hW0]; exact (Below.refl _ _).alloc (Nat.le_refl _) _
 have z0 := hB0.size
 have hs0 : w.heap.size < W0.heap.size := by rw [← hW0]; simp
 have HI : Hid (∀ w', Below W0.heap.size W0 w' → InAt w' w'.heap.size x ⟨A0, c0, A1, c1, A2, c2, A3, c3, A4, c4, A5, c5⟩) := Lib.hid fun w' hb => (h.go hB0).go hb
 have HS : Hid (∀ w', Below W0.heap.size W0 w' → (w'.cell? ⟨w.heap.size, 0, none⟩ = some (.slice A0 x.net.places.length c0) ∧ w'.cell? ⟨w.heap.size, 1, none⟩ = some (.slice A1 x.net.arcs.length c1) ∧ w'.cell? ⟨w.heap.size, 2, none⟩ = some (.slice A2 x.types.length c2) ∧ w'.cell? ⟨w.heap.size, 3, none⟩ = some (.slice A3 x.orders.length c3) ∧ w'.cell? ⟨w.heap.size, 4, none⟩ = some (.slice A4 x.apart.length c4) ∧ w'.cell? ⟨w.heap.size, 5, none⟩ = some (.slice A5 x.before.length c5))) := Lib.hid fun w' hb => by
  have hk := fun (o : Nat) => hb.cell (p := ⟨w.heap.size, o, none⟩) hs0
  refine ⟨(hk _).trans ?_, (hk _).trans ?_, (hk _).trans ?_, (hk _).trans ?_, (hk _).trans ?_, (hk _).trans ?_⟩
  all_goals (rw [← hW0]; simp)
 have B0 : Below W0.heap.size W0 W0 := Below.refl _ _
 have HW0 := Lib.hid hW0
 have HK := Lib.hid (And.intro k1 (And.intro k2 (And.intro k3 (And.intro k4 kd))))
 have HEE := Lib.hid hE
 clear hE hE1 hE2 hE3 hE4 hW0 h hl k1 k2 k3 k4 kd
 simp only [InV]
 go_enter Tryz.func24, Tryz.ntmps24
 go_upto_region 1 with fail
 rw [HW0.out]
 go_cut [3] (fun v wx => ∃ A c, v = .slice A (L1).length c ∧ Fown wx W0.heap.size A c (L1) ∧ Below W0.heap.size W0 wx)
 case first => as_aux_lemma =>
  obtain ⟨x0, x1, x2, x3, x4, x5⟩ := HS.out _ (B0)
  go_wp2_with (first
   | (go_at_call 53; refine (HK.out.1 _ (HI.out _ B0)).mono ?_; rintro e w1 ⟨AF, cF, rfl, ownF, bw1⟩; have zw1 := bw1.size; have HOF := Lib.hid ownF; clear ownF)
   | (go_at_call 52; refine (runder_of netS _ _ E1 _ _ HOF.out o1 (by omega) (by decide)).mono ?_; rintro e w2 ⟨AU, cU, rfl, ownU, bw2⟩; have zw2 := bw2.size; have HOU := Lib.hid ownU; clear ownU))
  go_meet
  exact ⟨AU, cU, by rw [HL.out.1], by rw [HL.out.1]; exact own_less HOU.out zw1, bw1.trans (bw2.mono zw1)⟩
 obtain ⟨A, c, h3, hown, hB⟩ := hcut
 subst h3
 have HO := Lib.hid hown
 have hz := hB.size
 clear hown
 go_upto_region 2 with fail
 go_cut [3] (fun v wx => ∃ A c, v = .slice A (L2).length c ∧ Fown wx W0.heap.size A c (L2) ∧ Below W0.heap.size W0 wx)
 case first => as_aux_lemma =>
  obtain ⟨x0, x1, x2, x3, x4, x5⟩ := HS.out _ (hB)
  go_wp2_with (first
   | (go_at_call 54; refine (HK.out.2.1 _ (HI.out _ hB)).mono ?_; rintro e w1 ⟨AF, cF, rfl, ownF, bw1⟩; have zw1 := bw1.size; have HOF := Lib.hid ownF; have HO1 := Lib.hid (HO.out.below bw1); clear ownF)
   | (go_at_call 52; refine (runder_of typesS _ _ E2 _ _ HOF.out o2 (by omega) (by decide)).mono ?_; rintro e w2 ⟨AU, cU, rfl, ownU, bw2⟩; have zw2 := bw2.size; have HOU := Lib.hid ownU; clear ownU)
   | (at_builtin; refine wpList_appF rfl _ _ rfl W0.heap.size A L1 c rfl (HO1.out.below bw2) AU (undL typesS E2) cU rfl (Reads.of_own HOU.out) L2 HL.out.2.1 (by omega) (by omega) ?_; intro A5 c5 w5 hown5 hb5))
  go_meet
  exact ⟨A5, c5, rfl, hown5, (hB.trans ((bw1.trans (bw2.mono zw1)).mono hz)).trans hb5⟩
 clear HO hB hz
 obtain ⟨A, c, h3, hown, hB⟩ := hcut
 subst h3
 have HO := Lib.hid hown
 have hz := hB.size
 clear hown
 go_upto_region 3 with fail
 have hS : ∀ w', Below W0.heap.size W0 w' → (Below W0.heap.size W0 w' ∧ w'.cell? ⟨w.heap.size, 0, none⟩ = some (.slice A0 x.net.places.length c0) ∧ w'.cell? ⟨w.heap.size, 1, none⟩ = some (.slice A1 x.net.arcs.length c1) ∧ w'.cell? ⟨w.heap.size, 2, none⟩ = some (.slice A2 x.types.length c2) ∧ w'.cell? ⟨w.heap.size, 3, none⟩ = some (.slice A3 x.orders.length c3) ∧ w'.cell? ⟨w.heap.size, 4, none⟩ = some (.slice A4 x.apart.length c4) ∧ w'.cell? ⟨w.heap.size, 5, none⟩ = some (.slice A5 x.before.length c5)) := fun w' hb => ⟨hb, HS.out _ hb⟩
 go_cut [3] (fun v wx => ∃ A c, v = .slice A (L3).length c ∧ Fown wx W0.heap.size A c (L3) ∧ Below W0.heap.size W0 wx)
 case first => as_aux_lemma =>
  have hBd := hB.drew
  (refine wp_region_held_drew (S := (fun w' => Below W0.heap.size W0 w' ∧ w'.cell? ⟨w.heap.size, 0, none⟩ = some (.slice A0 x.net.places.length c0) ∧ w'.cell? ⟨w.heap.size, 1, none⟩ = some (.slice A1 x.net.arcs.length c1) ∧ w'.cell? ⟨w.heap.size, 2, none⟩ = some (.slice A2 x.types.length c2) ∧ w'.cell? ⟨w.heap.size, 3, none⟩ = some (.slice A3 x.orders.length c3) ∧ w'.cell? ⟨w.heap.size, 4, none⟩ = some (.slice A4 x.apart.length c4) ∧ w'.cell? ⟨w.heap.size, 5, none⟩ = some (.slice A5 x.before.length c5))) (by kernel_rfl) ?_ (fun hHeld => ?_))
  ·exact hS _ hBd
  (refine lib.tk 0 rfl ?_; (try simp only [lib.hly]))
  (refine lib.tk 1 rfl ?_; (try simp only [lib.hly]))
  (refine lib.tk 2 rfl ?_; (try simp only [lib.hly]))
  (refine lib.tk 3 rfl ?_; (try simp only [lib.hly]))
  (refine lib.tk 4 rfl ?_; (try simp only [lib.hly]))
  (refine lib.tk 6 rfl ?_; (try simp only [lib.hly]))
  (refine lib.tk 7 rfl ?_; (try simp only [lib.hly]))
  (refine lib.tk 8 rfl ?_; (try simp only [lib.hly]))
  (refine lib.tk 9 rfl ?_; (try simp only [lib.hly]))
  (refine lib.tk 10 rfl ?_; (try simp only [lib.hly]))
  (refine lib.rk 5 rfl fun K hK => ?_; go_simp)
  go_at_call 56
  refine (HK.out.2.2.2.2 _ (HI.out _ hBd)).mono ?_
  rintro e we ⟨rfl, rfl⟩
  (refine hK.out _ _ ?_ (fun hHeld => ?_))
  ·exact hS _ hBd
  clear hK K
  (try simp only [lib.hly])
  (refine lib.rk 11 rfl fun K hK => ?_; go_simp)
  go_at_call 55
  refine (HK.out.2.2.1 _ (HI.out _ hBd)).mono ?_
  rintro e w1 ⟨AF, cF, rfl, ownF, bw1⟩
  have hB1 : Below W0.heap.size W0 w1 := hBd.trans (bw1.mono hBd.size)
  have zw1 := hB1.size
  have HOF := Lib.hid ownF
  have HO1 := Lib.hid (HO.out.below ((Below.refl _ _).drew.trans (bw1.mono (by simp))))
  clear ownF
  (refine hK.out _ _ ?_ (fun hHeld => ?_))
  ·exact hS _ hB1
  clear hK K
  (try simp only [lib.hly])
  (refine lib.rk 12 rfl fun K hK => ?_; go_simp)
  go_at_call 52
  refine (runder_of ordersS _ _ E3 _ _ HOF.out o3 (by omega) (by decide)).mono ?_
  rintro e w2 ⟨AU, cU, rfl, ownU, bw2⟩
  have hB2 : Below W0.heap.size W0 w2 := hB1.trans (bw2.mono zw1)
  have zw2 := hB2.size
  have HOU := Lib.hid ownU
  have HO2 := Lib.hid (HO1.out.below bw2)
  clear ownU
  (refine hK.out _ _ ?_ (fun hHeld => ?_))
  ·exact hS _ hB2
  clear hK K
  (try simp only [lib.hly])
  (refine lib.rk 13 rfl fun K hK => ?_)
  refine step_appN fault_elem _ _ rfl W0.heap.size (.slice A L2.length c) L2.length (fcs L2) rfl HO2.out w2.heap.size AU (undL ordersS E3).length cU (fcs (undL ordersS E3)) rfl (Reads.of_own HOU.out) (fcs_ones _) (by rw [undL_len]; omega) (by omega) rfl ?_
  intro A5 c5 w5 hown5 hg5
  have hB5 : Below W0.heap.size W0 w5 := hB2.grown hg5 zw2 (fun q e => (World.ownsRow.lt HO2.out _ e).1)
  (refine hK.out _ _ ?_ (fun hHeld => ?_))
  ·exact hS _ hB5
  clear hK K
  (try simp only [lib.hly])
  (refine lib.tk 14 rfl ?_; (try simp only [lib.hly]))
  (refine wpAnyH_done (by kernel_rfl) ?_ _)
  have hlen : L3.length = L2.length + (undL ordersS E3).length := by rw [HL.out.2.2.1, List.length_append]
  have HLEN := Lib.hid hlen
  have HO5 := Lib.hid hown5
  clear hlen hown5
  go_wp2
  go_meet
  exact ⟨A5, c5, by rw [HLEN.out], by unfold Fown; rw [HLEN.out, HL.out.2.2.1, fcs_app]; exact HO5.out, hB5⟩
 clear HO hB hz
 obtain ⟨A, c, h3, hown, hB⟩ := hcut
 subst h3
 have HO := Lib.hid hown
 have hz := hB.size
 clear hown hS
 obtain ⟨x0, x1, x2, x3, x4, x5⟩ := HS.out _ (hB)
 go_wp2_with (first
  | (go_at_call 57; refine (HK.out.2.2.2.1 _ (HI.out _ hB)).mono ?_; rintro e w1 ⟨AF, cF, rfl, ownF, bw1⟩; have zw1 := bw1.size; have HOF := Lib.hid ownF; have HO1 := Lib.hid (HO.out.below bw1); clear ownF)
  | (go_at_call 52; refine (runder_of rulesS _ _ E4 _ _ HOF.out o4 (by omega) (by decide)).mono ?_; rintro e w2 ⟨AU, cU, rfl, ownU, bw2⟩; have zw2 := bw2.size; have HOU := Lib.hid ownU; clear ownU)
  | (at_builtin; refine wpList_appF rfl _ _ rfl W0.heap.size A L3 c rfl (HO1.out.below bw2) AU (undL rulesS E4) cU rfl (Reads.of_own HOU.out) L4 HL.out.2.2.2 (by omega) (by omega) ?_; intro A6 c6 w5 hown5 hb5))
 go_ret
 rw [HEE.out, HE.out]
 exact ⟨A6, c6, rfl, own_less hown5 z0, hB0.trans (((hB.trans ((bw1.trans (bw2.mono zw1)).mono hz)).trans hb5).mono z0)⟩
end Go.Proofs.YthefooacfcagbaaGreatDoor.ins

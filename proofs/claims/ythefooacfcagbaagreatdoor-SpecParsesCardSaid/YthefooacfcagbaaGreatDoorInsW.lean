import Derived.Test.YthefooacfcagbaaGreatDoorNzX
import Derived.Test.YthefooacfcagbaaGreatDoorNetX
import Derived.Test.YthefooacfcagbaaGreatDoorFltV
import Derived.Test.YthefooacfcagbaaGreatDoorRulX
/- instance.Check of any instance that is not too large. -/
namespace Go.Proofs.YthefooacfcagbaaGreatDoor.ins
open Go.RowKit
open lib rd typ app flts note txt und cat rul net
set_option linter.unusedVariables false
set_option linter.unusedSimpArgs false
structure LimG (x : Ins) : Prop where
 places : x.net.places.length ≤ 5000
 arcs : x.net.arcs.length ≤ 5000
 points : ∀ a ∈ x.net.arcs, a.travel.length ≤ 5000 ∧ a.slow.length ≤ 5000
 net : (insN x).length ≤ 200000
 types : x.types.length ≤ 5000
 orders : x.orders.length ≤ 5000
 apart : x.apart.length ≤ 5000
 before : x.before.length ≤ 5000
set_option maxRecDepth 100000 in
set_option maxHeartbeats 8000000 in
theorem icheckG_any (x : Ins) (Q : InP) (w : World) (h : InAt w w.heap.size x Q) (hl : LimG x) (htb : Tabs w) : Calls Tryz.prog 19 #[InV x Q] w (FltsOut w (insF x)) := by
 obtain ⟨A0, c0, A1, c1, A2, c2, A3, c3, A4, c4, A5, c5⟩ := Q
 have HTB : Hid (∀ v, Below w.heap.size w v → Tabs v) := Lib.hid fun v hv => htb.below hv
 clear htb
 obtain ⟨E, hE⟩ : ∃ E, insF x = E := ⟨_, rfl⟩
 obtain ⟨E1, hE1⟩ : ∃ E, insN x = E := ⟨_, rfl⟩
 obtain ⟨E2, hE2⟩ : ∃ E, insT x = E := ⟨_, rfl⟩
 obtain ⟨E3, hE3⟩ : ∃ E, insO x = E := ⟨_, rfl⟩
 obtain ⟨E4, hE4⟩ : ∃ E, insR x = E := ⟨_, rfl⟩
 have o1 : OkF E1 := by rw [← hE1]; exact netTo_ok _ _
 have o2 : OkF E2 := by rw [← hE2]; exact fltsTo_ok _ _ _
 have o3 : OkF E3 := by rw [← hE3]; exact ofltsTo_ok _ _ _ _ _
 have o4 : OkF E4 := by rw [← hE4]; exact rulesF_ok _ _ _
 have l1 : E1.length ≤ 200000 := by rw [← hE1]; exact hl.net
 have l2 : E2.length ≤ 45001 := by
  rw [← hE2]
  have := flt.fltsTo_len ((x.net.places.length : Int) - 1) x.types x.types.length
  have := hl.types
  unfold insT
  omega
 have l3 : E3.length ≤ 40001 := by
  rw [← hE3]
  have := ord.ofltsTo_len ((x.net.places.length : Int) - 1) (flt.dimsN x.types) x.types.length x.orders x.orders.length
  have := hl.orders
  unfold insO
  omega
 have l4 : E4.length ≤ 10002 := by
  rw [← hE4]
  have := pairsTo_len x.orders.length apartS looseB x.apart x.apart.length
  have := pairsTo_len x.orders.length beforeS eqg.twoEq x.before x.before.length
  have := hl.apart
  have := hl.before
  unfold insR rulesF
  rw [List.length_append]
  omega
 have HE : Hid (E = catL [undL netS E1, undL typesS E2, undL ordersS E3, undL rulesS E4] 4) := Lib.hid (by rw [← hE, ← hE1, ← hE2, ← hE3, ← hE4]; rfl)
 have HEL : Hid ((catL [undL netS E1, undL typesS E2, undL ordersS E3, undL rulesS E4] 4).length ≤ 1000000) := Lib.hid (by
  have e : catL [undL netS E1, undL typesS E2, undL ordersS E3, undL rulesS E4] 4 = undL netS E1 ++ (undL typesS E2 ++ (undL ordersS E3 ++ (undL rulesS E4 ++ []))) := rfl
  rw [e]
  simp only [List.length_append, undL_len, List.length_nil]
  omega)
 have k1 : ∀ w', Tabs w' → InAt w' w'.heap.size x ⟨A0, c0, A1, c1, A2, c2, A3, c3, A4, c4, A5, c5⟩ → Calls Tryz.prog 45 #[.agg #[.slice A0 x.net.places.length c0, .slice A1 x.net.arcs.length c1]] w' (FltsOut w' E1) := fun w' htw hi => by
  rw [← hE1]
  exact ncheckG_any x.net A0 c0 A1 c1 w' hi.places hi.arcs hl.places hl.arcs hl.points htw
 have k2 : ∀ w', Tabs w' → InAt w' w'.heap.size x ⟨A0, c0, A1, c1, A2, c2, A3, c3, A4, c4, A5, c5⟩ → Calls Tryz.prog 46 #[.agg #[.slice A0 x.net.places.length c0, .slice A1 x.net.arcs.length c1], .slice A2 x.types.length c2] w' (flt.FltsOut w' E2) := fun w' htw hi => by
  rw [← hE2]
  exact flt.checkG_any x.net A0 c0 A1 c1 A2 c2 x.types w' htw hi.types hl.types hi.capT hi.places.len
 have k3 : ∀ w', Tabs w' → InAt w' w'.heap.size x ⟨A0, c0, A1, c1, A2, c2, A3, c3, A4, c4, A5, c5⟩ → Calls Tryz.prog 47 #[.agg #[.slice A0 x.net.places.length c0, .slice A1 x.net.arcs.length c1], .int .i64 (flt.dimsN x.types), .int .i64 x.types.length, .slice A3 x.orders.length c3] w' (FltsOut w' E3) := fun w' htw hi => by
  rw [← hE3]
  exact ord.checkG_any x.net.places.length A0 c0 A1 x.net.arcs.length c1 (flt.dimsN x.types) x.types.length A3 c3 x.orders w' htw hi.orders hl.orders hi.capO hi.places.len
 have k4 : ∀ w', InAt w' w'.heap.size x ⟨A0, c0, A1, c1, A2, c2, A3, c3, A4, c4, A5, c5⟩ → Calls Tryz.prog 49 #[.int .i64 x.orders.length, .slice A4 x.apart.length c4, .slice A5 x.before.length c5] w' (FltsOut w' E4) := fun w' hi => by
  rw [← hE4]
  exact rcheckG_any x.orders.length A4 c4 x.apart A5 c5 x.before w' hi.apart hi.before hl.apart hl.before hi.capA hi.capB
 have kd : ∀ w', InAt w' w'.heap.size x ⟨A0, c0, A1, c1, A2, c2, A3, c3, A4, c4, A5, c5⟩ → Calls Tryz.prog 48 #[.slice A2 x.types.length c2] w' fun e w'' => e = .returned (.int .i64 (flt.dimsN x.types)) ∧ w' = w'' := fun w' hi => flt.dims_any A2 c2 x.types w' _ hi.types
 obtain ⟨W0, hW0⟩ : ∃ W0, w.alloc (.cells #[.slice A0 x.net.places.length c0, .slice A1 x.net.arcs.length c1, .slice A2 x.types.length c2, .slice A3 x.orders.length c3, .slice A4 x.apart.length c4, .slice A5 x.before.length c5] 30) = W0 := ⟨_, rfl⟩
 have hB0 : Below w.heap.size w W0 := by rw [← hW0]; exact (Below.refl _ _).alloc (Nat.le_refl _) _
 have z0 := hB0.size
 have hs0 : w.heap.size < W0.heap.size := by rw [← hW0]; simp
 have HTW : Hid (∀ w', Below W0.heap.size W0 w' → Tabs w') := Lib.hid fun w' hb => HTB.out _ (hB0.trans (hb.mono z0))
 have HI : Hid (∀ w', Below W0.heap.size W0 w' → InAt w' w'.heap.size x ⟨A0, c0, A1, c1, A2, c2, A3, c3, A4, c4, A5, c5⟩) := Lib.hid fun w' hb => (h.go hB0).go hb
 have hS : ∀ w', Below W0.heap.size W0 w' → (Below W0.heap.size W0 w' ∧ w'.cell? ⟨w.heap.size, 0, none⟩ = some (.slice A0 x.net.places.length c0) ∧ w'.cell? ⟨w.heap.size, 1, none⟩ = some (.slice A1 x.net.arcs.length c1) ∧ w'.cell? ⟨w.heap.size, 2, none⟩ = some (.slice A2 x.types.length c2) ∧ w'.cell? ⟨w.heap.size, 3, none⟩ = some (.slice A3 x.orders.length c3) ∧ w'.cell? ⟨w.heap.size, 4, none⟩ = some (.slice A4 x.apart.length c4) ∧ w'.cell? ⟨w.heap.size, 5, none⟩ = some (.slice A5 x.before.length c5)) := fun w' hb => by
  have hk := fun (o : Nat) => hb.cell (p := ⟨w.heap.size, o, none⟩) hs0
  refine ⟨hb, (hk _).trans ?_, (hk _).trans ?_, (hk _).trans ?_, (hk _).trans ?_, (hk _).trans ?_, (hk _).trans ?_⟩
  all_goals (rw [← hW0]; simp)
 have B0 : Below W0.heap.size W0 W0 := Below.refl _ _
 have HW0 := Lib.hid hW0
 have HK := Lib.hid (And.intro k1 (And.intro k2 (And.intro k3 (And.intro k4 kd))))
 rw [hE]
 clear hE hE1 hE2 hE3 hE4 hW0 h hl k1 k2 k3 k4 kd
 simp only [InV]
 go_enter Tryz.func19, Tryz.ntmps19
 go_upto_region 1 with fail
 rw [HW0.out]
 (refine wp_region_held_drew (S := (fun w' => Below W0.heap.size W0 w' ∧ w'.cell? ⟨w.heap.size, 0, none⟩ = some (.slice A0 x.net.places.length c0) ∧ w'.cell? ⟨w.heap.size, 1, none⟩ = some (.slice A1 x.net.arcs.length c1) ∧ w'.cell? ⟨w.heap.size, 2, none⟩ = some (.slice A2 x.types.length c2) ∧ w'.cell? ⟨w.heap.size, 3, none⟩ = some (.slice A3 x.orders.length c3) ∧ w'.cell? ⟨w.heap.size, 4, none⟩ = some (.slice A4 x.apart.length c4) ∧ w'.cell? ⟨w.heap.size, 5, none⟩ = some (.slice A5 x.before.length c5))) (by kernel_rfl) ?_ (fun hHeld => ?_))
 ·exact hS _ (B0.drew)
 (refine lib.tk 0 rfl ?_; (try simp only [lib.hly]))
 (refine lib.tk 1 rfl ?_; (try simp only [lib.hly]))
 (refine lib.tk 4 rfl ?_; (try simp only [lib.hly]))
 (refine lib.tk 5 rfl ?_; (try simp only [lib.hly]))
 (refine lib.tk 6 rfl ?_; (try simp only [lib.hly]))
 (refine lib.tk 7 rfl ?_; (try simp only [lib.hly]))
 (refine lib.tk 10 rfl ?_; (try simp only [lib.hly]))
 (refine lib.tk 11 rfl ?_; (try simp only [lib.hly]))
 (refine lib.tk 12 rfl ?_; (try simp only [lib.hly]))
 (refine lib.tk 13 rfl ?_; (try simp only [lib.hly]))
 (refine lib.tk 15 rfl ?_; (try simp only [lib.hly]))
 (refine lib.tk 16 rfl ?_; (try simp only [lib.hly]))
 (refine lib.tk 17 rfl ?_; (try simp only [lib.hly]))
 (refine lib.tk 18 rfl ?_; (try simp only [lib.hly]))
 (refine lib.tk 19 rfl ?_; (try simp only [lib.hly]))
 (refine lib.tk 22 rfl ?_; (try simp only [lib.hly]))
 (refine lib.tk 23 rfl ?_; (try simp only [lib.hly]))
 (refine lib.tk 24 rfl ?_; (try simp only [lib.hly]))
 (refine lib.tk 25 rfl ?_; (try simp only [lib.hly]))
 (refine lib.tk 26 rfl ?_; (try simp only [lib.hly]))
 (refine lib.tk 27 rfl ?_; (try simp only [lib.hly]))
 (refine lib.tk 28 rfl ?_; (try simp only [lib.hly]))
 (refine lib.rk 2 rfl fun K hK => ?_; go_simp)
 go_at_call 45; refine (HK.out.1 _ (HTW.out _ B0.drew) (HI.out _ B0.drew)).mono ?_
 rintro e w1 ⟨F1, cF1, rfl, ownw1, bw1⟩
 have Bw1 : Below W0.heap.size W0 w1 := Below.trans (B0.drew) (bw1.mono (by first | omega | (simp <;> omega)))
 have zw1 := Bw1.size
 (refine hK.out _ _ ?_ (fun hHeld => ?_))
 ·exact hS _ Bw1
 clear hK K
 (try simp only [lib.hly])
 (refine lib.rk 3 rfl fun K hK => ?_; go_simp)
 go_at_call 44; refine (under_of netS F1 cF1 E1 _ _ ownw1 o1 (by omega) (by decide)).mono ?_
 rintro e w2 ⟨U1, cU1, rfl, ownw2, bw2⟩
 have Bw2 : Below W0.heap.size W0 w2 := Below.trans (Bw1) (bw2.mono (by first | omega | (simp <;> omega)))
 have zw2 := Bw2.size
 (refine hK.out _ _ ?_ (fun hHeld => ?_))
 ·exact hS _ Bw2
 clear hK K
 (try simp only [lib.hly])
 as_aux_lemma =>
  (refine lib.rk 8 rfl fun K hK => ?_; go_simp)
  go_at_call 46; refine (HK.out.2.1 _ (HTW.out _ Bw2) (HI.out _ Bw2)).mono ?_
  rintro e w3 ⟨F2, cF2, rfl, ownw3, bw3⟩
  have Bw3 : Below W0.heap.size W0 w3 := Below.trans (Bw2) (bw3.mono (by first | omega | (simp <;> omega)))
  have zw3 := Bw3.size
  (refine hK.out _ _ ?_ (fun hHeld => ?_))
  ·exact hS _ Bw3
  clear hK K
  (try simp only [lib.hly])
  (refine lib.rk 9 rfl fun K hK => ?_; go_simp)
  go_at_call 44; refine (under_of typesS F2 cF2 E2 _ _ ownw3 o2 (by omega) (by decide)).mono ?_
  rintro e w4 ⟨U2, cU2, rfl, ownw4, bw4⟩
  have Bw4 : Below W0.heap.size W0 w4 := Below.trans (Bw3) (bw4.mono (by first | omega | (simp <;> omega)))
  have zw4 := Bw4.size
  (refine hK.out _ _ ?_ (fun hHeld => ?_))
  ·exact hS _ Bw4
  clear hK K
  (try simp only [lib.hly])
  as_aux_lemma =>
   (refine lib.rk 14 rfl fun K hK => ?_; go_simp)
   go_at_call 48
   refine (HK.out.2.2.2.2 _ (HI.out _ Bw4)).mono ?_
   rintro e we ⟨rfl, rfl⟩
   (refine hK.out _ _ ?_ (fun hHeld => ?_))
   ·exact hS _ Bw4
   clear hK K
   (try simp only [lib.hly])
   (refine lib.rk 20 rfl fun K hK => ?_; go_simp)
   go_at_call 47; refine (HK.out.2.2.1 _ (HTW.out _ Bw4) (HI.out _ Bw4)).mono ?_
   rintro e w5 ⟨F3, cF3, rfl, ownw5, bw5⟩
   have Bw5 : Below W0.heap.size W0 w5 := Below.trans (Bw4) (bw5.mono (by first | omega | (simp <;> omega)))
   have zw5 := Bw5.size
   (refine hK.out _ _ ?_ (fun hHeld => ?_))
   ·exact hS _ Bw5
   clear hK K
   (try simp only [lib.hly])
   (refine lib.rk 21 rfl fun K hK => ?_; go_simp)
   go_at_call 44; refine (under_of ordersS F3 cF3 E3 _ _ ownw5 o3 (by omega) (by decide)).mono ?_
   rintro e w6 ⟨U3, cU3, rfl, ownw6, bw6⟩
   have Bw6 : Below W0.heap.size W0 w6 := Below.trans (Bw5) (bw6.mono (by first | omega | (simp <;> omega)))
   have zw6 := Bw6.size
   (refine hK.out _ _ ?_ (fun hHeld => ?_))
   ·exact hS _ Bw6
   clear hK K
   (try simp only [lib.hly])
   as_aux_lemma =>
    (refine lib.rk 29 rfl fun K hK => ?_; go_simp)
    go_at_call 49; refine (HK.out.2.2.2.1 _ (HI.out _ Bw6)).mono ?_
    rintro e w7 ⟨F4, cF4, rfl, ownw7, bw7⟩
    have Bw7 : Below W0.heap.size W0 w7 := Below.trans (Bw6) (bw7.mono (by first | omega | (simp <;> omega)))
    have zw7 := Bw7.size
    (refine hK.out _ _ ?_ (fun hHeld => ?_))
    ·exact hS _ Bw7
    clear hK K
    (try simp only [lib.hly])
    (refine lib.rk 30 rfl fun K hK => ?_; go_simp)
    go_at_call 44; refine (under_of rulesS F4 cF4 E4 _ _ ownw7 o4 (by omega) (by decide)).mono ?_
    rintro e w8 ⟨U4, cU4, rfl, ownw8, bw8⟩
    have Bw8 : Below W0.heap.size W0 w8 := Below.trans (Bw7) (bw8.mono (by first | omega | (simp <;> omega)))
    have zw8 := Bw8.size
    (refine hK.out _ _ ?_ (fun hHeld => ?_))
    ·exact hS _ Bw8
    clear hK K
    (try simp only [lib.hly])
    (refine lib.rk 31 rfl fun K hK => ?_)
    go_simp
    have B9 : Below W0.heap.size W0 (w8.alloc (.cells #[.slice U1 (undL netS E1).length cU1, .slice U2 (undL typesS E2).length cU2, .slice U3 (undL ordersS E3).length cU3, .slice U4 (undL rulesS E4).length cU4] 50)) := Bw8.alloc zw8 _
    (refine hK.out _ _ ?_ (fun hHeld => ?_))
    ·exact hS _ B9
    clear hK K
    (try simp only [lib.hly])
    have u2 := rowF (keepF (keepF (keepF (keepF (keepF (keepF ownw2 bw3) bw4) bw5) bw6) bw7) bw8)
    have u4 := rowF (keepF (keepF (keepF (keepF ownw4 bw5) bw6) bw7) bw8)
    have u6 := rowF (keepF (keepF ownw6 bw7) bw8)
    have HFR := Lib.hid (four_rows w8 u2 u4 u6 (rowF ownw8) cU1 cU2 cU3 cU4 50)
    clear u2 u4 u6
    (refine lib.rk 32 rfl fun K hK => ?_; go_simp)
    go_at_call 43
    refine (concat_any (some ⟨w8.heap.size, 0, none⟩) 4 [undL netS E1, undL typesS E2, undL ordersS E3, undL rulesS E4] _ (by have h := HFR.out; rw [World.size_alloc]; exact h) (Nat.le_trans (Nat.le_refl 4) (by omega)) HEL.out).mono ?_
    rintro e w9 ⟨G, cG, rfl, hownG, hbG⟩
    have BG : Below W0.heap.size W0 w9 := B9.trans (hbG.mono B9.size)
    (refine hK.out _ _ ?_ (fun hHeld => ?_))
    ·exact hS _ BG
    clear hK K
    (try simp only [lib.hly])
    (refine lib.tk 33 rfl ?_; (try simp only [lib.hly]))
    (refine wpAnyH_done (by kernel_rfl) ?_ _)
    go_wp2_with fail
    go_ret
    have e : catL [undL netS E1, undL typesS E2, undL ordersS E3, undL rulesS E4] [undL netS E1, undL typesS E2, undL ordersS E3, undL rulesS E4].length = E := HE.out.symm
    rw [e] at hownG
    exact ⟨G, cG, by rw [HE.out]; rfl, own_less hownG (by have := B9.size; omega), hB0.trans (BG.mono z0)⟩
end Go.Proofs.YthefooacfcagbaaGreatDoor.ins

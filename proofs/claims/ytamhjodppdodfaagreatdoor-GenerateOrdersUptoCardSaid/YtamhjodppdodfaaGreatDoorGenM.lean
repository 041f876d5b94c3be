/- The law GenerateOrders, walked. -/
import Derived.Test.YtamhjodppdodfaaGreatDoorGenL
import Derived.Test.YtamhjodppdodfaaGreatDoorAddBz
namespace Go.Proofs.YtamhjodppdodfaaGreatDoor.gen
open Go.RowKit
open Go.Proofs.YtamhjodppdodfaaGreatDoor.lib Go.Proofs.YtamhjodppdodfaaGreatDoor.rd Go.Proofs.YtamhjodppdodfaaGreatDoor.app Go.Proofs.YtamhjodppdodfaaGreatDoor.els Go.Proofs.YtamhjodppdodfaaGreatDoor.typ Go.Proofs.YtamhjodppdodfaaGreatDoor.big Go.Proofs.YtamhjodppdodfaaGreatDoor.ins Go.Proofs.YtamhjodppdodfaaGreatDoor.ord Go.Proofs.YtamhjodppdodfaaGreatDoor.note Go.Proofs.YtamhjodppdodfaaGreatDoor.txt
set_option linter.unusedVariables false
set_option linter.unusedSimpArgs false

/-- An order that is drawn for an instance can be added, when no order has its name. -/
theorem add_ok {x : Ins} {seed : Int} (h : insF x = []) (hn : x.orders.length < 10) (hp : 1 ≤ x.net.places.length) (ht : 1 ≤ x.types.length) (hne : ∀ o ∈ x.orders, sameS o.name (ordN x.orders.length) = false) :
    insF (addI x (ordF seed (flt.dimsN x.types) x.net.places.length x.orders.length)) = [] := by
  rw [par.insF_nil] at h ⊢
  obtain ⟨h1, h2, h3, h4⟩ := h
  refine ⟨h1, h2, ?_, ?_⟩
  · unfold insO at h3 ⊢
    rw [par.ofltsTo_nil] at h3
    show ord.ofltsTo ((x.net.places.length : Int) - 1) (flt.dimsN x.types) x.types.length (x.orders ++ [_]) (x.orders ++ [_]).length = []
    rw [par.ofltsTo_nil]
    refine ⟨by simp; omega, fun j q hj hq => ?_⟩
    rcases Nat.lt_or_ge j x.orders.length with hlt | hge
    · rw [List.getElem?_append_left hlt] at hq
      exact par.errsO_part (h3.2 j q hlt hq) (fun y hy => by rw [List.take_append_of_le_length (by omega)] at hy; exact hy)
    · obtain rfl : j = x.orders.length := by simp at hj; omega
      rw [List.getElem?_append_right (Nat.le_refl _), Nat.sub_self] at hq
      have hq' : ordF seed (flt.dimsN x.types) x.net.places.length x.orders.length = q := Option.some.inj hq
      obtain ⟨w3, w4, w5, w6, w7, w8⟩ := ord_num (s := seed) (dims := flt.dimsN x.types) (n := x.orders.length) hp ht
      have w1 : nameB q.name = true := by rw [← hq']; exact ordN_ok _ hn
      have w2 : (((x.orders ++ [ordF seed (flt.dimsN x.types) x.net.places.length x.orders.length]).take x.orders.length).any fun y => sameS y.name q.name) = false := by
        rw [List.take_append_of_le_length (Nat.le_refl _), List.take_length, List.any_eq_false]
        intro y hy
        rw [← hq']
        show ¬ sameS y.name (ordN x.orders.length) = true
        rw [hne y hy]
        decide
      rw [hq'] at w2 w3 w4 w5 w6 w7 w8
      unfold ord.errsO
      rw [hq', w1, w2, w3, w4, w5, w6, w7, w8]
      rfl
  · unfold insR rul.rulesF at h4 ⊢
    rw [List.append_eq_nil_iff, par.pairs_nil, par.pairs_nil] at h4
    show rul.pairsTo ((x.orders ++ [_]).length) _ _ x.apart x.apart.length ++ rul.pairsTo ((x.orders ++ [_]).length) _ _ x.before x.before.length = []
    rw [List.append_eq_nil_iff, par.pairs_nil, par.pairs_nil]
    have key : ∀ p : Int × Int, rul.badB x.orders.length p = false → rul.badB ((x.orders ++ [ordF seed (flt.dimsN x.types) x.net.places.length x.orders.length]).length : Nat) p = false := fun p hp => by
      obtain ⟨a1, a2, a3⟩ := par.bad_no hp
      exact par.bad_of (by rw [List.length_append]; simp; omega) (by rw [List.length_append]; simp; omega) a3
    exact ⟨⟨h4.1.1, fun p hp => key p (h4.1.2.1 p hp), h4.1.2.2⟩, ⟨h4.2.1, fun p hp => key p (h4.2.2.1 p hp), h4.2.2.2⟩⟩
def fitsB (x : Ins) : Prop := (x.orders.length ≤ 10 ∧ x.types.length ≤ 2 ∧ x.net.places.length ≤ 6 ∧ x.net.arcs.length ≤ 40 ∧ x.apart.length ≤ 4 ∧ x.before.length ≤ 4) ∧ insF x = []
instance (x : Ins) : Decidable (fitsB x) := by unfold fitsB; infer_instance
set_option maxRecDepth 20000 in
set_option maxHeartbeats 4000000 in
theorem fits_any (x : Ins) (P : InP) (w : World) (h : InAt w w.heap.size x P) (hl : RLim x) :
    Calls Tryz.prog 11 #[InV x P, .int .i64 10] w fun e w' => e = .returned (.bool (decide (fitsB x))) ∧ Below w.heap.size w w' := by
  obtain ⟨W0, hW0⟩ : ∃ W0, w.alloc (.cells (insCs x P).toArray 30) = W0 := ⟨_, rfl⟩
  have hB0 : Below w.heap.size w W0 := by rw [← hW0]; exact (Below.refl _ _).alloc (Nat.le_refl _) _
  have z0 := hB0.size
  have b0 : SixAt W0 w.heap.size (insCs x P) := by rw [← hW0]; exact World.alloc_heap_new w _
  have hs0 : w.heap.size < W0.heap.size := by rw [← hW0]; simp
  have HX := Lib.hid (fun w' (h' : Below W0.heap.size W0 w') => (b0.below h'))
  have HI := Lib.hid (fun w' (h' : Below W0.heap.size W0 w') => (h.go hB0).go h')
  have hW1 : w.alloc (.cells #[.slice P.a0 x.net.places.length P.c0, .slice P.a1 x.net.arcs.length P.c1, .slice P.a2 x.types.length P.c2, .slice P.a3 x.orders.length P.c3, .slice P.a4 x.apart.length P.c4, .slice P.a5 x.before.length P.c5] 30) = W0 := hW0
  have HW1 := Lib.hid hW1
  have C0 := Below.refl W0.heap.size W0
  clear hW0 hW1 b0
  simp only [InV]
  have HL := Lib.hid hl
  obtain ⟨n0, hn0⟩ : ∃ n, x.net.places.length = n := ⟨_, rfl⟩
  obtain ⟨n1, hn1⟩ : ∃ n, x.net.arcs.length = n := ⟨_, rfl⟩
  obtain ⟨n2, hn2⟩ : ∃ n, x.types.length = n := ⟨_, rfl⟩
  obtain ⟨n3, hn3⟩ : ∃ n, x.orders.length = n := ⟨_, rfl⟩
  obtain ⟨n4, hn4⟩ : ∃ n, x.apart.length = n := ⟨_, rfl⟩
  obtain ⟨n5, hn5⟩ : ∃ n, x.before.length = n := ⟨_, rfl⟩
  have x0 : W0.cell? ⟨w.heap.size, 0, none⟩ = some (.slice P.a0 n0 P.c0) := by rw [← hn0]; exact (HX.out _ C0).cell (j := 0) rfl
  have x1 : W0.cell? ⟨w.heap.size, 1, none⟩ = some (.slice P.a1 n1 P.c1) := by rw [← hn1]; exact (HX.out _ C0).cell (j := 1) rfl
  have x2 : W0.cell? ⟨w.heap.size, 2, none⟩ = some (.slice P.a2 n2 P.c2) := by rw [← hn2]; exact (HX.out _ C0).cell (j := 2) rfl
  have x3 : W0.cell? ⟨w.heap.size, 3, none⟩ = some (.slice P.a3 n3 P.c3) := by rw [← hn3]; exact (HX.out _ C0).cell (j := 3) rfl
  have x4 : W0.cell? ⟨w.heap.size, 4, none⟩ = some (.slice P.a4 n4 P.c4) := by rw [← hn4]; exact (HX.out _ C0).cell (j := 4) rfl
  have x5 : W0.cell? ⟨w.heap.size, 5, none⟩ = some (.slice P.a5 n5 P.c5) := by rw [← hn5]; exact (HX.out _ C0).cell (j := 5) rfl
  rw [hn0, hn1, hn2, hn3, hn4, hn5]
  rw [hn0, hn1, hn2, hn3, hn4, hn5] at HW1
  have HD : Hid (fitsB x ↔ (n3 ≤ 10 ∧ n2 ≤ 2 ∧ n0 ≤ 6 ∧ n1 ≤ 40 ∧ n4 ≤ 4 ∧ n5 ≤ 4) ∧ insF x = []) := Lib.hid (by unfold fitsB; rw [hn0, hn1, hn2, hn3, hn4, hn5])
  clear hl h hn0 hn1 hn2 hn3 hn4 hn5
  go_enter Tryz.func11, Tryz.ntmps11
  go_upto_region 1 with fail
  rw [HW1.out]
  clear HW1
  by_cases h1 : ¬ (n3 : Int) ≤ 10
  · skip
    have HF : Hid (decide (fitsB x) = false) := Lib.hid (decide_eq_false (fun hf => by have := (HD.out.1 hf).1; omega))
    go_wp2_with fail
    go_ret
    exact ⟨by rw [HF.out]; rfl, hB0⟩
  by_cases h2 : ¬ (n2 : Int) ≤ 2
  · have h1' : (n3 : Int) ≤ 10 := by omega
    clear h1
    have HF : Hid (decide (fitsB x) = false) := Lib.hid (decide_eq_false (fun hf => by have := (HD.out.1 hf).1; omega))
    go_wp2_with fail
    go_ret
    exact ⟨by rw [HF.out]; rfl, hB0⟩
  by_cases h3 : ¬ (n0 : Int) ≤ 6
  · have h1' : (n3 : Int) ≤ 10 := by omega
    have h2' : (n2 : Int) ≤ 2 := by omega
    clear h1 h2
    have HF : Hid (decide (fitsB x) = false) := Lib.hid (decide_eq_false (fun hf => by have := (HD.out.1 hf).1; omega))
    go_wp2_with fail
    go_ret
    exact ⟨by rw [HF.out]; rfl, hB0⟩
  by_cases h4 : ¬ (n1 : Int) ≤ 40
  · have h1' : (n3 : Int) ≤ 10 := by omega
    have h2' : (n2 : Int) ≤ 2 := by omega
    have h3' : (n0 : Int) ≤ 6 := by omega
    clear h1 h2 h3
    have HF : Hid (decide (fitsB x) = false) := Lib.hid (decide_eq_false (fun hf => by have := (HD.out.1 hf).1; omega))
    go_wp2_with fail
    go_ret
    exact ⟨by rw [HF.out]; rfl, hB0⟩
  by_cases h5 : ¬ (n4 : Int) ≤ 4
  · have h1' : (n3 : Int) ≤ 10 := by omega
    have h2' : (n2 : Int) ≤ 2 := by omega
    have h3' : (n0 : Int) ≤ 6 := by omega
    have h4' : (n1 : Int) ≤ 40 := by omega
    clear h1 h2 h3 h4
    have HF : Hid (decide (fitsB x) = false) := Lib.hid (decide_eq_false (fun hf => by have := (HD.out.1 hf).1; omega))
    go_wp2_with fail
    go_ret
    exact ⟨by rw [HF.out]; rfl, hB0⟩
  by_cases h6 : ¬ (n5 : Int) ≤ 4
  · have h1' : (n3 : Int) ≤ 10 := by omega
    have h2' : (n2 : Int) ≤ 2 := by omega
    have h3' : (n0 : Int) ≤ 6 := by omega
    have h4' : (n1 : Int) ≤ 40 := by omega
    have h5' : (n4 : Int) ≤ 4 := by omega
    clear h1 h2 h3 h4 h5
    have HF : Hid (decide (fitsB x) = false) := Lib.hid (decide_eq_false (fun hf => by have := (HD.out.1 hf).1; omega))
    go_wp2_with fail
    go_ret
    exact ⟨by rw [HF.out]; rfl, hB0⟩
  have h1' : (n3 : Int) ≤ 10 := by omega
  have h2' : (n2 : Int) ≤ 2 := by omega
  have h3' : (n0 : Int) ≤ 6 := by omega
  have h4' : (n1 : Int) ≤ 40 := by omega
  have h5' : (n4 : Int) ≤ 4 := by omega
  have h6' : (n5 : Int) ≤ 4 := by omega
  clear h1 h2 h3 h4 h5 h6
  have HSZ : Hid (n3 ≤ 10 ∧ n2 ≤ 2 ∧ n0 ≤ 6 ∧ n1 ≤ 40 ∧ n4 ≤ 4 ∧ n5 ≤ 4) := Lib.hid (by omega)
  go_wp2_with ((with_reducible refine wpList_loadG stIns _ rfl ⟨w.heap.size, 0, none⟩ (insCs (x) P) ?_ ?_ ?_ ?_ ?_); exact rfl; exact rfl; exact (HX.out _ C0).cells; exact rfl)
  refine (richeck_any x P W0 (HI.out _ C0) HL.out).mono ?_
  rintro e w1 ⟨A1, c1, rfl, hown1, b1⟩
  have HB1 := Lib.hid (hB0.trans (b1.mono z0))
  clear hown1 b1
  obtain ⟨E, hE⟩ : ∃ E, insF x = E := ⟨_, rfl⟩
  rw [hE] at HD ⊢
  clear hE
  rcases E with _ | ⟨f, fs⟩
  · have HF : Hid (decide (fitsB x) = true) := Lib.hid (decide_eq_true (HD.out.2 ⟨HSZ.out, rfl⟩))
    go_wp2_with fail
    go_ret
    exact ⟨by rw [HF.out]; rfl, HB1.out⟩
  · have HF : Hid (decide (fitsB x) = false) := Lib.hid (decide_eq_false (fun hf => by have := (HD.out.1 hf).2; cases this))
    have hnn : (((f :: fs).length : Int) == 0) = false := by simp; omega
    obtain ⟨m, hm⟩ : ∃ m, (f :: fs).length = m := ⟨_, rfl⟩
    rw [hm] at hnn ⊢
    go_wp2_with fail
    go_ret
    exact ⟨by rw [HF.out]; rfl, HB1.out⟩
def zeroO : Ord := ⟨⟨#[]⟩, [], ⟨0, 0, 0, 0⟩, ⟨0, 0, 0, 0⟩, 0, 0, 0, 0, 0, false⟩
/-- What Order answers, as an order and an error. -/
def ordR (seed : Int) (x : Ins) : Ord × Int := match ordE seed x with
  | .error k => (zeroO, k)
  | .ok o => (o, 0)
theorem OrdOut.gen {w w' : World} {s : Int} {x : Ins} {e : Ending} (hd : flt.dimsN x.types ≤ 1000) (h : OrdOut w (ordE s x) e w') : ∃ A c, e = .returned (.tuple #[.agg (OrdCells (ordR s x).1 A c).toArray, .int .i64 (ordR s x).2]) ∧ Ints w' w'.heap.size A (ordR s x).1.load ∧ Below w.heap.size w w' := by
  unfold ordR
  cases hE : ordE s x with
  | error k =>
    rw [hE] at h
    obtain ⟨rfl, hb⟩ := h
    exact ⟨none, 0, rfl, Ints.nil, hb⟩
  | ok o =>
    rw [hE] at h
    obtain ⟨A, c, rfl, hown, hb⟩ := h
    have hl : o.load.length ≤ 1000 := by
      unfold ordE at hE
      split at hE
      · cases hE
      · split at hE
        · cases hE
        · injection hE with hE
          rw [← hE]
          show (loadTo s (flt.dimsN x.types)).length ≤ _
          rw [loadTo_len]
          exact hd
    exact ⟨A, c, rfl, Ints.of_own hown (show o.load.length ≤ _ by omega), hb⟩
set_option maxRecDepth 20000 in
set_option maxHeartbeats 4000000 in
theorem lawOrders_any (seed : Int) (x : Ins) (P : InP) (w : World) (h : InAt w w.heap.size x P) (hl : RLim x) :
    Calls Tryz.prog 4 #[.int .i64 seed, InV x P] w fun e w' => e = .returned (.bool true) ∧ Below w.heap.size w w' := by
  obtain ⟨W0, hW0⟩ : ∃ W0, w.alloc (.cells (insCs x P).toArray 30) = W0 := ⟨_, rfl⟩
  have hB0 : Below w.heap.size w W0 := by rw [← hW0]; exact (Below.refl _ _).alloc (Nat.le_refl _) _
  have z0 := hB0.size
  have b0 : SixAt W0 w.heap.size (insCs x P) := by rw [← hW0]; exact World.alloc_heap_new w _
  have hs0 : w.heap.size < W0.heap.size := by rw [← hW0]; simp
  have HX := Lib.hid (fun w' (h' : Below W0.heap.size W0 w') => (b0.below h'))
  have HI := Lib.hid (fun w' (h' : Below W0.heap.size W0 w') => (h.go hB0).go h')
  have hW1 : w.alloc (.cells #[.slice P.a0 x.net.places.length P.c0, .slice P.a1 x.net.arcs.length P.c1, .slice P.a2 x.types.length P.c2, .slice P.a3 x.orders.length P.c3, .slice P.a4 x.apart.length P.c4, .slice P.a5 x.before.length P.c5] 30) = W0 := hW0
  have HW1 := Lib.hid hW1
  have C0 := Below.refl W0.heap.size W0
  clear hW0 hW1 b0
  simp only [InV]
  have HL := Lib.hid hl
  have HOR := Lib.hid (fun w' (h' : Below W0.heap.size W0 w') => h.orders.below (hB0.trans (h'.mono z0)))
  obtain ⟨N, hN⟩ : ∃ N, x.orders.length = N := ⟨_, rfl⟩
  have HN := Lib.hid hN
  rw [hN]
  rw [hN] at HW1
  clear hl h hN
  go_enter Tryz.func4, Tryz.ntmps4
  go_upto_region 1 with fail
  rw [HW1.out]
  clear HW1
  go_wp2_with ((with_reducible refine wpList_loadG stIns _ rfl ⟨w.heap.size, 0, none⟩ (insCs (x) P) ?_ ?_ ?_ ?_ ?_); exact rfl; exact rfl; exact (HX.out _ C0).cells; exact rfl)
  refine (fits_any x P W0 (HI.out _ C0) HL.out).mono ?_
  rintro e w1 ⟨rfl, b1⟩
  have HB1 := Lib.hid b1
  clear b1
  by_cases hF : fitsB x
  rotate_left
  · rw [decide_eq_false hF]
    go_wp2_with fail
    refine (example_any w1).mono ?_
    rintro e w9 ⟨rfl, b9⟩
    have HB9 := Lib.hid (HB1.out.trans (b9.mono HB1.out.size))
    clear b9
    go_wp2_with fail
    go_ret
    exact ⟨rfl, hB0.trans (HB9.out.mono z0)⟩
  rw [decide_eq_true hF]
  obtain ⟨hsz, hins⟩ := hF
  have HFI := Lib.hid hins
  have hd : flt.dimsN x.types ≤ 3 := lim.dims_few (par.insF_nil.1 hins).2.1
  have hN10 : N ≤ 10 := by rw [← HN.out]; exact hsz.1
  have HDP := Lib.hid (And.intro (show flt.dimsN x.types ≤ 1000 by omega) (show x.net.places.length ≤ 1000000 by omega))
  clear hd hsz hins
  go_wp2_with ((with_reducible refine wpList_loadG stIns _ rfl ⟨w.heap.size, 0, none⟩ (insCs (x) P) ?_ ?_ ?_ ?_ ?_); exact rfl; exact rfl; exact (HX.out _ HB1.out).cells; exact rfl)
  refine (order_any seed x P _ (HI.out _ HB1.out) HDP.out.1 HDP.out.2).mono ?_
  intro e w2 h2
  obtain ⟨A1, c1, rfl, hI1, b2⟩ := OrdOut.gen HDP.out.1 h2
  obtain ⟨r, hr⟩ : ∃ r, ordR seed x = r := ⟨_, rfl⟩
  have HR := Lib.hid hr
  rw [hr] at hI1 ⊢
  obtain ⟨o, k⟩ := r
  have HB2 := Lib.hid (HB1.out.trans (b2.mono HB1.out.size))
  have HI1 := Lib.hid hI1
  clear h2 hI1 b2 hr
  go_upto_region 4 with ((with_reducible refine wpList_storeL stOrd' rfl _ _ rfl w2.heap.size zOrd (OrdCells (o) A1 c1) ?_ ?_ ?_ ?_ ?_ (ordCells_one _ _ _) ?_); exact rfl; exact rfl; exact World.alloc_heap_new w2 _; exact rfl; exact rfl; intro w3 k1 k2 k3 k4; have K := Lib.hid (And.intro k1 (And.intro k2 (And.intro k3 k4))); clear k1 k2 k3 k4)
  (try simp only [Act.put, List.getElem_toArray, List.getElem_cons_succ, List.getElem_cons_zero, List.setIfInBounds_toArray, List.set_cons_zero, List.set_cons_succ])
  obtain ⟨k1, k2, k3, k4⟩ := K.out
  have b3 : Below w2.heap.size w2 w3 := ((Below.refl _ _).alloc (Nat.le_refl _) _).trans k4
  have HB3 := Lib.hid (HB2.out.trans (b3.mono HB2.out.size))
  have k1' : OrBlk w3 w2.heap.size o A1 c1 := k1
  obtain ⟨g1, hg1⟩ : ∃ g1, w2.heap.size = g1 := ⟨_, rfl⟩
  have HO3 : Hid (∀ w', Below w3.heap.size w3 w' → OrBlk w' g1 o A1 c1 ∧ Ints w' w'.heap.size A1 o.load) := Lib.hid fun w' hb => ⟨by rw [← hg1]; exact (hb.block _ (Array.getElem?_eq_some_iff.1 k1').1).trans k1', (HI1.out.below (b3.trans (hb.mono b3.size))).more (Nat.le_trans b3.size hb.size)⟩
  rw [hg1]
  clear k1 k2 k3 k4 K k1' hg1 b3 HI1
  go_wp2_with ((with_reducible refine wpList_loadG stIns _ rfl ⟨w.heap.size, 0, none⟩ (insCs (x) P) ?_ ?_ ?_ ?_ ?_); exact rfl; exact rfl; exact (HX.out _ HB3.out).cells; exact rfl)
  refine (rorder_any seed x P _ (HI.out _ HB3.out) HDP.out.1 HDP.out.2).mono ?_
  intro e w4 h4
  obtain ⟨A2, c2, rfl, hI2, b4⟩ := OrdOut.gen HDP.out.1 h4
  rw [HR.out] at hI2 ⊢
  have HB4 := Lib.hid b4
  have HI2 := Lib.hid hI2
  clear h4 hI2 b4
  go_upto_region 5 with ((with_reducible refine wpList_storeL stOrd' rfl _ _ rfl w4.heap.size zOrd (OrdCells (o) A2 c2) ?_ ?_ ?_ ?_ ?_ (ordCells_one _ _ _) ?_); exact rfl; exact rfl; exact World.alloc_heap_new w4 _; exact rfl; exact rfl; intro w5 k1 k2 k3 k4; have K := Lib.hid (And.intro k1 (And.intro k2 (And.intro k3 k4))); clear k1 k2 k3 k4)
  (try simp only [Act.put, List.getElem_toArray, List.getElem_cons_succ, List.getElem_cons_zero, List.setIfInBounds_toArray, List.set_cons_zero, List.set_cons_succ])
  obtain ⟨k1, k2, k3, k4⟩ := K.out
  have b5 : Below w4.heap.size w4 w5 := ((Below.refl _ _).alloc (Nat.le_refl _) _).trans k4
  have HB5 := Lib.hid (HB4.out.trans (b5.mono HB4.out.size))
  have k1' : OrBlk w5 w4.heap.size o A2 c2 := k1
  obtain ⟨g2, hg2⟩ : ∃ g2, w4.heap.size = g2 := ⟨_, rfl⟩
  have HO5 : Hid (OrBlk w5 g2 o A2 c2 ∧ Ints w5 w5.heap.size A2 o.load) := Lib.hid ⟨by rw [← hg2]; exact k1', (HI2.out.below b5).more b5.size⟩
  have HBW := Lib.hid (HB3.out.trans (HB5.out.mono HB3.out.size))
  have HOF : Hid (∀ w', Below w5.heap.size w5 w' → OrBlk w' g1 o A1 c1 ∧ Ints w' w'.heap.size A1 o.load) := Lib.hid fun w' hb => HO3.out _ (HB5.out.trans (hb.mono HB5.out.size))
  rw [hg2]
  clear k1 k2 k3 k4 K k1' hg2 b5 HI2 HB4 HO3 HB5 HB3 HB2
  have HE5 := Lib.hid (Below.refl w5.heap.size w5)
  have hkk : (k != k) = false := by simp
  go_wp2_with (first
    | ((with_reducible refine wpList_loadG stOrd' _ rfl ⟨g1, 0, none⟩ (OrdCells (o) A1 c1) ?_ ?_ ?_ ?_ ?_); exact rfl; exact rfl; exact (orBlk_at (HOF.out _ HE5.out).1); exact rfl)
    | ((with_reducible refine wpList_loadG stOrd' _ rfl ⟨g2, 0, none⟩ (OrdCells (o) A2 c2) ?_ ?_ ?_ ?_ ?_); exact rfl; exact rfl; exact (orBlk_at HO5.out.1); exact rfl))
  refine (orsame_any o o A1 c1 A2 c2 w5 (HOF.out _ HE5.out).2 HO5.out.2).mono ?_
  rw [sameO_self]
  rintro e w6 ⟨rfl, b6⟩
  have HB6 := Lib.hid (HBW.out.trans (b6.mono HBW.out.size))
  have HO6 : Hid (∀ w', Below w6.heap.size w6 w' → OrBlk w' g1 o A1 c1 ∧ Ints w' w'.heap.size A1 o.load) := Lib.hid fun w' hb => HOF.out _ (b6.trans (hb.mono b6.size))
  clear b6 hkk HO5 HOF HBW HE5
  have hcs : (k = 4 ∨ k = 2) ∨ (k = 0 ∧ ordF seed (flt.dimsN x.types) x.net.places.length N = o ∧ N < 10 ∧ 1 ≤ x.net.places.length ∧ 1 ≤ x.types.length) := by
    have h := HR.out
    unfold ordR ordE at h
    rw [HN.out] at h
    split at h
    · rename_i hE
      split at hE
      · injection hE with hE; injection h with _ h; omega
      · split at hE
        · injection hE with hE; injection h with _ h; omega
        · cases hE
    · rename_i q hE
      split at hE
      · cases hE
      · split at hE
        · cases hE
        · injection hE with hE
          injection h with h h'
          exact .inr ⟨h'.symm, by rw [hE]; exact h, by omega, by omega, by omega⟩
  rcases hcs with h42 | ⟨hk0, ho, hn10, hp1, ht1⟩
  · have hk0 : (k != 0) = true := by rcases h42 with rfl | rfl <;> rfl
    clear h42
    go_wp2_with fail
    refine (example_any w6).mono ?_
    rintro e w9 ⟨rfl, b9⟩
    have HB9 := Lib.hid (HB6.out.trans (b9.mono HB6.out.size))
    clear b9
    go_wp2_with fail
    go_ret
    exact ⟨rfl, hB0.trans (HB9.out.mono z0)⟩
  subst hk0
  have HOE := Lib.hid (And.intro ho (And.intro hp1 ht1))
  clear ho hp1 ht1
  go_upto_region 10 with fail
  go_loopw [9] (fun i wr => ∃ j : Nat, j ≤ N ∧ i = .int .i64 j ∧ Hid (∀ (q : Nat) y, q < j → x.orders[q]? = some y → (y.name.toList == o.name.toList) = false) ∧ Hid (Below w6.heap.size w6 wr)) (fun i _ => N - (intOf i).toNat)
  case atStart => exact ⟨0, by omega, rfl, Lib.hid (fun q y hq => absurd hq (by omega)), Lib.hid (Below.refl _ _)⟩
  case round =>
    obtain ⟨j, hj, rfl, HNE, HB⟩ := hrel
    have HBr := Lib.hid (HB6.out.trans (HB.out.mono HB6.out.size))
    have x3 : wr.cell? ⟨w.heap.size, 3, none⟩ = some (.slice P.a3 N P.c3) := by rw [← HN.out]; exact (HX.out _ HBr.out).cell (j := 3) rfl
    by_cases hlj : j < N
    · obtain ⟨y, hy⟩ : ∃ y, x.orders[j]? = some y := ⟨_, List.getElem?_eq_getElem (by rw [HN.out]; exact hlj)⟩
      obtain ⟨ad, cs0, hA, hadb, hat, hcs⟩ := (HOR.out _ HBr.out).elem hy
      obtain ⟨C, cc, rfl, hI, hf⟩ := rOrd_at hat
      have c1' : wr.cell? (ad.add (j * 16)) = some (.string y.name) := hcs 0 _ rfl
      have c2' : wr.cell? ⟨g1, 0, none⟩ = some (.string o.name) := orBlk_at (HO6.out _ HB.out).1 0 _ rfl
      have HY := Lib.hid hy
      have hj0 : (0 : Int) ≤ (j : Int) := by omega
      have hjn : (j : Int) < (N : Int) := by omega
      rw [hA] at x3
      clear hy hcs hat hI hf
      cases hs : (y.name.toList == o.name.toList)
      · go_upto_region 12 with fail
        go_quiet (fail)
        go_wp2_with fail
        exact ⟨⟨j + 1, by omega, by go_num, Lib.hid (fun q y' hq hy' => by
          rcases Nat.lt_or_ge q j with h | h
          · exact HNE.out q y' h hy'
          · obtain rfl : q = j := by omega
            rw [HY.out] at hy'
            obtain rfl := Option.some.inj hy'
            exact hs), Lib.hid (bel_drewN HB.out _)⟩, by simp [intOf]; omega⟩
      · go_upto_region 12 with fail
        go_quiet (fail)
        have HBd := Lib.hid (bel_drewN HBr.out nq)
        go_wp2_with fail
        refine (example_any (wr.drewN nq)).mono ?_
        rintro e w9 ⟨rfl, b9⟩
        have HB9 := Lib.hid (HBd.out.trans (b9.mono HBd.out.size))
        clear b9
        go_wp2_with fail
        go_ret
        exact ⟨rfl, hB0.trans (HB9.out.mono z0)⟩
    · have hjn : j = N := by omega
      subst hjn
      clear hlj
      have hjj : ¬ (j : Int) < (j : Int) := by omega
      have HOK : Hid (insF (addI x o) = []) := Lib.hid (by
        rw [← HOE.out.1, ← HN.out]
        refine add_ok HFI.out (by rw [HN.out]; exact hn10) HOE.out.2.1 HOE.out.2.2 (fun y hy => ?_)
        obtain ⟨q, hq⟩ := List.mem_iff_getElem?.1 hy
        have h := HNE.out q y (by rw [← HN.out]; exact (List.getElem?_eq_some_iff.1 hq).1) hq
        rw [← HOE.out.1] at h
        rw [HN.out]
        exact h)
      have HLM : Hid (Lim (addI x o)) := Lib.hid (lim.lim_of HOK.out)
      have HOFI : Hid (OrdFits o) := Lib.hid (by rw [← HOE.out.1]; exact ordF_fits _ _ _ _ HOE.out.2.1 HDP.out.2)
      go_wp2_with (first
        | ((with_reducible refine wpList_loadG stIns _ rfl ⟨w.heap.size, 0, none⟩ (insCs (x) P) ?_ ?_ ?_ ?_ ?_); exact rfl; exact rfl; exact (HX.out _ HBr.out).cells; exact rfl)
        | ((with_reducible refine wpList_loadG stOrd' _ rfl ⟨g1, 0, none⟩ (OrdCells (o) A1 c1) ?_ ?_ ?_ ?_ ?_); exact rfl; exact rfl; exact (orBlk_at (HO6.out _ HB.out).1); exact rfl))
      refine (add_any x P o A1 c1 wr (HI.out _ HBr.out) (HO6.out _ HB.out).2 HOFI.out (fun _ => HLM.out)).mono ?_
      unfold AddOutI
      rw [addR_good (by rw [HN.out]; omega) HOK.out]
      rintro e w7 ⟨P7, rfl, hI7, b7⟩
      have HB7 := Lib.hid (HBr.out.trans (b7.mono HBr.out.size))
      clear hI7 b7 x3 hjj
      go_upto_region 15 with fail
      obtain ⟨w8, hw3⟩ : ∃ W, w7.alloc (.cells (insCs ((addI x o)) P7).toArray 30) = W := ⟨_, rfl⟩
      have hw3' : w7.alloc (.cells #[.slice P7.a0 ((addI x o)).net.places.length P7.c0, .slice P7.a1 ((addI x o)).net.arcs.length P7.c1, .slice P7.a2 ((addI x o)).types.length P7.c2, .slice P7.a3 ((addI x o)).orders.length P7.c3, .slice P7.a4 ((addI x o)).apart.length P7.c4, .slice P7.a5 ((addI x o)).before.length P7.c5] 30) = w8 := hw3
      rw [hw3']
      have k1' : SixAt w8 w7.heap.size (insCs ((addI x o)) P7) := by rw [← hw3]; exact World.alloc_heap_new _ _
      have bx : Below w7.heap.size w7 w8 := by rw [← hw3]; exact (Below.refl _ _).alloc (Nat.le_refl _) _
      clear hw3 hw3'
      have b8 := bx
      have HB8 := Lib.hid (HB7.out.trans (b8.mono HB7.out.size))
      have hlen : (addI x o).orders.length = j + 1 := by show (x.orders ++ [o]).length = _; rw [List.length_append, HN.out]; rfl
      have x3 : w8.cell? ⟨w.heap.size, 3, none⟩ = some (.slice P.a3 j P.c3) := by rw [← HN.out]; exact (HX.out _ HB8.out).cell (j := 3) rfl
      have y3 : w8.cell? ⟨w7.heap.size, 3, none⟩ = some (.slice P7.a3 (j + 1) P7.c3) := by rw [← hlen]; exact k1'.cell (j := 3) rfl
      have heq : (((j + 1 : Nat) : Int) == (j : Int) + 1) = true := by simp
      clear bx b8 hlen k1'
      go_wp2_with fail
      refine (example_any w8).mono ?_
      rintro e w9 ⟨rfl, b9⟩
      have HB9 := Lib.hid (HB8.out.trans (b9.mono HB8.out.size))
      clear b9
      go_wp2_with fail
      go_ret
      exact ⟨rfl, hB0.trans (HB9.out.mono z0)⟩
end Go.Proofs.YtamhjodppdodfaaGreatDoor.gen

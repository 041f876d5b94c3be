/- split.Expand. -/
import Derived.Test.YtceceomaheobhaaGreatDoorSpQ
import Derived.Test.YtceceomaheobhaaGreatDoorInsV
import Derived.Test.YtceceomaheobhaaGreatDoorZ4
import Derived.Deep.DeepCutAuto
import Derived.Deep.CutBlock
namespace Go.Proofs.YtceceomaheobhaaGreatDoor.spl
open Go.RowKit
open Go.Proofs.YtceceomaheobhaaGreatDoor.lib Go.Proofs.YtceceomaheobhaaGreatDoor.rd Go.Proofs.YtceceomaheobhaaGreatDoor.app Go.Proofs.YtceceomaheobhaaGreatDoor.els Go.Proofs.YtceceomaheobhaaGreatDoor.loads Go.Proofs.YtceceomaheobhaaGreatDoor.typ Go.Proofs.YtceceomaheobhaaGreatDoor.big Go.Proofs.YtceceomaheobhaaGreatDoor.ins Go.Proofs.YtceceomaheobhaaGreatDoor.ord Go.Proofs.YtceceomaheobhaaGreatDoor.flts
set_option linter.unusedVariables false
set_option linter.unusedSimpArgs false

structure ExpLim (x : Ins) : Prop where
  orders : x.orders.length ≤ 1000
  order : ∀ o ∈ x.orders, o.name.size ≤ 1000000 ∧ -1000000 ≤ o.split ∧ o.split ≤ 1000000
  apart : x.apart.length ≤ 10000
  before : x.before.length ≤ 10000
def exB (x : Ins) (P : InP) (u3 u4 u5 : Value) : List Value := [.slice P.a0 x.net.places.length P.c0, .slice P.a1 x.net.arcs.length P.c1, .slice P.a2 x.types.length P.c2, u3, u4, u5]
theorem exB_one (x : Ins) (P : InP) (u3 u4 u5 : Value) (h3 : u3.oneCell' = true) (h4 : u4.oneCell' = true) (h5 : u5.oneCell' = true) : ∀ u ∈ exB x P u3 u4 u5, u.oneCell' = true := fun u hu => by
  simp only [exB, List.mem_cons, List.not_mem_nil, or_false] at hu
  rcases hu with rfl | rfl | rfl | rfl | rfl | rfl
  all_goals first | rfl | assumption
theorem parts_len {o : Ord} {ps : List Ord} (h : partsF o = some ps) : (ps.length : Int) = maxOne o.split := by
  unfold partsF at h
  unfold maxOne
  split at h
  · injection h with h
    subst h
    rw [if_neg (by omega)]
    rfl
  · split at h
    · injection h with h
      subst h
      rw [piecesTo_len, if_pos (by omega)]
      omega
    · cases h
theorem total_nonneg : ∀ os : List Ord, 0 ≤ totalO os
  | [] => by simp [totalO]
  | o :: os => by
    have ih := total_nonneg os
    unfold totalO at ih ⊢
    rw [List.map_cons, List.sum_cons]
    have : 1 ≤ maxOne o.split := by unfold maxOne; split <;> omega
    omega
theorem sprB_fits (p : Int × Int) (a : Nat) (x : Int) (l : List Int) (ha : a ≤ 100) : ∀ b, b ≤ 100 → ∀ q ∈ sprB p a x l b, (-100 ≤ q.1 ∧ q.1 ≤ 100000000) ∧ (-100 ≤ q.2 ∧ q.2 ≤ 100000000)
  | 0, _ => fun q hq => by simp [sprB] at hq
  | b + 1, hb => fun q hq => by
    rw [sprB] at hq
    rcases List.mem_append.1 hq with h | h
    · exact sprB_fits p a x l ha b (by omega) q h
    · split at h
      · unfold sprAt at h
        split at h
        · rw [List.mem_singleton] at h
          subst h
          show (-100 ≤ (a : Int) ∧ (a : Int) ≤ 100000000) ∧ (-100 ≤ (b : Int) ∧ (b : Int) ≤ 100000000)
          omega
        · cases h
      · cases h
theorem sprA_fits (p : Int × Int) (l : List Int) (hl : l.length ≤ 100) : ∀ a, a ≤ 100 → ∀ q ∈ sprA p l a, (-100 ≤ q.1 ∧ q.1 ≤ 100000000) ∧ (-100 ≤ q.2 ∧ q.2 ≤ 100000000)
  | 0, _ => fun q hq => by simp [sprA] at hq
  | a + 1, ha => fun q hq => by
    rw [sprA] at hq
    rcases List.mem_append.1 hq with h | h
    · exact sprA_fits p l hl a (by omega) q h
    · split at h
      · exact sprB_fits p a _ l (by omega) l.length hl q h
      · cases h
theorem sprPk_fits (ps : List (Int × Int)) (l : List Int) (hl : l.length ≤ 100) : ∀ k, ∀ q ∈ sprP ps l k, (-100 ≤ q.1 ∧ q.1 ≤ 100000000) ∧ (-100 ≤ q.2 ∧ q.2 ≤ 100000000)
  | 0 => fun q hq => by simp [sprP] at hq
  | k + 1 => fun q hq => by
    rw [sprP] at hq
    rcases List.mem_append.1 hq with h | h
    · exact sprPk_fits ps l hl k q h
    · split at h
      · exact sprA_fits _ l hl l.length hl q h
      · cases h
theorem sprP_fits (ps : List (Int × Int)) (l : List Int) (hl : l.length ≤ 100) {u : List (Int × Int)} (h : sprP ps l ps.length = u) : ∀ q ∈ u, (-100 ≤ q.1 ∧ q.1 ≤ 100000000) ∧ (-100 ≤ q.2 ∧ q.2 ≤ 100000000) := by
  rw [← h]
  exact sprPk_fits ps l hl _
theorem SpreadOut.gen {w w' : World} {u : List (Int × Int)} {e : Ending} (h : SpreadOut w u e w') : ∃ A n c k, e = .returned (.tuple #[.slice A n c, .int .i64 k]) ∧ Below w.heap.size w w' ∧ ((k = 0 ∧ u.length ≤ 16 ∧ n = u.length ∧ w'.ownsRow w.heap.size 88 2 (.slice A u.length c) u.length (ren.tcs u)) ∨ (k = 4 ∧ 16 < u.length)) := by
  rcases h with ⟨h1, A, c, rfl, h2, h3⟩ | ⟨h1, rfl, h3⟩
  · exact ⟨A, _, c, 0, rfl, h3, .inl ⟨rfl, h1, rfl, h2⟩⟩
  · exact ⟨none, 0, 0, 4, rfl, h3, .inr ⟨rfl, h1⟩⟩
theorem total_at {os : List Ord} {k : Nat} {o : Ord} (h : os[k]? = some o) : totalO (os.drop k) = maxOne o.split + totalO (os.drop (k + 1)) := by
  rw [drop_at' h]
  unfold totalO
  rw [List.map_cons, List.sum_cons]
set_option maxRecDepth 100000 in
set_option maxHeartbeats 8000000 in
theorem expand_any (x : Ins) (P : InP) (w : World) (h : InAt w w.heap.size x P) (hl : ExpLim x) : Calls Tryz.prog 15 #[InV x P] w (ExpOut w (expF x)) := by
  obtain ⟨W0, hW0⟩ : ∃ W0, (w.alloc (.cells (insCs x P).toArray 30)).alloc (.cells nilCs.toArray 30) = W0 := ⟨_, rfl⟩
  have hB0 : Below w.heap.size w W0 := by rw [← hW0]; exact ((Below.refl _ _).alloc (Nat.le_refl _) _).alloc (by simp) _
  have z0 := hB0.size
  have hs0 : w.heap.size + 1 < W0.heap.size := by rw [← hW0]; simp
  have b0 : SixAt W0 w.heap.size (insCs x P) := by
    rw [← hW0]
    unfold SixAt
    rw [Below.heap_alloc _ _ _ (by simp)]
    exact World.alloc_heap_new w _
  have b1 : SixAt W0 (w.heap.size + 1) nilCs := by
    rw [← hW0]
    have h := World.alloc_heap_new (w.alloc (.cells (insCs x P).toArray 30)) (.cells nilCs.toArray 30)
    simpa [SixAt] using h
  have HX := Lib.hid (fun w' (h' : Below W0.heap.size W0 w') => (And.intro (b0.below h') (And.intro (b1.below h') (h.below (hB0.trans (h'.mono z0))))))
  have hW1 : (w.alloc (.cells #[.slice P.a0 x.net.places.length P.c0, .slice P.a1 x.net.arcs.length P.c1, .slice P.a2 x.types.length P.c2, .slice P.a3 x.orders.length P.c3, .slice P.a4 x.apart.length P.c4, .slice P.a5 x.before.length P.c5] 30)).alloc (.cells #[.slice none 0 0, .slice none 0 0, .slice none 0 0, .slice none 0 0, .slice none 0 0, .slice none 0 0] 30) = W0 := hW0
  have HW1 := Lib.hid hW1
  have HL := Lib.hid hl
  have hno := hl.orders
  obtain ⟨n, hn⟩ : ∃ n, x.orders.length = n := ⟨_, rfl⟩
  have x3 : W0.cell? ⟨w.heap.size, 3, none⟩ = some (.slice P.a3 n P.c3) := by rw [← hn]; exact b0.cell (j := 3) rfl
  rw [hn] at hno HW1
  have HN := Lib.hid hn
  clear hW0 hW1 h b0 b1 hl
  simp only [InV]
  rw [hn]
  clear hn
  go_enter Tryz.func15, Tryz.ntmps15
  go_upto_region 1 with fail
  rw [HW1.out]
  go_wp2_with fail
  go_loopw [5, 7, 22] (fun s _ i wr => ∃ (k : Nat) (t : Int), k ≤ n ∧ i = .int .i64 k ∧ s = .int .i64 t ∧ (0 ≤ t ∧ t ≤ k * 1000000) ∧ Hid (t + totalO (x.orders.drop k) = totalO x.orders) ∧ Below W0.heap.size W0 wr) (fun _ _ i _ => n - (intOf i).toNat)
  case atStart => exact ⟨0, 0, by omega, rfl, rfl, by omega, Lib.hid (by simp), Below.refl _ _⟩
  case round =>
    obtain ⟨k, t, hk, rfl, rfl, htt, ht, hb⟩ := hrel
    by_cases hlt : k < n
    · obtain ⟨o, ho⟩ : ∃ o, x.orders[k]? = some o := ⟨_, List.getElem?_eq_getElem (by rw [HN.out]; exact hlt)⟩
      obtain ⟨ad, cs, hA, hadb, hat, hcs⟩ := ((HX.out _ hb).2.2.orders).elem ho
      obtain ⟨C, cc, rfl, hI, hf⟩ := rOrd_at hat
      have hlo := HL.out.order o (List.mem_of_getElem? ho)
      have HT := Lib.hid (total_at ho)
      have hk0 : (0 : Int) ≤ (k : Int) := by omega
      have hkn : (k : Int) < (n : Int) := by omega
      have HC := Lib.hid hcs
      have hz := hb.size
      clear ho hat hcs hI hf
      rw [hA]
      go_upto_region 5 with (first
        | ((with_reducible refine wpList_loadG stOrd' _ rfl (ad.add (k * 16)) (OrdCells o C cc) ?_ ?_ ?_ ?_ ?_); exact rfl; exact rfl; exact HC.out; exact rfl)
        | ((with_reducible refine wpList_storeL stOrd' rfl _ _ rfl wr.heap.size ordZs (OrdCells o C cc) ?_ ?_ ?_ ?_ ?_ (ordCells_one _ _ _) ?_); exact rfl; exact rfl; exact World.alloc_heap_new wr _; exact rfl; exact rfl; intro w2 k1 k2 k3 k4; have K := Lib.hid (And.intro k1 (And.intro k2 (And.intro k3 k4))); clear k1 k2 k3 k4))
      (try simp only [Act.put, List.getElem_toArray, List.getElem_cons_succ, List.getElem_cons_zero, List.setIfInBounds_toArray, List.set_cons_zero, List.set_cons_succ])
      obtain ⟨k1, k2, k3, k4⟩ := K.out
      have b2 : Below wr.heap.size wr w2 := ((Below.refl _ _).alloc (Nat.le_refl _) _).trans k4
      have HB2 := Lib.hid (hb.trans (b2.mono hz))
      have p12 : w2.cell? ⟨wr.heap.size, 12, none⟩ = some (.int .i64 o.split) := orBlk_at (show OrBlk w2 wr.heap.size o C cc from k1) 12 _ rfl
      clear k1 k2 k3 k4 b2 K
      have ht9 : (k : Int) * 1000000 ≤ 1000000000 := by omega
      by_cases h1 : 1 < o.split
      · have HM : Hid (maxOne o.split = o.split) := Lib.hid (by unfold maxOne; rw [if_pos h1])
        go_wp2_with fail
        exact ⟨⟨k + 1, t + o.split, by omega, by go_num, by first | rfl | go_num, by omega, Lib.hid (by rw [← ht.out, HT.out, HM.out]; omega), HB2.out⟩, by simp [intOf]; omega⟩
      · have HM : Hid (maxOne o.split = 1) := Lib.hid (by unfold maxOne; rw [if_neg h1])
        go_wp2_with fail
        exact ⟨⟨k + 1, t + 1, by omega, by go_num, by first | rfl | go_num, by omega, Lib.hid (by rw [← ht.out, HT.out, HM.out]; omega), HB2.out⟩, by simp [intOf]; omega⟩
    · have hkn : k = n := by omega
      subst hkn
      clear hlt
      have htt2 : totalO x.orders = t := by rw [← ht.out, List.drop_of_length_le (by rw [HN.out]; exact Nat.le_refl _)]; unfold totalO; simp
      have HT2 := Lib.hid htt2
      clear htt2 ht
      have B1 := hb
      have zr := hb.size
      by_cases h10 : 10 < t
      · have HE : Hid (expF x = .error 4) := Lib.hid (by unfold expF; rw [HT2.out, if_pos h10])
        have hRS := (HX.out _ hb).2.1
        go_wp2_with ((with_reducible refine wpList_storeL stIns rfl _ _ rfl (w.heap.size + 1) nilCs nilCs ?_ ?_ ?_ ?_ ?_ nilCs_one ?_); exact rfl; exact rfl; exact hRS; exact rfl; exact rfl; intro w3 k1 k2 k3 k4; have K := Lib.hid (And.intro k1 (And.intro k2 (And.intro k3 k4))); clear k1 k2 k3 k4)
        obtain ⟨k1, k2, k3, k4⟩ := K.out
        have k1' : SixAt w3 (w.heap.size + 1) nilCs := k1
        have r0 : w3.cell? ⟨w.heap.size + 1, 0, none⟩ = some (.slice none 0 0) := k1'.cell (j := 0) rfl
        have r1 : w3.cell? ⟨w.heap.size + 1, 1, none⟩ = some (.slice none 0 0) := k1'.cell (j := 1) rfl
        have r2 : w3.cell? ⟨w.heap.size + 1, 2, none⟩ = some (.slice none 0 0) := k1'.cell (j := 2) rfl
        have r3 : w3.cell? ⟨w.heap.size + 1, 3, none⟩ = some (.slice none 0 0) := k1'.cell (j := 3) rfl
        have r4 : w3.cell? ⟨w.heap.size + 1, 4, none⟩ = some (.slice none 0 0) := k1'.cell (j := 4) rfl
        have r5 : w3.cell? ⟨w.heap.size + 1, 5, none⟩ = some (.slice none 0 0) := k1'.cell (j := 5) rfl
        refine bodyPost_ret (v := .tuple #[InV nilI nilP, .slice none 0 0, .int .i64 4]) (by simp [results, Tryz.results15, go_sem, InV, nilI, nilP, r0, r1, r2, r3, r4, r5]) rfl ?_
        unfold ExpOut
        rw [HE.out]
        exact ⟨rfl, (hB0.trans (hb.mono z0)).trans (k4.mono (by omega))⟩
      have HE0 : Hid (expF x = expFin x (expOs x.orders x.orders 0 [] [])) := Lib.hid (by unfold expF; rw [HT2.out, if_neg h10])
      obtain ⟨W2, hW2⟩ : ∃ W2, W2 = wr := ⟨_, rfl⟩
      subst hW2
      have q0 : W2.cell? ⟨w.heap.size, 0, none⟩ = some (.slice P.a0 x.net.places.length P.c0) := (HX.out _ hb).1.cell (j := 0) rfl
      have q1 : W2.cell? ⟨w.heap.size, 1, none⟩ = some (.slice P.a1 x.net.arcs.length P.c1) := (HX.out _ hb).1.cell (j := 1) rfl
      have q2 : W2.cell? ⟨w.heap.size, 2, none⟩ = some (.slice P.a2 x.types.length P.c2) := (HX.out _ hb).1.cell (j := 2) rfl
      clear x3
      go_upto_region 10 with ((with_reducible refine wpList_storeL stIns rfl _ _ rfl W2.heap.size nilCs (exB x P (.slice none 0 0) (.slice none 0 0) (.slice none 0 0)) ?_ ?_ ?_ ?_ ?_ (exB_one x P _ _ _ rfl rfl rfl) ?_); exact rfl; exact rfl; exact World.alloc_heap_new W2 _; exact rfl; exact rfl; intro w3 k1 k2 k3 k4; have K := Lib.hid (And.intro k1 (And.intro k2 (And.intro k3 k4))); clear k1 k2 k3 k4)
      (try simp only [Act.put, List.getElem_toArray, List.getElem_cons_succ, List.getElem_cons_zero, List.setIfInBounds_toArray, List.set_cons_zero, List.set_cons_succ])
      obtain ⟨k1, k2, k3, k4⟩ := K.out
      have zz3 : W2.heap.size < w3.heap.size := (Array.getElem?_eq_some_iff.1 k1).1
      have b3 : Below W2.heap.size W2 w3 := ((Below.refl _ _).alloc (Nat.le_refl _) _).trans k4
      obtain ⟨H, hH⟩ : ∃ H, W2.heap.size = H := ⟨_, rfl⟩
      rw [hH] at k1 zz3 b3 zr ⊢
      have hst : ExpSt H (w.heap.size + 1) W2 (exB x P (.slice none 0 0) (.slice none 0 0) (.slice none 0 0)) [] [] w3 none 0 none 0 [] := ⟨World.ownsRow_nil _ _ _ _, World.ownsRow_nil _ _ _ _, .nil, k1, b3, zz3⟩
      have HST := Lib.hid hst
      have HB2 := Lib.hid hb
      have x33 : w3.cell? ⟨w.heap.size, 3, none⟩ = some (.slice P.a3 k P.c3) := by rw [← HN.out]; exact (HX.out _ (hb.trans (b3.mono zr))).1.cell (j := 3) rfl
      have htk := total_nonneg x.orders
      rw [HT2.out] at htk
      clear k1 k2 k3 k4 K zz3 b3 hst htt hk hb B1 q0 q1 q2
      have ht10 : t ≤ 10 := by omega
      go_wp2_with fail
      clear x33
      go_loopw [9, 10, 11, 12, 13, 15, 16, 43] (fun v _ _ _ _ _ _ i wr => ∃ (j : Nat) (ns : List Int) (os : List Ord) (B1 : Option Addr) (d1 : Nat) (B2 : Option Addr) (d2 : Nat) (cs : List Value), j ≤ k ∧ i = .int .i64 j ∧ v = .slice B1 ns.length d1 ∧ Hid (ExpSt H (w.heap.size + 1) W2 (exB x P (.slice B2 os.length d2) (.slice none 0 0) (.slice none 0 0)) ns os wr B1 d1 B2 d2 cs) ∧ Hid (expF x = expFin x (expOs x.orders (x.orders.drop j) j os ns)) ∧ Hid ((os.length : Int) + totalO (x.orders.drop j) = t ∧ ns.length = os.length ∧ ∀ q ∈ os, OrdFits q)) (fun _ _ _ _ _ _ _ i _ => k - (intOf i).toNat)
      case atStart => exact ⟨0, [], [], none, 0, none, 0, [], by omega, rfl, rfl, HST, HE0, Lib.hid ⟨by rw [← HT2.out]; simp, rfl, fun q hq => by cases hq⟩⟩
      case round =>
        obtain ⟨j, ns, os, B1, d1, B2, d2, cs, hj, rfl, rfl, hS, hE, hT⟩ := hrel
        by_cases hlt : j < k
        · obtain ⟨o, ho⟩ : ∃ o, x.orders[j]? = some o := ⟨_, List.getElem?_eq_getElem (by rw [HN.out]; exact hlt)⟩
          obtain ⟨W3, hW3⟩ : ∃ W3, W3 = wr := ⟨_, rfl⟩
          subst hW3
          have hb0 : Below W0.heap.size W0 W3 := HB2.out.trans (hS.out.bel.mono zr)
          have HW3 := Lib.hid hb0
          obtain ⟨ad, cs0, hA, hadb, hat, hcs⟩ := ((HX.out _ hb0).2.2.orders).elem ho
          obtain ⟨C, cc, rfl, hI, hf⟩ := rOrd_at hat
          have hlo := HL.out.order o (List.mem_of_getElem? ho)
          have HD : Hid (x.orders.drop j = o :: x.orders.drop (j + 1)) := Lib.hid (drop_at' ho)
          have HTT := Lib.hid (total_at ho)
          have hj0 : (0 : Int) ≤ (j : Int) := by omega
          have hjk : (j : Int) < (k : Int) := by omega
          have HC := Lib.hid hcs
          have HO := Lib.hid (And.intro hI (And.intro hf hlo.1))
          have hz := hb0.size
          clear ho hat hcs hI hf hb0
          rw [hA]
          go_upto_region 14 with (first
            | ((with_reducible refine wpList_loadG stOrd' _ rfl (ad.add (j * 16)) (OrdCells o C cc) ?_ ?_ ?_ ?_ ?_); exact rfl; exact rfl; exact HC.out; exact rfl)
            | ((with_reducible refine wpList_storeL stOrd' rfl _ _ rfl W3.heap.size ordZs (OrdCells o C cc) ?_ ?_ ?_ ?_ ?_ (ordCells_one _ _ _) ?_); exact rfl; exact rfl; exact World.alloc_heap_new W3 _; exact rfl; exact rfl; intro w4 k1 k2 k3 k4; have K := Lib.hid (And.intro k1 (And.intro k2 (And.intro k3 k4))); clear k1 k2 k3 k4))
          (try simp only [Act.put, List.getElem_toArray, List.getElem_cons_succ, List.getElem_cons_zero, List.setIfInBounds_toArray, List.set_cons_zero, List.set_cons_succ])
          obtain ⟨k1, k2, k3, k4⟩ := K.out
          have b4 : Below W3.heap.size W3 w4 := ((Below.refl _ _).alloc (Nat.le_refl _) _).trans k4
          have HO4 : Hid (OrBlk w4 W3.heap.size o C cc) := Lib.hid k1
          have hz4 : W3.heap.size < w4.heap.size := (Array.getElem?_eq_some_iff.1 k1).1
          have hS4 := Lib.hid (hS.out.below b4)
          have HI4 : Hid (Ints w4 w.heap.size C o.load) := Lib.hid (HO.out.1.below (b4.mono (by omega)))
          have HW4 := Lib.hid (HW3.out.trans (b4.mono hz))
          obtain ⟨p, hp⟩ : ∃ p, W3.heap.size = p := ⟨_, rfl⟩
          rw [hp] at HO4 hz4 hz ⊢
          clear k1 k2 k3 k4 K HC b4
          go_wp2_with ((with_reducible refine wpList_loadG stOrd' _ rfl ⟨p, 0, none⟩ (OrdCells o C cc) ?_ ?_ ?_ ?_ ?_); exact rfl; exact rfl; exact orBlk_at HO4.out; exact rfl)
          refine (parts_any o C cc w4 w.heap.size (by omega) HI4.out HO.out.2.1 HO.out.2.2).mono ?_
          cases hpf : partsF o
          case none =>
            rintro e w5 (⟨qs, A5, c5, cs5, h5, -⟩ | ⟨-, rfl, b5⟩)
            · cases h5
            have HE : Hid (expF x = .error 2) := Lib.hid (by rw [hE.out, HD.out]; unfold expOs; rw [hpf]; rfl)
            have HB5 := Lib.hid (HW4.out.trans (b5.mono (by omega)))
            have hRS := (HX.out _ HB5.out).2.1
            clear hpf
            go_wp2_with ((with_reducible refine wpList_storeL stIns rfl _ _ rfl (w.heap.size + 1) nilCs nilCs ?_ ?_ ?_ ?_ ?_ nilCs_one ?_); exact rfl; exact rfl; exact hRS; exact rfl; exact rfl; intro w6 k1 k2 k3 k4; have K := Lib.hid (And.intro k1 (And.intro k2 (And.intro k3 k4))); clear k1 k2 k3 k4)
            obtain ⟨k1, k2, k3, k4⟩ := K.out
            have k1' : SixAt w6 (w.heap.size + 1) nilCs := k1
            have r0 : w6.cell? ⟨w.heap.size + 1, 0, none⟩ = some (.slice none 0 0) := k1'.cell (j := 0) rfl
            have r1 : w6.cell? ⟨w.heap.size + 1, 1, none⟩ = some (.slice none 0 0) := k1'.cell (j := 1) rfl
            have r2 : w6.cell? ⟨w.heap.size + 1, 2, none⟩ = some (.slice none 0 0) := k1'.cell (j := 2) rfl
            have r3 : w6.cell? ⟨w.heap.size + 1, 3, none⟩ = some (.slice none 0 0) := k1'.cell (j := 3) rfl
            have r4 : w6.cell? ⟨w.heap.size + 1, 4, none⟩ = some (.slice none 0 0) := k1'.cell (j := 4) rfl
            have r5 : w6.cell? ⟨w.heap.size + 1, 5, none⟩ = some (.slice none 0 0) := k1'.cell (j := 5) rfl
            refine bodyPost_ret (v := .tuple #[InV nilI nilP, .slice none 0 0, .int .i64 2]) (by simp [results, Tryz.results15, go_sem, InV, nilI, nilP, r0, r1, r2, r3, r4, r5]) rfl ?_
            unfold ExpOut
            rw [HE.out]
            exact ⟨rfl, (hB0.trans (HB5.out.mono z0)).trans (k4.mono (by omega))⟩
          case some ps =>
            rintro e w5 (⟨qs, A5, c5, cs5, h5, rfl, own5, els5, fit5, b5⟩ | ⟨h5, -, -⟩)
            rotate_left
            · cases h5
            injection h5 with h5
            subst h5
            have hS5 := hS4.out.below b5
            have hlt5 : ∀ q, (Value.slice B1 ns.length d1).ownBlock = some q ∨ (Value.slice B2 os.length d2).ownBlock = some q → H < q ∧ q < p := fun q hq => by
              rcases hq with hq | hq
              · have := World.ownsRow.lt hS.out.own1 q hq; rw [hp] at this; omega
              · have := World.ownsRow.lt hS.out.own2 q hq; rw [hp] at this; omega
            have hHp : H < p := by have := hS.out.sz; omega
            have hQ5 : ∀ b, b < w.heap.size ∨ p ≤ b → ExpQ H (w.heap.size + 1) (.slice B1 ns.length d1) (.slice B2 os.length d2) b := fun b hb => by
              refine ⟨fun e => ?_, fun e => ?_, fun e => ?_, fun e => ?_⟩
              rotate_right
              · omega
              · omega
              · have := hlt5 b (.inl e.symm); omega
              · have := hlt5 b (.inr e.symm); omega
            have hPs : PsAt w5 (ExpQ H (w.heap.size + 1) (.slice B1 ns.length d1) (.slice B2 os.length d2)) A5 ps := PsAt.of_own own5 els5 (fun b _ hb => hQ5 b (by omega)) (fun b hb => hQ5 b (by omega))
            have hBx : BxAt w5 (ExpQ H (w.heap.size + 1) (.slice B1 ns.length d1) (.slice B2 os.length d2)) p o C cc := ⟨hQ5 p (by omega), (b5.block p hz4).trans HO4.out⟩
            have hTl := parts_len hpf
            have hE5 : expF x = expFin x (expThen x.orders (x.orders.drop (j + 1)) (j + 1) (expPs x.orders j (decide (1 < o.split)) ps os ns)) := by rw [hE.out, HD.out, expOs_cons hpf]
            have HF5 := Lib.hid fit5
            obtain ⟨T', hT'⟩ : ∃ T', totalO (x.orders.drop (j + 1)) = T' := ⟨_, rfl⟩
            have hT0 : 0 ≤ T' := by rw [← hT']; exact total_nonneg _
            obtain ⟨L, hL⟩ : ∃ L, ps.length = L := ⟨_, rfl⟩
            have hT5 : (os.length : Int) + (L : Int) + T' = t := by
              have h1 := hT.out.1
              rw [HTT.out, hT'] at h1
              rw [← hL]
              omega
            have H5 := Lib.hid (And.intro hS5 (And.intro hPs (And.intro hBx (And.intro hE5 hT.out))))
            have HT' := Lib.hid (And.intro hT' hL)
            rw [hL]
            clear hS5 hPs hBx hE5 hT' hL hlt5 hQ5 hTl own5 els5 fit5 hpf hT hE hS hS4 HO4 HI4 HTT HD HO HW3
            go_wp2_with fail
            go_loopw [9, 15, 16, 59] (fun v _ _ i wr => ∃ (m : Nat) (ns : List Int) (os : List Ord) (B1 : Option Addr) (d1 : Nat) (B2 : Option Addr) (d2 : Nat) (cs : List Value), m ≤ L ∧ i = .int .i64 m ∧ v = .slice B1 ns.length d1 ∧ Hid (ExpSt H (w.heap.size + 1) W2 (exB x P (.slice B2 os.length d2) (.slice none 0 0) (.slice none 0 0)) ns os wr B1 d1 B2 d2 cs) ∧ Hid (PsAt wr (ExpQ H (w.heap.size + 1) (.slice B1 ns.length d1) (.slice B2 os.length d2)) A5 ps) ∧ Hid (BxAt wr (ExpQ H (w.heap.size + 1) (.slice B1 ns.length d1) (.slice B2 os.length d2)) p o C cc) ∧ Hid (expF x = expFin x (expThen x.orders (x.orders.drop (j + 1)) (j + 1) (expPs x.orders j (decide (1 < o.split)) (ps.drop m) os ns))) ∧ Hid ((os.length : Int) + ((L : Int) - (m : Int)) + T' = t ∧ ns.length = os.length ∧ ∀ q ∈ os, OrdFits q)) (fun _ _ _ i _ => L - (intOf i).toNat)
            case atStart => exact ⟨0, ns, os, B1, d1, B2, d2, cs, by omega, rfl, rfl, Lib.hid H5.out.1, Lib.hid H5.out.2.1, Lib.hid H5.out.2.2.1, Lib.hid H5.out.2.2.2.1, Lib.hid ⟨by omega, H5.out.2.2.2.2.2.1, H5.out.2.2.2.2.2.2⟩⟩
            case round =>
              obtain ⟨m, ns, os, B1, d1, B2, d2, cs, hm, rfl, rfl, hS, hP, hX, hE, hT⟩ := hrel
              by_cases hlm : m < L
              · obtain ⟨q, hq⟩ : ∃ q, ps[m]? = some q := ⟨_, List.getElem?_eq_getElem (by rw [HT'.out.2]; exact hlm)⟩
                obtain ⟨W6, hW6⟩ : ∃ W6, W6 = wr := ⟨_, rfl⟩
                subst hW6
                obtain ⟨ad5, Ai, ci, hA5, hQad, hadlt, hcq, hIq⟩ := hP.out m q hq
                have HD : Hid (ps.drop m = q :: ps.drop (m + 1)) := Lib.hid (drop_at' hq)
                have hfq := HF5.out q (List.mem_of_getElem? hq)
                have HCq := Lib.hid hcq
                have HFq := Lib.hid hfq
                have hm0 : (0 : Int) ≤ (m : Int) := by omega
                have hml : (m : Int) < (L : Int) := by omega
                have hol : os.length ≤ 1000 := by have := hT.out.1; omega
                have hnl : ns.length ≤ 1000 := by have := hT.out.2.1; omega
                clear hq hcq hfq
                rw [hA5]
                go_upto_region 20 with (first
                  | ((with_reducible refine wpList_loadG stOrd' _ rfl (ad5.add (m * 16)) (OrdCells q Ai ci) ?_ ?_ ?_ ?_ ?_); exact rfl; exact rfl; exact HCq.out; exact rfl)
                  | ((with_reducible refine wpList_storeL stOrd' rfl _ _ rfl W6.heap.size ordZs (OrdCells q Ai ci) ?_ ?_ ?_ ?_ ?_ (ordCells_one _ _ _) ?_); exact rfl; exact rfl; exact World.alloc_heap_new W6 _; exact rfl; exact rfl; intro w7 k1 k2 k3 k4; have K := Lib.hid (And.intro k1 (And.intro k2 (And.intro k3 k4))); clear k1 k2 k3 k4))
                (try simp only [Act.put, List.getElem_toArray, List.getElem_cons_succ, List.getElem_cons_zero, List.setIfInBounds_toArray, List.set_cons_zero, List.set_cons_succ])
                obtain ⟨k1, k2, k3, k4⟩ := K.out
                have b7 : Below W6.heap.size W6 w7 := ((Below.refl _ _).alloc (Nat.le_refl _) _).trans k4
                have z7 := b7.size
                have HO7 : Hid (OrBlk w7 W6.heap.size q Ai ci) := Lib.hid k1
                have hz7 : W6.heap.size < w7.heap.size := (Array.getElem?_eq_some_iff.1 k1).1
                have HS7 := Lib.hid (hS.out.below b7)
                have HP7 := Lib.hid (hP.out.keep z7 (ExpQ.keep b7))
                have HX7 := Lib.hid (hX.out.keep (ExpQ.keep b7))
                have HI7 := Lib.hid (IntsOff.keep hIq z7 (ExpQ.keep b7))
                have hB7 : Below W0.heap.size W0 w7 := HB2.out.trans (HS7.out.bel.mono zr)
                have HB7 := Lib.hid hB7
                have c12 : w7.cell? ⟨p, 12, none⟩ = some (.int .i64 o.split) := orBlk_at HX7.out.2 12 _ rfl
                have c3 : w7.cell? ⟨H, 3, none⟩ = some (.slice B2 os.length d2) := HS7.out.box.cell (j := 3) rfl
                have c0 : w7.cell? ⟨W6.heap.size, 0, none⟩ = some (.string q.name) := orBlk_at HO7.out 0 _ rfl
                obtain ⟨p2, hp2⟩ : ∃ p2, W6.heap.size = p2 := ⟨_, rfl⟩
                rw [hp2] at c0 HO7 hz7 ⊢
                clear k1 k2 k3 k4 K b7 hP hX hIq HCq hS hB7 hp2
                by_cases hsp : 1 < o.split
                · have HDD : Hid (decide (1 < o.split) = true) := Lib.hid (decide_eq_true hsp)
                  have HR7 := Lib.hid (And.intro ((HX.out _ HB7.out).2.2.orders.more (Nat.le_trans z0 HB7.out.size)) (HS7.out.orders hol hT.out.2.2))
                  go_wp2_with ((with_reducible refine wpList_loadG stIns _ rfl ⟨w.heap.size, 0, none⟩ (insCs (x) P) ?_ ?_ ?_ ?_ ?_); exact rfl; exact rfl; exact (HX.out _ HB7.out).1.cells; exact rfl)
                  refine (named_any _ _ _ _ _ x.orders os P.a3 B2 P.c3 d2 q.name w7 HR7.out.1 HR7.out.2).mono ?_
                  rintro e w8 ⟨rfl, b8⟩
                  by_cases hne : namedE x.orders os q.name = 0
                  · have HZE := Lib.hid hne
                    have c3' : w8.cell? ⟨H, 3, none⟩ = some (.slice B2 os.length d2) := (HS7.out.below b8).box.cell (j := 3) rfl
                    have HB8 := Lib.hid b8
                    have z8 := b8.size
                    have HO8 : Hid (OrBlk w8 p2 q Ai ci) := Lib.hid ((b8.block p2 hz7).trans HO7.out)
                    have HS7' := Lib.hid (HS7.out.below b8)
                    have HP7' := Lib.hid (HP7.out.keep z8 (ExpQ.keep b8))
                    have HX7' := Lib.hid (HX7.out.keep (ExpQ.keep b8))
                    have HI7' := Lib.hid (IntsOff.keep HI7.out z8 (ExpQ.keep b8))
                    clear HS7 HP7 HX7 HI7
                    have HS7 := HS7'
                    have HP7 := HP7'
                    have HX7 := HX7'
                    have HI7 := HI7'
                    clear HS7' HP7' HX7' HI7'
                    have HOQ := Lib.hid (orBlk_at HO8.out)
                    rw [HZE.out]
                    clear hne b8 c3 c12 c0
                    have bl : Below w8.heap.size w8 (w8.alloc (.cells (OrdCells q Ai ci).toArray 42)) := (Below.refl _ _).alloc (Nat.le_refl _) _
                    have HSl := Lib.hid (HS7.out.below bl)
                    have HPl := Lib.hid (HP7.out.keep bl.size (ExpQ.keep bl))
                    have HXl := Lib.hid (HX7.out.keep (ExpQ.keep bl))
                    have HIl := Lib.hid (IntsOff.keep HI7.out bl.size (ExpQ.keep bl))
                    clear bl
                    go_upto_region 25 with (first
                      | ((with_reducible refine wpList_loadG stOrd' _ rfl ⟨p2, 0, none⟩ (OrdCells q Ai ci) ?_ ?_ ?_ ?_ ?_); exact rfl; exact rfl; exact HOQ.out; exact rfl)
                      | ((with_reducible refine wpList_bsliceL ord_elem rfl 1 [(0, .tmp 78)] rfl [(0, .agg (OrdCells q Ai ci).toArray)] (OrdCells q Ai ci) ordZs ?_ (by decide) (by decide) ord_zs (ord_fill1 q Ai ci) ?_); exact rfl)
                      | (at_builtin; refine wpList_app ord_elem _ _ rfl (H + 1) B2 os.length d2 cs rfl HSl.out.own2 ⟨w8.heap.size, 0, none⟩ 1 (OrdCells q Ai ci) rfl rfl (ord_new w8 q Ai ci) (ordCells_one q Ai ci) (by omega) HSl.out.sz rfl ?_; intro g9 c9 w9 hown9 hg9 hd9; have U9 := Lib.hid (HSl.out.push2 HIl.out hown9 hg9 hd9); have S9 := Lib.hid (And.intro (HPl.out.keep hg9.size U9.out.2) (HXl.out.keep U9.out.2)); have V9 := Lib.hid (U9.out.1.store 3 (.slice (some ⟨g9, 0, none⟩) (os.length + 1) c9)); have Y9 := Lib.hid (And.intro (S9.out.1.keep (grownBy_set w9 H 3 _).size V9.out.2) (S9.out.2.keep V9.out.2)); have V9s : Hid (H + 1 ≤ ((w9.setCell ⟨H, 3, none⟩ (.slice (some ⟨g9, 0, none⟩) (os.length + 1) c9)).alloc (.cells #[.int .i64 (j : Int)] 3)).heap.size) := Lib.hid (Nat.le_trans V9.out.1.sz (Below.alloc (Below.refl _ _) (Nat.le_refl _) _).size); have N9 : Hid (∀ (jj : Nat) u, [Value.int .i64 (j : Int)][jj]? = some u → ((w9.setCell ⟨H, 3, none⟩ (.slice (some ⟨g9, 0, none⟩) (os.length + 1) c9)).alloc (.cells #[.int .i64 (j : Int)] 3)).cell? ((⟨w9.heap.size, 0, none⟩ : Addr).add jj) = some u) := Lib.hid (by (have e : (w9.setCell ⟨H, 3, none⟩ (.slice (some ⟨g9, 0, none⟩) (os.length + 1) c9)).heap.size = w9.heap.size := by simp); (rw [← e]); (exact cell_one_new _ _ _)); have x9 : w9.cell? ⟨H, 3, none⟩ = some (.slice B2 os.length d2) := U9.out.1.box.cell (j := 3) rfl; have f9 : w9.frozen? ⟨H, 3, none⟩ = false := U9.out.1.box.frozen 3; clear hown9 hg9 hd9))
                    clear x9 f9
                    go_wp2_with (at_builtin; go_loud (refine wpList_app int_elem _ _ rfl (H + 1) B1 ns.length d1 (ns.map (.int .i64)) rfl (V9.out.1.own1.alloc _) ⟨w9.heap.size, 0, none⟩ 1 [.int .i64 (j : Int)] rfl rfl N9.out (fun u hu => by rw [List.mem_singleton] at hu; rw [hu]; rfl) (by omega) V9s.out rfl ?_); intro g10 c10 w10 hown10 hg10 hd10; have HZ0 := Lib.hid (And.intro hown10 (And.intro hg10 hd10)); clear hown10 hg10 hd10)
                    have bA : Below (w9.setCell ⟨H, 3, none⟩ (.slice (some ⟨g9, 0, none⟩) (os.length + 1) c9)).heap.size (w9.setCell ⟨H, 3, none⟩ (.slice (some ⟨g9, 0, none⟩) (os.length + 1) c9)) ((w9.setCell ⟨H, 3, none⟩ (.slice (some ⟨g9, 0, none⟩) (os.length + 1) c9)).alloc (.cells #[.int .i64 (j : Int)] 3)) := (Below.refl _ _).alloc (Nat.le_refl _) _
                    have Z := (V9.out.1.below bA).push1 (k := (j : Int)) HZ0.out.1 HZ0.out.2.1 HZ0.out.2.2
                    have ZP := (Y9.out.1.keep bA.size (ExpQ.keep bA)).keep HZ0.out.2.1.size Z.2
                    have ZX := (Y9.out.2.keep (ExpQ.keep bA)).keep Z.2
                    rw [hA5] at ZP
                    have eo : (os ++ [q]).length = os.length + 1 := by simp
                    have en : (ns ++ [(j : Int)]).length = ns.length + 1 := by simp
                    have ZT : (((os ++ [q]).length : Nat) : Int) + ((L : Int) - ((m + 1 : Nat) : Int)) + T' = t ∧ (ns ++ [(j : Int)]).length = (os ++ [q]).length ∧ ∀ q' ∈ os ++ [q], OrdFits q' := by
                      have h1 := hT.out
                      refine ⟨by rw [eo]; omega, by rw [eo, en, h1.2.1], fun q' hq' => ?_⟩
                      rcases List.mem_append.1 hq' with h | h
                      · exact h1.2.2 q' h
                      · rw [List.mem_singleton] at h
                        rw [h]
                        exact HFq.out
                    have ZS : ExpSt H (w.heap.size + 1) W2 (exB x P (.slice (some ⟨g9, 0, none⟩) (os ++ [q]).length c9) (.slice none 0 0) (.slice none 0 0)) (ns ++ [(j : Int)]) (os ++ [q]) w10 (some ⟨g10, 0, none⟩) c10 (some ⟨g9, 0, none⟩) c9 (cs ++ OrdCells q Ai ci) := by
                      rw [eo]
                      exact Z.1
                    refine ⟨⟨m + 1, ns ++ [(j : Int)], os ++ [q], some ⟨g10, 0, none⟩, c10, some ⟨g9, 0, none⟩, c9, cs ++ OrdCells q Ai ci, by omega, by go_num, by rw [en], Lib.hid ZS, Lib.hid ZP, Lib.hid ZX, Lib.hid ?_, Lib.hid ZT⟩, by simp [intOf]; omega⟩
                    rw [hE.out, HD.out, HDD.out, expPs_good HZE.out]
                  · have HE : Hid (expF x = .error (namedE x.orders os q.name)) := Lib.hid (by rw [hE.out, HD.out, HDD.out, expPs_bad hne]; rfl)
                    have HB8 := Lib.hid (HB7.out.trans (b8.mono HB7.out.size))
                    have hRS := (HX.out _ HB8.out).2.1
                    obtain ⟨er, her⟩ : ∃ er, namedE x.orders os q.name = er := ⟨_, rfl⟩
                    rw [her] at HE hne ⊢
                    clear her
                    go_wp2_with ((with_reducible refine wpList_storeL stIns rfl _ _ rfl (w.heap.size + 1) nilCs nilCs ?_ ?_ ?_ ?_ ?_ nilCs_one ?_); exact rfl; exact rfl; exact hRS; exact rfl; exact rfl; intro w9 k1 k2 k3 k4; have K := Lib.hid (And.intro k1 (And.intro k2 (And.intro k3 k4))); clear k1 k2 k3 k4)
                    obtain ⟨k1, k2, k3, k4⟩ := K.out
                    have k1' : SixAt w9 (w.heap.size + 1) nilCs := k1
                    have r0 : w9.cell? ⟨w.heap.size + 1, 0, none⟩ = some (.slice none 0 0) := k1'.cell (j := 0) rfl
                    have r1 : w9.cell? ⟨w.heap.size + 1, 1, none⟩ = some (.slice none 0 0) := k1'.cell (j := 1) rfl
                    have r2 : w9.cell? ⟨w.heap.size + 1, 2, none⟩ = some (.slice none 0 0) := k1'.cell (j := 2) rfl
                    have r3 : w9.cell? ⟨w.heap.size + 1, 3, none⟩ = some (.slice none 0 0) := k1'.cell (j := 3) rfl
                    have r4 : w9.cell? ⟨w.heap.size + 1, 4, none⟩ = some (.slice none 0 0) := k1'.cell (j := 4) rfl
                    have r5 : w9.cell? ⟨w.heap.size + 1, 5, none⟩ = some (.slice none 0 0) := k1'.cell (j := 5) rfl
                    refine bodyPost_ret (v := .tuple #[InV nilI nilP, .slice none 0 0, .int .i64 er]) (by simp [results, Tryz.results15, go_sem, InV, nilI, nilP, r0, r1, r2, r3, r4, r5]) rfl ?_
                    unfold ExpOut
                    rw [HE.out]
                    exact ⟨rfl, (hB0.trans (HB8.out.mono z0)).trans (k4.mono (by omega))⟩
                · have HDD : Hid (decide (1 < o.split) = false) := Lib.hid (decide_eq_false hsp)
                  have HOQ := Lib.hid (orBlk_at HO7.out)
                  have bl : Below w7.heap.size w7 (w7.alloc (.cells (OrdCells q Ai ci).toArray 42)) := (Below.refl _ _).alloc (Nat.le_refl _) _
                  have HSl := Lib.hid (HS7.out.below bl)
                  have HPl := Lib.hid (HP7.out.keep bl.size (ExpQ.keep bl))
                  have HXl := Lib.hid (HX7.out.keep (ExpQ.keep bl))
                  have HIl := Lib.hid (IntsOff.keep HI7.out bl.size (ExpQ.keep bl))
                  clear bl
                  go_upto_region 25 with (first
                    | ((with_reducible refine wpList_loadG stOrd' _ rfl ⟨p2, 0, none⟩ (OrdCells q Ai ci) ?_ ?_ ?_ ?_ ?_); exact rfl; exact rfl; exact HOQ.out; exact rfl)
                    | ((with_reducible refine wpList_bsliceL ord_elem rfl 1 [(0, .tmp 78)] rfl [(0, .agg (OrdCells q Ai ci).toArray)] (OrdCells q Ai ci) ordZs ?_ (by decide) (by decide) ord_zs (ord_fill1 q Ai ci) ?_); exact rfl)
                    | (at_builtin; refine wpList_app ord_elem _ _ rfl (H + 1) B2 os.length d2 cs rfl HSl.out.own2 ⟨w7.heap.size, 0, none⟩ 1 (OrdCells q Ai ci) rfl rfl (ord_new w7 q Ai ci) (ordCells_one q Ai ci) (by omega) HSl.out.sz rfl ?_; intro g9 c9 w9 hown9 hg9 hd9; have U9 := Lib.hid (HSl.out.push2 HIl.out hown9 hg9 hd9); have S9 := Lib.hid (And.intro (HPl.out.keep hg9.size U9.out.2) (HXl.out.keep U9.out.2)); have V9 := Lib.hid (U9.out.1.store 3 (.slice (some ⟨g9, 0, none⟩) (os.length + 1) c9)); have Y9 := Lib.hid (And.intro (S9.out.1.keep (grownBy_set w9 H 3 _).size V9.out.2) (S9.out.2.keep V9.out.2)); have V9s : Hid (H + 1 ≤ ((w9.setCell ⟨H, 3, none⟩ (.slice (some ⟨g9, 0, none⟩) (os.length + 1) c9)).alloc (.cells #[.int .i64 (j : Int)] 3)).heap.size) := Lib.hid (Nat.le_trans V9.out.1.sz (Below.alloc (Below.refl _ _) (Nat.le_refl _) _).size); have N9 : Hid (∀ (jj : Nat) u, [Value.int .i64 (j : Int)][jj]? = some u → ((w9.setCell ⟨H, 3, none⟩ (.slice (some ⟨g9, 0, none⟩) (os.length + 1) c9)).alloc (.cells #[.int .i64 (j : Int)] 3)).cell? ((⟨w9.heap.size, 0, none⟩ : Addr).add jj) = some u) := Lib.hid (by (have e : (w9.setCell ⟨H, 3, none⟩ (.slice (some ⟨g9, 0, none⟩) (os.length + 1) c9)).heap.size = w9.heap.size := by simp); (rw [← e]); (exact cell_one_new _ _ _)); have x9 : w9.cell? ⟨H, 3, none⟩ = some (.slice B2 os.length d2) := U9.out.1.box.cell (j := 3) rfl; have f9 : w9.frozen? ⟨H, 3, none⟩ = false := U9.out.1.box.frozen 3; clear hown9 hg9 hd9))
                  clear x9 f9
                  go_wp2_with (at_builtin; go_loud (refine wpList_app int_elem _ _ rfl (H + 1) B1 ns.length d1 (ns.map (.int .i64)) rfl (V9.out.1.own1.alloc _) ⟨w9.heap.size, 0, none⟩ 1 [.int .i64 (j : Int)] rfl rfl N9.out (fun u hu => by rw [List.mem_singleton] at hu; rw [hu]; rfl) (by omega) V9s.out rfl ?_); intro g10 c10 w10 hown10 hg10 hd10; have HZ0 := Lib.hid (And.intro hown10 (And.intro hg10 hd10)); clear hown10 hg10 hd10)
                  have bA : Below (w9.setCell ⟨H, 3, none⟩ (.slice (some ⟨g9, 0, none⟩) (os.length + 1) c9)).heap.size (w9.setCell ⟨H, 3, none⟩ (.slice (some ⟨g9, 0, none⟩) (os.length + 1) c9)) ((w9.setCell ⟨H, 3, none⟩ (.slice (some ⟨g9, 0, none⟩) (os.length + 1) c9)).alloc (.cells #[.int .i64 (j : Int)] 3)) := (Below.refl _ _).alloc (Nat.le_refl _) _
                  have Z := (V9.out.1.below bA).push1 (k := (j : Int)) HZ0.out.1 HZ0.out.2.1 HZ0.out.2.2
                  have ZP := (Y9.out.1.keep bA.size (ExpQ.keep bA)).keep HZ0.out.2.1.size Z.2
                  have ZX := (Y9.out.2.keep (ExpQ.keep bA)).keep Z.2
                  rw [hA5] at ZP
                  have eo : (os ++ [q]).length = os.length + 1 := by simp
                  have en : (ns ++ [(j : Int)]).length = ns.length + 1 := by simp
                  have ZT : (((os ++ [q]).length : Nat) : Int) + ((L : Int) - ((m + 1 : Nat) : Int)) + T' = t ∧ (ns ++ [(j : Int)]).length = (os ++ [q]).length ∧ ∀ q' ∈ os ++ [q], OrdFits q' := by
                    have h1 := hT.out
                    refine ⟨by rw [eo]; omega, by rw [eo, en, h1.2.1], fun q' hq' => ?_⟩
                    rcases List.mem_append.1 hq' with h | h
                    · exact h1.2.2 q' h
                    · rw [List.mem_singleton] at h
                      rw [h]
                      exact HFq.out
                  have ZS : ExpSt H (w.heap.size + 1) W2 (exB x P (.slice (some ⟨g9, 0, none⟩) (os ++ [q]).length c9) (.slice none 0 0) (.slice none 0 0)) (ns ++ [(j : Int)]) (os ++ [q]) w10 (some ⟨g10, 0, none⟩) c10 (some ⟨g9, 0, none⟩) c9 (cs ++ OrdCells q Ai ci) := by
                    rw [eo]
                    exact Z.1
                  refine ⟨⟨m + 1, ns ++ [(j : Int)], os ++ [q], some ⟨g10, 0, none⟩, c10, some ⟨g9, 0, none⟩, c9, cs ++ OrdCells q Ai ci, by omega, by go_num, by rw [en], Lib.hid ZS, Lib.hid ZP, Lib.hid ZX, Lib.hid ?_, Lib.hid ZT⟩, by simp [intOf]; omega⟩
                  rw [hE.out, HD.out, HDD.out, expPs_one]
              · have hml : L = m := by omega
                subst hml
                clear hlm
                have hd : ps.drop L = [] := List.drop_of_length_le (by rw [HT'.out.2]; exact Nat.le_refl _)
                have HE' : Hid (expF x = expFin x (expOs x.orders (x.orders.drop (j + 1)) (j + 1) os ns)) := Lib.hid (by rw [hE.out, hd]; rfl)
                have HT3 : Hid ((os.length : Int) + totalO (x.orders.drop (j + 1)) = t ∧ ns.length = os.length ∧ ∀ q ∈ os, OrdFits q) := Lib.hid ⟨by have := hT.out.1; rw [HT'.out.1]; omega, hT.out.2.1, hT.out.2.2⟩
                clear hd
                go_wp2_with fail
                exact ⟨⟨j + 1, ns, os, B1, d1, B2, d2, cs, by omega, by go_num, rfl, hS, HE', HT3⟩, by simp [intOf]; omega⟩
        · have hjk : k = j := by omega
          subst hjk
          clear hlt
          have hd : x.orders.drop k = [] := List.drop_of_length_le (by rw [HN.out]; exact Nat.le_refl _)
          have HE' : Hid (expF x = expFin x (.ok (os, ns))) := Lib.hid (by rw [hE.out, hd]; rfl)
          clear hd hE
          have hnl : ns.length ≤ 100 := by
            have h1 := hT.out.1
            have h2 := hT.out.2.1
            have h3 := total_nonneg (x.orders.drop k)
            omega
          have hol : os.length ≤ 1000 := by have h2 := hT.out.2.1; omega
          obtain ⟨W6, hW6⟩ : ∃ W6, W6 = wr := ⟨_, rfl⟩
          subst hW6
          have hB6 : Below W0.heap.size W0 W6 := HB2.out.trans (hS.out.bel.mono zr)
          have HB6 := Lib.hid hB6
          have zh6 : H < W6.heap.size := hS.out.sz
          have x4 : W6.cell? ⟨w.heap.size, 4, none⟩ = some (.slice P.a4 x.apart.length P.c4) := (HX.out _ hB6).1.cell (j := 4) rfl
          have HXI := Lib.hid (And.intro ((HX.out _ hB6).2.2.apart.more (Nat.le_trans z0 hB6.size)) (Ints.of_own hS.out.own1 (by omega)))
          clear hB6
          go_wp2_with fail
          refine (spread_any P.a4 P.c4 x.apart B1 d1 ns W6 HXI.out.1 HXI.out.2 HL.out.apart hnl).mono ?_
          obtain ⟨uA, huA⟩ : ∃ uA, sprP x.apart ns x.apart.length = uA := ⟨_, rfl⟩
          rw [huA]
          intro e w7 hsp7
          obtain ⟨A7, n7, c7, k7, rfl, b7, hk7⟩ := hsp7.gen
          have HK7 := Lib.hid hk7
          have HUA := Lib.hid huA
          have z7 := b7.size
          have HS7 := Lib.hid (hS.out.below b7)
          have y74 : w7.cell? ⟨H, 4, none⟩ = some (.slice none 0 0) := HS7.out.box.cell (j := 4) rfl
          have f74 : w7.frozen? ⟨H, 4, none⟩ = false := HS7.out.box.frozen 4
          clear hsp7 hk7 huA x4
          go_upto_region 30 with fail
          clear y74 f74
          obtain ⟨W8, hW8⟩ : ∃ W8, w7.setCell ⟨H, 4, none⟩ (.slice A7 n7 c7) = W8 := ⟨_, rfl⟩
          have hS8 : ExpSt H (w.heap.size + 1) W2 ((exB x P (.slice B2 os.length d2) (.slice none 0 0) (.slice none 0 0)).set 4 (.slice A7 n7 c7)) ns os W8 B1 d1 B2 d2 cs := by rw [← hW8]; exact (HS7.out.store 4 _).1
          have HK8 : Hid ((k7 = 0 ∧ uA.length ≤ 16 ∧ n7 = uA.length ∧ W8.ownsRow W6.heap.size 88 2 (.slice A7 uA.length c7) uA.length (ren.tcs uA)) ∨ (k7 = 4 ∧ 16 < uA.length)) := Lib.hid (by
            rcases HK7.out with ⟨h1, h2, h3, h4⟩ | h
            · refine .inl ⟨h1, h2, h3, ?_⟩
              rw [← hW8]
              exact ownsRow_setCell_below (a := ⟨H, 4, none⟩) h4 zh6 _
            · exact .inr h)
          have hB8 : Below W0.heap.size W0 W8 := HB2.out.trans (hS8.bel.mono zr)
          have zh8 : W6.heap.size ≤ W8.heap.size := by rw [← hW8]; simpa using z7
          have x5 : W8.cell? ⟨w.heap.size, 5, none⟩ = some (.slice P.a5 x.before.length P.c5) := (HX.out _ hB8).1.cell (j := 5) rfl
          have HS8 := Lib.hid hS8
          have HB8 := Lib.hid hB8
          have HXJ := Lib.hid (And.intro ((HX.out _ hB8).2.2.before.more (Nat.le_trans z0 hB8.size)) (Ints.of_own hS8.own1 (by omega)))
          rw [hW8]
          clear hW8 hS8 hB8 HK7 HS7 b7 z7
          go_wp2_with fail
          refine (spread_any P.a5 P.c5 x.before B1 d1 ns W8 HXJ.out.1 HXJ.out.2 HL.out.before hnl).mono ?_
          obtain ⟨uB, huB⟩ : ∃ uA, sprP x.before ns x.before.length = uA := ⟨_, rfl⟩
          rw [huB]
          intro e w9 hsp9
          obtain ⟨A9, n9, c9, k9, rfl, b9, hk9⟩ := hsp9.gen
          have HK9 := Lib.hid hk9
          have HUB := Lib.hid huB
          have z9 := b9.size
          have HS9 := Lib.hid (HS8.out.below b9)
          have y95 : w9.cell? ⟨H, 5, none⟩ = some (.slice none 0 0) := HS9.out.box.cell (j := 5) rfl
          have f95 : w9.frozen? ⟨H, 5, none⟩ = false := HS9.out.box.frozen 5
          clear hsp9 hk9 huB x5
          go_upto_region 31 with fail
          clear y95 f95
          obtain ⟨W10, hW10⟩ : ∃ W10, w9.setCell ⟨H, 5, none⟩ (.slice A9 n9 c9) = W10 := ⟨_, rfl⟩
          have hS10 : ExpSt H (w.heap.size + 1) W2 (((exB x P (.slice B2 os.length d2) (.slice none 0 0) (.slice none 0 0)).set 4 (.slice A7 n7 c7)).set 5 (.slice A9 n9 c9)) ns os W10 B1 d1 B2 d2 cs := by rw [← hW10]; exact (HS9.out.store 5 _).1
          have HK10 : Hid ((k9 = 0 ∧ uB.length ≤ 16 ∧ n9 = uB.length ∧ W10.ownsRow W8.heap.size 88 2 (.slice A9 uB.length c9) uB.length (ren.tcs uB)) ∨ (k9 = 4 ∧ 16 < uB.length)) := Lib.hid (by
            rcases HK9.out with ⟨h1, h2, h3, h4⟩ | h
            · refine .inl ⟨h1, h2, h3, ?_⟩
              rw [← hW10]
              exact ownsRow_setCell_below (a := ⟨H, 5, none⟩) h4 (by show H < _; omega) _
            · exact .inr h)
          have HK8' : Hid ((k7 = 0 ∧ uA.length ≤ 16 ∧ n7 = uA.length ∧ W10.ownsRow W6.heap.size 88 2 (.slice A7 uA.length c7) uA.length (ren.tcs uA)) ∨ (k7 = 4 ∧ 16 < uA.length)) := Lib.hid (by
            rcases HK8.out with ⟨h1, h2, h3, h4⟩ | h
            · refine .inl ⟨h1, h2, h3, ?_⟩
              rw [← hW10]
              exact ownsRow_setCell_below (a := ⟨H, 5, none⟩) (own_below h4 b9) zh6 _
            · exact .inr h)
          have hB10 : Below W0.heap.size W0 W10 := HB2.out.trans (hS10.bel.mono zr)
          have HS10 := Lib.hid hS10
          have HB10 := Lib.hid hB10
          have hRS := (HX.out _ hB10).2.1
          have hEF : expF x = if 16 < uA.length ∨ 16 < uB.length then .error 4 else .ok (⟨x.net, x.types, os, uA, uB⟩, ns) := by
            rw [HE'.out]
            show (if 16 < (sprP x.apart ns x.apart.length).length ∨ 16 < (sprP x.before ns x.before.length).length then _ else _) = _
            rw [HUA.out, HUB.out]
          have HEF := Lib.hid hEF
          rw [hW10]
          clear hW10 hS10 hB10 HK8 HK9 HS9 HS8 b9 z9 hEF
          by_cases hbad : k7 = 0 ∧ k9 = 0
          · obtain ⟨h7, h9⟩ := hbad
            rcases HK8'.out with ⟨-, u1, u2, u3⟩ | ⟨h, -⟩
            rotate_left
            · omega
            rcases HK10.out with ⟨-, v1, v2, v3⟩ | ⟨h, -⟩
            rotate_left
            · omega
            subst h7
            subst h9
            subst u2
            subst v2
            have HE5 : Hid (expF x = .ok (⟨x.net, x.types, os, uA, uB⟩, ns)) := Lib.hid (by rw [HEF.out, if_neg (by omega)])
            obtain ⟨Y, hY⟩ : ∃ Y, (⟨x.net, x.types, os, uA, uB⟩ : Ins) = Y := ⟨_, rfl⟩
            obtain ⟨Q, hQ⟩ : ∃ Q, (⟨P.a0, P.c0, P.a1, P.c1, P.a2, P.c2, B2, d2, A7, c7, A9, c9⟩ : InP) = Q := ⟨_, rfl⟩
            have HXY : Hid (SixAt W10 H (insCs Y Q)) := Lib.hid (by rw [← hY, ← hQ]; exact HS10.out.box)
            have HOW := Lib.hid (And.intro u1 (And.intro v1 (And.intro u3 v3)))
            have HYQ := Lib.hid (And.intro hY hQ)
            clear u1 v1 u3 v3 hY hQ HK8' HK10
            go_wp2_with (first
              | ((with_reducible refine wpList_loadG stIns _ rfl ⟨H, 0, none⟩ (insCs (Y) Q) ?_ ?_ ?_ ?_ ?_); exact rfl; exact rfl; exact HXY.out.cells; exact rfl)
              | ((with_reducible refine wpList_storeL stIns rfl _ _ rfl (w.heap.size + 1) nilCs (insCs Y Q) ?_ ?_ ?_ ?_ ?_ (insCs_one _ _) ?_); exact rfl; exact rfl; exact hRS; exact rfl; exact rfl; intro w11 k1 k2 k3 k4; have K := Lib.hid (And.intro k1 (And.intro k2 (And.intro k3 k4))); clear k1 k2 k3 k4))
            obtain ⟨k1, k2, k3, k4⟩ := K.out
            have k1' : SixAt w11 (w.heap.size + 1) (insCs Y Q) := k1
            have r0 : w11.cell? ⟨w.heap.size + 1, 0, none⟩ = some (.slice Q.a0 Y.net.places.length Q.c0) := k1'.cell (j := 0) rfl
            have r1 : w11.cell? ⟨w.heap.size + 1, 1, none⟩ = some (.slice Q.a1 Y.net.arcs.length Q.c1) := k1'.cell (j := 1) rfl
            have r2 : w11.cell? ⟨w.heap.size + 1, 2, none⟩ = some (.slice Q.a2 Y.types.length Q.c2) := k1'.cell (j := 2) rfl
            have r3 : w11.cell? ⟨w.heap.size + 1, 3, none⟩ = some (.slice Q.a3 Y.orders.length Q.c3) := k1'.cell (j := 3) rfl
            have r4 : w11.cell? ⟨w.heap.size + 1, 4, none⟩ = some (.slice Q.a4 Y.apart.length Q.c4) := k1'.cell (j := 4) rfl
            have r5 : w11.cell? ⟨w.heap.size + 1, 5, none⟩ = some (.slice Q.a5 Y.before.length Q.c5) := k1'.cell (j := 5) rfl
            refine bodyPost_ret (v := .tuple #[InV Y Q, .slice B1 ns.length d1, .int .i64 0]) (by simp [results, Tryz.results15, go_sem, InV, r0, r1, r2, r3, r4, r5]) rfl ?_
            clear r0 r1 r2 r3 r4 r5 k1'
            unfold ExpOut
            rw [HE5.out]
            have hI11 : InAt w11 w.heap.size x P := (HX.out _ HB10.out).2.2.below (k4.mono (by omega))
            have hB11 : Below w.heap.size w w11 := (hB0.trans (HB10.out.mono z0)).trans (k4.mono (by omega))
            have zz := hB11.size
            obtain ⟨e1, e2⟩ := HYQ.out
            subst e1
            subst e2
            have hE11 := ElsIn.keep HS10.out.els (Nat.le_of_eq k3.symm) (fun b hb hq => ⟨hq, k2 b hq.2.2.2⟩)
            have hO11 := own_other HS10.out.own2 k2 (by omega)
            have hN11 := own_other HS10.out.own1 k2 (by omega)
            have hA11 := own_other HOW.out.2.2.1 k2 (by omega)
            have hC11 := own_other HOW.out.2.2.2 k2 (by omega)
            refine ⟨_, B1, d1, rfl, ⟨hI11.places.more zz, hI11.arcs.more zz, hI11.types.more zz, ?_, ?_, ?_, hI11.capT, own_len_cap hO11, own_len_cap hA11, own_len_cap hC11⟩, Ints.of_own hN11 (by omega), hB11⟩
            · exact hE11.row (r := rOrd) (fun o A c => rfl) hO11 (fun o ho A c hi => rOrd_mk hi (hT.out.2.2 o ho)) (by omega)
            · exact two_fits hA11 (sprP_fits x.apart ns hnl HUA.out) (by show uA.length ≤ _; have := HOW.out.1; omega)
            · exact two_fits hC11 (sprP_fits x.before ns hnl HUB.out) (by show uB.length ≤ _; have := HOW.out.2.1; omega)
          · have HE4 : Hid (expF x = .error 4) := Lib.hid (by
              rw [HEF.out, if_pos]
              rcases HK8'.out with ⟨h1, -⟩ | ⟨-, h2⟩
              · rcases HK10.out with ⟨h3, -⟩ | ⟨-, h4⟩
                · exact absurd ⟨h1, h3⟩ hbad
                · exact .inr h4
              · exact .inl h2)
            by_cases hk7 : k7 = 0
            · have hk9 : ¬ k9 = 0 := fun h => hbad ⟨hk7, h⟩
              subst hk7
              clear hbad
              go_wp2_with ((with_reducible refine wpList_storeL stIns rfl _ _ rfl (w.heap.size + 1) nilCs nilCs ?_ ?_ ?_ ?_ ?_ nilCs_one ?_); exact rfl; exact rfl; exact hRS; exact rfl; exact rfl; intro w11 k1 k2 k3 k4; have K := Lib.hid (And.intro k1 (And.intro k2 (And.intro k3 k4))); clear k1 k2 k3 k4)
              obtain ⟨k1, k2, k3, k4⟩ := K.out
              have k1' : SixAt w11 (w.heap.size + 1) nilCs := k1
              have r0 : w11.cell? ⟨w.heap.size + 1, 0, none⟩ = some (.slice none 0 0) := k1'.cell (j := 0) rfl
              have r1 : w11.cell? ⟨w.heap.size + 1, 1, none⟩ = some (.slice none 0 0) := k1'.cell (j := 1) rfl
              have r2 : w11.cell? ⟨w.heap.size + 1, 2, none⟩ = some (.slice none 0 0) := k1'.cell (j := 2) rfl
              have r3 : w11.cell? ⟨w.heap.size + 1, 3, none⟩ = some (.slice none 0 0) := k1'.cell (j := 3) rfl
              have r4 : w11.cell? ⟨w.heap.size + 1, 4, none⟩ = some (.slice none 0 0) := k1'.cell (j := 4) rfl
              have r5 : w11.cell? ⟨w.heap.size + 1, 5, none⟩ = some (.slice none 0 0) := k1'.cell (j := 5) rfl
              refine bodyPost_ret (v := .tuple #[InV nilI nilP, .slice none 0 0, .int .i64 4]) (by simp [results, Tryz.results15, go_sem, InV, nilI, nilP, r0, r1, r2, r3, r4, r5]) rfl ?_
              unfold ExpOut
              rw [HE4.out]
              exact ⟨rfl, (hB0.trans (HB10.out.mono z0)).trans (k4.mono (by omega))⟩
            · clear hbad
              go_wp2_with ((with_reducible refine wpList_storeL stIns rfl _ _ rfl (w.heap.size + 1) nilCs nilCs ?_ ?_ ?_ ?_ ?_ nilCs_one ?_); exact rfl; exact rfl; exact hRS; exact rfl; exact rfl; intro w11 k1 k2 k3 k4; have K := Lib.hid (And.intro k1 (And.intro k2 (And.intro k3 k4))); clear k1 k2 k3 k4)
              obtain ⟨k1, k2, k3, k4⟩ := K.out
              have k1' : SixAt w11 (w.heap.size + 1) nilCs := k1
              have r0 : w11.cell? ⟨w.heap.size + 1, 0, none⟩ = some (.slice none 0 0) := k1'.cell (j := 0) rfl
              have r1 : w11.cell? ⟨w.heap.size + 1, 1, none⟩ = some (.slice none 0 0) := k1'.cell (j := 1) rfl
              have r2 : w11.cell? ⟨w.heap.size + 1, 2, none⟩ = some (.slice none 0 0) := k1'.cell (j := 2) rfl
              have r3 : w11.cell? ⟨w.heap.size + 1, 3, none⟩ = some (.slice none 0 0) := k1'.cell (j := 3) rfl
              have r4 : w11.cell? ⟨w.heap.size + 1, 4, none⟩ = some (.slice none 0 0) := k1'.cell (j := 4) rfl
              have r5 : w11.cell? ⟨w.heap.size + 1, 5, none⟩ = some (.slice none 0 0) := k1'.cell (j := 5) rfl
              refine bodyPost_ret (v := .tuple #[InV nilI nilP, .slice none 0 0, .int .i64 4]) (by simp [results, Tryz.results15, go_sem, InV, nilI, nilP, r0, r1, r2, r3, r4, r5]) rfl ?_
              unfold ExpOut
              rw [HE4.out]
              exact ⟨rfl, (hB0.trans (HB10.out.mono z0)).trans (k4.mono (by omega))⟩
end Go.Proofs.YtceceomaheobhaaGreatDoor.spl

/- The reference's Expand. -/
import Derived.Test.YtceceomaheobhaaSplF
import Derived.Test.YtceceomaheobhaaSpvA
import Derived.Test.YtceceomaheobhaaSpvB
import Derived.Test.YtceceomaheobhaaSpwQ
namespace Go.Proofs.Ytceceomaheobhaa.spl
open Go.RowKit
open Go.Proofs.Ytceceomaheobhaa.lib Go.Proofs.Ytceceomaheobhaa.rd Go.Proofs.Ytceceomaheobhaa.app Go.Proofs.Ytceceomaheobhaa.els Go.Proofs.Ytceceomaheobhaa.loads Go.Proofs.Ytceceomaheobhaa.typ Go.Proofs.Ytceceomaheobhaa.big Go.Proofs.Ytceceomaheobhaa.ins Go.Proofs.Ytceceomaheobhaa.ord Go.Proofs.Ytceceomaheobhaa.flts
set_option linter.unusedVariables false
set_option linter.unusedSimpArgs false

theorem piece_fits {o : Ord} (hf : OrdFits o) (h16 : o.name.size ≤ 16) {n : Nat} (hn : o.split = n) (h2 : 2 ≤ n) (h4 : n ≤ 4) {m : Nat} (hm : m < n) : OrdFits (pieceO o m) :=
  pieces_fits hf (by omega) hn h2 h4 (j := n) (List.mem_map.2 ⟨m, List.mem_range.2 hm, rfl⟩)
theorem acc_one {o : Ord} (h : o.split = 1) : partsF o = some [o] := by
  unfold partsF
  rw [if_pos (by omega)]
theorem acc_many {o : Ord} {n : Nat} (h : o.split = n) (h2 : 2 ≤ n) (h4 : n ≤ 4) (hl : okLd o.load = true) : partsF o = some (piecesTo o n) := by
  unfold partsF
  rw [if_neg (by omega), h, loadsF_some (by omega) h4 hl]
  rfl
theorem piecesTo_at {o : Ord} {n m : Nat} (h : m < n) : (piecesTo o n)[m]? = some (pieceO o m) := by
  unfold piecesTo
  rw [List.getElem?_map, List.getElem?_range h]
  rfl
set_option maxRecDepth 100000 in
set_option maxHeartbeats 8000000 in
theorem rexpand_any (x : Ins) (P : InP) (w : World) (h : InAt w w.heap.size x P) (hl : Acc x) : Calls Try.prog 14 #[InV x P] w (ExpOut w (expF x)) := by
  obtain ⟨W0, hW0⟩ : ∃ W0, (w.alloc (.cells (insCs x P).toArray 38)).alloc (.cells nilCs.toArray 38) = W0 := ⟨_, rfl⟩
  have hB0 : Below w.heap.size w W0 := by rw [← hW0]; exact ((Below.refl _ _).alloc (Nat.le_refl _) _).alloc (by simp) _
  have z0 := hB0.size
  have hs0 : w.heap.size + 1 < W0.heap.size := by rw [← hW0]; simp
  have b0 : SixAt W0 w.heap.size (insCs x P) := by
    rw [← hW0]
    unfold SixAt
    rw [Below.heap_alloc _ _ _ (by simp)]
    exact World.alloc_heap_new w _
  have b1 : SixAt W0 (w.heap.size + 1) nilCs := by
    rw [← hW0]
    have h := World.alloc_heap_new (w.alloc (.cells (insCs x P).toArray 38)) (.cells nilCs.toArray 38)
    simpa [SixAt] using h
  have HX := Lib.hid (fun w' (h' : Below W0.heap.size W0 w') => (And.intro (b0.below h') (And.intro (b1.below h') (h.below (hB0.trans (h'.mono z0))))))
  have hW1 : (w.alloc (.cells #[.slice P.a0 x.net.places.length P.c0, .slice P.a1 x.net.arcs.length P.c1, .slice P.a2 x.types.length P.c2, .slice P.a3 x.orders.length P.c3, .slice P.a4 x.apart.length P.c4, .slice P.a5 x.before.length P.c5] 38)).alloc (.cells #[.slice none 0 0, .slice none 0 0, .slice none 0 0, .slice none 0 0, .slice none 0 0, .slice none 0 0] 38) = W0 := hW0
  have HW1 := Lib.hid hW1
  have HL := Lib.hid hl
  have hno := hl.orders
  obtain ⟨n, hn⟩ : ∃ n, x.orders.length = n := ⟨_, rfl⟩
  have x3 : W0.cell? ⟨w.heap.size, 3, none⟩ = some (.slice P.a3 n P.c3) := by rw [← hn]; exact b0.cell (j := 3) rfl
  rw [hn] at hno HW1
  have HN := Lib.hid hn
  clear hW0 hW1 h b0 b1 hl
  simp only [InV]
  rw [hn]
  clear hn
  go_enter Try.func14, Try.ntmps14
  go_upto_region 1 with fail
  rw [HW1.out]
  go_wp2_with fail
  go_loopw [5, 6] (fun s i wr => ∃ (k : Nat) (t : Int), k ≤ n ∧ i = .int .i64 k ∧ s = .int .i64 t ∧ (0 ≤ t ∧ t ≤ k * 4) ∧ Hid (t + totalO (x.orders.drop k) = totalO x.orders) ∧ W0 = wr) (fun _ i _ => n - (intOf i).toNat)
  case atStart => exact ⟨0, 0, by omega, rfl, rfl, by omega, Lib.hid (by simp), rfl⟩
  case round =>
    obtain ⟨k, t, hk, rfl, rfl, htt, ht, rfl⟩ := hrel
    by_cases hlt : k < n
    · obtain ⟨o, ho⟩ : ∃ o, x.orders[k]? = some o := ⟨_, List.getElem?_eq_getElem (by rw [HN.out]; exact hlt)⟩
      obtain ⟨ad, cs, hA, hadb, hat, hcs⟩ := ((HX.out _ (Below.refl _ _)).2.2.orders).elem ho
      obtain ⟨C, cc, rfl, hI, hf⟩ := rOrd_at hat
      have hsp := HL.out.split o (List.mem_of_getElem? ho)
      have HT := Lib.hid (total_at ho)
      have hk0 : (0 : Int) ≤ (k : Int) := by omega
      have hkn : (k : Int) < (n : Int) := by omega
      have p12 : W0.cell? ⟨(ad.add (k * 16)).block, (ad.add (k * 16)).off + 12, none⟩ = some (.int .i64 o.split) := hcs 12 _ rfl
      have HM : Hid (maxOne o.split = o.split) := Lib.hid (by unfold maxOne; split <;> omega)
      clear ho hat hcs hI hf
      rw [hA] at x3
      go_wp2_with fail
      exact ⟨⟨k + 1, t + o.split, by omega, by go_num, by first | rfl | go_num, by omega, Lib.hid (by rw [← ht.out, HT.out, HM.out]; omega), trivial⟩, by simp [intOf]; omega⟩
    · have hkn : k = n := by omega
      subst hkn
      clear hlt
      have htt2 : totalO x.orders = t := by rw [← ht.out, List.drop_of_length_le (by rw [HN.out]; exact Nat.le_refl _)]; unfold totalO; simp
      have HT2 := Lib.hid htt2
      clear htt2 ht
      have hb : Below W0.heap.size W0 W0 := Below.refl _ _
      by_cases h10 : 10 < t
      · have HE : Hid (expF x = .error 4) := Lib.hid (by unfold expF; rw [HT2.out, if_pos h10])
        have hRS := (HX.out _ hb).2.1
        go_wp2_with ((with_reducible refine wpList_storeL stIns rfl _ _ rfl (w.heap.size + 1) nilCs nilCs ?_ ?_ ?_ ?_ ?_ nilCs_one ?_); exact rfl; exact rfl; exact hRS; exact rfl; exact rfl; intro w3 k1 k2 k3 k4; have K := Lib.hid (And.intro k1 (And.intro k2 (And.intro k3 k4))); clear k1 k2 k3 k4)
        obtain ⟨k1, k2, k3, k4⟩ := K.out
        have k1' : SixAt w3 (w.heap.size + 1) nilCs := k1
        have r0 : w3.cell? ⟨w.heap.size + 1, 0, none⟩ = some (.slice none 0 0) := k1'.cell (j := 0) rfl
        have r1 : w3.cell? ⟨w.heap.size + 1, 1, none⟩ = some (.slice none 0 0) := k1'.cell (j := 1) rfl
        have r2 : w3.cell? ⟨w.heap.size + 1, 2, none⟩ = some (.slice none 0 0) := k1'.cell (j := 2) rfl
        have r3 : w3.cell? ⟨w.heap.size + 1, 3, none⟩ = some (.slice none 0 0) := k1'.cell (j := 3) rfl
        have r4 : w3.cell? ⟨w.heap.size + 1, 4, none⟩ = some (.slice none 0 0) := k1'.cell (j := 4) rfl
        have r5 : w3.cell? ⟨w.heap.size + 1, 5, none⟩ = some (.slice none 0 0) := k1'.cell (j := 5) rfl
        refine bodyPost_ret (v := .tuple #[InV nilI nilP, .slice none 0 0, .int .i64 4]) (by simp [results, Try.results14, go_sem, InV, nilI, nilP, r0, r1, r2, r3, r4, r5]) rfl ?_
        unfold ExpOut
        rw [HE.out]
        exact ⟨rfl, hB0.trans (k4.mono (by omega))⟩
      have HE0 : Hid (expF x = expFin x (expOs x.orders x.orders 0 [] [])) := Lib.hid (by unfold expF; rw [HT2.out, if_neg h10])
      have q0 : W0.cell? ⟨w.heap.size, 0, none⟩ = some (.slice P.a0 x.net.places.length P.c0) := (HX.out _ hb).1.cell (j := 0) rfl
      have q1 : W0.cell? ⟨w.heap.size, 1, none⟩ = some (.slice P.a1 x.net.arcs.length P.c1) := (HX.out _ hb).1.cell (j := 1) rfl
      have q2 : W0.cell? ⟨w.heap.size, 2, none⟩ = some (.slice P.a2 x.types.length P.c2) := (HX.out _ hb).1.cell (j := 2) rfl
      have HTN : Hid (0 ≤ t) := Lib.hid htt.1
      go_upto_region 9 with ((with_reducible refine wpList_storeL stIns rfl _ _ rfl W0.heap.size nilCs (exB x P (.slice none 0 0) (.slice none 0 0) (.slice none 0 0)) ?_ ?_ ?_ ?_ ?_ (exB_one x P _ _ _ rfl rfl rfl) ?_); exact rfl; exact rfl; exact World.alloc_heap_new W0 _; exact rfl; exact rfl; intro w3 k1 k2 k3 k4; have K := Lib.hid (And.intro k1 (And.intro k2 (And.intro k3 k4))); clear k1 k2 k3 k4)
      (try simp only [Act.put, List.getElem_toArray, List.getElem_cons_succ, List.getElem_cons_zero, List.setIfInBounds_toArray, List.set_cons_zero, List.set_cons_succ])
      obtain ⟨k1, k2, k3, k4⟩ := K.out
      have zz3 : W0.heap.size < w3.heap.size := (Array.getElem?_eq_some_iff.1 k1).1
      have b3 : Below W0.heap.size W0 w3 := ((Below.refl _ _).alloc (Nat.le_refl _) _).trans k4
      have HB2 := Lib.hid hb
      obtain ⟨H, hH⟩ : ∃ H, W0.heap.size = H := ⟨_, rfl⟩
      have zr : W0.heap.size ≤ H := by omega
      have HHH : Hid (W0.heap.size = H) := Lib.hid hH
      rw [hH] at k1 zz3 b3 ⊢
      have hst : ExpSt H (w.heap.size + 1) W0 (exB x P (.slice none 0 0) (.slice none 0 0) (.slice none 0 0)) [] [] w3 none 0 none 0 [] := ⟨World.ownsRow_nil _ _ _ _, World.ownsRow_nil _ _ _ _, .nil, k1, b3, zz3⟩
      have HST := Lib.hid hst
      clear k1 k2 k3 k4 K zz3 b3 hst hk hb q0 q1 q2 htt x3
      have ht10 : t ≤ 10 := by omega
      go_upto_region 10 with fail
      go_wp2_with fail
      go_loopw [8, 9, 10, 11, 12, 13] (fun v i _ _ _ _ wr => ∃ (j : Nat) (ns : List Int) (os : List Ord) (B1 : Option Addr) (d1 : Nat) (B2 : Option Addr) (d2 : Nat) (cs : List Value), j ≤ k ∧ i = .int .i64 j ∧ v = .slice B1 ns.length d1 ∧ Hid (ExpSt H (w.heap.size + 1) W0 (exB x P (.slice B2 os.length d2) (.slice none 0 0) (.slice none 0 0)) ns os wr B1 d1 B2 d2 cs) ∧ Hid (expF x = expFin x (expOs x.orders (x.orders.drop j) j os ns)) ∧ Hid ((os.length : Int) + totalO (x.orders.drop j) = t ∧ ns.length = os.length ∧ ∀ q ∈ os, OrdFits q)) (fun _ i _ _ _ _ _ => k - (intOf i).toNat)
      case atStart => exact ⟨0, [], [], none, 0, none, 0, [], by omega, rfl, rfl, HST, HE0, Lib.hid ⟨by rw [← HT2.out]; simp, rfl, fun q hq => by cases hq⟩⟩
      case round =>
        obtain ⟨j, ns, os, B1, d1, B2, d2, cs, hj, rfl, rfl, hS, hE, hT⟩ := hrel
        obtain ⟨W3, hW3⟩ : ∃ W3, W3 = wr := ⟨_, rfl⟩
        subst hW3
        have hb0 : Below W0.heap.size W0 W3 := HB2.out.trans (hS.out.bel.mono zr)
        have x33 : W3.cell? ⟨w.heap.size, 3, none⟩ = some (.slice P.a3 k P.c3) := by rw [← HN.out]; exact (HX.out _ hb0).1.cell (j := 3) rfl
        by_cases hlt : j < k
        · obtain ⟨o, ho⟩ : ∃ o, x.orders[j]? = some o := ⟨_, List.getElem?_eq_getElem (by rw [HN.out]; exact hlt)⟩
          have HW3 := Lib.hid hb0
          obtain ⟨ad, cs0, hA, hadb, hat, hcs0⟩ := ((HX.out _ (Below.refl _ _)).2.2.orders).elem ho
          obtain ⟨C, cc, rfl, hI, hf⟩ := rOrd_at hat
          have hcs := hcs0.heap (w' := W3) (by rw [block_of_add]; exact hb0.block _ (by omega))
          have hmem := List.mem_of_getElem? ho
          have hsp := HL.out.split o hmem
          have HD : Hid (x.orders.drop j = o :: x.orders.drop (j + 1)) := Lib.hid (drop_at' ho)
          have HTT := Lib.hid (total_at ho)
          have hj0 : (0 : Int) ≤ (j : Int) := by omega
          have hjk : (j : Int) < (k : Int) := by omega
          have HC := Lib.hid hcs
          have HO := Lib.hid (And.intro hI (And.intro hf (And.intro (HL.out.name o hmem) (HL.out.load o hmem))))
          have hz := hb0.size
          have hol : os.length ≤ 1000 := by
            have h1 := hT.out.1
            have h3 := total_nonneg (x.orders.drop j)
            omega
          have hnl : ns.length ≤ 1000 := by have h2 := hT.out.2.1; omega
          clear ho hat hcs hcs0 hI hf hb0 hmem
          rw [hA] at x33 ⊢
          go_upto_region 14 with (first
            | ((with_reducible refine wpList_loadG stOrd' _ rfl (ad.add (j * 16)) (OrdCells o C cc) ?_ ?_ ?_ ?_ ?_); exact rfl; exact rfl; exact HC.out; exact rfl)
            | ((with_reducible refine wpList_storeL stOrd' rfl _ _ rfl W3.heap.size ordZs (OrdCells o C cc) ?_ ?_ ?_ ?_ ?_ (ordCells_one _ _ _) ?_); exact rfl; exact rfl; exact World.alloc_heap_new W3 _; exact rfl; exact rfl; intro w4 k1 k2 k3 k4; have K := Lib.hid (And.intro k1 (And.intro k2 (And.intro k3 k4))); clear k1 k2 k3 k4))
          (try simp only [Act.put, List.getElem_toArray, List.getElem_cons_succ, List.getElem_cons_zero, List.setIfInBounds_toArray, List.set_cons_zero, List.set_cons_succ])
          obtain ⟨k1, k2, k3, k4⟩ := K.out
          have b4 : Below W3.heap.size W3 w4 := ((Below.refl _ _).alloc (Nat.le_refl _) _).trans k4
          have HO4 : Hid (OrBlk w4 W3.heap.size o C cc) := Lib.hid k1
          have hz4 : W3.heap.size < w4.heap.size := (Array.getElem?_eq_some_iff.1 k1).1
          have hS4 := Lib.hid (hS.out.below b4)
          have HI4 : Hid (Ints w4 w.heap.size C o.load) := Lib.hid (HO.out.1.below ((HW3.out.trans (b4.mono hz)).mono z0))
          have HW4 := Lib.hid (HW3.out.trans (b4.mono hz))
          have hHp : H < W3.heap.size := by have := hS.out.sz; omega
          obtain ⟨p, hp⟩ : ∃ p, W3.heap.size = p := ⟨_, rfl⟩
          have hlt5 : ∀ q, (Value.slice B1 ns.length d1).ownBlock = some q ∨ (Value.slice B2 os.length d2).ownBlock = some q → H < q ∧ q < p := fun q hq => by
            rcases hq with hq | hq
            · have := World.ownsRow.lt hS.out.own1 q hq; rw [hp] at this; omega
            · have := World.ownsRow.lt hS.out.own2 q hq; rw [hp] at this; omega
          rw [hp] at HO4 hz4 hz hHp ⊢
          have hQ5 : ∀ b, b < w.heap.size ∨ p ≤ b → ExpQ H (w.heap.size + 1) (.slice B1 ns.length d1) (.slice B2 os.length d2) b := fun b hb => by
            refine ⟨fun e => ?_, fun e => ?_, fun e => ?_, fun e => ?_⟩
            rotate_right
            · omega
            · omega
            · have := hlt5 b (.inl e.symm); omega
            · have := hlt5 b (.inr e.symm); omega
          have hBx : BxAt w4 (ExpQ H (w.heap.size + 1) (.slice B1 ns.length d1) (.slice B2 os.length d2)) p o C cc := ⟨hQ5 p (by omega), HO4.out⟩
          have HQ5 := Lib.hid hQ5
          have p12 : w4.cell? ⟨p, 12, none⟩ = some (.int .i64 o.split) := orBlk_at HO4.out 12 _ rfl
          have HX7 := Lib.hid hBx
          clear k1 k2 k3 k4 K HC b4 hBx hQ5 hlt5 x33
          by_cases h1 : o.split = 1
          · have HFq : Hid (OrdFits o) := Lib.hid HO.out.2.1
            have HI7 : Hid (IntsOff w4 (ExpQ H (w.heap.size + 1) (.slice B1 ns.length d1) (.slice B2 os.length d2)) C o.load) := Lib.hid (IntsOff.low HI4.out (by omega) (fun b hb => HQ5.out b (.inl hb)))
            have HOQ := Lib.hid (orBlk_at HO4.out)
            have HS7 := hS4
            have c3 : w4.cell? ⟨H, 3, none⟩ = some (.slice B2 os.length d2) := HS7.out.box.cell (j := 3) rfl
            have HE' : Hid (expF x = expFin x (expOs x.orders (x.orders.drop (j + 1)) (j + 1) (os ++ [o]) (ns ++ [(j : Int)]))) := Lib.hid (by
              rw [hE.out, HD.out, expOs_cons (acc_one h1), decide_eq_false (by omega), expPs_one]
              rfl)
            have HM : Hid (maxOne o.split = 1) := Lib.hid (by rw [h1]; rfl)
            clear hE HD
            have bl : Below w4.heap.size w4 (w4.alloc (.cells (OrdCells o C cc).toArray 75)) := (Below.refl _ _).alloc (Nat.le_refl _) _
            have HSl := Lib.hid (HS7.out.below bl)
            have HXl := Lib.hid (HX7.out.keep (ExpQ.keep bl))
            have HIl := Lib.hid (IntsOff.keep HI7.out bl.size (ExpQ.keep bl))
            clear bl
            go_upto_region 16 with (first
              | ((with_reducible refine wpList_loadG stOrd' _ rfl ⟨p, 0, none⟩ (OrdCells o C cc) ?_ ?_ ?_ ?_ ?_); exact rfl; exact rfl; exact HOQ.out; exact rfl)
              | ((with_reducible refine wpList_bsliceL ord_elem rfl 1 [(0, .tmp 54)] rfl [(0, .agg (OrdCells o C cc).toArray)] (OrdCells o C cc) ordZs ?_ (by decide) (by decide) ord_zs (ord_fill1 o C cc) ?_); exact rfl)
              | (at_builtin; refine wpList_app ord_elem _ _ rfl (H + 1) B2 os.length d2 cs rfl HSl.out.own2 ⟨w4.heap.size, 0, none⟩ 1 (OrdCells o C cc) rfl rfl (ord_new w4 o C cc) (ordCells_one o C cc) (by omega) HSl.out.sz rfl ?_; intro g9 c9 w9 hown9 hg9 hd9; have U9 := Lib.hid (HSl.out.push2 HIl.out hown9 hg9 hd9); have S9 := Lib.hid (HXl.out.keep U9.out.2); have V9 := Lib.hid (U9.out.1.store 3 (.slice (some ⟨g9, 0, none⟩) (os.length + 1) c9)); have Y9 := Lib.hid (S9.out.keep V9.out.2); have V9s : Hid (H + 1 ≤ ((w9.setCell ⟨H, 3, none⟩ (.slice (some ⟨g9, 0, none⟩) (os.length + 1) c9)).alloc (.cells #[.int .i64 (j : Int)] 3)).heap.size) := Lib.hid (Nat.le_trans V9.out.1.sz (Below.alloc (Below.refl _ _) (Nat.le_refl _) _).size); have N9 : Hid (∀ (jj : Nat) u, [Value.int .i64 (j : Int)][jj]? = some u → ((w9.setCell ⟨H, 3, none⟩ (.slice (some ⟨g9, 0, none⟩) (os.length + 1) c9)).alloc (.cells #[.int .i64 (j : Int)] 3)).cell? ((⟨w9.heap.size, 0, none⟩ : Addr).add jj) = some u) := Lib.hid (by (have e : (w9.setCell ⟨H, 3, none⟩ (.slice (some ⟨g9, 0, none⟩) (os.length + 1) c9)).heap.size = w9.heap.size := by simp); (rw [← e]); (exact cell_one_new _ _ _)); have x9 : w9.cell? ⟨H, 3, none⟩ = some (.slice B2 os.length d2) := U9.out.1.box.cell (j := 3) rfl; have f9 : w9.frozen? ⟨H, 3, none⟩ = false := U9.out.1.box.frozen 3; clear hown9 hg9 hd9))
            clear x9 f9
            go_wp2_with (at_builtin; go_loud (refine wpList_app int_elem _ _ rfl (H + 1) B1 ns.length d1 (ns.map (.int .i64)) rfl (V9.out.1.own1.alloc _) ⟨w9.heap.size, 0, none⟩ 1 [.int .i64 (j : Int)] rfl rfl N9.out (fun u hu => by rw [List.mem_singleton] at hu; rw [hu]; rfl) (by omega) V9s.out rfl ?_); intro g10 c10 w10 hown10 hg10 hd10; have HZ0 := Lib.hid (And.intro hown10 (And.intro hg10 hd10)); clear hown10 hg10 hd10)
            have bA : Below (w9.setCell ⟨H, 3, none⟩ (.slice (some ⟨g9, 0, none⟩) (os.length + 1) c9)).heap.size (w9.setCell ⟨H, 3, none⟩ (.slice (some ⟨g9, 0, none⟩) (os.length + 1) c9)) ((w9.setCell ⟨H, 3, none⟩ (.slice (some ⟨g9, 0, none⟩) (os.length + 1) c9)).alloc (.cells #[.int .i64 (j : Int)] 3)) := (Below.refl _ _).alloc (Nat.le_refl _) _
            have Z := (V9.out.1.below bA).push1 (k := (j : Int)) HZ0.out.1 HZ0.out.2.1 HZ0.out.2.2
            have ZX := (Y9.out.keep (ExpQ.keep bA)).keep Z.2
            have eo : (os ++ [o]).length = os.length + 1 := by simp
            have en : (ns ++ [(j : Int)]).length = ns.length + 1 := by simp
            have ZF : ∀ q' ∈ os ++ [o], OrdFits q' := fun q' hq' => by
              rcases List.mem_append.1 hq' with h | h
              · exact hT.out.2.2 q' h
              · rw [List.mem_singleton] at h
                rw [h]
                exact HFq.out
            have ZS : ExpSt H (w.heap.size + 1) W0 (exB x P (.slice (some ⟨g9, 0, none⟩) (os ++ [o]).length c9) (.slice none 0 0) (.slice none 0 0)) (ns ++ [(j : Int)]) (os ++ [o]) w10 (some ⟨g10, 0, none⟩) c10 (some ⟨g9, 0, none⟩) c9 (cs ++ OrdCells o C cc) := by
              rw [eo]
              exact Z.1
            exact ⟨⟨j + 1, ns ++ [(j : Int)], os ++ [o], some ⟨g10, 0, none⟩, c10, some ⟨g9, 0, none⟩, c9, cs ++ OrdCells o C cc, by omega, by go_num, by rw [en], Lib.hid ZS, HE', Lib.hid ⟨by have h9 := hT.out.1; rw [HTT.out, HM.out] at h9; rw [eo]; omega, by have h9 := hT.out.2.1; rw [eo, en, h9], ZF⟩⟩, by simp [intOf]; omega⟩
          · obtain ⟨L, hL⟩ := Int.eq_ofNat_of_zero_le (show 0 ≤ o.split by omega)
            have hL2 : 2 ≤ L := by omega
            have hL4 : L ≤ 4 := by omega
            have hLi : (2 : Int) ≤ (L : Int) ∧ (L : Int) ≤ 4 := by omega
            have HSPL := Lib.hid hL
            have HPF := Lib.hid (acc_many hL hL2 hL4 HO.out.2.2.2)
            have HE5 : Hid (expF x = expFin x (expThen x.orders (x.orders.drop (j + 1)) (j + 1) (expPs x.orders j true (piecesTo o L) os ns))) := Lib.hid (by
              rw [hE.out, HD.out, expOs_cons HPF.out, decide_eq_true (show 1 < o.split by omega)])
            obtain ⟨T', hT'⟩ : ∃ T', totalO (x.orders.drop (j + 1)) = T' := ⟨_, rfl⟩
            have hT0 : 0 ≤ T' := by rw [← hT']; exact total_nonneg _
            have hT5 : (os.length : Int) + (L : Int) + T' = t := by
              have h9 := hT.out.1
              have h8 : maxOne o.split = L := by unfold maxOne; rw [if_pos (by omega), hL]
              rw [HTT.out, hT', h8] at h9
              omega
            have HT' := Lib.hid hT'
            have HS4 := Lib.hid (And.intro hS4.out hT.out.2)
            have h1n : ¬ (L : Int) = 1 := by omega
            have h1b : ((L : Int) == 1) = false := by rw [beq_eq_false_iff_ne]; exact h1n
            rw [hL] at p12
            clear hE HD HTT hT' hT hS4 hS h1 hsp hL
            go_wp2_with fail
            clear p12
            try rw [h1b]
            go_loopw [8, 11, 12, 13] (fun v i _ _ wr => ∃ (m : Nat) (ns : List Int) (os : List Ord) (B1 : Option Addr) (d1 : Nat) (B2 : Option Addr) (d2 : Nat) (cs : List Value), m ≤ L ∧ i = .int .i64 ((m : Int) + 1) ∧ v = .slice B1 ns.length d1 ∧ Hid (ExpSt H (w.heap.size + 1) W0 (exB x P (.slice B2 os.length d2) (.slice none 0 0) (.slice none 0 0)) ns os wr B1 d1 B2 d2 cs) ∧ Hid (BxAt wr (ExpQ H (w.heap.size + 1) (.slice B1 ns.length d1) (.slice B2 os.length d2)) p o C cc) ∧ Hid (expF x = expFin x (expThen x.orders (x.orders.drop (j + 1)) (j + 1) (expPs x.orders j true ((piecesTo o L).drop m) os ns))) ∧ Hid ((os.length : Int) + ((L : Int) - (m : Int)) + T' = t ∧ ns.length = os.length ∧ ∀ q ∈ os, OrdFits q)) (fun _ i _ _ _ => L + 1 - (intOf i).toNat)
            case atStart => exact ⟨0, ns, os, B1, d1, B2, d2, cs, by omega, rfl, rfl, Lib.hid HS4.out.1, HX7, HE5, Lib.hid ⟨by omega, HS4.out.2.1, HS4.out.2.2⟩⟩
            case round =>
              obtain ⟨m, ns, os, B1, d1, B2, d2, cs, hm, rfl, rfl, hS, hX, hE, hT⟩ := hrel
              obtain ⟨W6, hW6⟩ : ∃ W6, W6 = wr := ⟨_, rfl⟩
              subst hW6
              have p12 : W6.cell? ⟨p, 12, none⟩ = some (.int .i64 L) := by rw [← HSPL.out]; exact orBlk_at hX.out.2 12 _ rfl
              by_cases hlm : m < L
              · have hB6 : Below W0.heap.size W0 W6 := HB2.out.trans (hS.out.bel.mono zr)
                have HB6 := Lib.hid hB6
                have z6 := hB6.size
                have HIC : Hid (Ints W6 W6.heap.size C o.load) := Lib.hid ((HO.out.1.below (hB6.mono z0)).more (by omega))
                have hm0 : (0 : Int) ≤ (m : Int) := by omega
                have hml : (m : Int) + 1 ≤ (L : Int) := by omega
                have hol : os.length ≤ 1000 := by have := hT.out.1; omega
                have hnl : ns.length ≤ 1000 := by have := hT.out.2.1; omega
                have HD : Hid ((piecesTo o L).drop m = pieceO o m :: (piecesTo o L).drop (m + 1)) := Lib.hid (drop_at' (piecesTo_at hlm))
                have HFq : Hid (OrdFits (pieceO o m)) := Lib.hid (piece_fits HO.out.2.1 HO.out.2.2.1 HSPL.out hL2 hL4 hlm)
                have HOC := Lib.hid (orBlk_at hX.out.2)
                have HZ6 : Hid (H < W6.heap.size) := Lib.hid (by have := hS.out.sz; omega)
                clear hB6
                go_wp2_with ((with_reducible refine wpList_loadG stOrd' _ rfl ⟨p, 0, none⟩ (OrdCells o C cc) ?_ ?_ ?_ ?_ ?_); exact rfl; exact rfl; exact HOC.out; exact rfl)
                refine (rpiece_any o C cc L m HSPL.out W6 HIC.out HO.out.2.1 (by omega) hL4 hlm HO.out.2.2.2 (Nat.le_trans HO.out.2.2.1 (by decide))).mono ?_
                rintro e w6 ⟨Ai, ci, rfl, hIA, b6⟩
                have z66 := b6.size
                have hlt6 : ∀ q, (Value.slice B1 ns.length d1).ownBlock = some q ∨ (Value.slice B2 os.length d2).ownBlock = some q → q < W6.heap.size := fun q hq => by
                  rcases hq with hq | hq
                  · exact (World.ownsRow.lt hS.out.own1 q hq).2
                  · exact (World.ownsRow.lt hS.out.own2 q hq).2
                have HI6 : Hid (IntsOff w6 (ExpQ H (w.heap.size + 1) (.slice B1 ns.length d1) (.slice B2 os.length d2)) Ai (ptL o.load L m)) := Lib.hid (hIA.weak (fun b hb hq => by
                  have := HZ6.out
                  refine ⟨fun e => ?_, fun e => ?_, fun e => ?_, fun e => ?_⟩
                  rotate_right
                  · omega
                  · omega
                  · have := hlt6 b (.inl e.symm); omega
                  · have := hlt6 b (.inr e.symm); omega))
                have HS6 := Lib.hid (hS.out.below b6)
                have HX6 := Lib.hid (hX.out.keep (ExpQ.keep b6))
                clear hlt6 hIA p12 hS hX HIC HOC
                go_upto_region 21 with ((with_reducible refine wpList_storeL stOrd' rfl _ _ rfl w6.heap.size ordZs (OrdCells (pieceO o m) Ai ci) ?_ ?_ ?_ ?_ ?_ (ordCells_one _ _ _) ?_); exact rfl; exact rfl; exact World.alloc_heap_new w6 _; exact rfl; exact rfl; intro w7 k1 k2 k3 k4; have K := Lib.hid (And.intro k1 (And.intro k2 (And.intro k3 k4))); clear k1 k2 k3 k4)
                (try simp only [Act.put, List.getElem_toArray, List.getElem_cons_succ, List.getElem_cons_zero, List.setIfInBounds_toArray, List.set_cons_zero, List.set_cons_succ])
                obtain ⟨k1, k2, k3, k4⟩ := K.out
                have b7 : Below w6.heap.size w6 w7 := ((Below.refl _ _).alloc (Nat.le_refl _) _).trans k4
                have z7 := b7.size
                have HO7 : Hid (OrBlk w7 w6.heap.size (pieceO o m) Ai ci) := Lib.hid k1
                have hz7 : w6.heap.size < w7.heap.size := (Array.getElem?_eq_some_iff.1 k1).1
                have HS7 := Lib.hid (HS6.out.below b7)
                have HX7 := Lib.hid (HX6.out.keep (ExpQ.keep b7))
                have HI7 : Hid (IntsOff w7 (ExpQ H (w.heap.size + 1) (.slice B1 ns.length d1) (.slice B2 os.length d2)) Ai (pieceO o m).load) := Lib.hid (by
                  rw [show (pieceO o m).load = ptL o.load L m by show ptL o.load o.split m = _; rw [HSPL.out]]
                  exact IntsOff.keep HI6.out z7 (ExpQ.keep b7))
                have hB7 : Below W0.heap.size W0 w7 := HB2.out.trans (HS7.out.bel.mono zr)
                have HB7 := Lib.hid hB7
                have c3 : w7.cell? ⟨H, 3, none⟩ = some (.slice B2 os.length d2) := HS7.out.box.cell (j := 3) rfl
                have c0 : w7.cell? ⟨w6.heap.size, 0, none⟩ = some (.string (pieceO o m).name) := orBlk_at HO7.out 0 _ rfl
                obtain ⟨p2, hp2⟩ : ∃ p2, w6.heap.size = p2 := ⟨_, rfl⟩
                rw [hp2] at c0 HO7 hz7 ⊢
                clear k1 k2 k3 k4 K b7 HS6 HX6 HI6 hB7 hp2
                have HR7 := Lib.hid (And.intro ((HX.out _ HB7.out).2.2.orders.more (Nat.le_trans z0 HB7.out.size)) (HS7.out.orders hol hT.out.2.2))
                go_wp2_with ((with_reducible refine wpList_loadG stIns _ rfl ⟨w.heap.size, 0, none⟩ (insCs (x) P) ?_ ?_ ?_ ?_ ?_); exact rfl; exact rfl; exact (HX.out _ HB7.out).1.cells; exact rfl)
                refine (rnamed_any _ _ _ _ _ x.orders os P.a3 B2 P.c3 d2 (pieceO o m).name w7 HR7.out.1 HR7.out.2).mono ?_
                rintro e w8 ⟨rfl, b8⟩
                by_cases hne : namedE x.orders os (pieceO o m).name = 0
                · have HZE := Lib.hid hne
                  have c3' : w8.cell? ⟨H, 3, none⟩ = some (.slice B2 os.length d2) := (HS7.out.below b8).box.cell (j := 3) rfl
                  have z8 := b8.size
                  have HO8 : Hid (OrBlk w8 p2 (pieceO o m) Ai ci) := Lib.hid ((b8.block p2 hz7).trans HO7.out)
                  have HOQ := Lib.hid (orBlk_at HO8.out)
                  have HS7' := Lib.hid (HS7.out.below b8)
                  have HX7' := Lib.hid (HX7.out.keep (ExpQ.keep b8))
                  have HI7' := Lib.hid (IntsOff.keep HI7.out z8 (ExpQ.keep b8))
                  clear HS7 HX7 HI7
                  have HS7 := HS7'
                  have HX7 := HX7'
                  have HI7 := HI7'
                  clear HS7' HX7' HI7'
                  rw [HZE.out]
                  clear hne b8 c3 c0
                  have bl : Below w8.heap.size w8 (w8.alloc (.cells (OrdCells (pieceO o m) Ai ci).toArray 75)) := (Below.refl _ _).alloc (Nat.le_refl _) _
                  have HSl := Lib.hid (HS7.out.below bl)
                  have HXl := Lib.hid (HX7.out.keep (ExpQ.keep bl))
                  have HIl := Lib.hid (IntsOff.keep HI7.out bl.size (ExpQ.keep bl))
                  clear bl
                  go_upto_region 25 with (first
                    | ((with_reducible refine wpList_loadG stOrd' _ rfl ⟨p2, 0, none⟩ (OrdCells (pieceO o m) Ai ci) ?_ ?_ ?_ ?_ ?_); exact rfl; exact rfl; exact HOQ.out; exact rfl)
                    | ((with_reducible refine wpList_bsliceL ord_elem rfl 1 [(0, .tmp 83)] rfl [(0, .agg (OrdCells (pieceO o m) Ai ci).toArray)] (OrdCells (pieceO o m) Ai ci) ordZs ?_ (by decide) (by decide) ord_zs (ord_fill1 (pieceO o m) Ai ci) ?_); exact rfl)
                    | (at_builtin; refine wpList_app ord_elem _ _ rfl (H + 1) B2 os.length d2 cs rfl HSl.out.own2 ⟨w8.heap.size, 0, none⟩ 1 (OrdCells (pieceO o m) Ai ci) rfl rfl (ord_new w8 (pieceO o m) Ai ci) (ordCells_one (pieceO o m) Ai ci) (by omega) HSl.out.sz rfl ?_; intro g9 c9 w9 hown9 hg9 hd9; have U9 := Lib.hid (HSl.out.push2 HIl.out hown9 hg9 hd9); have S9 := Lib.hid (HXl.out.keep U9.out.2); have V9 := Lib.hid (U9.out.1.store 3 (.slice (some ⟨g9, 0, none⟩) (os.length + 1) c9)); have Y9 := Lib.hid (S9.out.keep V9.out.2); have V9s : Hid (H + 1 ≤ ((w9.setCell ⟨H, 3, none⟩ (.slice (some ⟨g9, 0, none⟩) (os.length + 1) c9)).alloc (.cells #[.int .i64 (j : Int)] 3)).heap.size) := Lib.hid (Nat.le_trans V9.out.1.sz (Below.alloc (Below.refl _ _) (Nat.le_refl _) _).size); have N9 : Hid (∀ (jj : Nat) u, [Value.int .i64 (j : Int)][jj]? = some u → ((w9.setCell ⟨H, 3, none⟩ (.slice (some ⟨g9, 0, none⟩) (os.length + 1) c9)).alloc (.cells #[.int .i64 (j : Int)] 3)).cell? ((⟨w9.heap.size, 0, none⟩ : Addr).add jj) = some u) := Lib.hid (by (have e : (w9.setCell ⟨H, 3, none⟩ (.slice (some ⟨g9, 0, none⟩) (os.length + 1) c9)).heap.size = w9.heap.size := by simp); (rw [← e]); (exact cell_one_new _ _ _)); have x9 : w9.cell? ⟨H, 3, none⟩ = some (.slice B2 os.length d2) := U9.out.1.box.cell (j := 3) rfl; have f9 : w9.frozen? ⟨H, 3, none⟩ = false := U9.out.1.box.frozen 3; clear hown9 hg9 hd9))
                  clear x9 f9
                  go_wp2_with (at_builtin; go_loud (refine wpList_app int_elem _ _ rfl (H + 1) B1 ns.length d1 (ns.map (.int .i64)) rfl (V9.out.1.own1.alloc _) ⟨w9.heap.size, 0, none⟩ 1 [.int .i64 (j : Int)] rfl rfl N9.out (fun u hu => by rw [List.mem_singleton] at hu; rw [hu]; rfl) (by omega) V9s.out rfl ?_); intro g10 c10 w10 hown10 hg10 hd10; have HZ0 := Lib.hid (And.intro hown10 (And.intro hg10 hd10)); clear hown10 hg10 hd10)
                  have bA : Below (w9.setCell ⟨H, 3, none⟩ (.slice (some ⟨g9, 0, none⟩) (os.length + 1) c9)).heap.size (w9.setCell ⟨H, 3, none⟩ (.slice (some ⟨g9, 0, none⟩) (os.length + 1) c9)) ((w9.setCell ⟨H, 3, none⟩ (.slice (some ⟨g9, 0, none⟩) (os.length + 1) c9)).alloc (.cells #[.int .i64 (j : Int)] 3)) := (Below.refl _ _).alloc (Nat.le_refl _) _
                  have Z := (V9.out.1.below bA).push1 (k := (j : Int)) HZ0.out.1 HZ0.out.2.1 HZ0.out.2.2
                  have ZX := (Y9.out.keep (ExpQ.keep bA)).keep Z.2
                  have eo : (os ++ [(pieceO o m)]).length = os.length + 1 := by simp
                  have en : (ns ++ [(j : Int)]).length = ns.length + 1 := by simp
                  have ZF : ∀ q' ∈ os ++ [(pieceO o m)], OrdFits q' := fun q' hq' => by
                    rcases List.mem_append.1 hq' with h | h
                    · exact hT.out.2.2 q' h
                    · rw [List.mem_singleton] at h
                      rw [h]
                      exact HFq.out
                  have ZS : ExpSt H (w.heap.size + 1) W0 (exB x P (.slice (some ⟨g9, 0, none⟩) (os ++ [(pieceO o m)]).length c9) (.slice none 0 0) (.slice none 0 0)) (ns ++ [(j : Int)]) (os ++ [(pieceO o m)]) w10 (some ⟨g10, 0, none⟩) c10 (some ⟨g9, 0, none⟩) c9 (cs ++ OrdCells (pieceO o m) Ai ci) := by
                    rw [eo]
                    exact Z.1
                  have ZE : expF x = expFin x (expThen x.orders (x.orders.drop (j + 1)) (j + 1) (expPs x.orders j true ((piecesTo o L).drop (m + 1)) (os ++ [pieceO o m]) (ns ++ [(j : Int)]))) := by rw [hE.out, HD.out, expPs_good HZE.out]
                  exact ⟨⟨m + 1, ns ++ [(j : Int)], os ++ [pieceO o m], some ⟨g10, 0, none⟩, c10, some ⟨g9, 0, none⟩, c9, cs ++ OrdCells (pieceO o m) Ai ci, by omega, by go_num, by rw [en], Lib.hid ZS, Lib.hid ZX, Lib.hid ZE, Lib.hid ⟨by have h9 := hT.out.1; rw [eo]; omega, by have h9 := hT.out.2.1; rw [eo, en, h9], ZF⟩⟩, by simp [intOf]; omega⟩
                · have HE : Hid (expF x = .error (namedE x.orders os (pieceO o m).name)) := Lib.hid (by rw [hE.out, HD.out, expPs_bad hne]; rfl)
                  have HB8 := Lib.hid (HB7.out.trans (b8.mono HB7.out.size))
                  have hRS := (HX.out _ HB8.out).2.1
                  obtain ⟨er, her⟩ : ∃ er, namedE x.orders os (pieceO o m).name = er := ⟨_, rfl⟩
                  rw [her] at HE hne ⊢
                  clear her
                  go_wp2_with ((with_reducible refine wpList_storeL stIns rfl _ _ rfl (w.heap.size + 1) nilCs nilCs ?_ ?_ ?_ ?_ ?_ nilCs_one ?_); exact rfl; exact rfl; exact hRS; exact rfl; exact rfl; intro w9 k1 k2 k3 k4; have K := Lib.hid (And.intro k1 (And.intro k2 (And.intro k3 k4))); clear k1 k2 k3 k4)
                  obtain ⟨k1, k2, k3, k4⟩ := K.out
                  have k1' : SixAt w9 (w.heap.size + 1) nilCs := k1
                  have r0 : w9.cell? ⟨w.heap.size + 1, 0, none⟩ = some (.slice none 0 0) := k1'.cell (j := 0) rfl
                  have r1 : w9.cell? ⟨w.heap.size + 1, 1, none⟩ = some (.slice none 0 0) := k1'.cell (j := 1) rfl
                  have r2 : w9.cell? ⟨w.heap.size + 1, 2, none⟩ = some (.slice none 0 0) := k1'.cell (j := 2) rfl
                  have r3 : w9.cell? ⟨w.heap.size + 1, 3, none⟩ = some (.slice none 0 0) := k1'.cell (j := 3) rfl
                  have r4 : w9.cell? ⟨w.heap.size + 1, 4, none⟩ = some (.slice none 0 0) := k1'.cell (j := 4) rfl
                  have r5 : w9.cell? ⟨w.heap.size + 1, 5, none⟩ = some (.slice none 0 0) := k1'.cell (j := 5) rfl
                  refine bodyPost_ret (v := .tuple #[InV nilI nilP, .slice none 0 0, .int .i64 er]) (by simp [results, Try.results14, go_sem, InV, nilI, nilP, r0, r1, r2, r3, r4, r5]) rfl ?_
                  unfold ExpOut
                  rw [HE.out]
                  exact ⟨rfl, (hB0.trans (HB8.out.mono z0)).trans (k4.mono (by omega))⟩
              · have hml : m = L := by omega
                subst hml
                clear hlm
                have hd : (piecesTo o m).drop m = [] := List.drop_of_length_le (by rw [piecesTo_len]; exact Nat.le_refl _)
                have HE' : Hid (expF x = expFin x (expOs x.orders (x.orders.drop (j + 1)) (j + 1) os ns)) := Lib.hid (by rw [hE.out, hd]; rfl)
                have HT3 : Hid ((os.length : Int) + totalO (x.orders.drop (j + 1)) = t ∧ ns.length = os.length ∧ ∀ q ∈ os, OrdFits q) := Lib.hid ⟨by have := hT.out.1; rw [HT'.out]; omega, hT.out.2.1, hT.out.2.2⟩
                clear hd
                go_wp2_with fail
                exact ⟨⟨j + 1, ns, os, B1, d1, B2, d2, cs, by omega, by go_num, rfl, hS, HE', HT3⟩, by simp [intOf]; omega⟩
        · have hjk : k = j := by omega
          subst hjk
          clear hlt
          have hd : x.orders.drop k = [] := List.drop_of_length_le (by rw [HN.out]; exact Nat.le_refl _)
          have HE' : Hid (expF x = expFin x (.ok (os, ns))) := Lib.hid (by rw [hE.out, hd]; rfl)
          clear hd hE
          have hnl : ns.length ≤ 100 := by
            have h1 := hT.out.1
            have h2 := hT.out.2.1
            have h3 := total_nonneg (x.orders.drop k)
            omega
          have hol : os.length ≤ 1000 := by have h2 := hT.out.2.1; omega
          obtain ⟨W6, hW6⟩ : ∃ W6, W6 = W3 := ⟨_, rfl⟩
          subst hW6
          have HB6 := Lib.hid hb0
          have zh6 : H < W6.heap.size := hS.out.sz
          have x4 : W6.cell? ⟨w.heap.size, 4, none⟩ = some (.slice P.a4 x.apart.length P.c4) := (HX.out _ hb0).1.cell (j := 4) rfl
          have HXI := Lib.hid (And.intro ((HX.out _ hb0).2.2.apart.more (Nat.le_trans z0 hb0.size)) (Ints.of_own hS.out.own1 (by omega)))
          clear hb0
          go_wp2_with fail
          refine (rpairs_any P.a4 P.c4 x.apart B1 d1 ns W6 HXI.out.1 HXI.out.2 (Nat.le_trans HL.out.apart (by decide)) hnl).mono ?_
          obtain ⟨uA, huA⟩ : ∃ uA, sprP x.apart ns x.apart.length = uA := ⟨_, rfl⟩
          rw [huA]
          rintro e w7 ⟨A7, c7, rfl, hk7, b7⟩
          have HK7 := Lib.hid hk7
          have HUA := Lib.hid huA
          have z7 := b7.size
          have HS7 := Lib.hid (hS.out.below b7)
          have y74 : w7.cell? ⟨H, 4, none⟩ = some (.slice none 0 0) := HS7.out.box.cell (j := 4) rfl
          have f74 : w7.frozen? ⟨H, 4, none⟩ = false := HS7.out.box.frozen 4
          clear hk7 huA x4
          go_upto_region 27 with fail
          clear y74 f74
          obtain ⟨W8, hW8⟩ : ∃ W8, w7.setCell ⟨H, 4, none⟩ (.slice A7 uA.length c7) = W8 := ⟨_, rfl⟩
          have hS8 : ExpSt H (w.heap.size + 1) W0 ((exB x P (.slice B2 os.length d2) (.slice none 0 0) (.slice none 0 0)).set 4 (.slice A7 uA.length c7)) ns os W8 B1 d1 B2 d2 cs := by rw [← hW8]; exact (HS7.out.store 4 _).1
          have HK8 : Hid (W8.ownsRow W6.heap.size 76 2 (.slice A7 uA.length c7) uA.length (ren.tcs uA)) := Lib.hid (by
            rw [← hW8]
            exact ownsRow_setCell_below (a := ⟨H, 4, none⟩) HK7.out zh6 _)
          have hB8 : Below W0.heap.size W0 W8 := HB2.out.trans (hS8.bel.mono zr)
          have zh8 : W6.heap.size ≤ W8.heap.size := by rw [← hW8]; simpa using z7
          have x5 : W8.cell? ⟨w.heap.size, 5, none⟩ = some (.slice P.a5 x.before.length P.c5) := (HX.out _ hB8).1.cell (j := 5) rfl
          have HS8 := Lib.hid hS8
          have HB8 := Lib.hid hB8
          have HXJ := Lib.hid (And.intro ((HX.out _ hB8).2.2.before.more (Nat.le_trans z0 hB8.size)) (Ints.of_own hS8.own1 (by omega)))
          rw [hW8]
          clear hW8 hS8 hB8 HK7 HS7 b7 z7
          go_wp2_with fail
          refine (rpairs_any P.a5 P.c5 x.before B1 d1 ns W8 HXJ.out.1 HXJ.out.2 (Nat.le_trans HL.out.before (by decide)) hnl).mono ?_
          obtain ⟨uB, huB⟩ : ∃ uA, sprP x.before ns x.before.length = uA := ⟨_, rfl⟩
          rw [huB]
          rintro e w9 ⟨A9, c9, rfl, hk9, b9⟩
          have HK9 := Lib.hid hk9
          have HUB := Lib.hid huB
          have z9 := b9.size
          have HS9 := Lib.hid (HS8.out.below b9)
          have y95 : w9.cell? ⟨H, 5, none⟩ = some (.slice none 0 0) := HS9.out.box.cell (j := 5) rfl
          have f95 : w9.frozen? ⟨H, 5, none⟩ = false := HS9.out.box.frozen 5
          clear hk9 huB x5
          go_upto_region 28 with fail
          clear y95 f95
          obtain ⟨W10, hW10⟩ : ∃ W10, w9.setCell ⟨H, 5, none⟩ (.slice A9 uB.length c9) = W10 := ⟨_, rfl⟩
          have hS10 : ExpSt H (w.heap.size + 1) W0 (((exB x P (.slice B2 os.length d2) (.slice none 0 0) (.slice none 0 0)).set 4 (.slice A7 uA.length c7)).set 5 (.slice A9 uB.length c9)) ns os W10 B1 d1 B2 d2 cs := by rw [← hW10]; exact (HS9.out.store 5 _).1
          have HK10 : Hid (W10.ownsRow W8.heap.size 76 2 (.slice A9 uB.length c9) uB.length (ren.tcs uB)) := Lib.hid (by
            rw [← hW10]
            exact ownsRow_setCell_below (a := ⟨H, 5, none⟩) HK9.out (by show H < _; omega) _)
          have HK8' : Hid (W10.ownsRow W6.heap.size 76 2 (.slice A7 uA.length c7) uA.length (ren.tcs uA)) := Lib.hid (by
            rw [← hW10]
            exact ownsRow_setCell_below (a := ⟨H, 5, none⟩) (own_below HK8.out b9) zh6 _)
          have hB10 : Below W0.heap.size W0 W10 := HB2.out.trans (hS10.bel.mono zr)
          have HS10 := Lib.hid hS10
          have HB10 := Lib.hid hB10
          have hRS := (HX.out _ hB10).2.1
          have hEF : expF x = if 16 < uA.length ∨ 16 < uB.length then .error 4 else .ok (⟨x.net, x.types, os, uA, uB⟩, ns) := by
            rw [HE'.out]
            show (if 16 < (sprP x.apart ns x.apart.length).length ∨ 16 < (sprP x.before ns x.before.length).length then _ else _) = _
            rw [HUA.out, HUB.out]
          have HEF := Lib.hid hEF
          have y4 : W10.cell? ⟨H, 4, none⟩ = some (.slice A7 uA.length c7) := hS10.box.cell (j := 4) rfl
          have y5 : W10.cell? ⟨H, 5, none⟩ = some (.slice A9 uB.length c9) := hS10.box.cell (j := 5) rfl
          rw [hW10]
          clear hW10 hS10 hB10 HK8 HK9 HS9 HS8 b9 z9 hEF
          by_cases hA16 : 16 < uA.length
          · have HE4 : Hid (expF x = .error 4) := Lib.hid (by rw [HEF.out, if_pos (.inl hA16)])
            have hA16i : (16 : Int) < (uA.length : Int) := by omega
            go_wp2_with ((with_reducible refine wpList_storeL stIns rfl _ _ rfl (w.heap.size + 1) nilCs nilCs ?_ ?_ ?_ ?_ ?_ nilCs_one ?_); exact rfl; exact rfl; exact hRS; exact rfl; exact rfl; intro w11 k1 k2 k3 k4; have K := Lib.hid (And.intro k1 (And.intro k2 (And.intro k3 k4))); clear k1 k2 k3 k4)
            obtain ⟨k1, k2, k3, k4⟩ := K.out
            have k1' : SixAt w11 (w.heap.size + 1) nilCs := k1
            have r0 : w11.cell? ⟨w.heap.size + 1, 0, none⟩ = some (.slice none 0 0) := k1'.cell (j := 0) rfl
            have r1 : w11.cell? ⟨w.heap.size + 1, 1, none⟩ = some (.slice none 0 0) := k1'.cell (j := 1) rfl
            have r2 : w11.cell? ⟨w.heap.size + 1, 2, none⟩ = some (.slice none 0 0) := k1'.cell (j := 2) rfl
            have r3 : w11.cell? ⟨w.heap.size + 1, 3, none⟩ = some (.slice none 0 0) := k1'.cell (j := 3) rfl
            have r4 : w11.cell? ⟨w.heap.size + 1, 4, none⟩ = some (.slice none 0 0) := k1'.cell (j := 4) rfl
            have r5 : w11.cell? ⟨w.heap.size + 1, 5, none⟩ = some (.slice none 0 0) := k1'.cell (j := 5) rfl
            refine bodyPost_ret (v := .tuple #[InV nilI nilP, .slice none 0 0, .int .i64 4]) (by simp [results, Try.results14, go_sem, InV, nilI, nilP, r0, r1, r2, r3, r4, r5]) rfl ?_
            unfold ExpOut
            rw [HE4.out]
            exact ⟨rfl, (hB0.trans (HB10.out.mono z0)).trans (k4.mono (by omega))⟩
          by_cases hB16 : 16 < uB.length
          · have HE4 : Hid (expF x = .error 4) := Lib.hid (by rw [HEF.out, if_pos (.inr hB16)])
            have hB16i : (16 : Int) < (uB.length : Int) := by omega
            have hA16i : ¬ (16 : Int) < (uA.length : Int) := by omega
            go_wp2_with ((with_reducible refine wpList_storeL stIns rfl _ _ rfl (w.heap.size + 1) nilCs nilCs ?_ ?_ ?_ ?_ ?_ nilCs_one ?_); exact rfl; exact rfl; exact hRS; exact rfl; exact rfl; intro w11 k1 k2 k3 k4; have K := Lib.hid (And.intro k1 (And.intro k2 (And.intro k3 k4))); clear k1 k2 k3 k4)
            obtain ⟨k1, k2, k3, k4⟩ := K.out
            have k1' : SixAt w11 (w.heap.size + 1) nilCs := k1
            have r0 : w11.cell? ⟨w.heap.size + 1, 0, none⟩ = some (.slice none 0 0) := k1'.cell (j := 0) rfl
            have r1 : w11.cell? ⟨w.heap.size + 1, 1, none⟩ = some (.slice none 0 0) := k1'.cell (j := 1) rfl
            have r2 : w11.cell? ⟨w.heap.size + 1, 2, none⟩ = some (.slice none 0 0) := k1'.cell (j := 2) rfl
            have r3 : w11.cell? ⟨w.heap.size + 1, 3, none⟩ = some (.slice none 0 0) := k1'.cell (j := 3) rfl
            have r4 : w11.cell? ⟨w.heap.size + 1, 4, none⟩ = some (.slice none 0 0) := k1'.cell (j := 4) rfl
            have r5 : w11.cell? ⟨w.heap.size + 1, 5, none⟩ = some (.slice none 0 0) := k1'.cell (j := 5) rfl
            refine bodyPost_ret (v := .tuple #[InV nilI nilP, .slice none 0 0, .int .i64 4]) (by simp [results, Try.results14, go_sem, InV, nilI, nilP, r0, r1, r2, r3, r4, r5]) rfl ?_
            unfold ExpOut
            rw [HE4.out]
            exact ⟨rfl, (hB0.trans (HB10.out.mono z0)).trans (k4.mono (by omega))⟩
          have HE5 : Hid (expF x = .ok (⟨x.net, x.types, os, uA, uB⟩, ns)) := Lib.hid (by rw [HEF.out, if_neg (by omega)])
          have hB16i : ¬ (16 : Int) < (uB.length : Int) := by omega
          have hA16i : ¬ (16 : Int) < (uA.length : Int) := by omega
          obtain ⟨Y, hY⟩ : ∃ Y, (⟨x.net, x.types, os, uA, uB⟩ : Ins) = Y := ⟨_, rfl⟩
          obtain ⟨Q, hQ⟩ : ∃ Q, (⟨P.a0, P.c0, P.a1, P.c1, P.a2, P.c2, B2, d2, A7, c7, A9, c9⟩ : InP) = Q := ⟨_, rfl⟩
          have HXY : Hid (SixAt W10 H (insCs Y Q)) := Lib.hid (by rw [← hY, ← hQ]; exact HS10.out.box)
          have HYQ := Lib.hid (And.intro hY hQ)
          clear hY hQ
          go_wp2_with (first
            | ((with_reducible refine wpList_loadG stIns _ rfl ⟨H, 0, none⟩ (insCs (Y) Q) ?_ ?_ ?_ ?_ ?_); exact rfl; exact rfl; exact HXY.out.cells; exact rfl)
            | ((with_reducible refine wpList_storeL stIns rfl _ _ rfl (w.heap.size + 1) nilCs (insCs Y Q) ?_ ?_ ?_ ?_ ?_ (insCs_one _ _) ?_); exact rfl; exact rfl; exact hRS; exact rfl; exact rfl; intro w11 k1 k2 k3 k4; have K := Lib.hid (And.intro k1 (And.intro k2 (And.intro k3 k4))); clear k1 k2 k3 k4))
          obtain ⟨k1, k2, k3, k4⟩ := K.out
          have k1' : SixAt w11 (w.heap.size + 1) (insCs Y Q) := k1
          have r0 : w11.cell? ⟨w.heap.size + 1, 0, none⟩ = some (.slice Q.a0 Y.net.places.length Q.c0) := k1'.cell (j := 0) rfl
          have r1 : w11.cell? ⟨w.heap.size + 1, 1, none⟩ = some (.slice Q.a1 Y.net.arcs.length Q.c1) := k1'.cell (j := 1) rfl
          have r2 : w11.cell? ⟨w.heap.size + 1, 2, none⟩ = some (.slice Q.a2 Y.types.length Q.c2) := k1'.cell (j := 2) rfl
          have r3 : w11.cell? ⟨w.heap.size + 1, 3, none⟩ = some (.slice Q.a3 Y.orders.length Q.c3) := k1'.cell (j := 3) rfl
          have r4 : w11.cell? ⟨w.heap.size + 1, 4, none⟩ = some (.slice Q.a4 Y.apart.length Q.c4) := k1'.cell (j := 4) rfl
          have r5 : w11.cell? ⟨w.heap.size + 1, 5, none⟩ = some (.slice Q.a5 Y.before.length Q.c5) := k1'.cell (j := 5) rfl
          refine bodyPost_ret (v := .tuple #[InV Y Q, .slice B1 ns.length d1, .int .i64 0]) (by simp [results, Try.results14, go_sem, InV, r0, r1, r2, r3, r4, r5]) rfl ?_
          clear r0 r1 r2 r3 r4 r5 k1'
          unfold ExpOut
          rw [HE5.out]
          have hI11 : InAt w11 w.heap.size x P := (HX.out _ HB10.out).2.2.below (k4.mono (by omega))
          have hB11 : Below w.heap.size w w11 := (hB0.trans (HB10.out.mono z0)).trans (k4.mono (by omega))
          have zz := hB11.size
          obtain ⟨e1, e2⟩ := HYQ.out
          subst e1
          subst e2
          have hE11 := ElsIn.keep HS10.out.els (Nat.le_of_eq k3.symm) (fun b hb hq => ⟨hq, k2 b hq.2.2.2⟩)
          have hO11 := own_other HS10.out.own2 k2 (by omega)
          have hN11 := own_other HS10.out.own1 k2 (by omega)
          have hA11 := own_other HK8'.out k2 (by omega)
          have hC11 := own_other HK10.out k2 (by omega)
          refine ⟨_, B1, d1, rfl, ⟨hI11.places.more zz, hI11.arcs.more zz, hI11.types.more zz, ?_, ?_, ?_, hI11.capT, own_len_cap hO11, own_len_cap hA11, own_len_cap hC11⟩, Ints.of_own hN11 (by omega), hB11⟩
          · exact hE11.row (r := rOrd) (fun o A c => rfl) hO11 (fun o ho A c hi => rOrd_mk hi (hT.out.2.2 o ho)) (by omega)
          · exact two_fits hA11 (sprP_fits x.apart ns hnl HUA.out) (by show uA.length ≤ _; omega)
          · exact two_fits hC11 (sprP_fits x.before ns hnl HUB.out) (by show uB.length ≤ _; omega)
end Go.Proofs.Ytceceomaheobhaa.spl

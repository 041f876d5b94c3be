/- split.sum, walked. -/
import Derived.Test.YtceceomaheobhaaGreatDoorSpR
import Derived.Test.YtceceomaheobhaaGreatDoorSplJ
import Derived.Deep.DeepCutAuto
import Derived.Deep.CutBlock
import Derived.Deep.QuietTactic
import Derived.BigQuiet
import Derived.Deep.RegionHeld3
import Derived.Deep.RegionWith
namespace Go.Proofs.YtceceomaheobhaaGreatDoor.spl
open Go.RowKit
open Go.Proofs.YtceceomaheobhaaGreatDoor.lib Go.Proofs.YtceceomaheobhaaGreatDoor.rd Go.Proofs.YtceceomaheobhaaGreatDoor.app Go.Proofs.YtceceomaheobhaaGreatDoor.els Go.Proofs.YtceceomaheobhaaGreatDoor.loads Go.Proofs.YtceceomaheobhaaGreatDoor.typ Go.Proofs.YtceceomaheobhaaGreatDoor.big Go.Proofs.YtceceomaheobhaaGreatDoor.ins Go.Proofs.YtceceomaheobhaaGreatDoor.ord Go.Proofs.YtceceomaheobhaaGreatDoor.flts Go.Proofs.YtceceomaheobhaaGreatDoor.off Go.Proofs.YtceceomaheobhaaGreatDoor.cats
set_option linter.unusedVariables false
set_option linter.unusedSimpArgs false

theorem SmSt.start {w w1 : World} {base n : Nat} (h : w1.ownsRow base 38 1 (.slice (some ⟨w.heap.size, 0, none⟩) n n) n (List.replicate n (.slice none 0 0))) (hb : Below w.heap.size w w1) (hz : w.heap.size < w1.heap.size) (hbase : base ≤ w.heap.size) : SmSt base w n w.heap.size (List.replicate n []) w1 (List.replicate n (.slice none 0 0)) := by
  refine ⟨by simp, h, ⟨by simp; exact (Nat.mul_one n).symm, fun i x hi => ?_⟩, hb.mono hbase, hbase, hz⟩
  rw [List.getElem?_replicate] at hi
  split at hi
  · rename_i hin
    cases hi
    rw [show oInts.rd.size = 1 from rfl, Nat.mul_one, List.drop_replicate, List.take_replicate, show min 1 (n - i) = 1 by omega]
    exact ⟨none, 0, rfl, ⟨⟨⟨rfl, fun h => absurd h (by decide)⟩, by simp⟩, fun h => absurd h (by decide)⟩⟩
  · cases hi
set_option maxRecDepth 100000 in
set_option maxHeartbeats 4000000 in
theorem sum_any (x : Ins) (P : InP) (AL : Option Addr) (cL : Nat) (ll : List (List Sha)) (w : World)
    (h : InAt w w.heap.size x P) (hL : RowAt (rSlice rSha) w w.heap.size AL ll) (hno : x.orders.length ≤ 1000) (hll : ∀ o ∈ x.orders, o.load.length ≤ 1000000) (hn1 : ll.length ≤ 1000000) (hn2 : ll.flatten.length ≤ 1000000) :
    Calls Tryz.prog 84 #[InV x P, .slice AL ll.length cL] w (SumOut w (sumF x.orders ll.flatten)) := by
  obtain ⟨W0, hW0⟩ : ∃ W0, w.alloc (.cells (insCs x P).toArray 30) = W0 := ⟨_, rfl⟩
  have hB0 : Below w.heap.size w W0 := by rw [← hW0]; exact (Below.refl _ _).alloc (Nat.le_refl _) _
  have z0 := hB0.size
  have hs0 : w.heap.size < W0.heap.size := by rw [← hW0]; simp
  have b0 : SixAt W0 w.heap.size (insCs x P) := by
    rw [← hW0]
    exact World.alloc_heap_new w _
  have HX := Lib.hid (fun w' (h' : Below W0.heap.size W0 w') => (And.intro (b0.below h') (And.intro (h.orders.below (hB0.trans (h'.mono z0))) (hL.below (hB0.trans (h'.mono z0))))))
  have hW1 : w.alloc (.cells #[.slice P.a0 x.net.places.length P.c0, .slice P.a1 x.net.arcs.length P.c1, .slice P.a2 x.types.length P.c2, .slice P.a3 x.orders.length P.c3, .slice P.a4 x.apart.length P.c4, .slice P.a5 x.before.length P.c5] 30) = W0 := hW0
  obtain ⟨n, hn⟩ : ∃ n, x.orders.length = n := ⟨_, rfl⟩
  have x3 : W0.cell? ⟨w.heap.size, 3, none⟩ = some (.slice P.a3 n P.c3) := by rw [← hn]; exact b0.cell (j := 3) rfl
  rw [hn] at hno hW1
  have HN := Lib.hid hn
  have HW1 := Lib.hid hW1
  have HLL := Lib.hid (And.intro hll (And.intro hn1 hn2))
  simp only [InV]
  rw [hn]
  obtain ⟨m, hm⟩ : ∃ m, ll.length = m := ⟨_, rfl⟩
  have HM := Lib.hid hm
  rw [hm]
  clear hn hm hW0 hW1 h hL b0 hll hn1 hn2
  go_enter Tryz.func84, Tryz.ntmps84
  go_upto_region 1 with fail
  rw [HW1.out]
  go_upto_region 2 with (at_make; refine make_lists rfl _ _ rfl W0.heap.size n rfl rfl (by omega) (Nat.le_refl _) ?_; intro w1 hown1 hb1 hz1)
  have HS1 : Hid (SmSt W0.heap.size W0 n W0.heap.size (smPart x.orders 0) w1 (List.replicate n (.slice none 0 0))) := Lib.hid (by rw [smPart_zero, HN.out]; exact SmSt.start hown1 hb1 hz1 (Nat.le_refl _))
  have x3' : w1.cell? ⟨w.heap.size, 3, none⟩ = some (.slice P.a3 n P.c3) := (hb1.cell (p := ⟨w.heap.size, 3, none⟩) hs0).trans x3
  obtain ⟨G, hG⟩ : ∃ G, W0.heap.size = G := ⟨_, rfl⟩
  rw [hG] at HS1 hs0 z0 HX ⊢
  clear x3 hown1 hb1 hz1 hG HW1
  go_upto_region 3 with fail
  clear x3'
  go_loopw [7, 8, 18] (fun _ _ i wr => ∃ (k : Nat) (cs : List Value), k ≤ n ∧ i = .int .i64 k ∧ Hid (SmSt G W0 n G (smPart x.orders k) wr cs)) (fun _ _ i _ => n - (intOf i).toNat)
  case atStart => exact ⟨0, _, by omega, rfl, HS1⟩
  case round =>
    clear HS1
    obtain ⟨k, cs, hk, rfl, HS⟩ := hrel
    by_cases hlt : k < n
    · obtain ⟨o, ho⟩ : ∃ o, x.orders[k]? = some o := ⟨_, List.getElem?_eq_getElem (by rw [HN.out]; exact hlt)⟩
      obtain ⟨ad, cs0, hA, hadb, hat, hcs⟩ := ((HX.out _ HS.out.bel).2.1).elem ho
      obtain ⟨C, cc, rfl, hI, hf⟩ := rOrd_at hat
      have HT := Lib.hid (smPart_succ ho)
      have HC := Lib.hid hcs
      have hol : o.load.length ≤ 1000000 := HLL.out.1 o (List.mem_of_getElem? ho)
      have hzr := HS.out.bel.size
      have hk0 : (0 : Int) ≤ (k : Int) := by omega
      have hkn : (k : Int) < (n : Int) := by omega
      clear ho hat hcs hI hf
      rw [hA]
      go_upto_region 5 with (first
        | ((with_reducible refine wpList_loadG stOrd' _ rfl (ad.add (k * 16)) (OrdCells o C cc) ?_ ?_ ?_ ?_ ?_); exact rfl; exact rfl; exact HC.out; exact rfl)
        | ((with_reducible refine wpList_storeL stOrd' rfl _ _ rfl wr.heap.size ordZs (OrdCells o C cc) ?_ ?_ ?_ ?_ ?_ (ordCells_one _ _ _) ?_); exact rfl; exact rfl; exact World.alloc_heap_new wr _; exact rfl; exact rfl; intro w2 k1 k2 k3 k4; have K := Lib.hid (And.intro k1 (And.intro k2 (And.intro k3 k4))); clear k1 k2 k3 k4))
      (try simp only [Act.put, List.getElem_toArray, List.getElem_cons_succ, List.getElem_cons_zero, List.setIfInBounds_toArray, List.set_cons_zero, List.set_cons_succ])
      obtain ⟨k1, k2, k3, k4⟩ := K.out
      have b2 : Below wr.heap.size wr w2 := ((Below.refl _ _).alloc (Nat.le_refl _) _).trans k4
      have HO2 : Hid (OrBlk w2 wr.heap.size o C cc) := Lib.hid k1
      have HS2 := Lib.hid (HS.out.below b2)
      have p1 : w2.cell? ⟨wr.heap.size, 1, none⟩ = some (.slice C o.load.length cc) := orBlk_at HO2.out 1 _ rfl
      clear k1 k2 k3 k4 b2 K HS HC hadb hA
      have hlow := HS2.out.lo
      have hsl : (smPart x.orders k)[k]? = some ((smPart x.orders k)[k]'(by rw [HS2.out.len]; exact hlt)) := List.getElem?_eq_getElem (by rw [HS2.out.len]; exact hlt)
      obtain ⟨D, d, e1, e2, e3⟩ := HS2.out.at_ hsl
      clear hsl e2
      go_upto_region 6 with (at_make; refine make_ints rfl _ _ rfl w2.heap.size o.load.length rfl rfl (by omega) (Nat.le_refl _) ?_; intro w3 hown3 hb3 hz3; have f3 : w3.frozen? ⟨G, k, none⟩ = false := (hb3.frozen (p := ⟨G, k, none⟩) hlow.2).trans e3; have c3 := (hb3.cell (p := ⟨G, k, none⟩) hlow.2).trans e1)
      have hio : IntsOff w3 (fun b => b ≠ G ∧ G ≤ b) (some ⟨w2.heap.size, 0, none⟩) (List.replicate o.load.length (0 : Int)) := IntsOff.own (c := o.load.length) (base := w2.heap.size) (e := 3) (by rw [List.length_replicate]; exact hown3) (by rw [List.length_replicate]; omega) (fun b hb => ⟨by omega, by omega⟩)
      have hpt := (HS2.out.below hb3).put (c := o.load.length) hlt hio
      rw [List.length_replicate, ← HT.out] at hpt
      have HPT := Lib.hid hpt
      clear hown3 hb3 hio hpt f3 c3 e1 e3 p1
      go_wp2
      exact ⟨⟨k + 1, _, by omega, by go_num, HPT⟩, by simp [intOf]; omega⟩
    · have hkn : k = n := by omega
      subst hkn
      clear hlt
      have HS2 : Hid (SmSt G W0 k G (smZero x.orders) wr cs) := Lib.hid (by have h := HS.out; rw [← HN.out, smPart_full, HN.out] at h; exact h)
      have hz := HS2.out.bel.size
      have hzG := HS2.out.lo.2
      have HRW := Lib.hid (HX.out _ HS2.out.bel).2.2
      clear HS hk
      go_wp2_with fail
      rw [← HM.out]
      refine (sha_conc AL cL ll _ w.heap.size (by omega) HRW.out HLL.out.2.1 HLL.out.2.2).mono ?_
      rw [HM.out]
      rintro e w5 ⟨A5, c5, CS, rfl, hown5, hco5, b5⟩
      obtain ⟨fl, hfl⟩ : ∃ fl, ll.flatten = fl := ⟨_, rfl⟩
      have hN6 := HLL.out.2.2
      rw [hfl] at hown5 hco5 hN6 ⊢
      obtain ⟨N, hN⟩ : ∃ N, fl.length = N := ⟨_, rfl⟩
      rw [hN] at hown5 hN6 ⊢
      obtain ⟨S, hS⟩ : ∃ S, wr.heap.size = S := ⟨_, rfl⟩
      have HS5 := Lib.hid (HS2.out.below b5)
      rw [hS] at hown5 hzG hz
      have HO5 := Lib.hid hown5
      have HCO : Hid (∀ w', Below G w5 w' → CellsOf rSha w' w.heap.size fl CS) := Lib.hid (fun w' h' => hco5.keep (h'.mono (by omega)))
      have HNN := Lib.hid (And.intro hN hfl)
      have hz5 := b5.size
      rw [hS] at hz5
      have HSM : Hid (smGo (fl.drop 0) (smZero x.orders) = sumF x.orders fl) := Lib.hid rfl
      obtain ⟨R, hR⟩ : ∃ R, sumF x.orders fl = R := ⟨_, rfl⟩
      have HRR : Hid (sumF x.orders ll.flatten = R) := Lib.hid (by rw [hfl]; exact hR)
      rw [hR] at HSM
      have HZ : Hid (∀ l ∈ smZero x.orders, BdL ((0 : Nat) * 1000 : Int) l) := Lib.hid (fun l hl v hv => by
        unfold smZero at hl
        obtain ⟨o, _, rfl⟩ := List.mem_map.1 hl
        rw [List.mem_replicate] at hv
        omega)
      clear hown5 hco5 hN hfl b5 HS2 HRW hS hR
      go_upto_region 8 with fail
      go_loopw [10, 34] (fun _ i wr => ∃ (j : Nat) (acc : List (List Int)) (cs : List Value), j ≤ N ∧ i = .int .i64 j ∧ Hid (smGo (fl.drop j) acc = R) ∧ Hid (∀ l ∈ acc, BdL ((j : Nat) * 1000 : Int) l) ∧ Hid (SmSt G W0 k G acc wr cs) ∧ Hid (wr.ownsRow S 87 2 (.slice A5 N c5) N CS) ∧ Hid (Below G w5 wr)) (fun _ i _ => N - (intOf i).toNat)
      case atStart => exact ⟨0, _, _, by omega, rfl, HSM, HZ, HS5, HO5, Lib.hid (Below.refl _ _)⟩
      case round =>
        clear HSM HZ HS5 HO5
        obtain ⟨j, acc, cs2, hj, rfl, hsm, hbd, HS, HO, HB⟩ := hrel
        by_cases hlt : j < N
        · obtain ⟨s, hs⟩ : ∃ s, fl[j]? = some s := ⟨_, List.getElem?_eq_getElem (by rw [HNN.out.1]; exact hlt)⟩
          have hrow : RowAt rSha wr wr.heap.size A5 fl := RowAt.of_own ((HCO.out _ HB.out).more (by have := HS.out.lo.2; omega)) (by rw [HNN.out.1]; exact HO.out) (by rw [HNN.out.1]; omega)
          obtain ⟨cs3, hc3, -⟩ := (HCO.out _ HB.out).2 j s hs
          obtain ⟨C1, c1, rfl, hI1, -⟩ := rSha_at hc3
          obtain ⟨ad, C, cc, rfl, hadb, ⟨m0, m1⟩, hI, hf⟩ := row_Sha hrow hs
          have HT := Lib.hid (smGo_at (acc := acc) hs)
          have hzr := HS.out.lo.2
          have hj0 : (0 : Int) ≤ (j : Int) := by omega
          have hjn : (j : Int) < (N : Int) := by omega
          have HI := Lib.hid hI
          clear hs hrow hc3 hI1 hI
          go_upto_region 10 with fail
          obtain ⟨w6, hw6⟩ : ∃ w6, wr.alloc (.cells #[.int .i64 s.order, .slice C s.load.length cc] 87) = w6 := ⟨_, rfl⟩
          have b6 : Below wr.heap.size wr w6 := by rw [← hw6]; exact (Below.refl _ _).alloc (Nat.le_refl _) _
          have z6 : wr.heap.size < w6.heap.size := by rw [← hw6]; simp
          have p0 : w6.cell? ⟨wr.heap.size, 0, none⟩ = some (.int .i64 s.order) := by rw [← hw6]; exact two_new wr _ _ _ 0 _ rfl
          have p1 : w6.cell? ⟨wr.heap.size, 1, none⟩ = some (.slice C s.load.length cc) := by rw [← hw6]; exact two_new wr _ _ _ 1 _ rfl
          rw [hw6]
          obtain ⟨p, hp⟩ : ∃ p, wr.heap.size = p := ⟨_, rfl⟩
          have HS6 := Lib.hid (HS.out.below b6)
          have HO6 := Lib.hid (own_below HO.out b6)
          have HB6 := Lib.hid (HB.out.trans (b6.mono (by omega)))
          have HI6 := Lib.hid ((HI.out.below b6).more b6.size)
          rw [hp] at p0 p1 z6 hzr ⊢
          clear hw6 b6 HS HO HB HI hp m0 m1
          have hGp := hzr
          go_cut [59] (fun v wx => v = .bool (!smOk acc s) ∧ Below w6.heap.size w6 wx)
          case first => as_aux_lemma =>
            by_cases h0 : s.order < 0
            · have HH : Hid (smOk acc s = false) := Lib.hid (by unfold smOk; rw [decide_eq_false (by omega)]; rfl)
              have hd0 : decide (s.order < 0) = true := decide_eq_true h0
              clear h0
              go_quiet (fail)
              go_wp2
              go_meet
              exact ⟨by rw [HH.out]; rfl, bel_drewN (Below.refl _ _) _⟩
            · obtain ⟨q, hq⟩ := Int.eq_ofNat_of_zero_le (show 0 ≤ s.order by omega)
              have HQ := Lib.hid hq
              have hq0 : (0 : Int) ≤ (q : Int) := by omega
              have hd0 : decide ((q : Int) < 0) = false := decide_eq_false (by omega)
              rw [hq] at p0
              clear hq h0
              by_cases h1 : q < k
              · obtain ⟨l, hl⟩ : ∃ l, acc[q]? = some l := ⟨_, List.getElem?_eq_getElem (by rw [HS6.out.len]; exact h1)⟩
                obtain ⟨D, d, e1, e2, e3⟩ := HS6.out.at_ hl
                have HH : Hid (smOk acc s = rightB s.load l.length) := Lib.hid (by unfold smOk; rw [HQ.out, HS6.out.len, decide_eq_true ⟨hq0, by omega⟩, Int.toNat_natCast, hl]; rfl)
                have hd1 : decide ((k : Int) ≤ (q : Int)) = false := decide_eq_false (by omega)
                have hd2 : decide (k ≤ q) = false := decide_eq_false (by omega)
                have hqk : (q : Int) < (k : Int) := by omega
                obtain ⟨rb, hrb⟩ : ∃ rb, rightB s.load l.length = rb := ⟨_, rfl⟩
                have HRB : Hid (∀ wq, Calls Tryz.prog 80 #[.slice C s.load.length cc, .int .i64 l.length] (w6.drewN wq) fun e w' => e = .returned (.bool rb) ∧ w' = w6.drewN wq) := Lib.hid (fun wq => (right_any C cc s.load l.length (w6.drewN wq) w6.heap.size HI6.out).mono (fun _ _ h => ⟨by rw [← hrb]; exact h.1, h.2.symm⟩))
                rw [hrb] at HH
                clear hl e2 hrb
                go_quiet ((go_at_call 80; exact Calls.quiet_of_same (HRB.out _)))
                go_wp2
                go_meet
                exact ⟨by rw [HH.out], bel_drewN (Below.refl _ _) _⟩
              · have HH : Hid (smOk acc s = false) := Lib.hid (by unfold smOk; rw [HQ.out, HS6.out.len, decide_eq_false (by omega)]; rfl)
                have hd1 : decide ((k : Int) ≤ (q : Int)) = true := decide_eq_true (by omega)
                have hd2 : decide (k ≤ q) = true := decide_eq_true (by omega)
                clear h1
                go_quiet (fail)
                go_wp2
                go_meet
                exact ⟨by rw [HH.out]; rfl, bel_drewN (Below.refl _ _) _⟩
          obtain ⟨hv59, hb7⟩ := hcut
          subst hv59
          have HS7 := Lib.hid (HS6.out.below hb7)
          have HO7 := Lib.hid (own_below HO6.out hb7)
          have HB7 := Lib.hid (HB6.out.trans (hb7.mono (by omega)))
          have HI7 := Lib.hid ((HI6.out.below hb7).more hb7.size)
          have q0 : wc.cell? ⟨p, 0, none⟩ = some (.int .i64 s.order) := (hb7.cell (p := ⟨p, 0, none⟩) z6).trans p0
          have q1 : wc.cell? ⟨p, 1, none⟩ = some (.slice C s.load.length cc) := (hb7.cell (p := ⟨p, 1, none⟩) z6).trans p1
          have z7 := hb7.size
          clear p0 p1 HS6 HO6 HB6 HI6 hb7
          cases hok : smOk acc s
          · have HE : Hid (R = none) := Lib.hid (by rw [← hsm.out, HT.out, hok]; rfl)
            clear hok
            go_wp2
            go_ret2
            rw [HRR.out, HE.out]
            exact ⟨rfl, hB0.trans (HS7.out.bel.mono z0)⟩
          · have HE : Hid (smGo (fl.drop (j + 1)) (smPut acc s) = R) := Lib.hid (by rw [← hsm.out, HT.out, hok]; rfl)
            have hok2 := hok
            unfold smOk at hok2
            simp only [Bool.and_eq_true, decide_eq_true_eq] at hok2
            obtain ⟨q, hq⟩ := Int.eq_ofNat_of_zero_le hok2.1.1
            have hqk : q < k := by have h := hok2.1.2; rw [HS7.out.len] at h; omega
            obtain ⟨l, hl⟩ : ∃ l, acc[q]? = some l := ⟨_, List.getElem?_eq_getElem (by rw [HS7.out.len]; exact hqk)⟩
            have HPU : Hid (smPut acc s = acc.set q (addE l s.load)) := Lib.hid (by unfold smPut; rw [hq, Int.toNat_natCast, hl]; rfl)
            have HBD : Hid (∀ l ∈ smPut acc s, BdL (((j + 1 : Nat) : Int) * 1000) l) := Lib.hid (fun l hl v hv => by
              have := smPut_bd (by omega) hbd.out (smOk_right hok) l hl v hv
              push_cast
              omega)
            have HAB := Lib.hid (And.intro (bd_inM (hbd.out l (List.mem_of_getElem? hl)) (by omega)) (bd_inM (smOk_right hok) (by omega)))
            obtain ⟨D, d, e1, e2, e3⟩ := HS7.out.at_ hl
            have HII := Lib.hid e2
            obtain ⟨L, hL⟩ : ∃ L, s.load.length = L := ⟨_, rfl⟩
            obtain ⟨M, hM⟩ : ∃ L, l.length = L := ⟨_, rfl⟩
            have HLM := Lib.hid (And.intro hL hM)
            have hLn : L ≤ 17592186043904 := by rw [← hL]; exact HI7.out.len
            rw [hq] at q0
            rw [hL] at q1
            rw [hM] at e1
            have hq0 : (0 : Int) ≤ (q : Int) := by omega
            have hqk' : (q : Int) < (k : Int) := by omega
            have hGw := HS7.out.lo.2
            clear hok hok2 hq hl e2 hL hM
            go_upto_region 12 with fail
            (refine wp_region_held_drew (S := (fun w' => w'.cell? ⟨p, 0, none⟩ = some (.int .i64 q) ∧ w'.cell? ⟨p, 1, none⟩ = some (.slice C L cc))) (by kernel_rfl) ?_ (fun hHeld => ?_))
            · exact ⟨q0, q1⟩
            (refine wpAnyH_take (i := 0) (v := ?_) rfl (by kernel_rfl) (by kernel_rfl) (by kernel_rfl) (fun _ _ _ h => h) (Or.inl ⟨by kernel_rfl, ?_⟩) (by assumption) ?_; rotate_left; (focus (intro w hSw; (try dsimp only at hSw); go_simp; all_goals with_reducible rfl)); (try simp only [Act.put, List.getElem_toArray, List.getElem_cons_succ, List.getElem_cons_zero, List.setIfInBounds_toArray, List.set_cons_zero, List.set_cons_succ]))
            (refine wpAnyH_take (i := 1) (v := ?_) rfl (by kernel_rfl) (by kernel_rfl) (by kernel_rfl) (fun _ _ _ h => h) (Or.inl ⟨by kernel_rfl, ?_⟩) (by assumption) ?_; rotate_left; (focus (intro w hSw; (try dsimp only at hSw); go_simp; all_goals with_reducible rfl)); (try simp only [Act.put, List.getElem_toArray, List.getElem_cons_succ, List.getElem_cons_zero, List.setIfInBounds_toArray, List.set_cons_zero, List.set_cons_succ]))
            (refine wpAnyH_take (i := 2) (v := ?_) rfl (by kernel_rfl) (by kernel_rfl) (by kernel_rfl) (fun _ _ _ h => h) (Or.inl ⟨by kernel_rfl, ?_⟩) (by assumption) ?_; rotate_left; (focus (intro w hSw; (try dsimp only at hSw); go_simp; all_goals with_reducible rfl)); (try simp only [Act.put, List.getElem_toArray, List.getElem_cons_succ, List.getElem_cons_zero, List.setIfInBounds_toArray, List.set_cons_zero, List.set_cons_succ]))
            (refine wpAnyH_take (i := 3) (v := ?_) rfl (by kernel_rfl) (by kernel_rfl) (by kernel_rfl) (fun _ _ _ h => h) (Or.inl ⟨by kernel_rfl, ?_⟩) (by assumption) ?_; rotate_left; (focus (intro w hSw; (try dsimp only at hSw); go_simp; all_goals with_reducible rfl)); (try simp only [Act.put, List.getElem_toArray, List.getElem_cons_succ, List.getElem_cons_zero, List.setIfInBounds_toArray, List.set_cons_zero, List.set_cons_succ]))
            (refine wpAnyH_take (i := 4) (v := ?_) rfl (by kernel_rfl) (by kernel_rfl) (by kernel_rfl) (fun _ _ _ h => h) (Or.inl ⟨by kernel_rfl, ?_⟩) (by assumption) ?_; rotate_left; (focus (intro w hSw; (try dsimp only at hSw); go_simp; all_goals with_reducible rfl)); (try simp only [Act.put, List.getElem_toArray, List.getElem_cons_succ, List.getElem_cons_zero, List.setIfInBounds_toArray, List.set_cons_zero, List.set_cons_succ]))
            (refine wpAnyH_take (i := 5) (v := ?_) rfl (by kernel_rfl) (by kernel_rfl) (by kernel_rfl) (fun _ _ _ h => h) (Or.inl ⟨by kernel_rfl, ?_⟩) (by assumption) ?_; rotate_left; (focus (intro w hSw; (try dsimp only at hSw); go_simp; all_goals with_reducible rfl)); (try simp only [Act.put, List.getElem_toArray, List.getElem_cons_succ, List.getElem_cons_zero, List.setIfInBounds_toArray, List.set_cons_zero, List.set_cons_succ]))
            (refine wpAnyH_take (i := 6) (v := ?_) rfl (by kernel_rfl) (by kernel_rfl) (by kernel_rfl) (fun _ _ _ h => h) (Or.inl ⟨by kernel_rfl, ?_⟩) (by assumption) ?_; rotate_left; (focus (intro w hSw; (try dsimp only at hSw); go_simp; all_goals with_reducible rfl)); (try simp only [Act.put, List.getElem_toArray, List.getElem_cons_succ, List.getElem_cons_zero, List.setIfInBounds_toArray, List.set_cons_zero, List.set_cons_succ]))
            (refine wpAnyH_take (i := 8) (v := ?_) rfl (by kernel_rfl) (by kernel_rfl) (by kernel_rfl) (fun _ _ _ h => h) (Or.inl ⟨by kernel_rfl, ?_⟩) (by assumption) ?_; rotate_left; (focus (intro w hSw; (try dsimp only at hSw); go_simp; all_goals with_reducible rfl)); (try simp only [Act.put, List.getElem_toArray, List.getElem_cons_succ, List.getElem_cons_zero, List.setIfInBounds_toArray, List.set_cons_zero, List.set_cons_succ]))
            (refine wpAnyH_take (i := 9) (v := ?_) rfl (by kernel_rfl) (by kernel_rfl) (by kernel_rfl) (fun _ _ _ h => h) (Or.inl ⟨by kernel_rfl, ?_⟩) (by assumption) ?_; rotate_left; (focus (intro w hSw; (try dsimp only at hSw); go_simp; all_goals with_reducible rfl)); (try simp only [Act.put, List.getElem_toArray, List.getElem_cons_succ, List.getElem_cons_zero, List.setIfInBounds_toArray, List.set_cons_zero, List.set_cons_succ]))
            (refine wpAnyH_ready (rs := [7]) (by kernel_rfl) (by simp) ?_; refine AllReadyH.cons rfl (fun K hK => ?_) AllReadyH.nil)
            go_simp
            refine hK.out _ _ ((⟨q0, q1⟩)) (fun hHeld => ?_)
            clear hK K
            (try simp only [Act.put, List.getElem_toArray, List.getElem_cons_succ, List.getElem_cons_zero, List.setIfInBounds_toArray, List.set_cons_zero, List.set_cons_succ])
            (refine wpAnyH_ready (rs := [10]) (by kernel_rfl) (by simp) ?_; refine AllReadyH.cons rfl (fun K hK => ?_) AllReadyH.nil)
            go_simp
            rw [← HLM.out.1, ← HLM.out.2]
            refine (add_any D d l C cc s.load wc.drew (show Ints wc.drew wc.drew.heap.size D l from HII.out.1) (show Ints wc.drew wc.drew.heap.size C s.load from HI7.out) HAB.out.1 HAB.out.2).mono ?_
            rw [HLM.out.1, HLM.out.2]
            rintro e w8 ⟨C8, c8, er, rfl, hown8, hb8'⟩
            have hb8 : Below wc.heap.size wc w8 := ((Below.refl _ _).drew).trans hb8'
            have z8 := hb8.size
            have q08 : w8.cell? ⟨p, 0, none⟩ = some (.int .i64 q) := (hb8.cell (p := ⟨p, 0, none⟩) (by show p < _; omega)).trans q0
            have q18 : w8.cell? ⟨p, 1, none⟩ = some (.slice C L cc) := (hb8.cell (p := ⟨p, 1, none⟩) (by show p < _; omega)).trans q1
            have e18 : w8.cell? ⟨G, q, none⟩ = some (.slice D M d) := (hb8.cell (p := ⟨G, q, none⟩) hGw).trans e1
            have e38 : w8.frozen? ⟨G, q, none⟩ = false := (hb8.frozen (p := ⟨G, q, none⟩) hGw).trans e3
            have hl8 := addE_len l s.load
            rw [HLM.out.1] at hl8
            have hI8 : IntsOff w8 (fun b => b ≠ G ∧ G ≤ b) C8 (addE l s.load) := IntsOff.own hown8 (by omega) (fun b hb => by
              have hb' : wc.heap.size ≤ b := hb
              exact ⟨by omega, by omega⟩)
            have HS8 := Lib.hid ((HS7.out.below hb8).put (c := c8) hqk hI8)
            have HO8 := Lib.hid (ownsRow_setCell_below (a := ⟨G, q, none⟩) (own_below HO7.out hb8) (by show G < _; omega) (.slice C8 (addE l s.load).length c8))
            have HB8 := Lib.hid ((HB7.out.trans (hb8.mono (by omega))).setCell (p := ⟨G, q, none⟩) (Nat.le_refl _) (.slice C8 (addE l s.load).length c8))
            clear hown8 hb8 hb8' hI8 hl8
            refine hK.out _ _ ((⟨q08, q18⟩)) (fun hHeld => ?_)
            clear hK K
            (try simp only [Act.put, List.getElem_toArray, List.getElem_cons_succ, List.getElem_cons_zero, List.setIfInBounds_toArray, List.set_cons_zero, List.set_cons_succ])
            (refine wpAnyH_take (i := 11) (v := ?_) rfl (by kernel_rfl) (by kernel_rfl) (by kernel_rfl) (fun _ _ _ h => h) (Or.inl ⟨by kernel_rfl, ?_⟩) (by assumption) ?_; rotate_left; (focus (intro w hSw; (try dsimp only at hSw); go_simp; all_goals with_reducible rfl)); (try simp only [Act.put, List.getElem_toArray, List.getElem_cons_succ, List.getElem_cons_zero, List.setIfInBounds_toArray, List.set_cons_zero, List.set_cons_succ]))
            (refine wpAnyH_take (i := 12) (v := ?_) rfl (by kernel_rfl) (by kernel_rfl) (by kernel_rfl) (fun _ _ _ h => h) (Or.inl ⟨by kernel_rfl, ?_⟩) (by assumption) ?_; rotate_left; (focus (intro w hSw; (try dsimp only at hSw); go_simp; all_goals with_reducible rfl)); (try simp only [Act.put, List.getElem_toArray, List.getElem_cons_succ, List.getElem_cons_zero, List.setIfInBounds_toArray, List.set_cons_zero, List.set_cons_succ]))
            (refine wpAnyH_take (i := 13) (v := ?_) rfl (by kernel_rfl) (by kernel_rfl) (by kernel_rfl) (fun _ _ _ h => h) (Or.inl ⟨by kernel_rfl, ?_⟩) (by assumption) ?_; rotate_left; (focus (intro w hSw; (try dsimp only at hSw); go_simp; all_goals with_reducible rfl)); (try simp only [Act.put, List.getElem_toArray, List.getElem_cons_succ, List.getElem_cons_zero, List.setIfInBounds_toArray, List.set_cons_zero, List.set_cons_succ]))
            (refine wpAnyH_take (i := 14) (v := ?_) rfl (by kernel_rfl) (by kernel_rfl) (by kernel_rfl) (fun _ _ _ h => h) (Or.inl ⟨by kernel_rfl, ?_⟩) (by assumption) ?_; rotate_left; (focus (intro w hSw; (try dsimp only at hSw); go_simp; all_goals with_reducible rfl)); (try simp only [Act.put, List.getElem_toArray, List.getElem_cons_succ, List.getElem_cons_zero, List.setIfInBounds_toArray, List.set_cons_zero, List.set_cons_succ]))
            (refine wpAnyH_ready (rs := [15]) (by kernel_rfl) (by simp) ?_; refine AllReadyH.cons rfl (fun K hK => ?_) AllReadyH.nil)
            go_simp
            have hpG : ∀ o, (⟨p, o, none⟩ : Addr) ≠ ⟨G, q, none⟩ := fun o e => by have e1 : p = G := congrArg Addr.block e; omega
            have q09 : (w8.setCell ⟨G, q, none⟩ (.slice C8 (addE l s.load).length c8)).cell? ⟨p, 0, none⟩ = some (.int .i64 q) := (World.cell?_setCell_other _ _ _ _ (by first | exact hpG 0 | exact (hpG 0).symm)).trans q08
            have q19 : (w8.setCell ⟨G, q, none⟩ (.slice C8 (addE l s.load).length c8)).cell? ⟨p, 1, none⟩ = some (.slice C L cc) := (World.cell?_setCell_other _ _ _ _ (by first | exact hpG 1 | exact (hpG 1).symm)).trans q18
            have HPG := Lib.hid hpG
            clear hpG
            refine hK.out _ _ ((⟨q09, q19⟩)) (fun hHeld => ?_)
            clear hK K
            (try simp only [Act.put, List.getElem_toArray, List.getElem_cons_succ, List.getElem_cons_zero, List.setIfInBounds_toArray, List.set_cons_zero, List.set_cons_succ])
            (refine wpAnyH_done (by kernel_rfl) ?_ _)
            go_wp2
            exact ⟨⟨j + 1, smPut acc s, _, by omega, by go_num, HE, HBD, Lib.hid (by rw [HPU.out]; exact HS8.out), HO8, HB8⟩, by simp [intOf]; omega⟩
        · have hjN : j = N := by omega
          subst hjN
          clear hlt
          have e : R = some acc := by rw [← hsm.out, List.drop_of_length_le (by rw [HNN.out.1]; exact Nat.le_refl _)]; rfl
          have HE := Lib.hid e
          clear e
          go_wp2
          go_ret2
          rw [HRR.out, HE.out]
          have hs := HS.out
          have hl := hs.len
          refine ⟨some ⟨G, 0, none⟩, k, cs2, by rw [hl]; rfl, by rw [hl]; exact own_less hs.own z0, hs.els.weak (fun b _ hp => by omega), hB0.trans (hs.bel.mono z0)⟩
end Go.Proofs.YtceceomaheobhaaGreatDoor.spl

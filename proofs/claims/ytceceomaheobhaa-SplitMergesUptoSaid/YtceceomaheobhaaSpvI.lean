/- The reference's forms. -/
import Derived.Test.YtceceomaheobhaaSpvE
import Derived.Test.YtceceomaheobhaaSpX2
import Derived.Deep.QuietTactic
import Derived.BigQuiet
namespace Go.Proofs.Ytceceomaheobhaa.spl
open Go.RowKit
open Go.Proofs.Ytceceomaheobhaa.lib Go.Proofs.Ytceceomaheobhaa.rd Go.Proofs.Ytceceomaheobhaa.app Go.Proofs.Ytceceomaheobhaa.els Go.Proofs.Ytceceomaheobhaa.loads Go.Proofs.Ytceceomaheobhaa.typ Go.Proofs.Ytceceomaheobhaa.big Go.Proofs.Ytceceomaheobhaa.ins Go.Proofs.Ytceceomaheobhaa.ord Go.Proofs.Ytceceomaheobhaa.flts Go.Proofs.Ytceceomaheobhaa.off
set_option linter.unusedVariables false
set_option linter.unusedSimpArgs false

/-- What the reference's forms answers. -/
def rformsF (os : List Ord) (ll : List (List Sha)) (un : List Int) : Int := if un.any (unBad os.length) then 2 else if ll.any (fun l => l.any (shBad os)) then 2 else 0
theorem rwhole_forms (os : List Ord) (ll : List (List Sha)) (un : List Int) : rwholeF os ll.flatten un = if rformsF os ll un ≠ 0 then 2 else rwGo un ll.flatten os 0 := by
  unfold rwholeF rformsF
  rw [List.any_flatten]
  cases un.any (unBad os.length) <;> cases ll.any (fun l => l.any (shBad os)) <;> simp
theorem shBad_at {os : List Ord} {l : List Sha} {k : Nat} {s : Sha} (h : l[k]? = some s) : (l.drop k).any (shBad os) = (shBad os s || (l.drop (k + 1)).any (shBad os)) := by
  rw [drop_at' h, List.any_cons]
theorem shsBad_at {os : List Ord} {ll : List (List Sha)} {k : Nat} {l : List Sha} (h : ll[k]? = some l) : (ll.drop k).any (fun l => l.any (shBad os)) = (l.any (shBad os) || (ll.drop (k + 1)).any (fun l => l.any (shBad os))) := by
  rw [drop_at' h, List.any_cons]
set_option maxRecDepth 100000 in
set_option maxHeartbeats 4000000 in
theorem rforms_any (x : Ins) (P : InP) (AL : Option Addr) (cL : Nat) (ll : List (List Sha)) (AU : Option Addr) (cU : Nat) (un : List Int) (w : World)
    (h : InAt w w.heap.size x P) (hL : RowAt (rSlice rSha) w w.heap.size AL ll) (hU : Ints w w.heap.size AU un) (hno : x.orders.length ≤ 1000000) (hll : ∀ o ∈ x.orders, o.load.length ≤ 1000000) (hn1 : ll.length ≤ 1000000) :
    Calls Try.prog 43 #[InV x P, .slice AL ll.length cL, .slice AU un.length cU] w (WholeOut w (rformsF x.orders ll un)) := by
  obtain ⟨W0, hW0⟩ : ∃ W0, w.alloc (.cells (insCs x P).toArray 38) = W0 := ⟨_, rfl⟩
  have hB0 : Below w.heap.size w W0 := by rw [← hW0]; exact (Below.refl _ _).alloc (Nat.le_refl _) _
  have z0 := hB0.size
  have hs0 : w.heap.size < W0.heap.size := by rw [← hW0]; simp
  have b0 : SixAt W0 w.heap.size (insCs x P) := by
    rw [← hW0]
    exact World.alloc_heap_new w _
  have hW1 : w.alloc (.cells #[.slice P.a0 x.net.places.length P.c0, .slice P.a1 x.net.arcs.length P.c1, .slice P.a2 x.types.length P.c2, .slice P.a3 x.orders.length P.c3, .slice P.a4 x.apart.length P.c4, .slice P.a5 x.before.length P.c5] 38) = W0 := hW0
  obtain ⟨n, hn⟩ : ∃ n, x.orders.length = n := ⟨_, rfl⟩
  have HX := Lib.hid (fun w' (h' : Below W0.heap.size W0 w') => (And.intro (show w'.cell? ⟨w.heap.size, 3, none⟩ = some (.slice P.a3 n P.c3) by rw [← hn]; exact (b0.below h').cell (j := 3) rfl) (And.intro (h.orders.below (hB0.trans (h'.mono z0))) (And.intro (hL.below (hB0.trans (h'.mono z0))) (hU.below (hB0.trans (h'.mono z0)))))))
  obtain ⟨R, hR⟩ : ∃ R, rformsF x.orders ll un = R := ⟨_, rfl⟩
  have HRB : Hid ((un.drop 0).any (unBad n) = true → R = 2) := Lib.hid (fun e => by rw [← hR]; unfold rformsF; rw [hn]; exact if_pos e)
  have HRG : Hid ((un.drop 0).any (unBad n) = false → R = if (ll.drop 0).any (fun l => l.any (shBad x.orders)) = true then 2 else 0) := Lib.hid (fun e => by rw [← hR]; unfold rformsF; rw [hn]; exact if_neg (by rw [show un.any (unBad n) = false from e]; simp))
  rw [hn] at hno hW1
  have HN := Lib.hid hn
  have HW1 := Lib.hid hW1
  have HLL := Lib.hid hll
  simp only [InV]
  rw [hn, hR]
  have hul := hU.len
  obtain ⟨m, hm⟩ : ∃ m, un.length = m := ⟨_, rfl⟩
  have HM := Lib.hid hm
  rw [hm] at hul ⊢
  obtain ⟨p, hp⟩ : ∃ p, ll.length = p := ⟨_, rfl⟩
  have HP := Lib.hid hp
  rw [hp] at hn1 ⊢
  clear hn hm hp hW0 hW1 h hL hU b0 hll hR
  go_enter Try.func43, Try.ntmps43
  go_upto_region 1 with fail
  rw [HW1.out]
  clear HW1
  go_upto_region 2 with fail
  go_loopw [7] (fun i wr => ∃ k : Nat, k ≤ m ∧ i = .int .i64 k ∧ Hid ((un.drop 0).any (unBad n) = (un.drop k).any (unBad n)) ∧ Hid (Below W0.heap.size W0 wr)) (fun i _ => m - (intOf i).toNat)
  case atStart => exact ⟨0, by omega, rfl, Lib.hid rfl, Lib.hid (Below.refl _ _)⟩
  case round =>
    obtain ⟨k, hk, rfl, han, HB⟩ := hrel
    by_cases hlt : k < m
    · obtain ⟨ad, i, hA, hadb, hi, hci⟩ := (HX.out _ HB.out).2.2.2.at_ (k := k) (by rw [HM.out]; exact hlt)
      have HT := Lib.hid (unBad_at (n := n) hi)
      have x3 := (HX.out _ HB.out).1
      have hk0 : (0 : Int) ≤ (k : Int) := by omega
      have hkn : (k : Int) < (m : Int) := by omega
      rw [hA]
      clear hi
      go_upto_region 4 with fail
      go_cut [31] (fun v wx => v = .bool (unBad n i) ∧ Below wr.heap.size wr wx)
      case first => as_aux_lemma =>
        by_cases h0 : i < 0
        · have HH : Hid (unBad n i = true) := Lib.hid (by unfold unBad; exact decide_eq_true (Or.inl h0))
          have hd0 : decide (i < 0) = true := decide_eq_true h0
          clear h0
          go_quiet (fail)
          go_wp2
          go_meet
          exact ⟨by rw [HH.out], bel_drewN (Below.refl _ _) _⟩
        · have hd0 : decide (i < 0) = false := decide_eq_false h0
          obtain ⟨b, hb⟩ : ∃ b, decide ((n : Int) ≤ i) = b := ⟨_, rfl⟩
          have HH : Hid (unBad n i = b) := Lib.hid (by rw [← hb]; unfold unBad; rw [decide_eq_decide]; omega)
          clear h0
          go_quiet (fail)
          go_wp2
          go_meet
          exact ⟨by rw [HH.out], bel_drewN (Below.refl _ _) _⟩
      obtain ⟨hv, hb5⟩ := hcut
      subst hv
      have HB5 := Lib.hid (HB.out.trans (hb5.mono HB.out.size))
      clear hb5 x3 hci
      cases hbad : unBad n i
      · have HAN : Hid ((un.drop 0).any (unBad n) = (un.drop (k + 1)).any (unBad n)) := Lib.hid (by rw [han.out, HT.out, hbad, Bool.false_or])
        clear hbad
        go_wp2
        exact ⟨⟨k + 1, by omega, by go_num, HAN, HB5⟩, by simp [intOf]; omega⟩
      · have HRR : Hid (R = 2) := Lib.hid (HRB.out (by rw [han.out, HT.out, hbad, Bool.true_or]))
        clear hbad
        go_wp2
        go_ret
        exact ⟨by rw [HRR.out]; rfl, hB0.trans (HB5.out.mono z0)⟩
    · have hkm : k = m := by omega
      subst hkm
      clear hlt
      have HRR : Hid (R = if (ll.drop 0).any (fun l => l.any (shBad x.orders)) = true then 2 else 0) := Lib.hid (HRG.out (by rw [han.out, List.drop_of_length_le (by rw [HM.out]; exact Nat.le_refl _)]; rfl))
      clear han HRB HRG hk
      go_wp2
      go_loopw [8, 9, 10] (fun i _ _ wr => ∃ j : Nat, j ≤ p ∧ i = .int .i64 j ∧ Hid ((ll.drop 0).any (fun l => l.any (shBad x.orders)) = (ll.drop j).any (fun l => l.any (shBad x.orders))) ∧ Hid (Below W0.heap.size W0 wr)) (fun i _ _ _ => p - (intOf i).toNat)
      case atStart => exact ⟨0, by omega, rfl, Lib.hid rfl, HB⟩
      case round =>
        clear HB
        obtain ⟨j, hj, rfl, hal, HB⟩ := hrel
        by_cases hlj : j < p
        · obtain ⟨l, hl⟩ : ∃ l, ll[j]? = some l := ⟨_, List.getElem?_eq_getElem (by rw [HP.out]; exact hlj)⟩
          obtain ⟨ad, cs, hA, hadb, ⟨C, c, rfl, hrow⟩, hcs⟩ := ((HX.out _ HB.out).2.2.1).elem hl
          have e1 := hcs 0 _ rfl
          rw [show (rSlice rSha).size = 1 from rfl, Nat.mul_one, add_of_add, Nat.add_zero] at e1
          have HT := Lib.hid (shsBad_at (os := x.orders) hl)
          obtain ⟨q, hq⟩ : ∃ q, l.length = q := ⟨_, rfl⟩
          have hq1 := hrow.1
          rw [hq] at e1 hq1
          have HQ := Lib.hid hq
          have HE1 : Hid (∀ w', Below W0.heap.size W0 w' → Below wr.heap.size wr w' → RowAt rSha w' w.heap.size C l ∧ w'.cell? (ad.add j) = some (.slice C q c)) := Lib.hid (fun w' _ h' => ⟨hrow.below (h'.mono (Nat.le_trans z0 HB.out.size)), (h'.cell (by rw [block_of_add]; have := HB.out.size; omega)).trans e1⟩)
          have hj0 : (0 : Int) ≤ (j : Int) := by omega
          have hjn : (j : Int) < (p : Int) := by omega
          rw [hA]
          clear hl hq hcs hrow e1
          obtain ⟨wo, hwo⟩ : ∃ wo, wo = wr := ⟨_, rfl⟩
          subst hwo
          go_wp2_with fail
          go_loopw [9, 10] (fun i _ wr => ∃ k : Nat, k ≤ q ∧ i = .int .i64 k ∧ Hid (l.any (shBad x.orders) = (l.drop k).any (shBad x.orders)) ∧ Hid (Below wo.heap.size wo wr)) (fun i _ _ => q - (intOf i).toNat)
          case atStart => exact ⟨0, by omega, rfl, Lib.hid rfl, Lib.hid (Below.refl _ _)⟩
          case round =>
            obtain ⟨k, hk, rfl, han, HBk⟩ := hrel
            have HBW := Lib.hid (HB.out.trans (HBk.out.mono HB.out.size))
            have e1 := (HE1.out _ HBW.out HBk.out).2
            by_cases hlk : k < q
            · obtain ⟨s, hs⟩ : ∃ s, l[k]? = some s := ⟨_, List.getElem?_eq_getElem (by rw [HQ.out]; exact hlk)⟩
              obtain ⟨ad2, C1, c1, hC, hadb2, ⟨m0, m1⟩, hI, hf⟩ := row_Sha (HE1.out _ HBW.out HBk.out).1 hs
              have HTk := Lib.hid (shBad_at (os := x.orders) hs)
              have hk0 : (0 : Int) ≤ (k : Int) := by omega
              have hkn : (k : Int) < (q : Int) := by omega
              have HI := Lib.hid hI
              rw [hC] at e1
              clear hs hI hf
              go_upto_region 13 with fail
              obtain ⟨w6, hw6⟩ : ∃ w6, wr.alloc (.cells #[.int .i64 s.order, .slice C1 s.load.length c1] 54) = w6 := ⟨_, rfl⟩
              have b6 : Below wr.heap.size wr w6 := by rw [← hw6]; exact (Below.refl _ _).alloc (Nat.le_refl _) _
              have z6 : wr.heap.size < w6.heap.size := by rw [← hw6]; simp
              have p0 : w6.cell? ⟨wr.heap.size, 0, none⟩ = some (.int .i64 s.order) := by rw [← hw6]; exact two_new wr _ _ _ 0 _ rfl
              have p1 : w6.cell? ⟨wr.heap.size, 1, none⟩ = some (.slice C1 s.load.length c1) := by rw [← hw6]; exact two_new wr _ _ _ 1 _ rfl
              rw [hw6]
              have hzw : w.heap.size ≤ wr.heap.size := Nat.le_trans z0 HBW.out.size
              have HB6 := Lib.hid (HBk.out.trans (b6.mono HBk.out.size))
              have HI6 : Hid (Ints w6 w6.heap.size C1 s.load) := Lib.hid ((HI.out.below (b6.mono hzw)).more (by omega))
              have hbW6 := HBW.out.trans (b6.mono HBW.out.size)
              have x6 := (HX.out _ hbW6).1
              have HO6 := Lib.hid (HX.out _ hbW6).2.1
              obtain ⟨pb, hpb⟩ : ∃ pb, wr.heap.size = pb := ⟨_, rfl⟩
              obtain ⟨L1, hL1⟩ : ∃ L, s.load.length = L := ⟨_, rfl⟩
              have HL1 := Lib.hid hL1
              rw [hpb] at p0 p1 z6 ⊢
              rw [hL1] at p1
              clear hw6 b6 hpb m0 m1 e1 HI hbW6 hL1 hadb2
              go_cut [78] (fun v wx => v = .bool (shBad x.orders s) ∧ Below w6.heap.size w6 wx)
              case first => as_aux_lemma =>
                by_cases h0 : s.order < 0
                · have HH : Hid (shBad x.orders s = true) := Lib.hid (by unfold shBad; rw [decide_eq_false (by omega)]; rfl)
                  have hd0 : decide (s.order < 0) = true := decide_eq_true h0
                  clear h0
                  go_quiet (fail)
                  go_wp2
                  go_meet
                  exact ⟨by rw [HH.out], bel_drewN (Below.refl _ _) _⟩
                · obtain ⟨g, hg⟩ := Int.eq_ofNat_of_zero_le (show 0 ≤ s.order by omega)
                  have HG := Lib.hid hg
                  have hg0 : (0 : Int) ≤ (g : Int) := by omega
                  have hd0 : decide ((g : Int) < 0) = false := decide_eq_false (by omega)
                  rw [hg] at p0
                  clear hg h0
                  by_cases h1 : g < n
                  · obtain ⟨o, ho⟩ : ∃ o, x.orders[g]? = some o := ⟨_, List.getElem?_eq_getElem (by rw [HN.out]; exact h1)⟩
                    obtain ⟨ad3, cs3, hA3, hadb3, hat3, hcs3⟩ := HO6.out.elem ho
                    obtain ⟨C3, c3, rfl, hI3, -⟩ := rOrd_at hat3
                    have HH : Hid (shBad x.orders s = !rightB s.load o.load.length) := Lib.hid (by unfold shBad dimO; rw [HG.out, HN.out, decide_eq_true ⟨hg0, by omega⟩, Int.toNat_natCast, ho]; rfl)
                    obtain ⟨L3, hL3⟩ : ∃ L, o.load.length = L := ⟨_, rfl⟩
                    have hL3b : L3 ≤ 1000000 := by rw [← hL3]; exact HLL.out o (List.mem_of_getElem? ho)
                    have l3 : w6.cell? ⟨(ad3.add (g * 16)).block, (ad3.add (g * 16)).off + 1, none⟩ = some (.slice C3 L3 c3) := by rw [← hL3]; exact hcs3 1 _ rfl
                    obtain ⟨rb, hrb⟩ : ∃ rb, rightB s.load o.load.length = rb := ⟨_, rfl⟩
                    have HRB : Hid (∀ wq, Calls Try.prog 24 #[.slice C1 L1 c1, .int .i64 L3] (w6.drewN wq) fun e w' => e = .returned (.bool rb) ∧ w' = w6.drewN wq) := Lib.hid (fun wq => by rw [← HL1.out, ← hL3]; exact (rright_any C1 c1 s.load o.load.length (w6.drewN wq) w6.heap.size HI6.out).mono (fun _ _ h => ⟨by rw [← hrb]; exact h.1, h.2.symm⟩))
                    have hd1 : decide ((n : Int) ≤ (g : Int)) = false := decide_eq_false (by omega)
                    have hgn : (g : Int) < (n : Int) := by omega
                    rw [hrb] at HH
                    rw [hA3] at x6
                    have hd2 : decide (n ≤ g) = false := decide_eq_false (by omega)
                    clear hA3 ho hat3 hcs3 hI3 hrb hL3
                    go_quiet ((go_at_call 24; exact Calls.quiet_of_same (HRB.out _)))
                    go_wp2
                    go_meet
                    exact ⟨by rw [HH.out], bel_drewN (Below.refl _ _) _⟩
                  · have HH : Hid (shBad x.orders s = true) := Lib.hid (by unfold shBad; rw [HG.out, HN.out, decide_eq_false (by omega)]; rfl)
                    have hd1 : decide ((n : Int) ≤ (g : Int)) = true := decide_eq_true (by omega)
                    have hd2 : decide (n ≤ g) = true := decide_eq_true (by omega)
                    clear h1
                    go_quiet (fail)
                    go_wp2
                    go_meet
                    exact ⟨by rw [HH.out], bel_drewN (Below.refl _ _) _⟩
              obtain ⟨hv, hb7⟩ := hcut
              subst hv
              have HB7 := Lib.hid (HB6.out.trans (hb7.mono HB6.out.size))
              clear hb7 x6 p0 p1
              cases hbad : shBad x.orders s
              · have HAN : Hid (l.any (shBad x.orders) = (l.drop (k + 1)).any (shBad x.orders)) := Lib.hid (by rw [han.out, HTk.out, hbad, Bool.false_or])
                clear hbad
                go_wp2
                exact ⟨⟨k + 1, by omega, by go_num, HAN, HB7⟩, by simp [intOf]; omega⟩
              · have HR2 : Hid (R = 2) := Lib.hid (by rw [HRR.out, hal.out, HT.out, han.out, HTk.out, hbad, Bool.true_or]; rfl)
                clear hbad
                go_wp2
                go_ret
                exact ⟨by rw [HR2.out]; rfl, hB0.trans ((HB.out.trans (HB7.out.mono HB.out.size)).mono z0)⟩
            · have hkq : k = q := by omega
              subst hkq
              clear hlk
              cases hb : l.any (shBad x.orders)
              · have HAL : Hid ((ll.drop 0).any (fun l => l.any (shBad x.orders)) = (ll.drop (j + 1)).any (fun l => l.any (shBad x.orders))) := Lib.hid (by rw [hal.out, HT.out, hb, Bool.false_or])
                clear hb
                go_wp2_with fail
                exact ⟨⟨j + 1, by omega, by go_num, HAL, HBW⟩, by simp [intOf]; omega⟩
              · exfalso
                rw [han.out, List.drop_of_length_le (by rw [HQ.out]; exact Nat.le_refl _)] at hb
                cases hb
        · have hjp : j = p := by omega
          subst hjp
          clear hlj
          have HR0 : Hid (R = 0) := Lib.hid (by rw [HRR.out, hal.out, List.drop_of_length_le (by rw [HP.out]; exact Nat.le_refl _)]; rfl)
          go_wp2
          go_ret
          exact ⟨by rw [HR0.out]; rfl, hB0.trans (HB.out.mono z0)⟩
end Go.Proofs.Ytceceomaheobhaa.spl

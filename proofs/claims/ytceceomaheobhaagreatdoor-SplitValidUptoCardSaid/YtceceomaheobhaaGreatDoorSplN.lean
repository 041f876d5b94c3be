/- split.Whole. -/
import Derived.Test.YtceceomaheobhaaGreatDoorSplM
import Derived.Test.YtceceomaheobhaaGreatDoorInsV
import Derived.Test.YtceceomaheobhaaGreatDoorSpR
import Derived.Deep.DeepCutAuto
import Derived.Deep.CutBlock
import Derived.Deep.QuietTactic
import Derived.BigQuiet
namespace Go.Proofs.YtceceomaheobhaaGreatDoor.spl
open Go.RowKit
open Go.Proofs.YtceceomaheobhaaGreatDoor.lib Go.Proofs.YtceceomaheobhaaGreatDoor.rd Go.Proofs.YtceceomaheobhaaGreatDoor.app Go.Proofs.YtceceomaheobhaaGreatDoor.els Go.Proofs.YtceceomaheobhaaGreatDoor.loads Go.Proofs.YtceceomaheobhaaGreatDoor.typ Go.Proofs.YtceceomaheobhaaGreatDoor.big Go.Proofs.YtceceomaheobhaaGreatDoor.ins Go.Proofs.YtceceomaheobhaaGreatDoor.ord Go.Proofs.YtceceomaheobhaaGreatDoor.flts Go.Proofs.YtceceomaheobhaaGreatDoor.off Go.Proofs.YtceceomaheobhaaGreatDoor.cats Go.Proofs.YtceceomaheobhaaGreatDoor.idx
set_option linter.unusedVariables false
set_option linter.unusedSimpArgs false

theorem contains_any (A : Option Addr) (c : Nat) (l : List Int) (n : Int) (w : World) (B : Nat) (hl : Ints w B A l) :
    Calls Tryz.prog 86 #[.slice A l.length c, .int .i64 n] w fun e w' => e = .returned (.bool (decide (0 ≤ idxI l n))) ∧ w = w' := by
  have HI := Lib.hid hl
  clear hl
  go_enter Tryz.func86, Tryz.ntmps86
  go_wp2_with fail
  refine (index_any A c l n w B HI.out).mono ?_
  rintro e w' ⟨rfl, rfl⟩
  go_wp2
  go_ret
  exact ⟨rfl, rfl⟩
def unBad (n : Nat) (i : Int) : Bool := decide (i < 0 ∨ (n : Int) ≤ i)
def inU (un : List Int) (k : Nat) : Bool := decide (0 ≤ idxI un (k : Int))
def whAt (un : List Int) (k : Nat) (o : Ord) (s : List Int) : Int := if fitsB s o.load = false then 17 else if (!o.off && (!inU un k && !fitsB o.load s)) = true then 23 else 0
def whGo (un : List Int) (acc : List (List Int)) : List Ord → Nat → Int
  | [], _ => 0
  | o :: os, k => if whAt un k o (acc[k]?.getD []) ≠ 0 then whAt un k o (acc[k]?.getD []) else whGo un acc os (k + 1)
def whEnd (un : List Int) (os : List Ord) : Option (List (List Int)) → Int
  | none => 2
  | some acc => whGo un acc os 0
/-- What Whole answers. -/
def wholeF (os : List Ord) (shs : List Sha) (un : List Int) : Int := if un.any (unBad os.length) then 2 else whEnd un os (sumF os shs)
theorem whGo_at {un : List Int} {acc : List (List Int)} {os : List Ord} {k : Nat} {o : Ord} {s : List Int} (h : os[k]? = some o) (hs : acc[k]? = some s) : whGo un acc (os.drop k) k = if whAt un k o s ≠ 0 then whAt un k o s else whGo un acc (os.drop (k + 1)) (k + 1) := by
  rw [drop_at' h, whGo, hs]
  rfl
theorem unBad_at {n : Nat} {un : List Int} {k : Nat} {i : Int} (h : un[k]? = some i) : (un.drop k).any (unBad n) = (unBad n i || (un.drop (k + 1)).any (unBad n)) := by
  rw [drop_at' h, List.any_cons]
theorem such_bit {os : List Ord} {k : Nat} {o : Ord} (h : os[k]? = some o) (hn : os.length ≤ 61) : (bits .and .i64 ((sch.suchN allP os os.length : Int) / 2 ^ k) 1 == 1) = !o.off := by
  have hk := (List.getElem?_eq_some_iff.1 h).1
  rw [and_bit]
  have hb := sch.suchN_bit allP os os.length k
  rw [decide_eq_true hk, Bool.true_and, h, Nat.testBit_eq_decide_div_mod_eq] at hb
  have e : ((sch.suchN allP os os.length : Int) / ((2 ^ k : Nat) : Int)) = ((sch.suchN allP os os.length / 2 ^ k : Nat) : Int) := by first | exact (Int.natCast_ediv _ _).symm | exact (Int.ofNat_ediv _ _).symm | rfl
  unfold sets.hasN sets.pow2
  rw [e]
  show _ = allP o
  rw [show allP o = decide (sch.suchN allP os os.length / 2 ^ k % 2 = 1) from hb.symm]
  congr 1
  rw [eq_iff_iff]
  omega
theorem smGo_len : ∀ {l : List Sha} {acc r : List (List Int)}, smGo l acc = some r → r.length = acc.length
  | [], acc, r, h => by simp [smGo] at h; rw [h]
  | s :: l, acc, r, h => by
    rw [smGo] at h
    split at h
    · rw [smGo_len h]
      unfold smPut
      rw [List.length_set]
    · cases h
theorem sumF_len {os : List Ord} {l : List Sha} {r : List (List Int)} (h : sumF os l = some r) : r.length = os.length := by
  have := smGo_len h
  rw [this]
  unfold smZero
  rw [List.length_map]
/-- The orders' loads and the sums, read. -/
def WholeOut (w : World) (r : Int) (e : Ending) (w' : World) : Prop := e = .returned (.int .i64 r) ∧ Below w.heap.size w w'
set_option maxRecDepth 100000 in
set_option maxHeartbeats 4000000 in
theorem whole_any (x : Ins) (P : InP) (AL : Option Addr) (cL : Nat) (ll : List (List Sha)) (AU : Option Addr) (cU : Nat) (un : List Int) (w : World)
    (h : InAt w w.heap.size x P) (hL : RowAt (rSlice rSha) w w.heap.size AL ll) (hU : Ints w w.heap.size AU un) (hno : x.orders.length ≤ 61) (hll : ∀ o ∈ x.orders, o.load.length ≤ 1000000) (hn1 : ll.length ≤ 1000000) (hn2 : ll.flatten.length ≤ 1000000) :
    Calls Tryz.prog 44 #[InV x P, .slice AL ll.length cL, .slice AU un.length cU] w (WholeOut w (wholeF x.orders ll.flatten un)) := by
  obtain ⟨W0, hW0⟩ : ∃ W0, w.alloc (.cells (insCs x P).toArray 30) = W0 := ⟨_, rfl⟩
  have hB0 : Below w.heap.size w W0 := by rw [← hW0]; exact (Below.refl _ _).alloc (Nat.le_refl _) _
  have z0 := hB0.size
  have hs0 : w.heap.size < W0.heap.size := by rw [← hW0]; simp
  have b0 : SixAt W0 w.heap.size (insCs x P) := by
    rw [← hW0]
    exact World.alloc_heap_new w _
  have HX := Lib.hid (fun w' (h' : Below W0.heap.size W0 w') => (And.intro (b0.below h') (And.intro (h.below (hB0.trans (h'.mono z0))) (And.intro (hL.below (hB0.trans (h'.mono z0))) (hU.below (hB0.trans (h'.mono z0)))))))
  have hW1 : w.alloc (.cells #[.slice P.a0 x.net.places.length P.c0, .slice P.a1 x.net.arcs.length P.c1, .slice P.a2 x.types.length P.c2, .slice P.a3 x.orders.length P.c3, .slice P.a4 x.apart.length P.c4, .slice P.a5 x.before.length P.c5] 30) = W0 := hW0
  obtain ⟨n, hn⟩ : ∃ n, x.orders.length = n := ⟨_, rfl⟩
  have x3 : W0.cell? ⟨w.heap.size, 3, none⟩ = some (.slice P.a3 n P.c3) := by rw [← hn]; exact b0.cell (j := 3) rfl
  obtain ⟨R, hR⟩ : ∃ R, wholeF x.orders ll.flatten un = R := ⟨_, rfl⟩
  have HRB : Hid ((un.drop 0).any (unBad n) = true → R = 2) := Lib.hid (fun e => by rw [← hR]; unfold wholeF; rw [hn]; exact if_pos e)
  have HRG : Hid ((un.drop 0).any (unBad n) = false → R = whEnd un x.orders (sumF x.orders ll.flatten)) := Lib.hid (fun e => by rw [← hR]; unfold wholeF; rw [hn]; exact if_neg (by rw [show un.any (unBad n) = false from e]; simp))
  have hno2 := hno
  rw [hn] at hno hW1
  have HN := Lib.hid hn
  have HW1 := Lib.hid hW1
  have HLL := Lib.hid (And.intro hll (And.intro hn1 (And.intro hn2 hno2)))
  simp only [InV]
  rw [hn, hR]
  have hul := hU.len
  obtain ⟨m, hm⟩ : ∃ m, un.length = m := ⟨_, rfl⟩
  have HM := Lib.hid hm
  rw [hm] at hul ⊢
  clear hn hm hW0 hW1 h hL hU b0 hll hn1 hn2 hR hno2
  go_enter Tryz.func44, Tryz.ntmps44
  go_upto_region 1 with fail
  rw [HW1.out]
  clear HW1
  go_upto_region 2 with fail
  go_loopw [8, 16] (fun _ i wr => ∃ k : Nat, k ≤ m ∧ i = .int .i64 k ∧ Hid ((un.drop 0).any (unBad n) = (un.drop k).any (unBad n)) ∧ W0 = wr) (fun _ i _ => m - (intOf i).toNat)
  case atStart => exact ⟨0, by omega, rfl, Lib.hid rfl, rfl⟩
  case round =>
    obtain ⟨k, hk, rfl, han, rfl⟩ := hrel
    by_cases hlt : k < m
    · obtain ⟨ad, i, rfl, hadb, hi, hci⟩ := (HX.out _ (Below.refl _ _)).2.2.2.at_ (k := k) (by rw [HM.out]; exact hlt)
      have HT := Lib.hid (unBad_at (n := n) hi)
      have hk0 : (0 : Int) ≤ (k : Int) := by omega
      have hkn : (k : Int) < (m : Int) := by omega
      clear hi
      by_cases hbad : i < 0 ∨ (n : Int) ≤ i
      · have HRR : Hid (R = 2) := Lib.hid (HRB.out (by rw [han.out, HT.out]; unfold unBad; rw [decide_eq_true hbad, Bool.true_or]))
        go_wp2
        all_goals
          go_ret
          exact ⟨by rw [HRR.out]; rfl, hB0⟩
      · have HAN : Hid ((un.drop 0).any (unBad n) = (un.drop (k + 1)).any (unBad n)) := Lib.hid (by rw [han.out, HT.out]; unfold unBad; rw [decide_eq_false hbad, Bool.false_or])
        have hb1 : ¬ i < 0 := by omega
        have hb2 : ¬ (n : Int) ≤ i := by omega
        clear hbad
        go_wp2
        exact ⟨⟨k + 1, by omega, by go_num, HAN, by first | rfl | exact trivial⟩, by simp [intOf]; omega⟩
    · have hkm : k = m := by omega
      subst hkm
      clear hlt
      have HRR : Hid (R = whEnd un x.orders (sumF x.orders ll.flatten)) := Lib.hid (HRG.out (by rw [han.out, List.drop_of_length_le (by rw [HM.out]; exact Nat.le_refl _)]; rfl))
      obtain ⟨W1, hW1⟩ : ∃ W1, W1 = W0 := ⟨_, rfl⟩
      have B00 : Below W0.heap.size W0 W0 := Below.refl _ _
      clear han HRB HRG hk W1 hW1
      go_wp2_with ((with_reducible refine wpList_loadG stIns _ rfl ⟨w.heap.size, 0, none⟩ (insCs (x) P) ?_ ?_ ?_ ?_ ?_); exact rfl; exact rfl; exact (HX.out _ B00).1.cells; exact rfl)
      refine (sum_any x P AL cL ll W0 ((HX.out _ B00).2.1.more z0) ((HX.out _ B00).2.2.1.more z0) (by have := HLL.out.2.2.2; omega) HLL.out.1 HLL.out.2.1 HLL.out.2.2.1).mono ?_
      obtain ⟨SR, hSR⟩ : ∃ SR, sumF x.orders ll.flatten = SR := ⟨_, rfl⟩
      have HSR := Lib.hid hSR
      rw [hSR]
      clear hSR
      rcases SR with _ | acc
      · rintro e w1 ⟨rfl, b1⟩
        have HE : Hid (R = 2) := Lib.hid (by rw [HRR.out, HSR.out]; rfl)
        go_wp2
        go_ret
        exact ⟨by rw [HE.out]; rfl, hB0.trans (b1.mono z0)⟩
      · rintro e w1 ⟨A1, c1, cs1, rfl, hown1, hels1, b1⟩
        have HE : Hid (R = whGo un acc (x.orders.drop 0) 0) := Lib.hid (by rw [HRR.out, HSR.out]; rfl)
        have hz1 := b1.size
        have HS1 := Lib.hid (And.intro hown1 hels1)
        have hal : acc.length = n := by rw [← HN.out]; exact sumF_len HSR.out
        rw [hal]
        have HAL := Lib.hid hal
        have B1 := Lib.hid b1
        clear hown1 hels1 hal b1 HRR HSR
        go_wp2_with ((with_reducible refine wpList_loadG stIns _ rfl ⟨w.heap.size, 0, none⟩ (insCs (x) P) ?_ ?_ ?_ ?_ ?_); exact rfl; exact rfl; exact (HX.out _ B1.out).1.cells; exact rfl)
        refine (all_any x P w1 ((HX.out _ B1.out).2.1.more (Nat.le_trans z0 hz1)) HLL.out.2.2.2).mono ?_
        rintro e w2 ⟨rfl, b2⟩
        obtain ⟨T, hT⟩ : ∃ T, sch.suchN allP x.orders x.orders.length = T := ⟨_, rfl⟩
        have hTl := sch.suchN_lt allP x.orders x.orders.length
        rw [hT] at hTl ⊢
        have hz2 := b2.size
        have B2 := Lib.hid (B1.out.trans (b2.mono hz1))
        have HSB : Hid (∀ k o, x.orders[k]? = some o → (bits .and .i64 ((T : Int) / 2 ^ k) 1 == 1) = !o.off) := Lib.hid (fun k o h => by rw [← hT]; exact such_bit h HLL.out.2.2.2)
        have HS2 := Lib.hid (And.intro (own_below HS1.out.1 b2) (HS1.out.2.below b2))
        have hT63 : (T : Int) ≤ 2305843009213693952 := by
          have h1 : 2 ^ x.orders.length ≤ 2 ^ 61 := Nat.pow_le_pow_right (by decide) HLL.out.2.2.2
          have h2 : (2 : Nat) ^ 61 = 2305843009213693952 := by decide
          omega
        have x3 : w2.cell? ⟨w.heap.size, 3, none⟩ = some (.slice P.a3 n P.c3) := by rw [← HN.out]; exact (HX.out _ B2.out).1.cell (j := 3) rfl
        have hT0 : (0 : Int) ≤ (T : Int) := by omega
        clear hTl hT HS1 B1 b2
        go_upto_region 12 with fail
        clear x3
        have HRI : Hid (RowAt rInts w2 w2.heap.size A1 acc) := Lib.hid (EG.row (r := oInts) (e := 38) HS2.out.1 HS2.out.2 (by rw [HAL.out]; omega))
        clear HS2
        go_loopw [12, 13, 44] (fun _ _ i wr => ∃ j : Nat, j ≤ n ∧ i = .int .i64 j ∧ Hid (R = whGo un acc (x.orders.drop j) j) ∧ Below w2.heap.size w2 wr) (fun _ _ i _ => n - (intOf i).toNat)
        case atStart => exact ⟨0, by omega, rfl, HE, Below.refl _ _⟩
        case round =>
          clear HE
          obtain ⟨j, hj, rfl, hr, hb⟩ := hrel
          by_cases hlj : j < n
          · obtain ⟨o, ho⟩ : ∃ o, x.orders[j]? = some o := ⟨_, List.getElem?_eq_getElem (by rw [HN.out]; exact hlj)⟩
            obtain ⟨s, hs⟩ : ∃ s, acc[j]? = some s := ⟨_, List.getElem?_eq_getElem (by rw [HAL.out]; exact hlj)⟩
            obtain ⟨ad, cs0, hA, hadb, hat, hcs⟩ := ((HX.out _ (B2.out.trans (hb.mono (by omega)))).2.1.orders).elem ho
            obtain ⟨C, cc, rfl, hI, hf⟩ := rOrd_at hat
            obtain ⟨ad1, cs1, rfl, hadb1, ⟨D, d, rfl, hID⟩, hcs1⟩ := (HRI.out.below hb).elem hs
            have e1 := hcs1 0 _ rfl
            rw [show rInts.size = 1 from rfl, Nat.mul_one, add_of_add, Nat.add_zero] at e1
            have HT := Lib.hid (whGo_at (un := un) ho hs)
            have hbit := HSB.out j o ho
            have HBIT := Lib.hid hbit
            have HC := Lib.hid hcs
            have HII := Lib.hid (And.intro (hI.below (Below.refl _ _)) (hID.below (Below.refl _ _)))
            have hzr := hb.size
            have hj0 : (0 : Int) ≤ (j : Int) := by omega
            have hjn : (j : Int) < (n : Int) := by omega
            clear ho hs hat hcs hI hID hf hcs1 hbit
            rw [hA]
            go_upto_region 14 with (first
              | ((with_reducible refine wpList_loadG stOrd' _ rfl (ad.add (j * 16)) (OrdCells o C cc) ?_ ?_ ?_ ?_ ?_); exact rfl; exact rfl; exact HC.out; exact rfl)
              | ((with_reducible refine wpList_storeL stOrd' rfl _ _ rfl wr.heap.size ordZs (OrdCells o C cc) ?_ ?_ ?_ ?_ ?_ (ordCells_one _ _ _) ?_); exact rfl; exact rfl; exact World.alloc_heap_new wr _; exact rfl; exact rfl; intro w4 k1 k2 k3 k4; have K := Lib.hid (And.intro k1 (And.intro k2 (And.intro k3 k4))); clear k1 k2 k3 k4))
            (try simp only [Act.put, List.getElem_toArray, List.getElem_cons_succ, List.getElem_cons_zero, List.setIfInBounds_toArray, List.set_cons_zero, List.set_cons_succ])
            obtain ⟨k1, k2, k3, k4⟩ := K.out
            have b4 : Below wr.heap.size wr w4 := ((Below.refl _ _).alloc (Nat.le_refl _) _).trans k4
            have z4 := b4.size
            have hpz : wr.heap.size < w4.heap.size := (Array.getElem?_eq_some_iff.1 k1).1
            have HO4 : Hid (OrBlk w4 wr.heap.size o C cc) := Lib.hid k1
            have HI4 := Lib.hid (And.intro (HII.out.1.below (b4.mono (by omega))) (HII.out.2.below (b4.mono (by omega))))
            have e4 : w4.cell? (ad1.add j) = some (.slice D s.length d) := (b4.cell (by rw [block_of_add]; omega)).trans e1
            have HU4 := Lib.hid (HX.out _ ((B2.out.trans (hb.mono (by omega))).trans (b4.mono (by omega)))).2.2.2
            have HB4 := Lib.hid (hb.trans (b4.mono hzr))
            obtain ⟨p, hp⟩ : ∃ p, wr.heap.size = p := ⟨_, rfl⟩
            rw [hp] at HO4 hpz ⊢
            have p1 : w4.cell? ⟨p, 1, none⟩ = some (.slice C o.load.length cc) := orBlk_at HO4.out 1 _ rfl
            clear k1 k2 k3 k4 b4 K HC HII e1 hb hA hp
            obtain ⟨fb, hfb⟩ : ∃ fb, fitsB s o.load = fb := ⟨_, rfl⟩
            have HFB := Lib.hid hfb
            clear hfb
            go_cut [49] (fun v wx => v = .bool (!fb) ∧ Below w4.heap.size w4 wx)
            case first => as_aux_lemma =>
              have HF : Hid (∀ wq, Calls Tryz.prog 85 #[.slice D s.length d, .slice C o.load.length cc] (w4.drewN wq) fun e w' => e = .returned (.bool fb) ∧ w' = w4.drewN wq) := Lib.hid (fun wq => (fits_any D d s _ rfl C cc o.load _ rfl (w4.drewN wq) _ _ HI4.out.2 HI4.out.1).mono (fun _ _ h => ⟨by rw [← HFB.out]; exact h.1, h.2.symm⟩))
              go_quiet ((go_at_call 85; exact Calls.quiet_of_same (HF.out _)))
              go_wp2
              go_meet
              exact ⟨rfl, bel_drewN (Below.refl _ _) _⟩
            obtain ⟨hv49, hb5⟩ := hcut
            subst hv49
            have z5 := hb5.size
            have e5 : wc.cell? (ad1.add j) = some (.slice D s.length d) := (hb5.cell (by rw [block_of_add]; omega)).trans e4
            have p5 : wc.cell? ⟨p, 1, none⟩ = some (.slice C o.load.length cc) := (hb5.cell (p := ⟨p, 1, none⟩) hpz).trans p1
            have HI5 := Lib.hid (And.intro (HI4.out.1.below (hb5.mono (by omega))) (HI4.out.2.below (hb5.mono (by omega))))
            have HU5 := Lib.hid (HU4.out.below (hb5.mono (by omega)))
            have HB5 := Lib.hid (HB4.out.trans (hb5.mono (by omega)))
            clear e4 p1 HI4 HU4 HB4 hb5 HO4
            obtain ⟨iu, hiu⟩ : ∃ iu, inU un j = iu := ⟨_, rfl⟩
            obtain ⟨fb2, hfb2⟩ : ∃ fb, fitsB o.load s = fb := ⟨_, rfl⟩
            have HIU := Lib.hid (And.intro hiu hfb2)
            clear hiu hfb2
            cases fb
            · have hf1 : fitsB s o.load = false := HFB.out
              have HE : Hid (R = 17) := Lib.hid (by rw [hr.out, HT.out]; unfold whAt; rw [if_pos hf1]; rfl)
              clear hf1
              go_wp2
              go_ret
              exact ⟨by rw [HE.out]; rfl, hB0.trans ((B2.out.trans (HB5.out.mono (by omega))).mono z0)⟩
            · have hf1 : fitsB s o.load = true := HFB.out
              have HE : Hid (whAt un j o s = if (!o.off && (!iu && !fb2)) = true then 23 else 0) := Lib.hid (by unfold whAt; rw [if_neg (by rw [hf1]; simp), HIU.out.1, HIU.out.2])
              clear hf1
              go_upto_region 16 with fail
              go_cut [58] (fun v wx => v = .bool (!o.off && (!iu && !fb2)) ∧ Below wc.heap.size wc wx)
              case first => as_aux_lemma =>
                have hbit := HBIT.out
                obtain ⟨of, hof⟩ : ∃ of, o.off = of := ⟨_, rfl⟩
                have HOF := Lib.hid hof
                rw [hof] at hbit
                clear hof
                cases of
                · have hbit2 : (bits .and .i64 ((T : Int) / 2 ^ j) 1 == 1) = true := hbit
                  clear hbit
                  have HCN : Hid (∀ wq, Calls Tryz.prog 86 #[.slice AU k cU, .int .i64 j] (wc.drewN wq) fun e w' => e = .returned (.bool iu) ∧ w' = wc.drewN wq) := Lib.hid (fun wq => by
                    have h := contains_any AU cU un j (wc.drewN wq) w.heap.size HU5.out
                    rw [HM.out] at h
                    exact h.mono (fun _ _ h => ⟨by rw [← HIU.out.1]; exact h.1, h.2.symm⟩))
                  have HFF : Hid (∀ wq, Calls Tryz.prog 85 #[.slice C o.load.length cc, .slice D s.length d] (wc.drewN wq) fun e w' => e = .returned (.bool fb2) ∧ w' = wc.drewN wq) := Lib.hid (fun wq => (fits_any C cc o.load _ rfl D d s _ rfl (wc.drewN wq) _ _ HI5.out.1 HI5.out.2).mono (fun _ _ h => ⟨by rw [← HIU.out.2]; exact h.1, h.2.symm⟩))
                  clear HIU
                  cases iu
                  · go_quiet ((first | (go_at_call 85; exact Calls.quiet_of_same (HFF.out _)) | (go_at_call 86; exact Calls.quiet_of_same (HCN.out _))))
                    go_wp2
                    go_meet
                    exact ⟨by rw [HOF.out]; first | rfl | simp, bel_drewN (Below.refl _ _) _⟩
                  · go_quiet ((go_at_call 86; exact Calls.quiet_of_same (HCN.out _)))
                    go_wp2
                    go_meet
                    exact ⟨by rw [HOF.out]; first | rfl | simp, bel_drewN (Below.refl _ _) _⟩
                · have hbit2 : (bits .and .i64 ((T : Int) / 2 ^ j) 1 == 1) = false := hbit
                  clear hbit
                  go_quiet (fail)
                  go_wp2
                  go_meet
                  exact ⟨by rw [HOF.out]; first | rfl | simp, bel_drewN (Below.refl _ _) _⟩
              obtain ⟨hv58, hb6⟩ := hcut
              subst hv58
              have HB6 := Lib.hid (HB5.out.trans (hb6.mono (by omega)))
              clear hb6 HB5 HI5 HU5 e5 p5
              cases hq : (!o.off && (!iu && !fb2))
              · have HE2 : Hid (R = whGo un acc (x.orders.drop (j + 1)) (j + 1)) := Lib.hid (by rw [hr.out, HT.out, HE.out, if_neg (by rw [hq]; simp)]; first | done | rfl)
                clear hq
                go_wp2
                exact ⟨⟨j + 1, by omega, by go_num, HE2, HB6.out⟩, by simp [intOf]; omega⟩
              · have HE2 : Hid (R = 23) := Lib.hid (by rw [hr.out, HT.out, HE.out, if_pos hq]; rfl)
                clear hq
                go_wp2
                go_ret
                exact ⟨by rw [HE2.out]; rfl, hB0.trans ((B2.out.trans (HB6.out.mono (by omega))).mono z0)⟩
          · have hjn : j = n := by omega
            subst hjn
            clear hlj
            have HE2 : Hid (R = 0) := Lib.hid (by rw [hr.out, List.drop_of_length_le (by rw [HN.out]; exact Nat.le_refl _)]; rfl)
            go_wp2
            go_ret
            exact ⟨by rw [HE2.out]; rfl, hB0.trans ((B2.out.trans (hb.mono (by omega))).mono z0)⟩
end Go.Proofs.YtceceomaheobhaaGreatDoor.spl

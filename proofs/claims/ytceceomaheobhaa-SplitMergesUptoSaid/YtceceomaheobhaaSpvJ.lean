/- The reference's Whole. -/
import Derived.Test.YtceceomaheobhaaSpvI
import Derived.Deep.DeepCutAuto
import Derived.Deep.CutBlock
namespace Go.Proofs.Ytceceomaheobhaa.spl
open Go.RowKit
open Go.Proofs.Ytceceomaheobhaa.lib Go.Proofs.Ytceceomaheobhaa.rd Go.Proofs.Ytceceomaheobhaa.app Go.Proofs.Ytceceomaheobhaa.els Go.Proofs.Ytceceomaheobhaa.loads Go.Proofs.Ytceceomaheobhaa.typ Go.Proofs.Ytceceomaheobhaa.big Go.Proofs.Ytceceomaheobhaa.ins Go.Proofs.Ytceceomaheobhaa.ord Go.Proofs.Ytceceomaheobhaa.flts Go.Proofs.Ytceceomaheobhaa.off
set_option linter.unusedVariables false
set_option linter.unusedSimpArgs false

theorem rforms_two {os : List Ord} {ll : List (List Sha)} {un : List Int} (h : rformsF os ll un ≠ 0) : rformsF os ll un = 2 := by
  unfold rformsF at h ⊢
  split
  · rfl
  · rw [if_neg (by assumption)] at h
    split
    · rfl
    · rw [if_neg (by assumption)] at h
      exact absurd rfl h
theorem rforms_good {os : List Ord} {ll : List (List Sha)} {un : List Int} (h : rformsF os ll un = 0) : ∀ l ∈ ll, ∀ s ∈ l, BdL 1000 s.load := by
  intro l hl s hs
  unfold rformsF at h
  split at h
  · cases h
  · split at h
    · cases h
    · rename_i h1 h2
      have hb : shBad os s = false := by
        cases hb : shBad os s with
        | false => rfl
        | true => exact absurd (List.any_eq_true.2 ⟨l, hl, List.any_eq_true.2 ⟨s, hs, hb⟩⟩) h2
      obtain ⟨_, _, _, _, _, h4⟩ := good_of hb
      exact h4
theorem rwGo_at {un : List Int} {shs : List Sha} {os : List Ord} {k : Nat} {o : Ord} (h : os[k]? = some o) : rwGo un shs (os.drop k) k = if rwAt un k o (sumOf (k : Int) shs (List.replicate o.load.length 0)) ≠ 0 then rwAt un k o (sumOf (k : Int) shs (List.replicate o.load.length 0)) else rwGo un shs (os.drop (k + 1)) (k + 1) := by
  rw [drop_at' h, rwGo]
theorem sumOf_at {l : List Sha} {k : Nat} {s : Sha} {j : Int} {z : List Int} (h : l[k]? = some s) : sumOf j (l.drop k) z = sumOf j (l.drop (k + 1)) (if s.order = j then addE z s.load else z) := by
  rw [drop_at' h]
  rfl
theorem sumOf_shs {ll : List (List Sha)} {k : Nat} {l : List Sha} {j : Int} {z : List Int} (h : ll[k]? = some l) : sumOf j (ll.drop k).flatten z = sumOf j (ll.drop (k + 1)).flatten (sumOf j l z) := by
  rw [drop_at' h, List.flatten_cons, sumOf_append]
theorem len_shs {ll : List (List Sha)} {k : Nat} {l : List Sha} (h : ll[k]? = some l) : (ll.drop k).flatten.length = l.length + (ll.drop (k + 1)).flatten.length := by
  rw [drop_at' h, List.flatten_cons, List.length_append]
set_option maxRecDepth 100000 in
set_option maxHeartbeats 4000000 in
theorem rwhole_any (x : Ins) (P : InP) (AL : Option Addr) (cL : Nat) (ll : List (List Sha)) (AU : Option Addr) (cU : Nat) (un : List Int) (w : World)
    (h : InAt w w.heap.size x P) (hL : RowAt (rSlice rSha) w w.heap.size AL ll) (hU : Ints w w.heap.size AU un) (hno : x.orders.length ≤ 1000000) (hll : ∀ o ∈ x.orders, o.load.length ≤ 1000000) (hn1 : ll.length ≤ 1000000) (hn2 : ll.flatten.length ≤ 1000000) :
    Calls Try.prog 21 #[InV x P, .slice AL ll.length cL, .slice AU un.length cU] w (WholeOut w (rwholeF x.orders ll.flatten un)) := by
  obtain ⟨W0, hW0⟩ : ∃ W0, w.alloc (.cells (insCs x P).toArray 38) = W0 := ⟨_, rfl⟩
  have hB0 : Below w.heap.size w W0 := by rw [← hW0]; exact (Below.refl _ _).alloc (Nat.le_refl _) _
  have z0 := hB0.size
  have hs0 : w.heap.size < W0.heap.size := by rw [← hW0]; simp
  have b0 : SixAt W0 w.heap.size (insCs x P) := by
    rw [← hW0]
    exact World.alloc_heap_new w _
  have hW1 : w.alloc (.cells #[.slice P.a0 x.net.places.length P.c0, .slice P.a1 x.net.arcs.length P.c1, .slice P.a2 x.types.length P.c2, .slice P.a3 x.orders.length P.c3, .slice P.a4 x.apart.length P.c4, .slice P.a5 x.before.length P.c5] 38) = W0 := hW0
  obtain ⟨n, hn⟩ : ∃ n, x.orders.length = n := ⟨_, rfl⟩
  have HX := Lib.hid (fun w' (h' : Below W0.heap.size W0 w') => (And.intro (show w'.cell? ⟨w.heap.size, 3, none⟩ = some (.slice P.a3 n P.c3) by rw [← hn]; exact (b0.below h').cell (j := 3) rfl) (And.intro (h.below (hB0.trans (h'.mono z0))) (And.intro (hL.below (hB0.trans (h'.mono z0))) (hU.below (hB0.trans (h'.mono z0)))))))
  have HBI := Lib.hid b0
  obtain ⟨R, hR⟩ : ∃ R, rwholeF x.orders ll.flatten un = R := ⟨_, rfl⟩
  obtain ⟨R1, hR1⟩ : ∃ R1, rformsF x.orders ll un = R1 := ⟨_, rfl⟩
  have HR1 := Lib.hid hR1
  have HRF : Hid (R = if R1 ≠ 0 then 2 else rwGo un ll.flatten (x.orders.drop 0) 0) := Lib.hid (by rw [← hR, ← hR1]; exact rwhole_forms _ _ _)
  have hno2 := hno
  rw [hn] at hno hW1
  have HN := Lib.hid hn
  have HW1 := Lib.hid hW1
  have HLL := Lib.hid (And.intro hll (And.intro hn2 hno2))
  simp only [InV]
  rw [hn, hR]
  have hul := hU.len
  obtain ⟨m, hm⟩ : ∃ m, un.length = m := ⟨_, rfl⟩
  have HM := Lib.hid hm
  rw [hm] at hul ⊢
  obtain ⟨p, hp⟩ : ∃ p, ll.length = p := ⟨_, rfl⟩
  have HP := Lib.hid hp
  have HFO : Hid (Calls Try.prog 43 #[InV x P, .slice AL p cL, .slice AU m cU] W0 (WholeOut W0 R1)) := Lib.hid (by
    have h2 := HX.out W0 (Below.refl _ _)
    have h := rforms_any x P AL cL ll AU cU un W0 (h2.2.1.more z0) (h2.2.2.1.more z0) (h2.2.2.2.more z0) hno2 hll hn1
    rw [hR1, hp, hm] at h
    exact h)
  rw [hp] at hn1 ⊢
  clear hn hm hp hW0 hW1 h hL hU b0 hll hR hR1 hno2 hn2
  go_enter Try.func21, Try.ntmps21
  go_upto_region 1 with fail
  rw [HW1.out]
  clear HW1
  go_wp2_with ((with_reducible refine wpList_loadG stIns _ rfl ⟨w.heap.size, 0, none⟩ (insCs (x) P) ?_ ?_ ?_ ?_ ?_); exact rfl; exact rfl; exact HBI.out.cells; exact rfl)
  refine HFO.out.mono ?_
  rintro e w1 ⟨rfl, b1⟩
  have HB1 := Lib.hid b1
  clear b1
  by_cases hr : R1 = 0
  · have HRG : Hid (R = rwGo un ll.flatten (x.orders.drop 0) 0) := Lib.hid (by rw [HRF.out, if_neg (by rw [hr]; simp)])
    have HBD := Lib.hid (rforms_good (HR1.out.trans hr))
    rw [hr]
    clear hr HRF HR1
    go_wp2_with fail
    go_loopw [8, 9, 10, 11, 12, 13] (fun i _ _ _ _ _ wr => ∃ j : Nat, j ≤ n ∧ i = .int .i64 j ∧ Hid (R = rwGo un ll.flatten (x.orders.drop j) j) ∧ Hid (Below W0.heap.size W0 wr)) (fun i _ _ _ _ _ _ => n - (intOf i).toNat)
    case atStart => exact ⟨0, by omega, rfl, HRG, HB1⟩
    case round =>
      clear HB1 HRG
      obtain ⟨j, hj, rfl, hrr, HB⟩ := hrel
      obtain ⟨W1, hW1⟩ : ∃ W1, W1 = wr := ⟨_, rfl⟩
      subst hW1
      have x3 := (HX.out _ HB.out).1
      by_cases hlj : j < n
      · obtain ⟨o, ho⟩ : ∃ o, x.orders[j]? = some o := ⟨_, List.getElem?_eq_getElem (by rw [HN.out]; exact hlj)⟩
        obtain ⟨ad, cs0, hA, hadb, hat, hcs⟩ := ((HX.out _ HB.out).2.1.orders).elem ho
        obtain ⟨C, cc, rfl, hI, hf⟩ := rOrd_at hat
        have HT := Lib.hid (rwGo_at (un := un) (shs := ll.flatten) ho)
        obtain ⟨q, hq⟩ : ∃ q, o.load.length = q := ⟨_, rfl⟩
        have hq9 : q ≤ 1000000 := by rw [← hq]; exact HLL.out.1 o (List.mem_of_getElem? ho)
        have HQ := Lib.hid hq
        have hj0 : (0 : Int) ≤ (j : Int) := by omega
        have hjn : (j : Int) < (n : Int) := by omega
        have hzW := HB.out.size
        obtain ⟨of, hof⟩ : ∃ b, o.off = b := ⟨_, rfl⟩
        have HOF := Lib.hid hof
        have l1 : W1.cell? ⟨(ad.add (j * 16)).block, (ad.add (j * 16)).off + 1, none⟩ = some (.slice C q cc) := by rw [← hq]; exact hcs 1 _ rfl
        have l2 : W1.cell? ⟨(ad.add (j * 16)).block, (ad.add (j * 16)).off + 15, none⟩ = some (.bool of) := by rw [← hof]; exact hcs 15 _ rfl
        have HL1 : Hid (∀ w', Below W1.heap.size W1 w' → w'.cell? ⟨w.heap.size, 3, none⟩ = some (.slice (some ad) n P.c3) ∧ w'.cell? ⟨(ad.add (j * 16)).block, (ad.add (j * 16)).off + 15, none⟩ = some (.bool of) ∧ Ints w' w'.heap.size C o.load) := Lib.hid fun w' hb => by
          refine ⟨by rw [← hA]; exact (HX.out _ (HB.out.trans (hb.mono hzW))).1, (hb.cell (p := ⟨(ad.add (j * 16)).block, (ad.add (j * 16)).off + 15, none⟩) (by show (ad.add (j * 16)).block < _; rw [block_of_add]; omega)).trans l2, (hI.below (hb.mono (by omega))).more (by have := hb.size; omega)⟩
        rw [hA] at x3 ⊢
        clear ho hat hcs hI hf hq hof l2
        go_upto_region 9 with fail
        clear x3 l1
        go_wp2_with fail
        go_loopw [10, 11] (fun v q' wr => ∃ (k : Nat) (C0 : Option Addr) (d0 : Nat), k ≤ q ∧ q' = .int .i64 k ∧ v = .slice C0 k d0 ∧ wr.ownsRow W1.heap.size 3 1 (.slice C0 k d0) k ((List.replicate k (0 : Int)).map (.int .i64)) ∧ Below W1.heap.size W1 wr) (fun _ q' _ => q - (intOf q').toNat)
        case atStart => exact ⟨0, none, 0, by omega, rfl, rfl, World.ownsRow_nil _ _ _ _, Below.refl _ _⟩
        case round =>
          obtain ⟨k, C0, d0, hk, rfl, rfl, hown, hb⟩ := hrel
          have hz9 := hb.size
          by_cases hkp : k < q
          · have bl : Below wr.heap.size wr (wr.alloc (.cells #[.int .i64 0] 3)) := (Below.refl _ _).alloc (Nat.le_refl _) _
            have HOw := Lib.hid (own_below hown bl)
            have HBl := Lib.hid (hb.trans (bl.mono hz9))
            have hsz : W1.heap.size ≤ (wr.alloc (.cells #[.int .i64 0] 3)).heap.size := HBl.out.size
            have HSZ := Lib.hid hsz
            have hkq : (k : Int) < (q : Int) := by omega
            clear bl hown hsz
            go_wp2_with (at_builtin; go_loud (refine wpList_app int_elem _ _ rfl W1.heap.size C0 k d0 ((List.replicate k (0 : Int)).map (.int .i64)) rfl HOw.out ⟨wr.heap.size, 0, none⟩ 1 [.int .i64 0] rfl rfl (cell_one_new _ _ _) (fun u hu => by rw [List.mem_singleton] at hu; rw [hu]; rfl) (by omega) HSZ.out rfl ?_); intro g9 c9 w9 hown9 hg9 hd9; have HZ9 := Lib.hid (And.intro hown9 hg9); clear hown9 hg9 hd9)
            have hro : (List.replicate (k + 1) (0 : Int)).map (Value.int .i64) = (List.replicate k (0 : Int)).map (Value.int .i64) ++ [Value.int .i64 0] := by rw [List.replicate_succ', List.map_append]; rfl
            exact ⟨⟨k + 1, some ⟨g9, 0, none⟩, c9, by omega, by go_num, rfl, by rw [hro]; exact HZ9.out.1, HBl.out.grown HZ9.out.2 HSZ.out (fun q e => own_base HOw.out q e)⟩, by simp [intOf]; omega⟩
          · have hkp' : k = q := by omega
            subst hkp'
            clear hkp
            have hI0 : IntsOff wr (fun b => W1.heap.size ≤ b) C0 (List.replicate k (0 : Int)) := by
              refine IntsOff.own (c := d0) (base := W1.heap.size) (e := 3) ?_ (by simp; omega) (fun b hb => hb)
              simpa using hown
            have HI0 := Lib.hid hI0
            have HS0 : Hid (sumOf (j : Int) ll.flatten (List.replicate k 0) = sumOf (j : Int) (ll.drop 0).flatten (List.replicate k 0)) := Lib.hid rfl
            have HC0 : Hid (∃ c, c + (ll.drop 0).flatten.length ≤ 1000000 ∧ BdL ((c : Int) * 1000) (List.replicate k (0 : Int))) := Lib.hid ⟨0, by rw [Nat.zero_add]; exact HLL.out.2.1, fun v hv => by rw [List.eq_of_mem_replicate hv]; omega⟩
            clear hown hI0
            go_upto_region 14 with fail
            go_loopw [10, 12, 13] (fun v t _ wq => ∃ (i : Nat) (S : List Int) (C1 : Option Addr) (d1 : Nat), i ≤ p ∧ t = .int .i64 i ∧ v = .slice C1 S.length d1 ∧ Hid (sumOf (j : Int) ll.flatten (List.replicate k 0) = sumOf (j : Int) (ll.drop i).flatten S) ∧ Hid (∃ c, c + (ll.drop i).flatten.length ≤ 1000000 ∧ BdL ((c : Int) * 1000) S) ∧ Hid (IntsOff wq (fun b => W1.heap.size ≤ b) C1 S) ∧ Hid (Below W1.heap.size W1 wq)) (fun _ t _ _ => p - (intOf t).toNat)
            case atStart => exact ⟨0, List.replicate k 0, C0, d0, by omega, rfl, by rw [List.length_replicate], HS0, HC0, HI0, Lib.hid hb⟩
            case round =>
              clear HS0 HC0 HI0 hb hz9
              obtain ⟨i, S, C1, d1, hi, rfl, rfl, HS, HCt, HI, HB2⟩ := hrel
              have hbW := HB.out.trans (HB2.out.mono hzW)
              obtain ⟨W2, hW2⟩ : ∃ W2, W2 = wr := ⟨_, rfl⟩
              subst hW2
              by_cases hip : i < p
              · obtain ⟨l, hl⟩ : ∃ l, ll[i]? = some l := ⟨_, List.getElem?_eq_getElem (by rw [HP.out]; exact hip)⟩
                obtain ⟨adl, csl, hAL, hadl, ⟨Cl, cl, rfl, hrow⟩, hcl⟩ := ((HX.out _ hbW).2.2.1).elem hl
                have e1 := hcl 0 _ rfl
                rw [show (rSlice rSha).size = 1 from rfl, Nat.mul_one, add_of_add, Nat.add_zero] at e1
                have HSl := Lib.hid (sumOf_shs (j := (j : Int)) (z := S) hl)
                have HLn := Lib.hid (len_shs hl)
                have HML := Lib.hid (List.mem_of_getElem? hl)
                obtain ⟨t, ht⟩ : ∃ t, l.length = t := ⟨_, rfl⟩
                have ht1 := hrow.1
                rw [ht] at e1 ht1
                have HTt := Lib.hid ht
                have hzW2 := hbW.size
                have HE1 : Hid (∀ w', Below W2.heap.size W2 w' → RowAt rSha w' w.heap.size Cl l ∧ w'.cell? (adl.add i) = some (.slice Cl t cl)) := Lib.hid (fun w' h' => ⟨hrow.below (h'.mono (Nat.le_trans z0 hzW2)), (h'.cell (by rw [block_of_add]; omega)).trans e1⟩)
                have hi0 : (0 : Int) ≤ (i : Int) := by omega
                have hip' : (i : Int) < (p : Int) := by omega
                have HSi : Hid (sumOf (j : Int) l S = sumOf (j : Int) (l.drop 0) S) := Lib.hid rfl
                have HCi : Hid (∃ c, c + (l.drop 0).length + (ll.drop (i + 1)).flatten.length ≤ 1000000 ∧ BdL ((c : Int) * 1000) S) := Lib.hid (by
                  obtain ⟨c, h1, h2⟩ := HCt.out
                  rw [HLn.out] at h1
                  exact ⟨c, by rw [List.drop_zero]; omega, h2⟩)
                rw [hAL]
                clear hl ht hcl hrow e1 hbW HCt
                go_upto_region 17 with fail
                go_loopw [10, 13] (fun v t' wq => ∃ (k' : Nat) (S' : List Int) (C2 : Option Addr) (d2 : Nat), k' ≤ t ∧ t' = .int .i64 k' ∧ v = .slice C2 S'.length d2 ∧ Hid (sumOf (j : Int) l S = sumOf (j : Int) (l.drop k') S') ∧ Hid (∃ c, c + (l.drop k').length + (ll.drop (i + 1)).flatten.length ≤ 1000000 ∧ BdL ((c : Int) * 1000) S') ∧ Hid (IntsOff wq (fun b => W1.heap.size ≤ b) C2 S') ∧ Hid (Below W2.heap.size W2 wq)) (fun _ t' _ => t - (intOf t').toNat)
                case atStart => exact ⟨0, S, C1, d1, by omega, rfl, rfl, HSi, HCi, HI, Lib.hid (Below.refl _ _)⟩
                case round =>
                  clear HSi HCi HI
                  obtain ⟨k', S', C2, d2, hk', rfl, rfl, HS', HC', HI', HB3⟩ := hrel
                  have e1 := (HE1.out _ HB3.out).2
                  have hz3 := HB3.out.size
                  by_cases hkt : k' < t
                  · obtain ⟨s, hs⟩ : ∃ s, l[k']? = some s := ⟨_, List.getElem?_eq_getElem (by rw [HTt.out]; exact hkt)⟩
                    obtain ⟨ad2, C4, c4, hCl, hadb2, ⟨m0, m1⟩, hIs, hfs⟩ := row_Sha (HE1.out _ HB3.out).1 hs
                    have HTk := Lib.hid (sumOf_at (j := (j : Int)) (z := S') hs)
                    have HLd := Lib.hid (HBD.out l HML.out s (List.mem_of_getElem? hs))
                    have HCk : Hid (∃ c, c + 1 + (l.drop (k' + 1)).length + (ll.drop (i + 1)).flatten.length ≤ 1000000 ∧ BdL ((c : Int) * 1000) S') := Lib.hid (by
                      obtain ⟨c, h1, h2⟩ := HC'.out
                      rw [drop_at' hs, List.length_cons] at h1
                      exact ⟨c, by omega, h2⟩)
                    have hk0 : (0 : Int) ≤ (k' : Int) := by omega
                    have hkn : (k' : Int) < (t : Int) := by omega
                    have HIs : Hid (Ints wr wr.heap.size C4 s.load) := Lib.hid (hIs.more (by omega))
                    obtain ⟨L4, hL4⟩ : ∃ L, s.load.length = L := ⟨_, rfl⟩
                    have HL4 := Lib.hid hL4
                    rw [hCl] at e1
                    rw [hL4] at m1
                    clear hs hIs hfs hL4 HC'
                    by_cases hgj : s.order = (j : Int)
                    · have hgb : (s.order == (j : Int)) = true := by rw [hgj]; simp
                      have HE : Hid (sumOf (j : Int) l S = sumOf (j : Int) (l.drop (k' + 1)) (addE S' s.load)) := Lib.hid (by rw [HS'.out, HTk.out, if_pos hgj])
                      have HCn : Hid (∃ c, c + (l.drop (k' + 1)).length + (ll.drop (i + 1)).flatten.length ≤ 1000000 ∧ BdL ((c : Int) * 1000) (addE S' s.load)) := Lib.hid (by
                        obtain ⟨c, h1, h2⟩ := HCk.out
                        refine ⟨c + 1, by omega, ?_⟩
                        have h3 := addE_bd h2 HLd.out
                        rw [show ((c + 1 : Nat) : Int) * 1000 = (c : Int) * 1000 + 1000 by push_cast; omega]
                        exact h3)
                      have HADD : Hid (Calls Try.prog 44 #[.slice C2 S'.length d2, .slice C4 L4 c4] wr fun e w' => ∃ A1 c1 er, e = .returned (.tuple #[.slice A1 (addE S' s.load).length c1, .int .i64 er]) ∧ w'.ownsRow wr.heap.size 3 1 (.slice A1 (addE S' s.load).length c1) (addE S' s.load).length ((addE S' s.load).map (.int .i64)) ∧ Below wr.heap.size wr w') := Lib.hid (by
                        obtain ⟨c, h1, h2⟩ := HCk.out
                        rw [← HL4.out]
                        exact radd_any C2 d2 S' C4 c4 s.load wr HI'.out.1 HIs.out (bd_inM h2 (by omega)) (bd_inM HLd.out (by omega)))
                      rw [hgj] at m0
                      clear hgj HCk
                      go_wp2_with fail
                      refine HADD.out.mono ?_
                      rintro e w5 ⟨A9, c9, er, rfl, hown5, b5⟩
                      have HB5 := Lib.hid (HB3.out.trans (b5.mono hz3))
                      have HI5 : Hid (IntsOff w5 (fun b => W1.heap.size ≤ b) A9 (addE S' s.load)) := Lib.hid (IntsOff.own hown5 (Nat.le_trans (addE_len _ _) HIs.out.len) (fun b hb => by have := HB2.out.size; have hb' : wr.heap.size ≤ b := hb; show W1.heap.size ≤ b; omega))
                      clear hown5 b5
                      go_wp2_with fail
                      exact ⟨⟨k' + 1, _, A9, c9, by omega, by go_num, rfl, HE, HCn, HI5, HB5⟩, by simp [intOf]; omega⟩
                    · have hgb : (s.order == (j : Int)) = false := by rw [beq_eq_false_iff_ne]; exact hgj
                      have HE : Hid (sumOf (j : Int) l S = sumOf (j : Int) (l.drop (k' + 1)) S') := Lib.hid (by rw [HS'.out, HTk.out, if_neg hgj])
                      have HCn : Hid (∃ c, c + (l.drop (k' + 1)).length + (ll.drop (i + 1)).flatten.length ≤ 1000000 ∧ BdL ((c : Int) * 1000) S') := Lib.hid (by
                        obtain ⟨c, h1, h2⟩ := HCk.out
                        exact ⟨c, by omega, h2⟩)
                      clear hgj HCk
                      go_wp2_with fail
                      exact ⟨⟨k' + 1, S', C2, d2, by omega, by go_num, rfl, HE, HCn, HI', HB3⟩, by simp [intOf]; omega⟩
                  · have hkt' : k' = t := by omega
                    subst hkt'
                    clear hkt
                    have HSn : Hid (sumOf (j : Int) ll.flatten (List.replicate k 0) = sumOf (j : Int) (ll.drop (i + 1)).flatten S') := Lib.hid (by
                      rw [HS.out, HSl.out, HS'.out, show List.drop k' l = [] from List.drop_of_length_le (by rw [HTt.out]; exact Nat.le_refl _)]
                      rfl)
                    have HCn : Hid (∃ c, c + (ll.drop (i + 1)).flatten.length ≤ 1000000 ∧ BdL ((c : Int) * 1000) S') := Lib.hid (by
                      obtain ⟨c, h1, h2⟩ := HC'.out
                      exact ⟨c, by omega, h2⟩)
                    have HBn := Lib.hid (HB2.out.trans (HB3.out.mono HB2.out.size))
                    go_wp2_with fail
                    exact ⟨⟨i + 1, S', C2, d2, by omega, by go_num, rfl, HSn, HCn, HI', HBn⟩, by simp [intOf]; omega⟩
              · have hip' : i = p := by omega
                subst hip'
                clear hip
                have HSF : Hid (sumOf (j : Int) ll.flatten (List.replicate o.load.length 0) = S) := Lib.hid (by rw [HQ.out, HS.out, List.drop_of_length_le (by rw [HP.out]; exact Nat.le_refl _)]; rfl)
                have HTT : Hid (R = if rwAt un j o S ≠ 0 then rwAt un j o S else rwGo un ll.flatten (x.orders.drop (j + 1)) (j + 1)) := Lib.hid (by rw [hrr.out, HT.out, HSF.out])
                clear HS HCt hbW
                obtain ⟨fb, hfb⟩ : ∃ fb, fitsB S o.load = fb := ⟨_, rfl⟩
                obtain ⟨fb2, hfb2⟩ : ∃ fb, fitsB o.load S = fb := ⟨_, rfl⟩
                obtain ⟨lb, hlb⟩ : ∃ lb, listB un (j : Int) = lb := ⟨_, rfl⟩
                have HRW : Hid (rwAt un j o S = if fb = false then 17 else if (!of && (!lb && !fb2)) = true then 23 else 0) := Lib.hid (by unfold rwAt; rw [hfb, hfb2, hlb, HOF.out])
                have HF1 : Hid (Calls Try.prog 45 #[.slice C1 S.length d1, .slice C k cc] W2 fun e w' => e = .returned (.bool fb) ∧ Below W2.heap.size W2 w') := Lib.hid (by
                  have h := rfits_any C1 d1 S _ rfl C cc o.load k HQ.out W2 _ _ (Nat.le_refl _) (Nat.le_refl _) HI.out.1 (HL1.out _ HB2.out).2.2
                  rw [hfb] at h
                  exact h)
                have HF2 : Hid (∀ w', Below W2.heap.size W2 w' → Calls Try.prog 45 #[.slice C k cc, .slice C1 S.length d1] w' fun e w'' => e = .returned (.bool fb2) ∧ Below w'.heap.size w' w'') := Lib.hid (fun w' hb' => by
                  have hI5 := IntsOff.keep (P' := fun b => W1.heap.size ≤ b) HI.out hb'.size (fun b hb hp => ⟨hp, hb'.block b hb⟩)
                  have h := rfits_any C cc o.load k HQ.out C1 d1 S _ rfl w' _ _ (Nat.le_refl _) (Nat.le_refl _) (HL1.out _ (HB2.out.trans (hb'.mono HB2.out.size))).2.2 hI5.1
                  rw [hfb2] at h
                  exact h)
                have HLI : Hid (∀ w', Below W2.heap.size W2 w' → Calls Try.prog 46 #[.slice AU m cU, .int .i64 j] w' fun e w'' => e = .returned (.bool lb) ∧ w' = w'') := Lib.hid (fun w' hb' => by
                  have h := rlisted_any AU cU un (j : Int) w' w.heap.size (HX.out _ (HB.out.trans ((HB2.out.trans (hb'.mono HB2.out.size)).mono hzW))).2.2.2
                  rw [hlb, HM.out] at h
                  exact h)
                clear hfb hfb2 hlb
                go_wp2_with fail
                refine HF1.out.mono ?_
                rintro e w5 ⟨rfl, b5⟩
                have HB5 := Lib.hid b5
                have HB25 := Lib.hid (HB2.out.trans (b5.mono HB2.out.size))
                have HBW5 := Lib.hid (HB.out.trans (HB25.out.mono hzW))
                clear b5 HF1
                cases fb
                · have HE : Hid (R = 17) := Lib.hid (by rw [HTT.out, HRW.out]; rfl)
                  go_wp2_with fail
                  go_ret
                  exact ⟨by rw [HE.out]; rfl, hB0.trans (HBW5.out.mono z0)⟩
                · obtain ⟨x5, l5, -⟩ := HL1.out _ HB25.out
                  cases of
                  · go_wp2_with fail
                    refine (HLI.out _ HB5.out).mono ?_
                    rintro e w6 ⟨rfl, rfl⟩
                    cases lb
                    · go_wp2_with fail
                      refine (HF2.out _ HB5.out).mono ?_
                      rintro e w6 ⟨rfl, b6⟩
                      have HB6 := Lib.hid (HBW5.out.trans (b6.mono HBW5.out.size))
                      clear b6 x5 l5
                      cases fb2
                      · have HE : Hid (R = 23) := Lib.hid (by rw [HTT.out, HRW.out]; rfl)
                        go_wp2_with fail
                        go_ret
                        exact ⟨by rw [HE.out]; rfl, hB0.trans (HB6.out.mono z0)⟩
                      · have HE : Hid (R = rwGo un ll.flatten (x.orders.drop (j + 1)) (j + 1)) := Lib.hid (by rw [HTT.out, HRW.out]; rfl)
                        go_wp2_with fail
                        exact ⟨⟨j + 1, by omega, by go_num, HE, HB6⟩, by simp [intOf]; omega⟩
                    · have HE : Hid (R = rwGo un ll.flatten (x.orders.drop (j + 1)) (j + 1)) := Lib.hid (by rw [HTT.out, HRW.out]; rfl)
                      clear x5 l5
                      go_wp2_with fail
                      exact ⟨⟨j + 1, by omega, by go_num, HE, HBW5⟩, by simp [intOf]; omega⟩
                  · have HE : Hid (R = rwGo un ll.flatten (x.orders.drop (j + 1)) (j + 1)) := Lib.hid (by rw [HTT.out, HRW.out]; rfl)
                    go_wp2_with fail
                    exact ⟨⟨j + 1, by omega, by go_num, HE, HBW5⟩, by simp [intOf]; omega⟩
      · have hjn : j = n := by omega
        subst hjn
        clear hlj
        have HE2 : Hid (R = 0) := Lib.hid (by rw [hrr.out, List.drop_of_length_le (by rw [HN.out]; exact Nat.le_refl _)]; rfl)
        go_wp2
        go_ret
        exact ⟨by rw [HE2.out]; rfl, hB0.trans (HB.out.mono z0)⟩
  · have hk1 : (R1 != 0) = true := by simp [hr]
    have hk2 : (R1 == 0) = false := by simp [hr]
    have HRR : Hid (R = R1) := Lib.hid (by rw [HRF.out, if_pos hr, ← HR1.out, rforms_two (by rw [HR1.out]; exact hr)])
    clear hr HRF HR1
    go_wp2_with fail
    go_ret
    exact ⟨by rw [HRR.out]; rfl, hB0.trans (HB1.out.mono z0)⟩
end Go.Proofs.Ytceceomaheobhaa.spl

/- The law OrderLoads, walked. -/
import Derived.Test.YthkbfmbohoclaaaDoorOrdJ
import Derived.Test.YthkbfmbohoclaaaDoorOrdI
import Derived.Test.YthkbfmbohoclaaaDoorOrdP
namespace Go.Proofs.YthkbfmbohoclaaaDoor.ord
open Go.RowKit
open Go.Proofs.YthkbfmbohoclaaaDoor.lib Go.Proofs.YthkbfmbohoclaaaDoor.rd Go.Proofs.YthkbfmbohoclaaaDoor.typ Go.Proofs.YthkbfmbohoclaaaDoor.app Go.Proofs.YthkbfmbohoclaaaDoor.sumr Go.Proofs.YthkbfmbohoclaaaDoor.loads Go.Proofs.YthkbfmbohoclaaaDoor.sets
set_option linter.unusedVariables false
set_option linter.unusedSimpArgs false

theorem few_in {l : List Ord} (h : FewO l) : ∀ o, o ∈ l → InM 1073741824 o.load := fun o ho x hx => by
  have := (h.2 o ho).2.2 x hx
  omega
theorem load_any (A : Option Addr) (c : Nat) (l : List Ord) (hf : FewO l) (s dims : Int) (w : World) (hL : RowAt rOrd w w.heap.size A l) :
    Calls Tryd.prog 26 #[.slice A l.length c, .int .i64 s, .int .i64 dims] w (OutF w (loadF l s dims)) := by
  by_cases h0 : s < 0
  · exact load_neg A _ c s dims h0 l w
  · by_cases h1 : dims < 0 ∨ 3 < dims
    · exact load_dims A _ c s dims (by omega) h1 l w
    · obtain ⟨d, rfl⟩ := Int.eq_ofNat_of_zero_le (show 0 ≤ dims by omega)
      exact load_in A c l s (by omega) d (by omega) hf.1 w hL (few_in hf)
theorem rload_any (A : Option Addr) (c : Nat) (l : List Ord) (hf : FewO l) (s dims : Int) (hs : s ≤ 9223372036854775807) (w : World) (hL : RowAt rOrd w w.heap.size A l) :
    Calls Tryd.prog 27 #[.slice A l.length c, .int .i64 s, .int .i64 dims] w (OutF w (loadF l s dims)) := by
  by_cases h0 : s < 0
  · exact rload_neg A _ c s dims h0 l w
  · by_cases h1 : dims < 0 ∨ 3 < dims
    · exact rload_dims A _ c s dims (by omega) h1 l w
    · obtain ⟨d, rfl⟩ := Int.eq_ofNat_of_zero_le (show 0 ≤ dims by omega)
      exact rload_in A c l s (by omega) hs d (by omega) hf.1 w hL (few_in hf)
theorem or_neg (a b : Int) (hb : b < 0) (hb' : -9223372036854775808 ≤ b) : bits .or .i64 a b < 0 := by
  have e2 : (BitVec.ofInt 64 b).toNat = (b + 18446744073709551616).toNat := by rw [BitVec.toNat_ofInt]; omega
  have h1 : (BitVec.ofInt 64 b).toNat ≤ (BitVec.ofInt 64 a ||| BitVec.ofInt 64 b).toNat := by rw [BitVec.toNat_or]; exact Nat.right_le_or
  have h2 : (BitVec.ofInt 64 a ||| BitVec.ofInt 64 b).toNat < 18446744073709551616 := (BitVec.ofInt 64 a ||| BitVec.ofInt 64 b).isLt
  show IntKind.i64.wrap ((BitVec.ofInt 64 a ||| BitVec.ofInt 64 b).toNat : Nat) < 0
  rw [IntKind.wrap_i64]
  omega
theorem loadF_nn {l : List Ord} {s dims : Int} {L : List Int} (h : loadF l s dims = some L) : 0 ≤ s := by
  obtain ⟨_, _, _, h1, _⟩ := loadF_ok (l := l) (s := s) (dims := dims) (by rw [h]; simp)
  exact h1
/-- What the law needs of the union. -/
theorem union_none {l : List Ord} {a b dims : Int} {s : List Int} (ha : loadF l a dims = some s) (hb : loadF l b dims = none) (a1 : a ≤ 9223372036854775807) (b0 : -9223372036854775808 ≤ b) (b1 : b ≤ 9223372036854775807) : loadF l (bits .or .i64 a b) dims = none := by
  have a0 := loadF_nn ha
  by_cases hn : b < 0
  · exact loadF_neg (or_neg a b hn b0)
  · obtain ⟨x, rfl⟩ := Int.eq_ofNat_of_zero_le a0
    obtain ⟨y, rfl⟩ := Int.eq_ofNat_of_zero_le (show 0 ≤ b by omega)
    rw [or_nat x y (by omega) (by omega)]
    exact load_none (by rw [ha]; simp) hb
theorem union_some {l : List Ord} {a b dims : Int} {s u : List Int} (ha : loadF l a dims = some s) (hb : loadF l b dims = some u) (hab : bits .and .i64 a b = 0) (a1 : a ≤ 9223372036854775807) (b1 : b ≤ 9223372036854775807) (hi : ∀ o, o ∈ l → InM 1073741824 o.load) :
    ∃ (d : Nat) (v : List Int), dims = d ∧ d ≤ 3 ∧ loadF l (bits .or .i64 a b) dims = some v ∧ s.length = d ∧ u.length = d ∧ v.length = d ∧
      ∀ (k : Nat), k < d → ∃ x y, s[k]? = some x ∧ u[k]? = some y ∧ v[k]? = some (x + y) ∧ -67645734912 ≤ x ∧ x ≤ 67645734912 ∧ -67645734912 ≤ y ∧ y ≤ 67645734912 := by
  obtain ⟨x, rfl⟩ := Int.eq_ofNat_of_zero_le (loadF_nn ha)
  obtain ⟨y, rfl⟩ := Int.eq_ofNat_of_zero_le (loadF_nn hb)
  rw [and_nat x y (by omega) (by omega)] at hab
  rw [or_nat x y (by omega) (by omega)]
  exact load_adds (by omega) ha hb hi

theorem loadF_len {l : List Ord} {s dims : Int} {L : List Int} (h : loadF l s dims = some L) : L.length ≤ 3 := by
  obtain ⟨d, rfl, hd, h0, h1⟩ := loadF_ok (l := l) (s := s) (dims := dims) (by rw [h]; simp)
  rw [loadF_some h0 hd h1] at h
  cases h
  rw [colL_length]
  simp [zeros]
  exact hd
theorem same_self (l : List Int) : sameB l l = true := by unfold sameB; simp
theorem same_eself (l : List Int) : eqs.sameB l l = true := by unfold eqs.sameB; simp
set_option maxRecDepth 100000 in
set_option maxHeartbeats 8000000 in
theorem lawLoads_any (A : Option Addr) (c : Nat) (l : List Ord) (a b dims : Int) (w : World) (a0 : -9223372036854775808 ≤ a) (a1 : a ≤ 9223372036854775807) (b0 : -9223372036854775808 ≤ b) (b1 : b ≤ 9223372036854775807) (hL : RowAt rOrd w w.heap.size A l) :
    Calls Tryd.prog 8 #[.slice A l.length c, .agg #[.int .i64 a, .int .i64 b], .int .i64 dims] w fun e w' => e = .returned (.bool true) ∧ Below w.heap.size w w' := by
  go_enter Tryd.func8, Tryd.ntmps8
  go_wp2_with fail
  obtain ⟨W0, hW0⟩ : ∃ W0, w.alloc (.cells #[.int .i64 a, .int .i64 b] 42) = W0 := ⟨_, rfl⟩
  have BW0 : Below w.heap.size w W0 := by rw [← hW0]; exact (Below.refl _ _).alloc (Nat.le_refl _) _
  have zW0 := BW0.size
  have k0 : W0.cell? ⟨w.heap.size, 0, none⟩ = some (.int .i64 a) := by rw [← hW0]; exact two_new w _ _ _ 0 _ rfl
  have k1 : W0.cell? ⟨w.heap.size, 1, none⟩ = some (.int .i64 b) := by rw [← hW0]; exact two_new w _ _ _ 1 _ rfl
  have HLW0 : Hid (RowAt rOrd W0 W0.heap.size A l) := Lib.hid ((hL.below BW0).more zW0)
  rw [hW0]
  clear hW0 hL
  refine (few_any A c l _ _ HLW0.out).mono ?_
  rintro e w1 ⟨q, rfl, hq, rfl⟩
  cases q
  · clear hq
    go_wp2_with (go_at_call 25; refine (awake_any _).mono ?_; rintro e wz ⟨rfl, hbz⟩; have Bz : Below w.heap.size w wz := Below.trans BW0 (hbz.mono BW0.size))
    go_ret
    exact ⟨rfl, Bz⟩
  · have HFEW := Lib.hid (hq rfl)
    clear hq
    go_wp2
    go_quiet (fail)
    obtain ⟨W1, hW1⟩ : ∃ W1 : World, W0.drewN nq = W1 := ⟨_, rfl⟩
    have BW1 : Below w.heap.size w W1 := by rw [← hW1]; exact bel_drewN BW0 _
    have HLW1 : Hid (RowAt rOrd W1 W1.heap.size A l) := by rw [← hW1]; exact Lib.hid (HLW0.out.below (bel_drewN (Below.refl _ _) _))
    rw [hW1]
    clear hW1 k0 k1 HLW0 BW0 zW0
    cases hA : loadF l a dims with
    | none =>
      have HA := Lib.hid hA
      clear hA
      go_wp2_with fail
      refine (load_any _ _ l HFEW.out _ _  _ (HLW1.out)).mono ?_
      intro e w2 hout
      rw [HA.out] at hout
      obtain ⟨rfl, hb1⟩ := outF_no hout
      clear hout
      have Bw2 : Below w.heap.size w w2 := Below.trans BW1 (hb1.mono BW1.size)
      have zw2 := hb1.size
      have HLw2 : Hid (RowAt rOrd w2 w2.heap.size A l) := Lib.hid ((HLW1.out.below hb1).more zw2)
      go_wp2_with fail
      refine (rload_any _ _ l HFEW.out _ _ a1 _ (HLw2.out)).mono ?_
      intro e w3 hout
      rw [HA.out] at hout
      obtain ⟨rfl, hb2⟩ := outF_no hout
      clear hout
      have Bw3 : Below w.heap.size w w3 := Below.trans Bw2 (hb2.mono Bw2.size)
      have zw3 := hb2.size
      have HLw3 : Hid (RowAt rOrd w3 w3.heap.size A l) := Lib.hid ((HLw2.out.below hb2).more zw3)
      go_wp2_with (first | (go_at_call 28; refine (lsame_any none 0 [] 0 rfl none 0 [] 0 rfl _ 0 0 (Nat.zero_le _) (Nat.zero_le _) Ints.nil Ints.nil).mono ?_; rw [same_eself]; rintro e w4 ⟨rfl, hb4⟩; have Bw4 : Below w.heap.size w w4 := Below.trans Bw3 (hb4.mono Bw3.size)) | (go_at_call 25; refine (awake_any _).mono ?_; rintro e wz ⟨rfl, hbz⟩; have Bz : Below w.heap.size w wz := Below.trans Bw4 (hbz.mono Bw4.size)))
      go_ret
      exact ⟨rfl, Bz⟩
    | some s =>
      have HA := Lib.hid hA
      have hls := loadF_len hA
      clear hA
      go_wp2_with fail
      refine (load_any _ _ l HFEW.out _ _  _ (HLW1.out)).mono ?_
      intro e w2 hout
      rw [HA.out] at hout
      obtain ⟨A1, c1, rfl, hown1, hb1⟩ := outF_yes hout
      clear hout
      have Bw2 : Below w.heap.size w w2 := Below.trans BW1 (hb1.mono BW1.size)
      have zw2 := hb1.size
      have I1 := Lib.hid (Ints.of_own hown1 (by have := hls; omega))
      have HLw2 : Hid (RowAt rOrd w2 w2.heap.size A l) := Lib.hid ((HLW1.out.below hb1).more zw2)
      clear hown1
      go_wp2_with fail
      refine (rload_any _ _ l HFEW.out _ _ a1 _ (HLw2.out)).mono ?_
      intro e w3 hout
      rw [HA.out] at hout
      obtain ⟨A2, c2, rfl, hown2, hb2⟩ := outF_yes hout
      clear hout
      have Bw3 : Below w.heap.size w w3 := Below.trans Bw2 (hb2.mono Bw2.size)
      have zw3 := hb2.size
      have I2 := Lib.hid (Ints.of_own hown2 (by have := hls; omega))
      have HLw3 : Hid (RowAt rOrd w3 w3.heap.size A l) := Lib.hid ((HLw2.out.below hb2).more zw3)
      clear hown2
      go_wp2_with fail
      refine (lsame_any A1 c1 s _ rfl A2 c2 s _ rfl _ w2.heap.size w3.heap.size zw3 (Nat.le_refl _) (I1.out.below hb2) I2.out).mono ?_
      rw [same_eself]
      rintro e w4 ⟨rfl, hbs⟩
      have Bw4 : Below w.heap.size w w4 := Below.trans Bw3 (hbs.mono Bw3.size)
      have zw4 := hbs.size
      have HLw4 : Hid (RowAt rOrd w4 w4.heap.size A l) := Lib.hid ((HLw3.out.below hbs).more zw4)
      have J1 := Lib.hid ((I1.out.below (hb2.trans (hbs.mono zw3))))
      by_cases hab : bits .and .i64 a b = 0
      · have HAB := Lib.hid hab
        have e2 : (bits .and .i64 a b != 0) = false := by rw [hab]; rfl
        clear hab
        cases hBb : loadF l b dims with
        | none =>
          have HBB := Lib.hid hBb
          have HU := Lib.hid (union_none HA.out hBb a1 b0 b1)
          clear hBb
          go_wp2_with fail
          refine (load_any _ _ l HFEW.out _ _  _ (HLw4.out)).mono ?_
          intro e w5 hout
          rw [HBB.out] at hout
          obtain ⟨rfl, hb3⟩ := outF_no hout
          clear hout
          have Bw5 : Below w.heap.size w w5 := Below.trans Bw4 (hb3.mono Bw4.size)
          have zw5 := hb3.size
          have HLw5 : Hid (RowAt rOrd w5 w5.heap.size A l) := Lib.hid ((HLw4.out.below hb3).more zw5)
          go_wp2_with fail
          refine (load_any _ _ l HFEW.out _ _  _ (HLw5.out)).mono ?_
          intro e w6 hout
          rw [HU.out] at hout
          obtain ⟨rfl, hb4⟩ := outF_no hout
          clear hout
          have Bw6 : Below w.heap.size w w6 := Below.trans Bw5 (hb4.mono Bw5.size)
          have zw6 := hb4.size
          have HLw6 : Hid (RowAt rOrd w6 w6.heap.size A l) := Lib.hid ((HLw5.out.below hb4).more zw6)
          go_wp2_with (go_at_call 25; refine (awake_any _).mono ?_; rintro e wz ⟨rfl, hbz⟩; have Bz : Below w.heap.size w wz := Below.trans Bw6 (hbz.mono Bw6.size))
          go_ret
          exact ⟨rfl, Bz⟩
        | some u =>
          have HBB := Lib.hid hBb
          obtain ⟨d, v, hdd, hd3, hU, hsd, hud, hvd, hat⟩ := union_some HA.out hBb HAB.out a1 b1 (few_in HFEW.out)
          subst hdd
          have HU := Lib.hid hU
          have HAT := Lib.hid hat
          have HSD := Lib.hid hsd
          have HUD := Lib.hid hud
          have HVD := Lib.hid hvd
          clear hBb hU hat hsd hud hvd
          go_wp2_with fail
          refine (load_any _ _ l HFEW.out _ _  _ (HLw4.out)).mono ?_
          intro e w5 hout
          rw [HBB.out] at hout
          obtain ⟨A3, c3, rfl, hown3, hb3⟩ := outF_yes hout
          clear hout
          have Bw5 : Below w.heap.size w w5 := Below.trans Bw4 (hb3.mono Bw4.size)
          have zw5 := hb3.size
          have I3 := Lib.hid (Ints.of_own hown3 (by have := HUD.out; omega))
          have HLw5 : Hid (RowAt rOrd w5 w5.heap.size A l) := Lib.hid ((HLw4.out.below hb3).more zw5)
          clear hown3
          go_wp2_with fail
          refine (load_any _ _ l HFEW.out _ _  _ (HLw5.out)).mono ?_
          intro e w6 hout
          rw [HU.out] at hout
          obtain ⟨A4, c4, rfl, hown4, hb4⟩ := outF_yes hout
          clear hout
          have Bw6 : Below w.heap.size w w6 := Below.trans Bw5 (hb4.mono Bw5.size)
          have zw6 := hb4.size
          have I4 := Lib.hid (Ints.of_own hown4 (by have := HVD.out; omega))
          have HLw6 : Hid (RowAt rOrd w6 w6.heap.size A l) := Lib.hid ((HLw5.out.below hb4).more zw6)
          clear hown4
          have K1 := Lib.hid (J1.out.below ((hb3.mono (by omega)).trans (hb4.mono (by omega))))
          have K2 := Lib.hid (I3.out.below hb4)
          have q1 := HSD.out
          have q2 := HUD.out
          have q3 := HVD.out
          go_wp2
          go_loopw [17] (fun i wr => ∃ k : Nat, k ≤ d ∧ i = .int .i64 k ∧ Below w6.heap.size w6 wr) (fun i _ => d - (intOf i).toNat)
          case atStart => exact ⟨0, by omega, rfl, Below.refl _ _⟩
          case round =>
            obtain ⟨k, hk, rfl, hbel⟩ := hrel
            have Bwr : Below w.heap.size w wr := Below.trans Bw6 (hbel.mono Bw6.size)
            by_cases hlt : k < d
            · obtain ⟨x, y, hx, hy, hv, x0, x1, y0, y1⟩ := HAT.out k hlt
              obtain ⟨ad1, x', rfl, had1, hx', hc1⟩ := (K1.out.below (hbel.mono (by omega))).at_ (k := k) (by rw [HSD.out]; exact hlt)
              obtain ⟨ad2, y', rfl, had2, hy', hc2⟩ := (K2.out.below (hbel.mono (by omega))).at_ (k := k) (by rw [HUD.out]; exact hlt)
              obtain ⟨ad3, v', rfl, had3, hv', hc3⟩ := (I4.out.below hbel).at_ (k := k) (by rw [HVD.out]; exact hlt)
              rw [hx'] at hx
              rw [hy'] at hy
              rw [hv'] at hv
              cases hx
              cases hy
              cases hv
              have hk0 : (0 : Int) ≤ (k : Int) := by omega
              have hkn : (k : Int) < (d : Int) := by omega
              clear hx' hy' hv' q1 q2 q3
              go_wp2
              go_quiet (fail)
              go_wp2
              go_roundw
              case rel => exact ⟨k + 1, by omega, by go_num, bel_drewN hbel _⟩
              case measure => simp [intOf]; omega
            · have hkn : k = d := by omega
              subst hkn
              clear hlt
              go_wp2_with (go_at_call 25; refine (awake_any _).mono ?_; rintro e wz ⟨rfl, hbz⟩; have Bz : Below w.heap.size w wz := Below.trans Bwr (hbz.mono Bwr.size))
              go_ret
              exact ⟨rfl, Bz⟩
      · have e2 : (bits .and .i64 a b != 0) = true := by simp [hab]
        clear hab
        go_wp2_with (go_at_call 25; refine (awake_any _).mono ?_; rintro e wz ⟨rfl, hbz⟩; have Bz : Below w.heap.size w wz := Below.trans Bw4 (hbz.mono Bw4.size))
        go_ret
        exact ⟨rfl, Bz⟩
end Go.Proofs.YthkbfmbohoclaaaDoor.ord

/- The reference's Number. -/
import Derived.Test.YtofabhenmplkoaaGreatDoorStrR
import Derived.Test.YtofabhenmplkoaaGreatDoorStrB
namespace Go.Proofs.YtofabhenmplkoaaGreatDoor.txt
open Go.RowKit
open Go.Proofs.YtofabhenmplkoaaGreatDoor.lib
set_option linter.unusedVariables false
set_option linter.unusedSimpArgs false

theorem lim_step {v d : Nat} {M T : Int} (hM : M = -(v : Int)) (hT : T = (-9223372036854775808 + (d : Int)).tdiv 10) (hd : d ≤ 9) : (M < T ↔ 9223372036854775808 < v * 10 + d) ∧ -922337203685477580 ≤ T ∧ T ≤ -922337203685477579 := by
  obtain ⟨X, hX⟩ : ∃ X : Int, 9223372036854775808 - (d : Int) = X := ⟨_, rfl⟩
  rw [show -9223372036854775808 + (d : Int) = -X by omega, Int.neg_tdiv, Int.tdiv_eq_ediv_of_nonneg (by omega)] at hT
  omega
theorem numL_sgn {l : By} (h : badH l = false) (h1 : (dgs l).all isD = true) (hs : sgn l = true) : numL l = if valD 0 (dgs l) ≤ 9223372036854775808 then (-(valD 0 (dgs l) : Int), 0) else (0, 4) := by
  unfold numL
  rw [if_neg (badH_no h), if_neg (by rw [h1]; decide), if_pos hs]
theorem numL_pos {l : By} (h : badH l = false) (h1 : (dgs l).all isD = true) (hs : sgn l = false) : numL l = if valD 0 (dgs l) ≤ 9223372036854775807 then ((valD 0 (dgs l) : Int), 0) else (0, 4) := by
  unfold numL
  rw [if_neg (badH_no h), if_neg (by rw [h1]; decide), if_neg (by rw [hs]; decide)]
theorem head_of (s : ByteArray) (h : 0 < s.size) : s.data.toList.head? = some s[0] := by rw [List.head?_eq_getElem?, at_data s 0 h]
theorem isD_get {l : By} {k : Nat} {c : UInt8} (h : (l.drop k).all isD = true) (hc : l[k]? = some c) : isD c = true := by
  rw [drop_at' hc, List.all_cons, Bool.and_eq_true] at h
  exact h.1
set_option maxRecDepth 100000 in
set_option maxHeartbeats 8000000 in
theorem rnumber_any (s : ByteArray) (hm : s.size ≤ 140737488351232) (w : World) : Calls Tryz.prog 77 #[.string s] w fun e w' => e = .returned (.tuple #[.int .i64 (numL s.data.toList).1, .int .i64 (numL s.data.toList).2]) ∧ w = w' := by
  obtain ⟨l, hl⟩ : ∃ l, s.data.toList = l := ⟨_, rfl⟩
  have HL := Lib.hid hl
  have hlen : l.length = s.size := by rw [← hl]; simp
  rw [hl]
  have HLen := Lib.hid hlen
  by_cases h0 : s.size = 0
  · have hn : numL l = (0, 3) := by
      have e : l = [] := List.eq_nil_of_length_eq_zero (by omega)
      subst e; rfl
    have HN := Lib.hid hn
    clear hlen hl hn
    go_enter Tryz.func77, Tryz.ntmps77
    go_wp2
    refine bodyPost_ret (v := .tuple #[.int .i64 0, .int .i64 3]) (by simp [results, Tryz.results77, go_sem]) rfl ?_
    exact ⟨by rw [HN.out], rfl⟩
  have hz : 0 < s.size := by omega
  obtain ⟨c0, hc0⟩ : ∃ c, s[0] = c := ⟨_, rfl⟩
  have hh := head_of s hz
  rw [hl, hc0] at hh
  clear hlen hl
  by_cases h45 : (c0.toNat : Int) = 45
  case pos =>
    have hs : sgn l = true := decide_eq_true (by rw [hh]; congr 1; apply UInt8.toNat_inj.1; have : (45 : UInt8).toNat = 45 := rfl; omega)
    have HS := Lib.hid hs
    have HH := Lib.hid hh
    clear hs hh
    go_enter Tryz.func77, Tryz.ntmps77
    go_upto_region 4 with fail
    have HD : Hid (dgs l = l.drop 1) := Lib.hid (by unfold dgs; rw [if_pos HS.out])
    clear hc0 h45
    by_cases hA : s.size = 1
    · have HN : Hid (numL l = (0, 3)) := Lib.hid (numL_bad (decide_eq_true (.inl (by rw [HD.out, List.drop_of_length_le (by rw [HLen.out]; omega)]))))
      go_wp2
      refine bodyPost_ret (v := .tuple #[.int .i64 0, .int .i64 3]) (by simp [results, Tryz.results77, go_sem]) rfl ?_
      exact ⟨by rw [HN.out], rfl⟩
    have hlt : 1 < s.size := by omega
    obtain ⟨c, hc⟩ : ∃ c, s[1] = c := ⟨_, rfl⟩
    have hx : l[1]? = some c := by rw [← HL.out, at_data s 1 hlt, hc]
    have hdr : dgs l = c :: l.drop (1 + 1) := HD.out.trans (drop_at' hx)
    have HX := Lib.hid hx
    have HDR := Lib.hid hdr
    clear hx hdr
    by_cases hB : (c.toNat : Int) = 48 ∧ 1 < s.size
    · have HN : Hid (numL l = (0, 3)) := Lib.hid (numL_bad (decide_eq_true (.inr ⟨by rw [HDR.out]; show some c = some 48; congr 1; apply UInt8.toNat_inj.1; have : (48 : UInt8).toNat = 48 := rfl; omega, by intro e; have := congrArg List.length e; rw [HLen.out] at this; simp at this; omega⟩)))
      obtain ⟨hB1, hB2⟩ := hB
      go_wp2
      refine bodyPost_ret (v := .tuple #[.int .i64 0, .int .i64 3]) (by simp [results, Tryz.results77, go_sem]) rfl ?_
      exact ⟨by rw [HN.out], rfl⟩
    have HBD : Hid (badH l = false) := Lib.hid (decide_eq_false (by
      rintro (h | ⟨h1, h2⟩)
      · rw [HDR.out] at h; cases h
      · rw [HDR.out] at h1
        have e48 : c = 48 := Option.some.inj h1
        have hc48 : (c.toNat : Int) = 48 := by rw [e48]; rfl
        have h1' : s.size = 1 := by
          by_cases h3 : 1 < s.size
          · exact absurd ⟨hc48, h3⟩ hB
          · omega
        first
          | omega
          | (apply h2
             have hl1 := HLen.out
             rw [h1'] at hl1
             obtain ⟨x, rfl⟩ := List.length_eq_one_iff.1 hl1
             have := HX.out
             rw [e48] at this
             exact congrArg (fun z => [z]) (Option.some.inj this))))
    go_cut [31] (fun v wx => v = .bool false ∧ w = wx)
    case first => as_aux_lemma =>
      by_cases h48 : (c.toNat : Int) = 48
      · have h3 : s.size = 1 := by
          by_cases h3 : 1 < s.size
          · exact absurd ⟨h48, h3⟩ hB
          · omega
        first
          | omega
          | (go_wp2
             go_meet
             exact ⟨by first | rfl | exact congrArg Value.bool (beq_eq_false_iff_ne.2 (by omega)) | exact congrArg Value.bool (by simp <;> omega), rfl⟩)
      · go_wp2
        go_meet
        exact ⟨by first | rfl | exact congrArg Value.bool (beq_eq_false_iff_ne.2 (by omega)) | exact congrArg Value.bool (by simp <;> omega), rfl⟩
    obtain ⟨rfl, rfl⟩ := hcut
    clear hB
    go_upto_region 7 with fail
    go_loop [5] (fun i => ∃ k : Nat, 1 ≤ k ∧ k ≤ s.size ∧ i = .int .i64 k ∧ Hid ((dgs l).all isD = (l.drop k).all isD)) (fun i => s.size - (intOf i).toNat)
    case atStart => exact ⟨1, Nat.le_refl _, by omega, rfl, Lib.hid (by rw [HD.out])⟩
    case round =>
      obtain ⟨k, hk0, hk, rfl, hr⟩ := hrel
      by_cases hlt2 : k < s.size
      · obtain ⟨x, hxx⟩ : ∃ x, s[k] = x := ⟨_, rfl⟩
        have hxl : Hid (l[k]? = some x) := Lib.hid (by rw [← HL.out, at_data s k hlt2, hxx])
        have hst : Hid ((l.drop k).all isD = (digB (x.toNat : Int) && (l.drop (k + 1)).all isD)) := Lib.hid (by rw [drop_at' hxl.out, List.all_cons, isD_digB])
        cases hg : digB (x.toNat : Int)
        · have HN : Hid (numL l = (0, 3)) := Lib.hid (numL_dig HBD.out (by rw [hr.out, hst.out, hg]; rfl))
          go_wp2_with (go_at_call 125; refine (rdigit_any _ _).mono ?_; rintro e w1 ⟨rfl, rfl⟩)
          refine bodyPost_ret (v := .tuple #[.int .i64 0, .int .i64 3]) (by simp [results, Tryz.results77, go_sem]) rfl ?_
          exact ⟨by rw [HN.out], rfl⟩
        · have HF : Hid ((dgs l).all isD = (l.drop (k + 1)).all isD) := Lib.hid (by rw [hr.out, hst.out, hg]; rfl)
          go_wp2_with (go_at_call 125; refine (rdigit_any _ _).mono ?_; rintro e w1 ⟨rfl, rfl⟩)
          go_round
          case rel => exact ⟨k + 1, by omega, by omega, by go_num, HF⟩
          case measure => simp [intOf]; omega
      have HAll : Hid ((dgs l).all isD = true) := Lib.hid (by rw [hr.out, List.drop_of_length_le (by rw [HLen.out]; omega)]; rfl)
      clear hr
      go_upto_region 13 with fail
      go_loop [6, 7, 8] (fun n i d => ∃ (k v : Nat) (M : Int), 1 ≤ k ∧ k ≤ s.size ∧ i = .int .i64 k ∧ n = .int .i64 M ∧ Hid (M = -(v : Int)) ∧ M ≤ 0 ∧ -9223372036854775808 ≤ M ∧ Hid (valD 0 (dgs l) = valD v (l.drop k)) ∧ Hid ((l.drop k).all isD = true)) (fun _ i _ => s.size - (intOf i).toNat)
      case atStart => exact ⟨1, 0, 0, Nat.le_refl _, by omega, rfl, rfl, Lib.hid rfl, by omega, by omega, Lib.hid (by rw [HD.out]), Lib.hid (by rw [← HD.out]; exact HAll.out)⟩
      case round =>
        obtain ⟨k2, v, M, hk20, hk2, rfl, rfl, hMv, hM0, hM1, hv, hal⟩ := hrel
        clear hlt2 hk0 hk
        by_cases hlt3 : k2 < s.size
        · obtain ⟨x, hxx⟩ : ∃ x, s[k2] = x := ⟨_, rfl⟩
          have hxl : Hid (l[k2]? = some x) := Lib.hid (by rw [← HL.out, at_data s k2 hlt3, hxx])
          have hD : Hid (isD x = true) := Lib.hid (isD_get hal.out hxl.out)
          have hD2 : 48 ≤ x.toNat ∧ x.toNat ≤ 57 := of_decide_eq_true hD.out
          obtain ⟨hx1, hx2⟩ := hD2
          have hx3 : (48 : Int) ≤ (x.toNat : Int) := by omega
          have hx4 : (x.toNat : Int) ≤ 57 := by omega
          obtain ⟨T, hT⟩ : ∃ T : Int, (-9223372036854775808 + ((x.toNat : Int) - 48)).tdiv 10 = T := ⟨_, rfl⟩
          obtain ⟨ht1, ht2, ht3⟩ := lim_step (T := T) hMv.out (d := x.toNat - 48) (by rw [← hT]; congr 1; omega) (by omega)
          have HT := Lib.hid ht1
          clear ht1
          have hst : Hid (valD 0 (dgs l) = valD (v * 10 + (x.toNat - 48)) (l.drop (k2 + 1))) := Lib.hid (by rw [hv.out, drop_at' hxl.out]; rfl)
          have hal2 : Hid ((l.drop (k2 + 1)).all isD = true) := Lib.hid (by have := hal.out; rw [drop_at' hxl.out, List.all_cons, Bool.and_eq_true] at this; exact this.2)
          by_cases hMT : M < T
          · have HN : Hid (numL l = (0, 4)) := Lib.hid (by
              have h1 := HT.out.1 hMT
              have h2 := valD_ge (v * 10 + (x.toNat - 48)) (l.drop (k2 + 1))
              rw [← hst.out] at h2
              cases hs : sgn l
              · rw [numL_pos HBD.out HAll.out hs, if_neg (by omega)]
              · rw [numL_sgn HBD.out HAll.out hs, if_neg (by omega)])
            go_wp2
            refine bodyPost_ret (v := .tuple #[.int .i64 0, .int .i64 4]) (by simp [results, Tryz.results77, go_sem]) rfl ?_
            exact ⟨by rw [HN.out], rfl⟩
          · have hM2 : Hid (10 * M - ((x.toNat : Int) - 48) = -((v * 10 + (x.toNat - 48) : Nat) : Int)) := Lib.hid (by rw [hMv.out]; omega)
            have hb1 : 10 * M - ((x.toNat : Int) - 48) ≤ 0 := by omega
            have hb2 : -9223372036854775808 ≤ 10 * M - ((x.toNat : Int) - 48) := by
              have h1 := mt HT.out.2 hMT
              rw [hM2.out]; omega
            have hb3 : -9223372036854775808 ≤ 10 * M := by omega
            go_wp2
            go_round
            case rel => exact ⟨k2 + 1, v * 10 + (x.toNat - 48), 10 * M - ((x.toNat : Int) - 48), by omega, by omega, by go_num, by go_num, hM2, hb1, hb2, hst, hal2⟩
            case measure => simp [intOf]; omega
        · have HV : Hid (valD 0 (dgs l) = v) := Lib.hid (by rw [hv.out, List.drop_of_length_le (by rw [HLen.out]; omega)]; rfl)
          clear hv hal
          have HN : Hid (numL l = (M, 0)) := Lib.hid (by rw [numL_sgn HBD.out HAll.out HS.out, HV.out, if_pos (by have := hMv.out; omega), hMv.out])
          go_wp2
          refine bodyPost_ret (v := .tuple #[.int .i64 M, .int .i64 0]) (by simp [results, Tryz.results77, go_sem]) rfl ?_
          exact ⟨by rw [HN.out], rfl⟩
  case neg =>
    have hs : sgn l = false := decide_eq_false (by rw [hh]; intro e; apply h45; rw [Option.some.inj e]; rfl)
    have HS := Lib.hid hs
    clear hs hh
    have HD : Hid (dgs l = l.drop 0) := Lib.hid (by unfold dgs; rw [if_neg (by rw [HS.out]; decide)]; rfl)
    go_enter Tryz.func77, Tryz.ntmps77
    go_upto_region 4 with fail
    clear hc0 h45
    by_cases hA : s.size = 0
    · have HN : Hid (numL l = (0, 3)) := Lib.hid (numL_bad (decide_eq_true (.inl (by rw [HD.out, List.drop_of_length_le (by rw [HLen.out]; omega)]))))
      go_wp2
      refine bodyPost_ret (v := .tuple #[.int .i64 0, .int .i64 3]) (by simp [results, Tryz.results77, go_sem]) rfl ?_
      exact ⟨by rw [HN.out], rfl⟩
    have hlt : 0 < s.size := by omega
    obtain ⟨c, hc⟩ : ∃ c, s[0] = c := ⟨_, rfl⟩
    have hx : l[0]? = some c := by rw [← HL.out, at_data s 0 hlt, hc]
    have hdr : dgs l = c :: l.drop (0 + 1) := HD.out.trans (drop_at' hx)
    have HX := Lib.hid hx
    have HDR := Lib.hid hdr
    clear hx hdr
    by_cases hB : (c.toNat : Int) = 48 ∧ 1 < s.size
    · have HN : Hid (numL l = (0, 3)) := Lib.hid (numL_bad (decide_eq_true (.inr ⟨by rw [HDR.out]; show some c = some 48; congr 1; apply UInt8.toNat_inj.1; have : (48 : UInt8).toNat = 48 := rfl; omega, by intro e; have := congrArg List.length e; rw [HLen.out] at this; simp at this; omega⟩)))
      obtain ⟨hB1, hB2⟩ := hB
      go_wp2
      refine bodyPost_ret (v := .tuple #[.int .i64 0, .int .i64 3]) (by simp [results, Tryz.results77, go_sem]) rfl ?_
      exact ⟨by rw [HN.out], rfl⟩
    have HBD : Hid (badH l = false) := Lib.hid (decide_eq_false (by
      rintro (h | ⟨h1, h2⟩)
      · rw [HDR.out] at h; cases h
      · rw [HDR.out] at h1
        have e48 : c = 48 := Option.some.inj h1
        have hc48 : (c.toNat : Int) = 48 := by rw [e48]; rfl
        have h1' : s.size = 1 := by
          by_cases h3 : 1 < s.size
          · exact absurd ⟨hc48, h3⟩ hB
          · omega
        first
          | omega
          | (apply h2
             have hl1 := HLen.out
             rw [h1'] at hl1
             obtain ⟨x, rfl⟩ := List.length_eq_one_iff.1 hl1
             have := HX.out
             rw [e48] at this
             exact congrArg (fun z => [z]) (Option.some.inj this))))
    go_cut [31] (fun v wx => v = .bool false ∧ w = wx)
    case first => as_aux_lemma =>
      by_cases h48 : (c.toNat : Int) = 48
      · have h3 : s.size = 1 := by
          by_cases h3 : 1 < s.size
          · exact absurd ⟨h48, h3⟩ hB
          · omega
        first
          | omega
          | (go_wp2
             go_meet
             exact ⟨by first | rfl | exact congrArg Value.bool (beq_eq_false_iff_ne.2 (by omega)) | exact congrArg Value.bool (by simp <;> omega), rfl⟩)
      · go_wp2
        go_meet
        exact ⟨by first | rfl | exact congrArg Value.bool (beq_eq_false_iff_ne.2 (by omega)) | exact congrArg Value.bool (by simp <;> omega), rfl⟩
    obtain ⟨rfl, rfl⟩ := hcut
    clear hB
    go_upto_region 7 with fail
    go_loop [5] (fun i => ∃ k : Nat, 0 ≤ k ∧ k ≤ s.size ∧ i = .int .i64 k ∧ Hid ((dgs l).all isD = (l.drop k).all isD)) (fun i => s.size - (intOf i).toNat)
    case atStart => exact ⟨0, Nat.le_refl _, by omega, rfl, Lib.hid (by rw [HD.out])⟩
    case round =>
      obtain ⟨k, hk0, hk, rfl, hr⟩ := hrel
      by_cases hlt2 : k < s.size
      · obtain ⟨x, hxx⟩ : ∃ x, s[k] = x := ⟨_, rfl⟩
        have hxl : Hid (l[k]? = some x) := Lib.hid (by rw [← HL.out, at_data s k hlt2, hxx])
        have hst : Hid ((l.drop k).all isD = (digB (x.toNat : Int) && (l.drop (k + 1)).all isD)) := Lib.hid (by rw [drop_at' hxl.out, List.all_cons, isD_digB])
        cases hg : digB (x.toNat : Int)
        · have HN : Hid (numL l = (0, 3)) := Lib.hid (numL_dig HBD.out (by rw [hr.out, hst.out, hg]; rfl))
          go_wp2_with (go_at_call 125; refine (rdigit_any _ _).mono ?_; rintro e w1 ⟨rfl, rfl⟩)
          refine bodyPost_ret (v := .tuple #[.int .i64 0, .int .i64 3]) (by simp [results, Tryz.results77, go_sem]) rfl ?_
          exact ⟨by rw [HN.out], rfl⟩
        · have HF : Hid ((dgs l).all isD = (l.drop (k + 1)).all isD) := Lib.hid (by rw [hr.out, hst.out, hg]; rfl)
          go_wp2_with (go_at_call 125; refine (rdigit_any _ _).mono ?_; rintro e w1 ⟨rfl, rfl⟩)
          go_round
          case rel => exact ⟨k + 1, by omega, by omega, by go_num, HF⟩
          case measure => simp [intOf]; omega
      have HAll : Hid ((dgs l).all isD = true) := Lib.hid (by rw [hr.out, List.drop_of_length_le (by rw [HLen.out]; omega)]; rfl)
      clear hr
      go_upto_region 13 with fail
      go_loop [6, 7, 8] (fun n i d => ∃ (k v : Nat) (M : Int), 0 ≤ k ∧ k ≤ s.size ∧ i = .int .i64 k ∧ n = .int .i64 M ∧ Hid (M = -(v : Int)) ∧ M ≤ 0 ∧ -9223372036854775808 ≤ M ∧ Hid (valD 0 (dgs l) = valD v (l.drop k)) ∧ Hid ((l.drop k).all isD = true)) (fun _ i _ => s.size - (intOf i).toNat)
      case atStart => exact ⟨0, 0, 0, Nat.le_refl _, by omega, rfl, rfl, Lib.hid rfl, by omega, by omega, Lib.hid (by rw [HD.out]), Lib.hid (by rw [← HD.out]; exact HAll.out)⟩
      case round =>
        obtain ⟨k2, v, M, hk20, hk2, rfl, rfl, hMv, hM0, hM1, hv, hal⟩ := hrel
        clear hlt2 hk0 hk
        by_cases hlt3 : k2 < s.size
        · obtain ⟨x, hxx⟩ : ∃ x, s[k2] = x := ⟨_, rfl⟩
          have hxl : Hid (l[k2]? = some x) := Lib.hid (by rw [← HL.out, at_data s k2 hlt3, hxx])
          have hD : Hid (isD x = true) := Lib.hid (isD_get hal.out hxl.out)
          have hD2 : 48 ≤ x.toNat ∧ x.toNat ≤ 57 := of_decide_eq_true hD.out
          obtain ⟨hx1, hx2⟩ := hD2
          have hx3 : (48 : Int) ≤ (x.toNat : Int) := by omega
          have hx4 : (x.toNat : Int) ≤ 57 := by omega
          obtain ⟨T, hT⟩ : ∃ T : Int, (-9223372036854775808 + ((x.toNat : Int) - 48)).tdiv 10 = T := ⟨_, rfl⟩
          obtain ⟨ht1, ht2, ht3⟩ := lim_step (T := T) hMv.out (d := x.toNat - 48) (by rw [← hT]; congr 1; omega) (by omega)
          have HT := Lib.hid ht1
          clear ht1
          have hst : Hid (valD 0 (dgs l) = valD (v * 10 + (x.toNat - 48)) (l.drop (k2 + 1))) := Lib.hid (by rw [hv.out, drop_at' hxl.out]; rfl)
          have hal2 : Hid ((l.drop (k2 + 1)).all isD = true) := Lib.hid (by have := hal.out; rw [drop_at' hxl.out, List.all_cons, Bool.and_eq_true] at this; exact this.2)
          by_cases hMT : M < T
          · have HN : Hid (numL l = (0, 4)) := Lib.hid (by
              have h1 := HT.out.1 hMT
              have h2 := valD_ge (v * 10 + (x.toNat - 48)) (l.drop (k2 + 1))
              rw [← hst.out] at h2
              cases hs : sgn l
              · rw [numL_pos HBD.out HAll.out hs, if_neg (by omega)]
              · rw [numL_sgn HBD.out HAll.out hs, if_neg (by omega)])
            go_wp2
            refine bodyPost_ret (v := .tuple #[.int .i64 0, .int .i64 4]) (by simp [results, Tryz.results77, go_sem]) rfl ?_
            exact ⟨by rw [HN.out], rfl⟩
          · have hM2 : Hid (10 * M - ((x.toNat : Int) - 48) = -((v * 10 + (x.toNat - 48) : Nat) : Int)) := Lib.hid (by rw [hMv.out]; omega)
            have hb1 : 10 * M - ((x.toNat : Int) - 48) ≤ 0 := by omega
            have hb2 : -9223372036854775808 ≤ 10 * M - ((x.toNat : Int) - 48) := by
              have h1 := mt HT.out.2 hMT
              rw [hM2.out]; omega
            have hb3 : -9223372036854775808 ≤ 10 * M := by omega
            go_wp2
            go_round
            case rel => exact ⟨k2 + 1, v * 10 + (x.toNat - 48), 10 * M - ((x.toNat : Int) - 48), by omega, by omega, by go_num, by go_num, hM2, hb1, hb2, hst, hal2⟩
            case measure => simp [intOf]; omega
        · have HV : Hid (valD 0 (dgs l) = v) := Lib.hid (by rw [hv.out, List.drop_of_length_le (by rw [HLen.out]; omega)]; rfl)
          clear hv hal
          by_cases hml : M = -9223372036854775808
          · have HN : Hid (numL l = (0, 4)) := Lib.hid (by rw [numL_pos HBD.out HAll.out HS.out, HV.out, if_neg (by have := hMv.out; omega)])
            go_wp2
            refine bodyPost_ret (v := .tuple #[.int .i64 0, .int .i64 4]) (by simp [results, Tryz.results77, go_sem]) rfl ?_
            exact ⟨by rw [HN.out], rfl⟩
          · have HN : Hid (numL l = (-M, 0)) := Lib.hid (by rw [numL_pos HBD.out HAll.out HS.out, HV.out, if_pos (by have := hMv.out; omega), hMv.out]; simp)
            go_wp2
            refine bodyPost_ret (v := .tuple #[.int .i64 (-M), .int .i64 0]) (by simp [results, Tryz.results77, go_sem]) rfl ?_
            exact ⟨by rw [HN.out], rfl⟩
end Go.Proofs.YtofabhenmplkoaaGreatDoor.txt

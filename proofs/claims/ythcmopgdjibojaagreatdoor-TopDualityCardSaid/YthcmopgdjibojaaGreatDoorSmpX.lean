/- The law TopDuality. -/
import Derived.Test.YthcmopgdjibojaaGreatDoorSmpV
import Derived.Test.YthcmopgdjibojaaGreatDoorSmpW
import Derived.Test.YthcmopgdjibojaaGreatDoorLnrH
import Derived.Test.YthcmopgdjibojaaGreatDoorAwkT
namespace Go.Proofs.YthcmopgdjibojaaGreatDoor.smp
open Go.RowKit
open Go.Proofs.YthcmopgdjibojaaGreatDoor.lib Go.Proofs.YthcmopgdjibojaaGreatDoor.app Go.Proofs.YthcmopgdjibojaaGreatDoor.nt Go.Proofs.YthcmopgdjibojaaGreatDoor.rd Go.Proofs.YthcmopgdjibojaaGreatDoor.wh Go.Proofs.YthcmopgdjibojaaGreatDoor.smx Go.Proofs.YthcmopgdjibojaaGreatDoor.rat Go.Proofs.YthcmopgdjibojaaGreatDoor.typ Go.Proofs.YthcmopgdjibojaaGreatDoor.lnr
set_option linter.unusedVariables false
set_option linter.unusedSimpArgs false

/-- What the law learns of Solve. -/
def LawAns (n m : Nat) (C0 C1 : Option Addr) (c0 c1 : Nat) (w : World) (e : Ending) (w' : World) : Prop :=
  Below w.heap.size w w' ∧ ∃ k A na ca D nd cd R nr cr v, e = .returned (.tuple #[AnsV k A na ca D nd cd R nr cr v, .int .i64 0]) ∧ Yes 8 #[LnV n m C0 c0 C1 c1, AnsV k A na ca D nd cd R nr cr v] (.int .i64 0) w' ∧
  ((k = 2 ∧ Yes 12 #[LnV n m C0 c0 C1 c1, .slice D nd cd] (.bool true) w') ∨
   (k = 3 ∧ Yes 11 #[LnV n m C0 c0 C1 c1, .slice A na ca] (.bool true) w') ∨
   (k = 1 ∧ Yes 11 #[LnV n m C0 c0 C1 c1, .slice A na ca] (.bool true) w' ∧ Yes 9 #[LnV n m C0 c0 C1 c1, .slice A na ca] (.tuple #[.string v, .int .i64 0]) w' ∧ Yes 10 #[LnV n m C0 c0 C1 c1, .slice D nd cd] (.tuple #[.string v, .bool true]) w'))
theorem law_ans {t : Lnr} {C0 C1 : Option Addr} {w : World} {B : Nat} (h : LwIn t C0 C1 w B) (c0 c1 : Nat) : Calls Tryz.prog 7 #[LnV t.cost.length t.rows.length C0 c0 C1 c1] w (LawAns t.cost.length t.rows.length C0 C1 c0 c1 w) := by
  refine (solve_any C0 c0 C1 c1 t h.ok h.f h.fr h.n8 h.m6 w B h.le h.I h.rows h.tab).mono ?_
  rintro e w' ⟨hb, s, h3⟩
  have h' := h.below hb
  refine ⟨hb, ?_⟩
  rcases h3 with ⟨hj, hopt, hne, D, cD, rfl, hr⟩ | ⟨hj, c, hc, hneg, hno, A, cA, R, cR, rfl, ha, hr⟩ | ⟨hj, hopt, A, cA, D, cD, rfl, ha, hr⟩
  · exact ⟨2, none, 0, 0, D, _, cD, none, 0, 0, _, rfl, yes_check2 h' c0 c1 hj hopt hne hr, .inl ⟨rfl, yes_refutes h' c0 c1 hj hopt hne hr⟩⟩
  · exact ⟨3, A, _, cA, none, 0, 0, R, _, cR, _, rfl, yes_check3 h' c0 c1 hj hc hneg hno ha hr, .inr (.inl ⟨rfl, yes_fits h' c0 c1 hj ha⟩)⟩
  · rw [value_eq hj]
    exact ⟨1, A, _, cA, D, _, cD, none, 0, 0, _, rfl, yes_check1 h' c0 c1 hj hopt ha hr, .inr (.inr ⟨rfl, yes_fits h' c0 c1 hj ha, yes_value h' c0 c1 hj ha, yes_proves h' c0 c1 hj hopt hr⟩)⟩
set_option maxRecDepth 20000 in
set_option maxHeartbeats 4000000 in
theorem lawDual_any (C0 : Option Addr) (c0 : Nat) (C1 : Option Addr) (c1 : Nat) (t : Lnr) (hf : LnrFits t) (w : World) (B : Nat) (hB : B ≤ w.heap.size) (hI : Ints w B C0 t.cost) (hl : RowAt rLrw w B C1 t.rows) (ht : TabT w) :
    Calls Tryz.prog 3 #[LnV t.cost.length t.rows.length C0 c0 C1 c1] w fun e w' => e = .returned (.bool true) ∧ Below w.heap.size w w' := by
  have HA := Lib.hid (fun x (h : Below w.heap.size w x) => top.awake_any x (ht.below h))
  obtain ⟨w1, hw1⟩ : ∃ x, w.alloc (.cells #[.slice C0 t.cost.length c0, .slice C1 t.rows.length c1] 25) = x := ⟨_, rfl⟩
  have hb1 : Below w.heap.size w w1 := by rw [← hw1]; exact by repeat (first | assumption | exact Below.refl _ _ | refine Below.drew ?_ | refine Below.alloc ?_ (by first | omega | (simp <;> omega)) _ | refine Below.setCell ?_ (by first | omega | (simp <;> omega)) _)
  have hz1 : w.heap.size < w1.heap.size := by rw [← hw1]; simp
  have hp1 : PBox w1 w.heap.size t.cost.length t.rows.length C0 c0 C1 c1 := by rw [← hw1]; simp [PBox]
  have HP := Lib.hid hp1
  have HW1 := Lib.hid hw1
  by_cases hm : t.rows.length ≤ 6
  · by_cases hn : t.cost.length ≤ 8
    · have HRC := Lib.hid (rcheck_any C0 c0 C1 c1 t hn hm w1 B (Nat.le_trans hB hb1.size) (hl.below (hb1.mono hB)))
      by_cases hok : LnOk t
      · have hlw : LwIn t C0 C1 w B := ⟨hok, hf, fun r hr => by
          obtain ⟨i, hi, e⟩ := List.getElem_of_mem hr
          obtain ⟨r', ad, D0, d0, hx, _, _, _, _, hF⟩ := row_at hl hi
          rw [List.getElem?_eq_getElem hi, e] at hx
          injection hx with hx
          rw [hx]; exact hF, hn, hm, hB, hI, hl, ht⟩
        have HLW := Lib.hid hlw
        have HSV := Lib.hid (fun x (h : Below w.heap.size w x) => law_ans (hlw.below h) c0 c1)
        have HROW := Lib.hid (fun x (h : Below w.heap.size w x) i hi => row_at (hl.below (h.mono hB)) (k := i) hi)
        have HCN : Hid (∀ r ∈ t.rows, r.coef.length = t.cost.length) := Lib.hid (fun r h => (hok r h).1)
        obtain ⟨m, em⟩ : ∃ m, t.rows.length = m := ⟨_, rfl⟩
        obtain ⟨n, en⟩ : ∃ n, t.cost.length = n := ⟨_, rfl⟩
        rw [em] at hm HRC HW1 HP HSV HROW ⊢
        rw [en] at hn HRC HW1 HP HSV ⊢
        obtain ⟨l, el⟩ : ∃ l, t.rows = l := ⟨_, rfl⟩
        rw [el] at HROW HCN
        rw [en] at HCN
        have HOK := Lib.hid hok
        clear hl hI hw1 hp1 hf em en el hlw hok ht
        unfold LawAns at HSV
        simp only [LnV, AnsV] at HRC HSV ⊢
        have b0 := HP.out.1
        have b1 := HP.out.2
        go_enter Tryz.func3, Tryz.ntmps3
        go_upto_region 1 with fail
        rw [HW1.out]
        go_upto_region 3 with (go_at_call 5; (with_reducible refine HRC.out.mono ?_); rintro e w2 ⟨A, q, c, rfl, hq, hqi, hb2⟩; obtain rfl : q = 0 := hqi.2 HOK.out; clear hqi)
        have hbw2 := Below.trans hb1 (hb2.mono hb1.size)
        obtain ⟨y0, y1⟩ := HP.out.below hb2 hz1
        have hz2 : w.heap.size < w2.heap.size := Nat.lt_of_lt_of_le hz1 hb2.size
        have HB2 := Lib.hid hb2
        clear b0 b1 hb2 HRC HW1
        go_wp2
        go_loopw [3] (fun iv wr => ∃ i : Nat, i ≤ m ∧ iv = .int .i64 i ∧ wr = w2) (fun iv _ => m - (intOf iv).toNat)
        case atStart => exact ⟨0, by omega, rfl, rfl⟩
        case round =>
          obtain ⟨i, hi, rfl, rfl⟩ := hrel
          by_cases hlt : i < m
          · obtain ⟨r, ad, D0, d0, hx, rfl, hadb, ⟨k0, _, _⟩, hIr, _⟩ := HROW.out wr hbw2 i hlt
            have hb' : (ad.add (i * 3)).block < wr.heap.size := by rw [block_of_add]; omega
            have hi0 : (0 : Int) ≤ i := by omega
            have him : (i : Int) < m := by omega
            have HIR := Lib.hid hIr
            have HLN := Lib.hid (HCN.out r (List.mem_of_getElem? hx))
            rw [HLN.out] at k0
            clear hx hIr
            go_wp2
            go_loopw [4] (fun jv wx => ∃ j : Nat, j ≤ n ∧ jv = .int .i64 j ∧ wx = wr) (fun jv _ => n - (intOf jv).toNat)
            case atStart => exact ⟨0, by omega, rfl, rfl⟩
            case round =>
              obtain ⟨j, hj, rfl, rfl⟩ := hrel
              by_cases hltj : j < n
              · obtain ⟨cd, x, hA0, hcdb, hxx, hcc⟩ := HIR.out.at_ (show j < r.coef.length by rw [HLN.out]; exact hltj)
                subst hA0
                have hcb : (cd.add j).block < wr.heap.size := by rw [block_of_add]; omega
                have hj0 : (0 : Int) ≤ j := by omega
                have hjl : (j : Int) < n := by omega
                clear hxx
                by_cases h1 : 1000 < x
                · go_wp2_with (go_at_call 6; (with_reducible refine (HA.out wr hbw2).mono ?_); rintro e wz ⟨rfl, hbz⟩; have hbz' := Below.trans hbw2 (hbz.mono (Below.size hbw2)))
                  go_ret
                  exact ⟨rfl, hbz'⟩
                · by_cases h2 : x < -1000
                  · go_wp2_with (go_at_call 6; (with_reducible refine (HA.out wr hbw2).mono ?_); rintro e wz ⟨rfl, hbz⟩; have hbz' := Below.trans hbw2 (hbz.mono (Below.size hbw2)))
                    go_ret
                    exact ⟨rfl, hbz'⟩
                  · go_wp2
                    go_roundw
                    case rel => exact ⟨j + 1, by omega, by go_num, by first | rfl | trivial⟩
                    case measure => simp [intOf]; omega
              · obtain rfl : n = j := by omega
                clear hltj
                go_wp2
                go_roundw
                case rel => exact ⟨i + 1, by omega, by go_num, by first | rfl | trivial⟩
                case measure => simp [intOf]; omega
          · obtain rfl : i = m := by omega
            clear hlt
            have HS := Lib.hid (HSV.out wr hbw2)
            clear HSV HROW HCN
            go_upto_region 12 with (go_at_call 7; (with_reducible refine HS.out.mono ?_); rintro e w3 ⟨hb3, kd, A, na, ca, D, nd, cd, R, nr, cr, v, rfl, hyc, hor⟩; have HYC := Lib.hid hyc; have HOR := Lib.hid hor; have HB3 := Lib.hid hb3; clear hyc hor hb3)
            have hw3 : Below w.heap.size w w3 := hbw2.trans (HB3.out.mono hbw2.size)
            obtain ⟨w4, hw4⟩ : ∃ x, w3.alloc (.cells #[.int .i64 kd, .slice A na ca, .slice D nd cd, .slice R nr cr, .string v] 34) = x := ⟨_, rfl⟩
            have HX : Hid (∀ x, Below w4.heap.size w4 x → Below w3.heap.size w3 x ∧ Below w.heap.size w x ∧ x.cell? ⟨w.heap.size, 0, none⟩ = some (.slice C0 n c0) ∧ x.cell? ⟨w.heap.size, 1, none⟩ = some (.slice C1 i c1) ∧ x.cell? ⟨w3.heap.size, 0, none⟩ = some (.int .i64 kd) ∧ x.cell? ⟨w3.heap.size, 1, none⟩ = some (.slice A na ca) ∧ x.cell? ⟨w3.heap.size, 2, none⟩ = some (.slice D nd cd) ∧ x.cell? ⟨w3.heap.size, 3, none⟩ = some (.slice R nr cr) ∧ x.cell? ⟨w3.heap.size, 4, none⟩ = some (.string v)) := Lib.hid (fun x hx => by
              have hz4 : w3.heap.size < w4.heap.size := by rw [← hw4]; simp
              have h34 : Below w3.heap.size w3 w4 := by rw [← hw4]; exact (Below.refl _ _).alloc (Nat.le_refl _) _
              have h3x := h34.trans (hx.mono (by omega))
              have e := fun q (h : q < w4.heap.size) => hx.cell (p := ⟨w3.heap.size, q, none⟩) hz4
              have hz3 : w.heap.size < w3.heap.size := Nat.lt_of_lt_of_le hz2 HB3.out.size
              refine ⟨h3x, hw3.trans (h3x.mono hw3.size), ?_, ?_, ?_, ?_, ?_, ?_, ?_⟩
              · exact (h3x.cell (p := ⟨w.heap.size, 0, none⟩) hz3).trans ((HB3.out.cell (p := ⟨w.heap.size, 0, none⟩) hz2).trans y0)
              · exact (h3x.cell (p := ⟨w.heap.size, 1, none⟩) hz3).trans ((HB3.out.cell (p := ⟨w.heap.size, 1, none⟩) hz2).trans y1)
              all_goals (refine (hx.cell (p := ⟨w3.heap.size, _, none⟩) hz4).trans ?_; rw [← hw4]; simp))
            rw [hw4]
            have hxw4 : Below w4.heap.size w4 w4 := Below.refl _ _
            obtain ⟨hblw4, hvw4, b0w4, b1w4, z0w4, z1w4, z2w4, z3w4, z4w4⟩ := HX.out w4 (Below.refl _ _)
            clear hw4 hw3 y0 y1 hz2 hbw2
            simp only [Yes] at HYC HOR
            go_upto_region 14 with (go_at_call 8; (with_reducible refine (HYC.out _ hblw4).mono ?_); rintro e w5 ⟨rfl, hbw5⟩; obtain ⟨hblw5, hvw5, b0w5, b1w5, z0w5, z1w5, z2w5, z3w5, z4w5⟩ := HX.out w5 (Below.trans hxw4 (hbw5.mono hxw4.size)); have hxw5 := Below.trans hxw4 (hbw5.mono hxw4.size))
            rcases HOR.out with ⟨hk, h1⟩ | ⟨hk, h1⟩ | ⟨hk, h1, h2, h3⟩
            · have H1 := Lib.hid h1
              subst hk
              clear h1 HOR
              go_wp2_with (first | (go_at_call 12; (with_reducible refine (H1.out _ hblw5).mono ?_); rintro e w6 ⟨rfl, hbw6⟩; obtain ⟨hblw6, hvw6, b0w6, b1w6, z0w6, z1w6, z2w6, z3w6, z4w6⟩ := HX.out w6 (Below.trans hxw5 (hbw6.mono hxw5.size)); have hxw6 := Below.trans hxw5 (hbw6.mono hxw5.size)) | (go_at_call 6; (with_reducible refine (HA.out w6 hvw6).mono ?_); rintro e wz ⟨rfl, hbz⟩; have hbz' := Below.trans hvw6 (hbz.mono (Below.size hvw6))))
              go_ret
              exact ⟨rfl, hbz'⟩
            · have H1 := Lib.hid h1
              subst hk
              clear h1 HOR
              go_wp2_with (first | (go_at_call 11; (with_reducible refine (H1.out _ hblw5).mono ?_); rintro e w6 ⟨rfl, hbw6⟩; obtain ⟨hblw6, hvw6, b0w6, b1w6, z0w6, z1w6, z2w6, z3w6, z4w6⟩ := HX.out w6 (Below.trans hxw5 (hbw6.mono hxw5.size)); have hxw6 := Below.trans hxw5 (hbw6.mono hxw5.size)) | (go_at_call 6; (with_reducible refine (HA.out w6 hvw6).mono ?_); rintro e wz ⟨rfl, hbz⟩; have hbz' := Below.trans hvw6 (hbz.mono (Below.size hvw6))))
              go_ret
              exact ⟨rfl, hbz'⟩
            · have H1 := Lib.hid h1
              have H2 := Lib.hid h2
              have H3 := Lib.hid h3
              subst hk
              clear h1 h2 h3 HOR
              go_wp2_with (first | (go_at_call 9; (with_reducible refine (H2.out _ hblw5).mono ?_); rintro e w6 ⟨rfl, hbw6⟩; obtain ⟨hblw6, hvw6, b0w6, b1w6, z0w6, z1w6, z2w6, z3w6, z4w6⟩ := HX.out w6 (Below.trans hxw5 (hbw6.mono hxw5.size)); have hxw6 := Below.trans hxw5 (hbw6.mono hxw5.size)) | (go_at_call 10; (with_reducible refine (H3.out _ hblw6).mono ?_); rintro e w7 ⟨rfl, hbw7⟩; obtain ⟨hblw7, hvw7, b0w7, b1w7, z0w7, z1w7, z2w7, z3w7, z4w7⟩ := HX.out w7 (Below.trans hxw6 (hbw7.mono hxw6.size)); have hxw7 := Below.trans hxw6 (hbw7.mono hxw6.size)) | (go_at_call 11; (with_reducible refine (H1.out _ hblw7).mono ?_); rintro e w8 ⟨rfl, hbw8⟩; obtain ⟨hblw8, hvw8, b0w8, b1w8, z0w8, z1w8, z2w8, z3w8, z4w8⟩ := HX.out w8 (Below.trans hxw7 (hbw8.mono hxw7.size)); have hxw8 := Below.trans hxw7 (hbw8.mono hxw7.size)) | (go_at_call 6; (with_reducible refine (HA.out w8 hvw8).mono ?_); rintro e wz ⟨rfl, hbz⟩; have hbz' := Below.trans hvw8 (hbz.mono (Below.size hvw8))))
              go_ret
              exact ⟨rfl, hbz'⟩
      · have HOK := Lib.hid hok
        obtain ⟨m, em⟩ : ∃ m, t.rows.length = m := ⟨_, rfl⟩
        obtain ⟨n, en⟩ : ∃ n, t.cost.length = n := ⟨_, rfl⟩
        rw [em] at hm HRC HW1 HP ⊢
        rw [en] at hn HRC HW1 HP ⊢
        clear hl hI hw1 hp1 hf hok em en
        unfold LnV at HRC ⊢
        have b0 := HP.out.1
        have b1 := HP.out.2
        go_enter Tryz.func3, Tryz.ntmps3
        go_upto_region 1 with fail
        rw [HW1.out]
        go_wp2_with (first
          | (go_at_call 5; (with_reducible refine HRC.out.mono ?_); rintro e w2 ⟨A, q, c, rfl, hq, hqi, hb2⟩; have hq0 : 0 < q := Nat.pos_of_ne_zero (fun e => HOK.out (hqi.1 e)); have hq0' : (0 : Int) < q := (by omega); have hb2' := Below.trans hb1 (hb2.mono hb1.size); clear hqi)
          | (go_at_call 6; (with_reducible refine (HA.out w2 hb2').mono ?_); rintro e wz ⟨rfl, hbz⟩; have hbz' := Below.trans hb2' (hbz.mono (Below.size hb2'))))
        go_ret
        exact ⟨rfl, hbz'⟩
    · obtain ⟨m, em⟩ : ∃ m, t.rows.length = m := ⟨_, rfl⟩
      obtain ⟨n, en⟩ : ∃ n, t.cost.length = n := ⟨_, rfl⟩
      rw [em] at hm HW1 HP ⊢
      rw [en] at hn HW1 HP ⊢
      clear hl hI hw1 hp1 hf em en
      unfold LnV
      have b0 := HP.out.1
      have b1 := HP.out.2
      have hn' : 8 < (n : Int) := by omega
      go_enter Tryz.func3, Tryz.ntmps3
      go_upto_region 1 with fail
      rw [HW1.out]
      go_wp2_with (go_at_call 6; (with_reducible refine (HA.out w1 hb1).mono ?_); rintro e wz ⟨rfl, hbz⟩; have hbz' := Below.trans hb1 (hbz.mono (Below.size hb1)))
      go_ret
      exact ⟨rfl, hbz'⟩
  · obtain ⟨m, em⟩ : ∃ m, t.rows.length = m := ⟨_, rfl⟩
    obtain ⟨n, en⟩ : ∃ n, t.cost.length = n := ⟨_, rfl⟩
    rw [em] at hm HW1 HP ⊢
    rw [en] at HW1 HP ⊢
    clear hl hI hw1 hp1 hf em en
    unfold LnV
    have b0 := HP.out.1
    have b1 := HP.out.2
    have hm' : 6 < (m : Int) := by omega
    go_enter Tryz.func3, Tryz.ntmps3
    go_upto_region 1 with fail
    rw [HW1.out]
    go_wp2_with (go_at_call 6; (with_reducible refine (HA.out w1 hb1).mono ?_); rintro e wz ⟨rfl, hbz⟩; have hbz' := Below.trans hb1 (hbz.mono (Below.size hb1)))
    go_ret
    exact ⟨rfl, hbz'⟩
end Go.Proofs.YthcmopgdjibojaaGreatDoor.smp

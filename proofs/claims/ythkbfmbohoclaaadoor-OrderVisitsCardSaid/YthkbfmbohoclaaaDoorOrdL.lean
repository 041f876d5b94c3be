/- The law OrderVisits, walked. -/
import Derived.Test.YthkbfmbohoclaaaDoorOrdJ
import Derived.Deep.QuietTactic
import Derived.BigQuiet
namespace Go.Proofs.YthkbfmbohoclaaaDoor.ord
open Go.RowKit
open Go.Proofs.YthkbfmbohoclaaaDoor.lib Go.Proofs.YthkbfmbohoclaaaDoor.rd Go.Proofs.YthkbfmbohoclaaaDoor.typ Go.Proofs.YthkbfmbohoclaaaDoor.app
set_option linter.unusedVariables false
set_option linter.unusedSimpArgs false

theorem visL_stop {l : List Ord} {i : Int} {v : Vis} (h : v ∈ visL l i) : v.order = i ∧ (0 ≤ i ∧ i < l.length) ∧ ∃ s, stpL l ⟨v.order, v.drop⟩ = (s, 0) ∧ 0 ≤ s.place := by
  unfold visL at h
  split at h
  · rename_i h0
    obtain ⟨k, rfl⟩ := Int.eq_ofNat_of_zero_le h0
    rw [Int.toNat_natCast] at h
    cases ho : l[k]? with
    | none => rw [ho] at h; simp at h
    | some o =>
      rw [ho] at h
      have hk := (List.getElem?_eq_some_iff.1 ho).1
      simp only [visO, List.mem_append] at h
      rcases h with h | h
      · split at h
        · simp at h
        · simp at h
          subst h
          rename_i hp
          have e : stpL l ⟨(k : Int), false⟩ = stpO o.pick := stpL_yes ho
          refine ⟨rfl, ⟨by omega, by omega⟩, o.pick, ?_, by omega⟩
          rw [e]
          unfold stpO
          rw [if_neg hp]
      · split at h
        · simp at h
        · simp at h
          subst h
          rename_i hp
          have e : stpL l ⟨(k : Int), true⟩ = stpO o.drop := stpL_yes ho
          refine ⟨rfl, ⟨by omega, by omega⟩, o.drop, ?_, by omega⟩
          rw [e]
          unfold stpO
          rw [if_neg hp]
  · simp at h
theorem visL_len (l : List Ord) (i : Int) : (visL l i).length ≤ 2 := by
  unfold visL
  split
  · split
    · unfold visO
      split <;> split <;> simp
    · simp
  · simp
theorem vis_row {w : World} {base c : Nat} {A : Option Addr} {vs : List Vis} (h : w.ownsRow base 50 2 (.slice A vs.length c) vs.length (vcs vs)) (hf : ∀ v ∈ vs, VisFits v) (hl : vs.length ≤ 17592186043904) : RowAt rVis w w.heap.size A vs :=
  rowAt_own (cells := fun v => [.int .i64 v.order, .bool v.drop]) (fun _ => rfl) h (fun v hv => rVis_mk (hf v hv)) hl (by decide)
theorem stop_of (A : Option Addr) (c : Nat) (l : List Ord) (i : Int) (b : Bool) (s : Stp) (q : Int) (hq : stpL l ⟨i, b⟩ = (s, q)) (w : World) (hL : RowAt rOrd w w.heap.size A l) :
    Calls Tryd.prog 31 #[.slice A l.length c, .agg #[.int .i64 i, .bool b]] w fun e w' => e = .returned (.tuple #[.agg #[.int .i64 s.place, .int .i64 s.opn, .int .i64 s.close, .int .i64 s.service], .int .i64 q]) ∧ Below w.heap.size w w' := by
  have h := stop_any A c l i b w hL
  rw [hq] at h
  exact h
theorem rstop_of (A : Option Addr) (c : Nat) (l : List Ord) (i : Int) (b : Bool) (s : Stp) (q : Int) (hq : stpL l ⟨i, b⟩ = (s, q)) (w : World) (hL : RowAt rOrd w w.heap.size A l) :
    Calls Tryd.prog 32 #[.slice A l.length c, .agg #[.int .i64 i, .bool b]] w fun e w' => e = .returned (.tuple #[.agg #[.int .i64 s.place, .int .i64 s.opn, .int .i64 s.close, .int .i64 s.service], .int .i64 q]) ∧ Below w.heap.size w w' := by
  have h := rstop_any A c l i b w hL
  rw [hq] at h
  exact h

set_option maxRecDepth 100000 in
set_option maxHeartbeats 8000000 in
theorem lawVisits_any (A : Option Addr) (c : Nat) (l : List Ord) (i : Int) (vo : Int) (vd : Bool) (w : World) (i0 : -9223372036854775808 ≤ i) (i1 : i ≤ 9223372036854775807) (hL : RowAt rOrd w w.heap.size A l) :
    Calls Tryd.prog 9 #[.slice A l.length c, .int .i64 i, .agg #[.int .i64 vo, .bool vd]] w fun e w' => e = .returned (.bool true) ∧ Below w.heap.size w w' := by
  go_enter Tryd.func9, Tryd.ntmps9
  go_wp2_with fail
  obtain ⟨W0, hW0⟩ : ∃ W0, w.alloc (.cells #[.int .i64 vo, .bool vd] 50) = W0 := ⟨_, rfl⟩
  have BW0 : Below w.heap.size w W0 := by rw [← hW0]; exact (Below.refl _ _).alloc (Nat.le_refl _) _
  have zW0 := BW0.size
  have zW1 : w.heap.size < W0.heap.size := by rw [← hW0]; simp
  have k0 : W0.cell? ⟨w.heap.size, 0, none⟩ = some (.int .i64 vo) := by rw [← hW0]; exact two_new w _ _ _ 0 _ rfl
  have k1 : W0.cell? ⟨w.heap.size, 1, none⟩ = some (.bool vd) := by rw [← hW0]; exact two_new w _ _ _ 1 _ rfl
  have HLW0 : Hid (RowAt rOrd W0 W0.heap.size A l) := Lib.hid ((hL.below BW0).more zW0)
  rw [hW0]
  clear hW0 hL
  refine (few_any A c l _ _ HLW0.out).mono ?_
  rintro e w1 ⟨q, rfl, hq, rfl⟩
  cases q
  · clear hq
    go_wp2_with (go_at_call 25; refine (awake_any _).mono ?_; rintro e wz ⟨rfl, hbz⟩; have Bz : Below w.heap.size w wz := Below.trans BW0 (hbz.mono BW0.size))
    go_ret
    exact ⟨rfl, Bz⟩
  · have HFEW := Lib.hid (hq rfl)
    clear hq
    have HVS := Lib.hid (fun v (h : v ∈ visL l i) => visL_stop h)
    have hvl := visL_len l i
    have hvis := visits_any A c l i
    have hrvis := rvisits_any A c l i
    obtain ⟨vs, hvs⟩ : ∃ vs, visL l i = vs := ⟨_, rfl⟩
    obtain ⟨⟨s, q⟩, hsq⟩ : ∃ r, stpL l ⟨vo, vd⟩ = r := ⟨_, rfl⟩
    rw [hvs] at HVS hvl hvis hrvis
    have HV := Lib.hid hvis
    have HRV := Lib.hid hrvis
    have HSQ := Lib.hid hsq
    have HF : Hid (∀ v ∈ vs, VisFits v) := Lib.hid fun v hv => by
      obtain ⟨h1, h2, _⟩ := HVS.out v hv
      unfold VisFits
      omega
    clear hvs hsq hvis hrvis
    go_wp2_with fail
    refine (HV.out _ HLW0.out).mono ?_
    rintro e w2 ⟨A1, c1, rfl, hown1, hb1⟩
    have R1 := Lib.hid (vis_row hown1 HF.out (by omega))
    have Bw2 := BW0.trans (hb1.mono zW0)
    have zw2 := hb1.size
    have HLw2 : Hid (RowAt rOrd w2 w2.heap.size A l) := Lib.hid ((HLW0.out.below hb1).more zw2)
    clear hown1
    go_wp2_with fail
    refine (HRV.out _ HLw2.out).mono ?_
    rintro e w3 ⟨A2, c2, rfl, hown2, hb2⟩
    have R2 := Lib.hid (vis_row hown2 HF.out (by omega))
    have Bw3 := Bw2.trans (hb2.mono (by omega))
    have zw3 := hb2.size
    have HLw3 : Hid (RowAt rOrd w3 w3.heap.size A l) := Lib.hid ((HLw2.out.below hb2).more zw3)
    have R1a := Lib.hid (R1.out.below hb2)
    have k0' : w3.cell? ⟨w.heap.size, 0, none⟩ = some (.int .i64 vo) := (hb2.cell (p := ⟨w.heap.size, 0, none⟩) (show w.heap.size < _ by omega)).trans ((hb1.cell (p := ⟨w.heap.size, 0, none⟩) (show w.heap.size < _ by omega)).trans k0)
    have k1' : w3.cell? ⟨w.heap.size, 1, none⟩ = some (.bool vd) := (hb2.cell (p := ⟨w.heap.size, 1, none⟩) (show w.heap.size < _ by omega)).trans ((hb1.cell (p := ⟨w.heap.size, 1, none⟩) (show w.heap.size < _ by omega)).trans k1)
    clear hown2 k0 k1
    go_wp2_with fail
    refine (stop_of A c l vo vd s q HSQ.out _ HLw3.out).mono ?_
    rintro e w4 ⟨rfl, hb3⟩
    have zw4 := hb3.size
    have Bw4 := Bw3.trans (hb3.mono (by omega))
    have k0'' : w4.cell? ⟨w.heap.size, 0, none⟩ = some (.int .i64 vo) := (hb3.cell (p := ⟨w.heap.size, 0, none⟩) (show w.heap.size < _ by omega)).trans k0'
    have k1'' : w4.cell? ⟨w.heap.size, 1, none⟩ = some (.bool vd) := (hb3.cell (p := ⟨w.heap.size, 1, none⟩) (show w.heap.size < _ by omega)).trans k1'
    have y4 : w.heap.size < w4.heap.size := by omega
    have HLw5 : Hid (∀ o, RowAt rOrd (w4.alloc o) (w4.alloc o).heap.size A l) := Lib.hid fun o => (HLw3.out.below (hb3.trans (((Below.refl _ _).alloc (Nat.le_refl _) o).mono zw4))).more (by simp; omega)
    clear k0' k1'
    go_wp2_with fail
    refine (rstop_of A c l vo vd s q HSQ.out _ (HLw5.out _)).mono ?_
    rintro e w6 ⟨rfl, hb4⟩
    have zw6 := hb4.size
    simp at zw6
    have hc := fun b o h => hb4.cell (p := ⟨b, o, none⟩) h
    have hf := fun b o h => hb4.frozen (p := ⟨b, o, none⟩) h
    have Bw6 : Below w.heap.size w w6 := (Bw4.alloc (by omega) _).trans (hb4.mono (by simp; omega))
    have b46 : Below w4.heap.size w4 w6 := ((Below.refl _ _).alloc (Nat.le_refl _) _).trans (hb4.mono (by simp))
    have y6 : w4.heap.size < w6.heap.size := by omega
    have HLw6 : Hid (RowAt rOrd w6 w6.heap.size A l) := Lib.hid ((HLw3.out.below (hb3.trans (b46.mono zw4))).more (by omega))
    have R1b := Lib.hid (R1a.out.below (hb3.mono (by omega) |>.trans (b46.mono (by omega))))
    have R2b := Lib.hid (R2.out.below (hb3.trans (b46.mono (by omega))))
    clear hb4
    go_wp2_with fail
    clear hc hf k0'' k1''
    go_loopw [13, 14, 15] (fun k _ _ wr => ∃ j : Nat, j ≤ vs.length ∧ k = .int .i64 j ∧ Below w.heap.size w wr ∧ Below w6.heap.size w6 wr) (fun k _ _ _ => vs.length - (intOf k).toNat)
    case atStart => exact ⟨0, by omega, rfl, Bw6.alloc (by omega) _, (Below.refl _ _).alloc (Nat.le_refl _) _⟩
    case round =>
      obtain ⟨k, hk, rfl, Bwr, hbel⟩ := hrel
      have zwr := hbel.size
      by_cases hlt : k < vs.length
      · obtain ⟨v, hv⟩ : ∃ v, vs[k]? = some v := ⟨_, List.getElem?_eq_getElem hlt⟩
        obtain ⟨ad1, rfl, had1, ⟨m0, m1⟩, _⟩ := row_Vis (R1b.out.below (hbel.mono (by omega))) hv
        obtain ⟨ad2, rfl, had2, ⟨n0, n1⟩, _⟩ := row_Vis (R2b.out.below (hbel.mono (by omega))) hv
        obtain ⟨hvi, hir, sv, hsv, hpl⟩ := HVS.out v (List.mem_of_getElem? hv)
        have HSV := Lib.hid hsv
        have HLwr := Lib.hid ((HLw6.out.below hbel).more zwr)
        have hpn : ¬ sv.place < 0 := by omega
        have hk0 : (0 : Int) ≤ (k : Int) := by omega
        have hkn : (k : Int) < (vs.length : Int) := by omega
        have c1 : (ad1.add (k * 2)).block < wr.heap.size := by rw [block_of_add]; omega
        have c2 : (ad2.add (k * 2)).block < wr.heap.size := by rw [block_of_add]; omega
        clear hv hsv hvi hir
        go_wp2_with fail
        refine (stop_of _ c l v.order v.drop sv 0 HSV.out _ HLwr.out).mono ?_
        rintro e w7 ⟨rfl, hb7⟩
        have zw7 := hb7.size
        have Bw7 : Below w.heap.size w w7 := Bwr.trans (hb7.mono Bwr.size)
        have m0' := (hb7.cell (p := ad1.add (k * 2)) c1).trans m0
        have m1' := (hb7.cell (p := ⟨(ad1.add (k * 2)).block, (ad1.add (k * 2)).off + 1, none⟩) c1).trans m1
        have n0' := (hb7.cell (p := ad2.add (k * 2)) c2).trans n0
        have n1' := (hb7.cell (p := ⟨(ad2.add (k * 2)).block, (ad2.add (k * 2)).off + 1, none⟩) c2).trans n1
        have d1 : (ad1.add (k * 2)).block < w7.heap.size := by omega
        have d2 : (ad2.add (k * 2)).block < w7.heap.size := by omega
        clear m0 m1 n0 n1
        go_wp2
        go_quiet (fail)
        go_wp2
        go_roundw
        case rel => exact ⟨k + 1, by omega, by go_num, bel_drewN (Bw7.alloc (by have := Bwr.size; omega) _) _, bel_drewN ((hbel.trans (hb7.mono zwr)).alloc (by omega) _) _⟩
        case measure => simp [intOf]; omega
      · have hkn : k = vs.length := by omega
        subst hkn
        clear hlt
        go_wp2_with (go_at_call 25; refine (awake_any _).mono ?_; rintro e wz ⟨rfl, hbz⟩; have Bz : Below w.heap.size w wz := Below.trans Bwr (hbz.mono Bwr.size))
        go_ret
        exact ⟨rfl, Bz⟩
end Go.Proofs.YthkbfmbohoclaaaDoor.ord

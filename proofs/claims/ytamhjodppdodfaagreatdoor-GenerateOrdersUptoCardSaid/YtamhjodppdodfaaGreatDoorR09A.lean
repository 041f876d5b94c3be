/- The reference's check of places. -/
import Derived.Test.YtamhjodppdodfaaGreatDoorZ2
import Derived.Test.YtamhjodppdodfaaGreatDoorPshF
import Derived.Deep.DeepCutAuto
import Derived.Deep.QuietTactic
import Derived.BigQuiet
namespace Go.Proofs.YtamhjodppdodfaaGreatDoor.rnet
open Go.RowKit
open Go.Proofs.YtamhjodppdodfaaGreatDoor.lib Go.Proofs.YtamhjodppdodfaaGreatDoor.rd Go.Proofs.YtamhjodppdodfaaGreatDoor.typ Go.Proofs.YtamhjodppdodfaaGreatDoor.app Go.Proofs.YtamhjodppdodfaaGreatDoor.note Go.Proofs.YtamhjodppdodfaaGreatDoor.mrk Go.Proofs.YtamhjodppdodfaaGreatDoor.trv Go.Proofs.YtamhjodppdodfaaGreatDoor.flts Go.Proofs.YtamhjodppdodfaaGreatDoor.txt Go.Proofs.YtamhjodppdodfaaGreatDoor.eqg Go.Proofs.YtamhjodppdodfaaGreatDoor.net
set_option linter.unusedVariables false
set_option linter.unusedSimpArgs false

set_option maxRecDepth 20000 in
set_option maxHeartbeats 4000000 in
theorem rplaces_any (x : Net) (A0 : Option Addr) (d0 : Nat) (A1 : Option Addr) (d1 : Nat) (w : World) (hP : RowAt rStr w w.heap.size A0 x.places) (hl : x.places.length ≤ 10000000) :
    Calls Tryz.prog 51 #[.agg #[.slice A0 x.places.length d0, .slice A1 x.arcs.length d1]] w (FltsOut w (plTo x.places x.places.length)) := by
  obtain ⟨n, hn⟩ : ∃ n, x.places.length = n := ⟨_, rfl⟩
  obtain ⟨m, hm⟩ : ∃ m, x.arcs.length = m := ⟨_, rfl⟩
  obtain ⟨l, hxl⟩ : ∃ l, x.places = l := ⟨_, rfl⟩
  have HN : Hid (l.length = n) := Lib.hid (by rw [← hxl]; exact hn)
  obtain ⟨F, hF⟩ : ∃ F, plTo l = F := ⟨_, rfl⟩
  have HF := Lib.hid hF
  have hFl : ∀ j, (F j).length ≤ 1 + j := fun j => by rw [← hF]; exact plTo_len _ j
  have HF0 : Hid (F 0 = if 24 < n then [⟨4, ⟨#[112, 108, 97, 99, 101, 115]⟩⟩] else []) := Lib.hid (by rw [← hF, ← HN.out]; rfl)
  rw [hn] at hl
  rw [hn, hm]
  rw [hxl] at hP ⊢
  rw [hF]
  clear hn hm hxl hF x
  obtain ⟨W0, hW0⟩ : ∃ W0, w.alloc (.cells #[.slice A0 n d0, .slice A1 m d1] 25) = W0 := ⟨_, rfl⟩
  have hB0 : Below w.heap.size w W0 := by rw [← hW0]; exact (Below.refl _ _).alloc (Nat.le_refl _) _
  have z0 := hB0.size
  have hs0 : w.heap.size < W0.heap.size := by rw [← hW0]; simp
  have HS : Hid (∀ w', Below W0.heap.size W0 w' → w'.cell? ⟨w.heap.size, 0, none⟩ = some (.slice A0 n d0) ∧ RowAt rStr w' W0.heap.size A0 l) := Lib.hid fun w' h => by
    have hk := fun (o : Nat) => h.cell (p := ⟨w.heap.size, o, none⟩) hs0
    refine ⟨(hk _).trans ?_, ((hP.below hB0).more z0).below h⟩
    rw [← hW0]; simp
  have B0 : Below W0.heap.size W0 W0 := Below.refl _ _
  have HW0 := Lib.hid hW0
  clear hW0 hP
  go_enter Tryz.func51, Tryz.ntmps51
  go_upto_region 2 with fail
  rw [HW0.out]
  go_cut [11] (fun v wx => v = .bool (decide (24 < n)) ∧ W0 = wx)
  case first => as_aux_lemma =>
    obtain ⟨x0, -⟩ := HS.out _ B0
    have hE : decide ((24 : Int) < (n : Int)) = decide (24 < n) := by rw [Bool.eq_iff_iff]; simp; omega
    have HE := Lib.hid hE
    clear hE
    go_wp2
    go_meet
    exact ⟨by rw [HE.out], rfl⟩
  obtain ⟨h11, hwc⟩ := hcut
  subst h11
  subst hwc
  go_upto_if 11 with fail
  go_cut [3] (fun v wx => ∃ A c, v = .slice A (F 0).length c ∧ Fown wx W0.heap.size A c (F 0) ∧ Below W0.heap.size W0 wx)
  case first => as_aux_lemma =>
    cases h24 : decide (24 < n)
    · have hE : Hid (F 0 = []) := Lib.hid (by rw [HF0.out, if_neg (of_decide_eq_false h24)])
      clear h24
      go_wp2
      go_meet
      exact ⟨none, 0, by rw [hE.out]; rfl, by rw [hE.out]; exact Fown.nil _ _, B0⟩
    · have hE : Hid (F 0 = [] ++ [⟨4, ⟨#[112, 108, 97, 99, 101, 115]⟩⟩]) := Lib.hid (by rw [HF0.out, if_pos (of_decide_eq_true h24)]; rfl)
      clear h24
      have HO := Lib.hid (Fown.nil W0 W0.heap.size)
      go_wp2_with (at_builtin; refine wpList_pushF rfl _ _ rfl W0.heap.size none ([]) 0 rfl HO.out (⟨4, ⟨#[112, 108, 97, 99, 101, 115]⟩⟩) (F 0) hE.out rfl (by first | omega | decide) (by omega) ?_; intro g3 c3 w3 hown3 hb3 hs3 hk3 hd3)
      go_meet
      exact ⟨_, _, rfl, hown3, hb3⟩
  obtain ⟨A, c, h3, hown, hB⟩ := hcut
  subst h3
  go_upto_region 5 with fail
  go_loopw [3, 4, 5, 6, 7] (fun v i _ _ _ wr => ∃ (j : Nat) (A : Option Addr) (c : Nat), j ≤ n ∧ i = .int .i64 j ∧ v = .slice A (F j).length c ∧ Fown wr W0.heap.size A c (F j) ∧ Below W0.heap.size W0 wr) (fun _ i _ _ _ _ => n - (intOf i).toNat)
  case atStart => exact ⟨0, A, c, by omega, rfl, rfl, hown, hB⟩
  case round =>
    clear hown hB
    obtain ⟨j, A, c, hj, rfl, rfl, hown, hB⟩ := hrel
    have hz := hB.size
    obtain ⟨x0, -⟩ := HS.out _ hB
    by_cases hlt : j < n
    · obtain ⟨s, hs⟩ : ∃ s, l[j]? = some s := ⟨_, List.getElem?_eq_getElem (by rw [HN.out]; exact hlt)⟩
      obtain ⟨ad, hA0, hadb, -, hsz⟩ := row_Str (HS.out _ hB).2 hs
      subst hA0
      have HA := Lib.hid (show ∀ w', Below W0.heap.size W0 w' → ∀ (k : Nat) t, l[k]? = some t → w'.cell? (ad.add k) = some (.string t) by
        intro w' hb k t hk
        obtain ⟨ad', hA', _, hc, _⟩ := row_Str (HS.out _ hb).2 hk
        obtain rfl : ad = ad' := Option.some.inj hA'
        exact hc)
      have hj0 : (0 : Int) ≤ (j : Int) := by omega
      have hjn : (j : Int) < (n : Int) := by omega
      have hjd : j < 1000000000000000000 := by omega
      have hFj := hFl j
      have HP : Hid (F (j + 1) = F j ++ plP l j s) := Lib.hid (by rw [← HF.out, plTo_succ hs])
      have HLS := Lib.hid hs
      have HO := Lib.hid hown
      have hds := decS_size j
      clear hs hown
      go_upto_region 8 with (go_at_call 20; refine (rdec_any j hjd _).mono ?_; rintro e w1 ⟨rfl, hb1⟩)
      have hB1 : Below W0.heap.size W0 w1 := hB.trans (hb1.mono hz)
      have z1 := hB1.size
      have HO1 := Lib.hid (HO.out.below hb1)
      clear HO hB x0
      obtain ⟨x0, -⟩ := HS.out _ hB1
      have m0 := HA.out _ hB1 j s HLS.out
      cases hnm : nameB s
      case false =>
        have hE : Hid (F (j + 1) = F j ++ [⟨5, plcS j⟩]) := Lib.hid (by rw [HP.out]; unfold plP; rw [hnm]; rfl)
        go_wp2_with (first
          | (go_at_call 70; refine (rname_any s hsz _).mono ?_; rw [hnm]; rintro e we ⟨rfl, rfl⟩)
          | (at_builtin; refine wpList_pushF rfl _ _ rfl W0.heap.size A (F j) c rfl HO1.out (⟨5, plcS j⟩) (F (j + 1)) hE.out rfl (by first | omega | decide) (by omega) ?_; intro g3 c3 w3 hown3 hb3 hs3 hk3 hd3))
        go_roundw
        case rel => exact ⟨j + 1, _, _, by omega, by go_num, rfl, hown3, hB1.trans (hb3.mono (Nat.le_refl _))⟩
        case measure => simp [intOf]; omega
      case true =>
        have HP2 : Hid (F (j + 1) = F j ++ (if hasB (l.take j) s = true then [⟨6, plcS j⟩] else [])) := Lib.hid (by rw [HP.out]; unfold plP; rw [hnm]; rfl)
        go_upto_region 12 with (go_at_call 70; refine (rname_any s hsz _).mono ?_; rw [hnm]; rintro e we ⟨rfl, rfl⟩)
        obtain ⟨w2, hw2⟩ : ∃ w2, w1 = w2 := ⟨_, rfl⟩
        clear x0 m0
        go_loopw [6, 7] (fun t i wr => ∃ (k : Nat), k ≤ j ∧ i = .int .i64 k ∧ t = .bool (hasB (l.take k) s) ∧ Below w1.heap.size w1 wr) (fun _ i _ => j - (intOf i).toNat)
        case atStart => exact ⟨0, by omega, rfl, by rw [hasB_zero], Below.refl _ _⟩
        case round =>
          obtain ⟨k, hk, rfl, rfl, hb⟩ := hrel
          have hB2 : Below W0.heap.size W0 wr := hB1.trans (hb.mono z1)
          obtain ⟨x0, -⟩ := HS.out _ hB2
          by_cases hkj : k < j
          · obtain ⟨y, hy⟩ : ∃ y, l[k]? = some y := ⟨_, List.getElem?_eq_getElem (by rw [HN.out]; omega)⟩
            have m0 := HA.out _ hB2 j s HLS.out
            have m1 := HA.out _ hB2 k y hy
            have hk0 : (0 : Int) ≤ (k : Int) := by omega
            have hk1 : (k : Int) < (n : Int) := by omega
            have hk2 : (k : Int) < (j : Int) := by omega
            have HST := Lib.hid (hasB_step (y := s) hy)
            obtain ⟨q, hq⟩ : ∃ q, (y.toList == s.toList) = q := ⟨_, rfl⟩
            have HQ : Hid (decide (y = s) = q) := Lib.hid (by rw [← str_eq, hq])
            clear hy
            cases hh : hasB (l.take k) s
            all_goals
              have HH := Lib.hid hh
              clear hh
              go_wp2
              go_quiet (fail)
              go_wp2
              go_roundw
              case rel => exact ⟨k + 1, by omega, by go_num, by rw [HST.out, HQ.out, HH.out]; rfl, bel_drewN hb _⟩
              case measure => simp [intOf]; omega
          · have hkj2 : k = j := by omega
            subst hkj2
            clear hkj
            have hbO := Lib.hid (HO1.out.below hb)
            have hs2 := hb.size
            have hz2 := hB2.size
            cases hh : hasB (l.take k) s
            · have hE : Hid (F (k + 1) = F k) := Lib.hid (by rw [HP2.out, hh]; simp)
              clear hh
              go_wp2
              go_roundw
              case rel => exact ⟨k + 1, A, c, by omega, by go_num, by rw [hE.out], by rw [hE.out]; exact hbO.out, hB2⟩
              case measure => simp [intOf]; omega
            · have hE : Hid (F (k + 1) = F k ++ [⟨6, plcS k⟩]) := Lib.hid (by rw [HP2.out, hh]; rfl)
              clear hh
              go_wp2_with (at_builtin; refine wpList_pushF rfl _ _ rfl W0.heap.size A (F k) c rfl hbO.out (⟨6, plcS k⟩) (F (k + 1)) hE.out rfl (by first | omega | decide) (by omega) ?_; intro g3 c3 w3 hown3 hb3 hs3 hk3 hd3)
              go_roundw
              case rel => exact ⟨k + 1, _, _, by omega, by go_num, rfl, hown3, hB2.trans (hb3.mono (Nat.le_refl _))⟩
              case measure => simp [intOf]; omega
    · have hjn : j = n := by omega
      subst hjn
      clear hlt
      go_wp2
      go_ret
      exact ⟨A, c, rfl, own_less hown z0, hB0.trans (hB.mono z0)⟩
end Go.Proofs.YtamhjodppdodfaaGreatDoor.rnet

import Derived.Test.YthefooacfcagbaaGreatDoorRefA
import Derived.Test.YthefooacfcagbaaGreatDoorR09B
import Derived.Test.YthefooacfcagbaaGreatDoorBase
/- The reference's check of a network. -/
namespace Go.Proofs.YthefooacfcagbaaGreatDoor.rnet
open Go.RowKit
open lib rd typ app note mrk trv flts txt net
set_option linter.unusedVariables false
set_option linter.unusedSimpArgs false
theorem netTo_mono (x : Net) : ∀ {j k : Nat}, j ≤ k → (netTo x j).length ≤ (netTo x k).length
 | j, 0, h => by
  obtain rfl : j = 0 := (by omega)
  exact Nat.le_refl _
 | j, k + 1, h => by
  rcases Nat.lt_or_ge k j with h1 | h1
  ·obtain rfl : j = k + 1 := by omega
   exact Nat.le_refl _
  ·refine Nat.le_trans (netTo_mono x h1) ?_
   rw [netTo, List.length_append]
   exact Nat.le_add_right _ _
set_option maxRecDepth 20000 in
set_option maxHeartbeats 4000000 in
theorem rncheck_any (x : Net) (A0 : Option Addr) (d0 : Nat) (A1 : Option Addr) (d1 : Nat) (w : World) (hP : RowAt rStr w w.heap.size A0 x.places) (hA : RowAt rArc w w.heap.size A1 x.arcs)
  (hl : x.places.length ≤ 10000000) (hp : ∀ a ∈ x.arcs, a.travel.length ≤ 10000000 ∧ a.slow.length ≤ 10000000) (ht : (netTo x x.arcs.length).length ≤ 400000000) :
  Calls Tryz.prog 53 #[.agg #[.slice A0 x.places.length d0, .slice A1 x.arcs.length d1]] w (FltsOut w (netTo x x.arcs.length)) := by
 obtain ⟨W0, hW0⟩ : ∃ W0, w.alloc (.cells #[.slice A0 x.places.length d0, .slice A1 x.arcs.length d1] 25) = W0 := ⟨_, rfl⟩
 have hB0 : Below w.heap.size w W0 := by rw [← hW0]; exact (Below.refl _ _).alloc (Nat.le_refl _) _
 have z0 := hB0.size
 have hs0 : w.heap.size < W0.heap.size := by rw [← hW0]; simp
 have HS : Hid (∀ w', Below W0.heap.size W0 w' → w'.cell? ⟨w.heap.size, 0, none⟩ = some (.slice A0 x.places.length d0) ∧ w'.cell? ⟨w.heap.size, 1, none⟩ = some (.slice A1 x.arcs.length d1)) := Lib.hid fun w' h => by
  have hk := fun (o : Nat) => h.cell (p := ⟨w.heap.size, o, none⟩) hs0
  refine ⟨(hk _).trans ?_, (hk _).trans ?_⟩
  all_goals (rw [← hW0]; simp)
 have HR : Hid (∀ w', Below W0.heap.size W0 w' → RowAt rStr w' w'.heap.size A0 x.places ∧ RowAt rArc w' w'.heap.size A1 x.arcs) := Lib.hid fun w' h => by
  have hb := hB0.trans (h.mono z0)
  exact ⟨(hP.below hb).more hb.size, (hA.below hb).more hb.size⟩
 have hm0 := hA.len
 have hp0 := hP.len
 have hHP := Lib.hid hp
 have B0 : Below W0.heap.size W0 W0 := Below.refl _ _
 have HW0 := Lib.hid hW0
 clear hW0 hP hA hp
 obtain ⟨n, hn⟩ : ∃ n, x.places.length = n := ⟨_, rfl⟩
 obtain ⟨m, hm⟩ : ∃ m, x.arcs.length = m := ⟨_, rfl⟩
 obtain ⟨F, hF⟩ : ∃ F, netTo x = F := ⟨_, rfl⟩
 have HF := Lib.hid hF
 have hFl : ∀ j, j ≤ m → (F j).length ≤ 400000000 := fun j hj => by rw [← hF]; rw [hm] at ht; exact Nat.le_trans (netTo_mono x hj) ht
 have HF0 : Hid (F 0 = plTo x.places n ++ (if 1024 < m then [⟨4, ⟨#[97, 114, 99, 115]⟩⟩] else [])) := Lib.hid (by rw [← hF, ← hn, ← hm]; rfl)
 have HN := Lib.hid (And.intro hn hm)
 have HCP : Hid (∀ w', Below W0.heap.size W0 w' → Calls Tryz.prog 90 #[.agg #[.slice A0 n d0, .slice A1 m d1]] w' (FltsOut w' (plTo x.places n))) := Lib.hid fun w' h => by
  have h1 := rplaces_any x A0 d0 A1 d1 w' (HR.out _ h).1 hl
  rw [hn, hm] at h1
  exact h1
 have HCA : Hid (∀ w' (i : Nat) a, Below W0.heap.size W0 w' → x.arcs[i]? = some a → Calls Tryz.prog 91 #[.agg #[.slice A0 n d0, .slice A1 m d1], .int .i64 i] w' (FltsOut w' (arFs n x.arcs i a))) := Lib.hid fun w' i a h hi => by
  have hh := hHP.out a (List.mem_of_getElem? hi)
  have h1 := rarc_any x A0 d0 A1 d1 i a w' (HR.out _ h).2 hi hh.1 hh.2 hp0
  rw [hn, hm] at h1
  exact h1
 have hpl : (plTo x.places n).length ≤ 1 + n := plTo_len _ _
 rw [hn] at hl hp0 HS ⊢
 rw [hm] at hm0 ht HS ⊢
 have HW1 : Hid (w.alloc (.cells #[.slice A0 n d0, .slice A1 m d1] 25) = W0) := Lib.hid (by rw [← hn, ← hm]; exact HW0.out)
 rw [hF] at ht ⊢
 clear hn hm hF HW0
 go_enter Tryz.func53, Tryz.ntmps53
 go_upto_region 1 with fail
 rw [HW1.out]
 obtain ⟨x0, x1⟩ := HS.out _ B0
 go_wp2_with fail
 refine (HCP.out _ B0).mono ?_
 rintro e w1 ⟨A2, c2, rfl, hown, hb1⟩
 have HO := Lib.hid hown
 have z1 := hb1.size
 clear hown x0 x1
 obtain ⟨x0, x1⟩ := HS.out _ hb1
 go_upto_region 2 with fail
 go_cut [10] (fun v wx => v = .bool (decide (1024 < m)) ∧ w1 = wx)
 case first => as_aux_lemma =>
  have hE : decide ((1024 : Int) < (m : Int)) = decide (1024 < m) := by rw [Bool.eq_iff_iff]; simp; omega
  have HE := Lib.hid hE
  clear hE
  go_wp2
  go_meet
  exact ⟨by rw [HE.out], rfl⟩
 obtain ⟨h10, hwc⟩ := hcut
 subst h10
 subst hwc
 go_upto_if 10 with fail
 go_cut [3] (fun v wx => ∃ A c, v = .slice A (F 0).length c ∧ Fown wx W0.heap.size A c (F 0) ∧ Below W0.heap.size W0 wx)
 case first => as_aux_lemma =>
  cases hq : decide (1024 < m)
  ·have hE : Hid (F 0 = plTo x.places n) := Lib.hid (by rw [HF0.out, if_neg (of_decide_eq_false hq), List.append_nil])
   clear hq
   go_wp2
   go_meet
   exact ⟨A2, c2, by rw [hE.out], by rw [hE.out]; exact HO.out, hb1⟩
  ·have hE : Hid (F 0 = plTo x.places n ++ [⟨4, ⟨#[97, 114, 99, 115]⟩⟩]) := Lib.hid (by rw [HF0.out, if_pos (of_decide_eq_true hq)])
   clear hq
   go_wp2_with (at_builtin; refine wpList_pushF rfl _ _ rfl W0.heap.size A2 (plTo x.places n) c2 rfl HO.out (⟨4, ⟨#[97, 114, 99, 115]⟩⟩) (F 0) hE.out rfl (by first | omega | decide) (by omega) ?_; intro g3 c3 w3 hown3 hb3 hs3 hk3 hd3)
   go_meet
   exact ⟨_, _, rfl, hown3, hb1.trans (hb3.mono (Nat.le_refl _))⟩
 clear x0 x1 HO hb1 z1
 obtain ⟨A, c, h3, hown, hB⟩ := hcut
 subst h3
 go_upto_region 5 with fail
 go_loopw [3, 4] (fun v i wr => ∃ (j : Nat) (A : Option Addr) (c : Nat), j ≤ m ∧ i = .int .i64 j ∧ v = .slice A (F j).length c ∧ Fown wr W0.heap.size A c (F j) ∧ Below W0.heap.size W0 wr) (fun _ i _ => m - (intOf i).toNat)
 case atStart => exact ⟨0, A, c, by omega, rfl, rfl, hown, hB⟩
 case round =>
  clear hown hB
  obtain ⟨j, A, c, hj, rfl, rfl, hown, hB⟩ := hrel
  have hz := hB.size
  obtain ⟨x0, x1⟩ := HS.out _ hB
  by_cases hlt : j < m
  ·obtain ⟨a, ha⟩ : ∃ a, x.arcs[j]? = some a := ⟨_, List.getElem?_eq_getElem (by rw [HN.out.2]; exact hlt)⟩
   have hE : Hid (F (j + 1) = F j ++ arFs n x.arcs j a) := Lib.hid (by rw [← HF.out, netTo_succ ha, HN.out.1])
   have hj0 : (0 : Int) ≤ (j : Int) := by omega
   have hjn : (j : Int) < (m : Int) := by omega
   have hFj := hFl (j + 1) (by omega)
   have HO := Lib.hid hown
   have HC := Lib.hid (HCA.out _ j a hB ha)
   clear ha hown
   obtain ⟨E2, hE2⟩ : ∃ E, arFs n x.arcs j a = E := ⟨_, rfl⟩
   rw [hE2] at hE HC
   clear hE2
   go_wp2_with (first
    | (go_at_call 91; refine HC.out.mono ?_; rintro e w2 ⟨A2, c2, rfl, hown2, hb2⟩; have z2 := hb2.size; have HO2 := Lib.hid (And.intro (HO.out.below hb2) (Reads.of_own hown2)); clear hown2)
    | (at_builtin; refine wpList_appF rfl _ _ rfl W0.heap.size A (F j) c rfl HO2.out.1 A2 E2 c2 rfl HO2.out.2 (F (j + 1)) hE.out (by omega) (by omega) ?_; intro A5 c5 w5 hown5 hb5))
   go_roundw
   case rel => exact ⟨j + 1, A5, c5, by omega, by go_num, rfl, hown5, (hB.trans (hb2.mono hz)).trans hb5⟩
   case measure => simp [intOf]; omega
  ·have hjn : j = m := by omega
   subst hjn
   clear hlt
   go_wp2
   go_ret
   exact ⟨A, c, rfl, own_less hown z0, hB0.trans (hB.mono z0)⟩
end Go.Proofs.YthefooacfcagbaaGreatDoor.rnet

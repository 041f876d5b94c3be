import Derived.Test.YtofabhenmplkoaaGreatDoorRefA
import Derived.Test.YtofabhenmplkoaaGreatDoorR09B
import Derived.Test.YtofabhenmplkoaaGreatDoorBase
import Derived.Test.YtofabhenmplkoaaGreatDoorR11B
import Derived.Test.YtofabhenmplkoaaGreatDoorZ1
import Derived.Deep.DeepCutAuto
import Derived.Test.YtofabhenmplkoaaGreatDoorFltF
import Derived.Test.YtofabhenmplkoaaGreatDoorZ2
import Derived.Test.YtofabhenmplkoaaGreatDoorZ4
import Derived.Deep.RegionHeld3
set_option linter.unusedVariables false
set_option linter.unusedSimpArgs false
/- The reference's check of a network. -/
namespace Go.Proofs.YtofabhenmplkoaaGreatDoor.rnet
open Go.RowKit
open lib rd typ app note mrk trv flts txt net
theorem netTo_mono (x : Net) : ∀ {j k : Nat}, j ≤ k → (netTo x j).length ≤ (netTo x k).length
 | j, 0, h => by
  obtain rfl : j = 0 := (by omega)
  exact Nat.le_refl _
 | j, k + 1, h => by
  rcases Nat.lt_or_ge k j with h1 | h1
  ·obtain rfl : j = k + 1 := by omega
   exact Nat.le_refl _
  ·refine Nat.le_trans (netTo_mono x h1) ?_
   rw [netTo, List.length_append]
   exact Nat.le_add_right _ _
set_option maxRecDepth 20000 in
set_option maxHeartbeats 4000000 in
theorem rncheck_any (x : Net) (A0 : Option Addr) (d0 : Nat) (A1 : Option Addr) (d1 : Nat) (w : World) (hP : RowAt rStr w w.heap.size A0 x.places) (hA : RowAt rArc w w.heap.size A1 x.arcs)
  (hl : x.places.length ≤ 10000000) (hp : ∀ a ∈ x.arcs, a.travel.length ≤ 10000000 ∧ a.slow.length ≤ 10000000) (ht : (netTo x x.arcs.length).length ≤ 400000000) :
  Calls Tryz.prog 57 #[.agg #[.slice A0 x.places.length d0, .slice A1 x.arcs.length d1]] w (FltsOut w (netTo x x.arcs.length)) := by
 obtain ⟨W0, hW0⟩ : ∃ W0, w.alloc (.cells #[.slice A0 x.places.length d0, .slice A1 x.arcs.length d1] 25) = W0 := ⟨_, rfl⟩
 have hB0 : Below w.heap.size w W0 := by rw [← hW0]; exact (Below.refl _ _).alloc (Nat.le_refl _) _
 have z0 := hB0.size
 have hs0 : w.heap.size < W0.heap.size := by rw [← hW0]; simp
 have HS : Hid (∀ w', Below W0.heap.size W0 w' → w'.cell? ⟨w.heap.size, 0, none⟩ = some (.slice A0 x.places.length d0) ∧ w'.cell? ⟨w.heap.size, 1, none⟩ = some (.slice A1 x.arcs.length d1)) := Lib.hid fun w' h => by
  have hk := fun (o : Nat) => h.cell (p := ⟨w.heap.size, o, none⟩) hs0
  refine ⟨(hk _).trans ?_, (hk _).trans ?_⟩
  all_goals (rw [← hW0]; simp)
 have HR : Hid (∀ w', Below W0.heap.size W0 w' → RowAt rStr w' w'.heap.size A0 x.places ∧ RowAt rArc w' w'.heap.size A1 x.arcs) := Lib.hid fun w' h => by
  have hb := hB0.trans (h.mono z0)
  exact ⟨(hP.below hb).more hb.size, (hA.below hb).more hb.size⟩
 have hm0 := hA.len
 have hp0 := hP.len
 have hHP := Lib.hid hp
 have B0 : Below W0.heap.size W0 W0 := Below.refl _ _
 have HW0 := Lib.hid hW0
 clear hW0 hP hA hp
 obtain ⟨n, hn⟩ : ∃ n, x.places.length = n := ⟨_, rfl⟩
 obtain ⟨m, hm⟩ : ∃ m, x.arcs.length = m := ⟨_, rfl⟩
 obtain ⟨F, hF⟩ : ∃ F, netTo x = F := ⟨_, rfl⟩
 have HF := Lib.hid hF
 have hFl : ∀ j, j ≤ m → (F j).length ≤ 400000000 := fun j hj => by rw [← hF]; rw [hm] at ht; exact Nat.le_trans (netTo_mono x hj) ht
 have HF0 : Hid (F 0 = plTo x.places n ++ (if 1024 < m then [⟨4, ⟨#[97, 114, 99, 115]⟩⟩] else [])) := Lib.hid (by rw [← hF, ← hn, ← hm]; rfl)
 have HN := Lib.hid (And.intro hn hm)
 have HCP : Hid (∀ w', Below W0.heap.size W0 w' → Calls Tryz.prog 114 #[.agg #[.slice A0 n d0, .slice A1 m d1]] w' (FltsOut w' (plTo x.places n))) := Lib.hid fun w' h => by
  have h1 := rplaces_any x A0 d0 A1 d1 w' (HR.out _ h).1 hl
  rw [hn, hm] at h1
  exact h1
 have HCA : Hid (∀ w' (i : Nat) a, Below W0.heap.size W0 w' → x.arcs[i]? = some a → Calls Tryz.prog 115 #[.agg #[.slice A0 n d0, .slice A1 m d1], .int .i64 i] w' (FltsOut w' (arFs n x.arcs i a))) := Lib.hid fun w' i a h hi => by
  have hh := hHP.out a (List.mem_of_getElem? hi)
  have h1 := rarc_any x A0 d0 A1 d1 i a w' (HR.out _ h).2 hi hh.1 hh.2 hp0
  rw [hn, hm] at h1
  exact h1
 have hpl : (plTo x.places n).length ≤ 1 + n := plTo_len _ _
 rw [hn] at hl hp0 HS ⊢
 rw [hm] at hm0 ht HS ⊢
 have HW1 : Hid (w.alloc (.cells #[.slice A0 n d0, .slice A1 m d1] 25) = W0) := Lib.hid (by rw [← hn, ← hm]; exact HW0.out)
 rw [hF] at ht ⊢
 clear hn hm hF HW0
 go_enter Tryz.func57, Tryz.ntmps57
 go_upto_region 1 with fail
 rw [HW1.out]
 obtain ⟨x0, x1⟩ := HS.out _ B0
 go_wp2_with fail
 refine (HCP.out _ B0).mono ?_
 rintro e w1 ⟨A2, c2, rfl, hown, hb1⟩
 have HO := Lib.hid hown
 have z1 := hb1.size
 clear hown x0 x1
 obtain ⟨x0, x1⟩ := HS.out _ hb1
 go_upto_region 2 with fail
 go_cut [10] (fun v wx => v = .bool (decide (1024 < m)) ∧ w1 = wx)
 case first => as_aux_lemma =>
  have hE : decide ((1024 : Int) < (m : Int)) = decide (1024 < m) := by rw [Bool.eq_iff_iff]; simp; omega
  have HE := Lib.hid hE
  clear hE
  go_wp2
  go_meet
  exact ⟨by rw [HE.out], rfl⟩
 obtain ⟨h10, hwc⟩ := hcut
 subst h10
 subst hwc
 go_upto_if 10 with fail
 go_cut [3] (fun v wx => ∃ A c, v = .slice A (F 0).length c ∧ Fown wx W0.heap.size A c (F 0) ∧ Below W0.heap.size W0 wx)
 case first => as_aux_lemma =>
  cases hq : decide (1024 < m)
  ·have hE : Hid (F 0 = plTo x.places n) := Lib.hid (by rw [HF0.out, if_neg (of_decide_eq_false hq), List.append_nil])
   clear hq
   go_wp2
   go_meet
   exact ⟨A2, c2, by rw [hE.out], by rw [hE.out]; exact HO.out, hb1⟩
  ·have hE : Hid (F 0 = plTo x.places n ++ [⟨4, ⟨#[97, 114, 99, 115]⟩⟩]) := Lib.hid (by rw [HF0.out, if_pos (of_decide_eq_true hq)])
   clear hq
   go_wp2_with (at_builtin; refine zS rfl _ _ rfl W0.heap.size A2 (plTo x.places n) c2 rfl HO.out (⟨4, ⟨#[97, 114, 99, 115]⟩⟩) (F 0) hE.out rfl (by first | omega | decide) (by omega) ?_; intro g3 c3 w3 hown3 hb3 hs3 hk3 hd3)
   go_meet
   exact ⟨_, _, rfl, hown3, hb1.trans (hb3.mono (Nat.le_refl _))⟩
 clear x0 x1 HO hb1 z1
 obtain ⟨A, c, h3, hown, hB⟩ := hcut
 subst h3
 go_upto_region 5 with fail
 go_loopw [3, 4] (fun v i wr => ∃ (j : Nat) (A : Option Addr) (c : Nat), j ≤ m ∧ i = .int .i64 j ∧ v = .slice A (F j).length c ∧ Fown wr W0.heap.size A c (F j) ∧ Below W0.heap.size W0 wr) (fun _ i _ => m - (intOf i).toNat)
 case atStart => exact ⟨0, A, c, by omega, rfl, rfl, hown, hB⟩
 case round =>
  clear hown hB
  obtain ⟨j, A, c, hj, rfl, rfl, hown, hB⟩ := hrel
  have hz := hB.size
  obtain ⟨x0, x1⟩ := HS.out _ hB
  by_cases hlt : j < m
  ·obtain ⟨a, ha⟩ : ∃ a, x.arcs[j]? = some a := ⟨_, List.getElem?_eq_getElem (by rw [HN.out.2]; exact hlt)⟩
   have hE : Hid (F (j + 1) = F j ++ arFs n x.arcs j a) := Lib.hid (by rw [← HF.out, netTo_succ ha, HN.out.1])
   have hj0 : (0 : Int) ≤ (j : Int) := by omega
   have hjn : (j : Int) < (m : Int) := by omega
   have hFj := hFl (j + 1) (by omega)
   have HO := Lib.hid hown
   have HC := Lib.hid (HCA.out _ j a hB ha)
   clear ha hown
   obtain ⟨E2, hE2⟩ : ∃ E, arFs n x.arcs j a = E := ⟨_, rfl⟩
   rw [hE2] at hE HC
   clear hE2
   go_wp2_with (first
    | (go_at_call 115; refine HC.out.mono ?_; rintro e w2 ⟨A2, c2, rfl, hown2, hb2⟩; have z2 := hb2.size; have HO2 := Lib.hid (And.intro (HO.out.below hb2) (Reads.of_own hown2)); clear hown2)
    | (at_builtin; refine wpList_appF rfl _ _ rfl W0.heap.size A (F j) c rfl HO2.out.1 A2 E2 c2 rfl HO2.out.2 (F (j + 1)) hE.out (by omega) (by omega) ?_; intro A5 c5 w5 hown5 hb5))
   go_roundw
   case rel => exact ⟨j + 1, A5, c5, by omega, by go_num, rfl, hown5, (hB.trans (hb2.mono hz)).trans hb5⟩
   case measure => simp [intOf]; omega
  ·have hjn : j = m := by omega
   subst hjn
   clear hlt
   go_wp2
   go_ret
   exact ⟨A, c, rfl, zY hown z0, hB0.trans (hB.mono z0)⟩
end Go.Proofs.YtofabhenmplkoaaGreatDoor.rnet

/- The violations of orders: Check of the reference. -/
namespace Go.Proofs.YtofabhenmplkoaaGreatDoor.rord
open Go.RowKit
open lib rd typ txt app flts ord note mrk
set_option maxRecDepth 20000 in
set_option maxHeartbeats 4000000 in
theorem rocheck_any (n : Nat) (A0 : Option Addr) (d0 : Nat) (A1 : Option Addr) (n1 d1 : Nat) (dims types : Int) (A : Option Addr) (c : Nat) (l : List Ord) (w : World) (hL : RowAt rOrd w w.heap.size A l) (hl : l.length ≤ 10000000) (hn : n ≤ 17592186043904) :
  Calls Tryz.prog 59 #[.agg #[.slice A0 n d0, .slice A1 n1 d1], .int .i64 dims, .int .i64 types, .slice A l.length c] w (FltsOut w (ofltsTo ((n : Int) - 1) dims types l l.length)) := by
 obtain ⟨m, hm⟩ : ∃ m, l.length = m := ⟨_, rfl⟩
 have HM := Lib.hid hm
 obtain ⟨F, hF⟩ : ∃ F, ofltsTo ((n : Int) - 1) dims types l = F := ⟨_, rfl⟩
 have HF := Lib.hid hF
 have hFl : ∀ j, (F j).length ≤ 1 + 8 * j := fun j => by rw [← hF]; exact ofltsTo_len _ _ _ _ j
 have HF0 : Hid (F 0 = if m ≤ 10 then [] else [⟨4, ⟨#[]⟩⟩]) := Lib.hid (by rw [← hF, ← hm]; rfl)
 obtain ⟨W0, hW0⟩ : ∃ W0, w.alloc (.cells #[.slice A0 n d0, .slice A1 n1 d1] 25) = W0 := ⟨_, rfl⟩
 have hB0 : Below w.heap.size w W0 := by rw [← hW0]; exact (Below.refl _ _).alloc (Nat.le_refl _) _
 have z0 := hB0.size
 have hs0 : w.heap.size < W0.heap.size := by rw [← hW0]; simp
 have HS : Hid (∀ w', Below W0.heap.size W0 w' → w'.cell? ⟨w.heap.size, 0, none⟩ = some (.slice A0 n d0)) := Lib.hid fun w' h => by
  have hk := fun (o : Nat) => h.cell (p := ⟨w.heap.size, o, none⟩) hs0
  refine (hk _).trans ?_
  rw [← hW0]; simp
 have HC : Hid (∀ w' (i : Nat) t, Below W0.heap.size W0 w' → l[i]? = some t → Calls Tryz.prog 118 #[.int .i64 n, .int .i64 dims, .int .i64 types, .slice A m c, .int .i64 i] w' (ErrsOut w' (errsO ((n : Int) - 1) dims types l i t))) := Lib.hid fun w' i t h hi => by
  have hb := hB0.trans (h.mono z0)
  have h1 := rrules_any n dims types A c l i t w' ((hL.below hb).more hb.size) hi hn
  rw [hm] at h1
  exact h1
 have B0 : Below W0.heap.size W0 W0 := Below.refl _ _
 have HW0 := Lib.hid hW0
 rw [hm] at hl ⊢
 rw [hF]
 clear hm hF hW0 hL
 go_enter Tryz.func59, Tryz.ntmps59
 go_upto_region 2 with fail
 rw [HW0.out]
 go_cut [15] (fun v wx => v = .bool (decide (10 < m)) ∧ W0 = wx)
 case first => as_aux_lemma =>
  have hE : decide ((10 : Int) < (m : Int)) = decide (10 < m) := by rw [Bool.eq_iff_iff]; simp; omega
  have HE := Lib.hid hE
  clear hE
  go_wp2
  go_meet
  exact ⟨by rw [HE.out], rfl⟩
 obtain ⟨h15, hwc⟩ := hcut
 subst h15
 subst hwc
 go_upto_if 15 with fail
 go_cut [9] (fun v wx => ∃ A' c', v = .slice A' (F 0).length c' ∧ Fown wx W0.heap.size A' c' (F 0) ∧ Below W0.heap.size W0 wx)
 case first => as_aux_lemma =>
  cases hq : decide (10 < m)
  ·have hE : Hid (F 0 = []) := Lib.hid (by rw [HF0.out, if_pos (by have := of_decide_eq_false hq; omega)])
   clear hq
   go_wp2
   go_meet
   exact ⟨none, 0, by rw [hE.out]; rfl, by rw [hE.out]; exact Fown.nil _ _, B0⟩
  ·have hE : Hid (F 0 = [] ++ [⟨4, ⟨#[]⟩⟩]) := Lib.hid (by rw [HF0.out, if_neg (by have := of_decide_eq_true hq; omega)]; rfl)
   have HO := Lib.hid (Fown.nil W0 W0.heap.size)
   clear hq
   go_wp2_with (at_builtin; refine zS rfl _ _ rfl W0.heap.size none ([]) 0 rfl HO.out (⟨4, ⟨#[]⟩⟩) (F 0) hE.out rfl (by first | omega | decide) (by omega) ?_; intro g3 c3 w3 hown3 hb3 hs3 hk3 hd3)
   go_meet
   exact ⟨_, _, rfl, hown3, hb3⟩
 obtain ⟨A', c', hv, hown, hB⟩ := hcut
 subst hv
 go_upto_region 5 with fail
 go_loopw [9, 10, 11, 12] (fun v k _ _ wr => ∃ (j : Nat) (A' : Option Addr) (c' : Nat), j ≤ m ∧ k = .int .i64 j ∧ v = .slice A' (F j).length c' ∧ Fown wr W0.heap.size A' c' (F j) ∧ Below W0.heap.size W0 wr) (fun _ k _ _ _ => m - (intOf k).toNat)
 case atStart => exact ⟨0, A', c', by omega, rfl, rfl, hown, hB⟩
 case round =>
  clear hown hB
  obtain ⟨j, A', c', hj, rfl, rfl, hown, hB⟩ := hrel
  have hz := hB.size
  by_cases hlt : j < m
  ·obtain ⟨t, ht⟩ : ∃ t, l[j]? = some t := ⟨_, List.getElem?_eq_getElem (by rw [HM.out]; exact hlt)⟩
   have herr := HC.out _ j t hB ht
   obtain ⟨E, hE⟩ : ∃ E, errsO ((n : Int) - 1) dims types l j t = E := ⟨_, rfl⟩
   have hE8 : E.length ≤ 8 := by rw [← hE]; exact errsO_len _ _ _ _ _ _
   have HFS : Hid (F (j + 1) = F j ++ mkF j E) := Lib.hid (by rw [← HF.out, ofltsTo_succ ht, hE])
   have hFj := hFl j
   rw [hE] at herr
   have HK := Lib.hid herr
   have hj0 : (0 : Int) ≤ (j : Int) := by omega
   have hjn : (j : Int) < (m : Int) := by omega
   have x0 := HS.out _ hB
   clear ht hE herr
   obtain ⟨U, hU⟩ : ∃ U : Nat → List Flt, (fun q => F j ++ mkF j (E.take q)) = U := ⟨_, rfl⟩
   have HU0 : Hid (U 0 = F j) := Lib.hid (by rw [← hU]; simp [mkF])
   have HUT : Hid (F (j + 1) = U E.length) := Lib.hid (by rw [← hU, HFS.out]; simp)
   have HUS : Hid (∀ (q : Nat) x, E[q]? = some x → U (q + 1) = U q ++ [⟨x, decS j⟩]) := Lib.hid fun q x hx => by
    rw [← hU]
    show F j ++ mkF j (E.take (q + 1)) = F j ++ mkF j (E.take q) ++ [⟨x, decS j⟩]
    rw [mkF_take hx, List.append_assoc]
   have hUl : ∀ q, (U q).length ≤ 9 + 8 * j := fun q => by
    rw [← hU]
    show (F j ++ mkF j (E.take q)).length ≤ _
    unfold mkF
    rw [List.length_append, List.length_map, List.length_take]
    omega
   clear hU HFS
   go_upto_region 8 with (go_at_call 118; refine HK.out.mono ?_; rintro e w1 ⟨Ae, ce, rfl, hownE, hb1⟩)
   obtain ⟨gE, hgE1, hgE2, hgE3⟩ := row_place hownE
   have s1 := hb1.size
   have hown1 : Fown w1 W0.heap.size A' c' (U 0) := by rw [HU0.out]; exact hown.below hb1
   have hne : (Value.slice A' (U 0).length c').ownBlock ≠ some gE := by
    intro e
    rw [HU0.out] at e
    have := (World.ownsRow.lt hown gE e).2
    omega
   have hB1 : Below W0.heap.size W0 w1 := hB.trans (hb1.mono hz)
   have z1 := hB1.size
   have HNE := Lib.hid hne
   have HG3 := Lib.hid hgE3
   have hv0 : (F j).length = (U 0).length := by rw [HU0.out]
   have HV0 := Lib.hid hv0
   clear hownE hne hgE3 hown x0 hv0
   go_upto_region 9 with fail
   go_loopw [9, 12] (fun v k wr2 => ∃ (q : Nat) (A2 : Option Addr) (c2 : Nat), q ≤ E.length ∧ k = .int .i64 q ∧ v = .slice A2 (U q).length c2 ∧ Fown wr2 W0.heap.size A2 c2 (U q) ∧ Hid ((Value.slice A2 (U q).length c2).ownBlock ≠ some gE) ∧ Hid (∀ q, q < E.length → wr2.cell? ⟨gE, q, none⟩ = some (.int .i64 (E[q]?.getD 0))) ∧ Below W0.heap.size W0 wr2 ∧ w1.heap.size ≤ wr2.heap.size) (fun _ k _ => E.length - (intOf k).toNat)
   case atStart => exact ⟨0, A', c', by omega, rfl, by rw [HV0.out], hown1, HNE, HG3, hB1, Nat.le_refl _⟩
   case round =>
    clear hown1 HNE HG3
    obtain ⟨q, A2, c2, hq, rfl, rfl, hown2, hne2, hcs2, hB2, hs2⟩ := hrel
    have hz2 := hB2.size
    by_cases hlq : q < E.length
    ·obtain ⟨rfl, hgw⟩ := hgE2 (by omega)
     obtain ⟨x, hx⟩ : ∃ x, E[q]? = some x := ⟨_, List.getElem?_eq_getElem hlq⟩
     have hcx : wr.cell? ⟨gE, q, none⟩ = some (.int .i64 x) := by have := hcs2.out q hlq; rw [hx] at this; exact this
     have hq0 : (0 : Int) ≤ (q : Int) := by omega
     have hqn : (q : Int) < (E.length : Int) := by omega
     have HT := Lib.hid (HUS.out q x hx)
     have hUq := hUl q
     clear hx hgE2
     have hgr : gE < wr.heap.size := by omega
     have hjd : j < 1000000000000000000 := by omega
     go_upto_region 11 with fail
     (refine wp_region_held_drew (S := (fun w' => w'.cell? ⟨gE, q, none⟩ = some (.int .i64 x))) (by kernel_rfl) ?_ (fun hHeld => ?_))
     ·exact hcx
     (refine lib.tk 0 ?_ rfl (by kernel_rfl) (fun _ _ _ h => h) ?_ (by assumption) ?_; rotate_left; (focus (intro w hSw; (try dsimp only at hSw); go_simp; all_goals with_reducible rfl)); (try simp only [lib.hly]))
     (refine lib.tk 1 ?_ rfl (by kernel_rfl) (fun _ _ _ h => h) ?_ (by assumption) ?_; rotate_left; (focus (intro w hSw; (try dsimp only at hSw); go_simp; all_goals with_reducible rfl)); (try simp only [lib.hly]))
     (refine lib.tk 2 ?_ rfl (by kernel_rfl) (fun _ _ _ h => h) ?_ (by assumption) ?_; rotate_left; (focus (intro w hSw; (try dsimp only at hSw); go_simp; all_goals with_reducible rfl)); (try simp only [lib.hly]))
     (refine lib.tk 3 ?_ rfl (by kernel_rfl) (fun _ _ _ h => h) ?_ (by assumption) ?_; rotate_left; (focus (intro w hSw; (try dsimp only at hSw); go_simp; all_goals with_reducible rfl)); (try simp only [lib.hly]))
     (refine lib.tk 4 ?_ rfl (by kernel_rfl) (fun _ _ _ h => h) ?_ (by assumption) ?_; rotate_left; (focus (intro w hSw; (try dsimp only at hSw); go_simp; all_goals with_reducible rfl)); (try simp only [lib.hly]))
     (refine lib.tk 5 ?_ rfl (by kernel_rfl) (fun _ _ _ h => h) ?_ (by assumption) ?_; rotate_left; (focus (intro w hSw; (try dsimp only at hSw); go_simp; all_goals with_reducible rfl)); (try simp only [lib.hly]))
     (refine wpAnyH_ready (rs := [6]) (by kernel_rfl) (by simp) ?_; refine AllReadyH.cons rfl (fun K hK => ?_) AllReadyH.nil; go_simp)
     go_at_call 43
     refine (rdec_any j hjd _).mono ?_
     rintro e w3 ⟨rfl, hb3d⟩
     have hb3 : Below wr.heap.size wr w3 := ((Below.refl _ _).drew).trans (hb3d.mono (by simp))
     have s3 := hb3.size
     have hcx3 : w3.cell? ⟨gE, q, none⟩ = some (.int .i64 x) := (hb3.cell (p := ⟨gE, q, none⟩) hgr).trans hcx
     (refine hK.out _ _ ?_ (fun hHeld => ?_))
     ·exact hcx3
     clear hK K
     (try simp only [lib.hly])
     (refine lib.tk 7 ?_ rfl (by kernel_rfl) (fun _ _ _ h => h) ?_ (by assumption) ?_; rotate_left; (focus (intro w hSw; (try dsimp only at hSw); go_simp; all_goals with_reducible rfl)); (try simp only [lib.hly]))
     (refine wpAnyH_ready (rs := [8]) (by kernel_rfl) (by simp) ?_; refine AllReadyH.cons rfl (fun K hK => ?_) AllReadyH.nil; go_simp)
     have hcx4 : (w3.alloc (.cells #[.int .i64 x, .string (decS j)] 118)).cell? ⟨gE, q, none⟩ = some (.int .i64 x) := (World.cell?_alloc_lt w3 _ _ (show gE < w3.heap.size by omega)).trans hcx3
     (refine hK.out _ _ ?_ (fun hHeld => ?_))
     ·exact hcx4
     clear hK K
     (try simp only [lib.hly])
     (refine wpAnyH_ready (rs := [9]) (by kernel_rfl) (by simp) ?_; refine AllReadyH.cons rfl (fun K hK => ?_) AllReadyH.nil)
     refine step_app fault_elem _ _ rfl W0.heap.size A2 (U q).length c2 (fcs (U q)) rfl ((own_below hown2 hb3).alloc _) ⟨w3.heap.size, 0, none⟩ 1 [.int .i64 x, .string (decS j)] rfl rfl (two_new _ _ _ _) (by simp [Value.oneCell']) (by omega) (by simp; omega) rfl ?_
     intro g3 c3 w5 hown3 hg3 hd3
     (refine hK.out _ _ ?_ (fun hHeld => ?_))
     ·exact hg3.cell hcx4 (by intro e; exact hne2.out e.symm)
     clear hK K
     (try simp only [lib.hly])
     (refine lib.tk 10 ?_ rfl (by kernel_rfl) (fun _ _ _ h => h) ?_ (by assumption) ?_; rotate_left; (focus (intro w hSw; (try dsimp only at hSw); go_simp; all_goals with_reducible rfl)); (try simp only [lib.hly]))
     (refine wpAnyH_done (by kernel_rfl) ?_ _)
     have hlen : (U (q + 1)).length = (U q).length + 1 := by rw [HT.out]; simp
     have HLEN := Lib.hid hlen
     have HO2 := Lib.hid hown2
     have hgs := hg3.size
     simp at hgs
     have HG := Lib.hid hg3
     have HO3 := Lib.hid hown3
     clear hlen hown2 hg3 hown3 hcx hcx3 hcx4
     go_wp2
     go_roundw
     case rel =>
      refine ⟨q + 1, some ⟨g3, 0, none⟩, c3, by omega, by go_num, by rw [HLEN.out], ?_, Lib.hid ?_, Lib.hid ?_, ?_, ?_⟩
      ·unfold Fown
       rw [HLEN.out, HT.out, fcs_snoc]
       exact HO3.out
      ·intro e
       have e' : some g3 = some gE := e
       rcases hd3 with h | h
       ·exact hne2.out (h.trans e')
       ·injection e' with e'
        simp at h
        omega
      ·intro q' hq'
       exact HG.out.cell ((World.cell?_alloc_lt w3 _ _ (show gE < w3.heap.size by omega)).trans ((hb3.cell (p := ⟨gE, q', none⟩) hgr).trans (hcs2.out q' hq'))) (by intro e; exact hne2.out e.symm)
      ·exact ((hB2.trans (hb3.mono hz2)).alloc (by omega) _).grown HG.out (by simp; omega) (fun q' e => (World.ownsRow.lt HO2.out _ e).1)
      ·omega
     case measure => simp [intOf]; omega
    ·have hqE : q = E.length := by omega
     subst hqE
     go_wp2
     go_roundw
     case rel => exact ⟨j + 1, A2, c2, by omega, by go_num, by rw [HUT.out], by rw [HUT.out]; exact hown2, hB2⟩
     case measure => simp [intOf]; omega
  ·have hjm : j = m := by omega
   subst hjm
   clear hlt
   go_wp2
   go_ret
   exact ⟨A', c', rfl, zY hown z0, hB0.trans (hB.mono z0)⟩
end Go.Proofs.YtofabhenmplkoaaGreatDoor.rord

/- The reference's check of pairs. -/
namespace Go.Proofs.YtofabhenmplkoaaGreatDoor.rrul
open Go.RowKit
open lib rd typ app flts eqg txt note rul
set_option maxRecDepth 100000 in
theorem rdec_any (n : Nat) (hn : n < 1000000000000000000) (w : World) : Calls Tryz.prog 173 #[.int .i64 n] w fun e w' => e = .returned (.string (decS n)) ∧ Below w.heap.size w w' := by
 have hn' : (n : Int) < 1000000000000000000 := by omega
 have hn0 : (0 : Int) ≤ n := by omega
 rw [decS_F n]
 obtain ⟨R, hR⟩ : ∃ R, decF 20 n = R := ⟨_, rfl⟩
 have hR2 := decF_size 20 n
 rw [hR] at hR2 ⊢
 have H0 : Hid (decF 20 n = decF (19 + 1) n ++ ⟨#[]⟩) := Lib.hid (by show decF 20 n = decF 20 n ++ ByteArray.empty; rw [ByteArray.append_empty])
 have HR := Lib.hid hR
 clear hR
 go_enter Tryz.func173, Tryz.ntmps173
 go_wp2
 go_loopw [0, 3] (fun l s wr => Below w.heap.size w wr ∧ ∃ (m f : Nat) (t : ByteArray), l = .int .i64 m ∧ m < 1000000000000000000 ∧ Hid (decF 20 n = decF (f + 1) m ++ t) ∧ Hid (m < 10 ^ (f + 1)) ∧ t.size + f ≤ 40 ∧ s = .string t) (fun l _ _ => (intOf l).toNat)
 case atStart => exact ⟨Below.refl _ _, n, 19, ⟨#[]⟩, rfl, hn, H0, Lib.hid (by omega), by decide, rfl⟩
 case round =>
  obtain ⟨hb, m, f, t, rfl, hm, hmn, hmf, ht, rfl⟩ := hrel
  obtain ⟨b, hbz⟩ := byte_ex m
  have kc := conv_one wr (48 + (m : Int) % 10) b hbz
  have HB := Lib.hid hbz
  have hbw := hb.size
  have hn2 : (0 : Int) ≤ (m : Int) / 10 := by omega
  have ht2 : t.size ≤ 40 := by omega
  clear hbz
  by_cases h10 : m < 10
  ·have h10' : ¬ (10 : Int) ≤ (m : Int) := by omega
   have hmm : (m : Int) % 10 = (m : Int) := by omega
   have hd : Hid (R = ⟨#[b]⟩ ++ t) := Lib.hid (by rw [← HR.out]; exact dec_last hmn.out HB.out h10)
   rw [hmm] at kc
   clear h10 hmm
   go_wp2
   go_ret
   exact ⟨by rw [hd.out]; rfl, hb.alloc hbw _⟩
  ·have h10' : (10 : Int) ≤ (m : Int) := by omega
   rcases f with _ | f
   ·exact absurd hmf.out (by omega)
   have hd : Hid (decF 20 n = decF (f + 1) (m / 10) ++ (⟨#[b]⟩ ++ t)) := Lib.hid (dec_step hmn.out HB.out h10)
   have hsz : Hid ((⟨#[b]⟩ ++ t : ByteArray).size + f ≤ 40) := Lib.hid (by
    rw [ByteArray.size_append]
    have e1 : (⟨#[b]⟩ : ByteArray).size = 1 := rfl
    omega)
   have hmf2 : Hid (m / 10 < 10 ^ (f + 1)) := Lib.hid (by have := hmf.out; rw [Nat.pow_succ] at this; omega)
   obtain ⟨q, hq⟩ : ∃ q, m / 10 = q := ⟨_, rfl⟩
   have hz : ((m : Int) / 10) = (q : Int) := by omega
   have hq1 : q < 1000000000000000000 := by omega
   rw [hq] at hd hmf2
   have HZ := Lib.hid (show 10 * q ≤ m ∧ q < m by omega)
   clear hq h10
   go_wp2
   go_roundw
   case rel => exact ⟨hb.alloc hbw _, q, f, _, by go_num, hq1, hd, hmf2, hsz.out, rfl⟩
   case measure => have := HZ.out; simp [intOf]; omega
theorem badB_cases (o : Int) (p : Int × Int) : (badB o p = true ∧ p.1 < 0) ∨ (badB o p = true ∧ ¬ p.1 < 0 ∧ o ≤ p.1) ∨ (badB o p = true ∧ ¬ p.1 < 0 ∧ ¬ o ≤ p.1 ∧ p.2 < 0) ∨ (badB o p = true ∧ ¬ p.1 < 0 ∧ ¬ o ≤ p.1 ∧ ¬ p.2 < 0 ∧ o ≤ p.2) ∨ (badB o p = (p.1 == p.2) ∧ ¬ p.1 < 0 ∧ ¬ o ≤ p.1 ∧ ¬ p.2 < 0 ∧ ¬ o ≤ p.2) := by
 unfold badB rightB
 by_cases h1 : p.1 < 0
 ·exact .inl ⟨by simp; omega, h1⟩
 by_cases h2 : o ≤ p.1
 ·exact .inr (.inl ⟨by simp; omega, h1, h2⟩)
 by_cases h3 : p.2 < 0
 ·exact .inr (.inr (.inl ⟨by simp; omega, h1, h2, h3⟩))
 by_cases h4 : o ≤ p.2
 ·exact .inr (.inr (.inr (.inl ⟨by simp; omega, h1, h2, h3, h4⟩)))
 ·refine .inr (.inr (.inr (.inr ⟨?_, h1, h2, h3, h4⟩)))
  have e1 : decide (0 ≤ p.1) = true := decide_eq_true (by omega)
  have e2 : decide (p.1 < o) = true := decide_eq_true (by omega)
  have e3 : decide (0 ≤ p.2) = true := decide_eq_true (by omega)
  have e4 : decide (p.2 < o) = true := decide_eq_true (by omega)
  rw [e1, e2, e3, e4]
  rfl
theorem rul_ne {o : Int} {p : Int × Int} (h : badB o p = false) : p.1 ≠ p.2 := by
 unfold badB rightB at h
 simp at h
 omega
theorem any_step {X : Type} {p : X → Bool} {l : List X} {k : Nat} {x : X} (h : l[k]? = some x) : (l.take (k + 1)).any p = ((l.take k).any p || p x) := by
 rw [take_snoc'' h, List.any_append]
 simp
def eitherB (turned : Bool) (p q : Int × Int) : Bool := twoEq p q || (turned && (p.1 == q.2 && p.2 == q.1))
theorem either_loose : eitherB true = looseB := by
 funext p q
 rfl
theorem either_exact : eitherB false = twoEq := by
 funext p q
 simp [eitherB]
theorem either_cases (t : Bool) (p q : Int × Int) : (eitherB t p q = (t && (p.1 == q.2 && p.2 == q.1)) ∧ (q.1 == p.1) = false) ∨ (eitherB t p q = (t && (p.1 == q.2 && p.2 == q.1)) ∧ q.1 = p.1 ∧ (q.2 == p.2) = false) ∨ (eitherB t p q = true ∧ q.1 = p.1 ∧ q.2 = p.2) := by
 unfold eitherB twoEq
 by_cases h1 : q.1 = p.1
 ·by_cases h2 : q.2 = p.2
  ·exact .inr (.inr ⟨by simp [h1, h2], h1, h2⟩)
  ·refine .inr (.inl ⟨?_, h1, by simp [h2]⟩)
   have e : (p.2 == q.2) = false := by simp; exact fun e => h2 e.symm
   rw [e, Bool.and_false, Bool.false_or]
 ·refine .inl ⟨?_, by simp [h1]⟩
  have e : (p.1 == q.1) = false := by simp; exact fun e => h1 e.symm
  rw [e, Bool.false_and, Bool.false_or]
theorem cross_cases (p q : Int × Int) : ((p.1 == q.2 && p.2 == q.1) = false ∧ (q.1 == p.2) = false) ∨ ((p.1 == q.2 && p.2 == q.1) = false ∧ q.1 = p.2 ∧ (q.2 == p.1) = false) ∨ ((p.1 == q.2 && p.2 == q.1) = true ∧ q.1 = p.2 ∧ q.2 = p.1) := by
 by_cases h1 : q.1 = p.2
 ·by_cases h2 : q.2 = p.1
  ·exact .inr (.inr ⟨by simp [h1, h2], h1, h2⟩)
  ·refine .inr (.inl ⟨?_, h1, by simp [h2]⟩)
   simp
   intro h
   exact absurd h.symm h2
 ·refine .inl ⟨?_, by simp [h1]⟩
  simp
  intro _ h
  exact h1 h.symm
set_option maxRecDepth 20000 in
set_option maxHeartbeats 4000000 in
theorem rfaults_any (orders : Int) (word : ByteArray) (turned : Bool) (A0 : Option Addr) (d0 : Nat) (l : List (Int × Int)) (w : World) (hL : RowAt (rPair rInt rInt) w w.heap.size A0 l) (hl : l.length ≤ 10000000) (hws : word.size ≤ 1000) :
  Calls Tryz.prog 119 #[.int .i64 orders, .slice A0 l.length d0, .string word, .bool turned] w (FltsOut w (pairsTo orders word (eitherB turned) l l.length)) := by
 obtain ⟨n, hn⟩ : ∃ n, l.length = n := ⟨_, rfl⟩
 have HN := Lib.hid hn
 obtain ⟨F, hF⟩ : ∃ F, pairsTo orders word (eitherB turned) l = F := ⟨_, rfl⟩
 have HF := Lib.hid hF
 have hFl : ∀ j, (F j).length ≤ 1 + j := fun j => by rw [← hF]; exact pairsTo_len _ _ _ _ j
 have HF0 : Hid (F 0 = if n ≤ 16 then [] else [⟨4, word⟩]) := Lib.hid (by rw [← hF, ← hn]; rfl)
 rw [hn] at hl ⊢
 rw [hF]
 clear hn hF
 have B0 : Below w.heap.size w w := Below.refl _ _
 go_enter Tryz.func119, Tryz.ntmps119
 go_upto_region 2 with fail
 go_cut [18] (fun v wx => v = .bool (decide (16 < n)) ∧ w = wx)
 case first => as_aux_lemma =>
  have hE : decide ((16 : Int) < (n : Int)) = decide (16 < n) := by rw [Bool.eq_iff_iff]; simp; omega
  have HE := Lib.hid hE
  clear hE
  go_wp2
  go_meet
  exact ⟨by rw [HE.out], rfl⟩
 obtain ⟨h18, hwc⟩ := hcut
 subst h18
 subst hwc
 go_upto_if 18 with fail
 go_cut [9] (fun v wx => ∃ A c, v = .slice A (F 0).length c ∧ Fown wx w.heap.size A c (F 0) ∧ Below w.heap.size w wx)
 case first => as_aux_lemma =>
  cases h16 : decide (16 < n)
  ·have hE : Hid (F 0 = []) := Lib.hid (by rw [HF0.out, if_pos (by have := of_decide_eq_false h16; omega)])
   clear h16
   go_wp2
   go_meet
   exact ⟨none, 0, by rw [hE.out]; rfl, by rw [hE.out]; exact Fown.nil _ _, B0⟩
  ·have hE : Hid (F 0 = [] ++ [⟨4, word⟩]) := Lib.hid (by rw [HF0.out, if_neg (by have := of_decide_eq_true h16; omega)]; rfl)
   clear h16
   have HO := Lib.hid (Fown.nil w w.heap.size)
   go_wp2_with (at_builtin; refine zS rfl _ _ rfl w.heap.size none ([]) 0 rfl HO.out (⟨4, word⟩) (F 0) hE.out rfl (by first | omega | decide) (by omega) ?_; intro g3 c3 w3 hown3 hb3 hs3 hk3 hd3)
   go_meet
   exact ⟨_, _, rfl, hown3, hb3⟩
 obtain ⟨A, c, h3, hown, hB⟩ := hcut
 subst h3
 go_upto_region 5 with fail
 go_loopw [9, 10, 11, 12, 13, 14, 15] (fun v i _ _ _ _ _ wr => ∃ (j : Nat) (A : Option Addr) (c : Nat), j ≤ n ∧ i = .int .i64 j ∧ v = .slice A (F j).length c ∧ Fown wr w.heap.size A c (F j) ∧ Below w.heap.size w wr) (fun _ i _ _ _ _ _ _ => n - (intOf i).toNat)
 case atStart => exact ⟨0, A, c, by omega, rfl, rfl, hown, hB⟩
 case round =>
  clear hown hB
  obtain ⟨j, A, c, hj, rfl, rfl, hown, hB⟩ := hrel
  have hz := hB.size
  by_cases hlt : j < n
  ·obtain ⟨p, hp⟩ : ∃ p, l[j]? = some p := ⟨_, List.getElem?_eq_getElem (by rw [HN.out]; exact hlt)⟩
   obtain ⟨ad, hA0, hadb, ⟨m0, m1⟩, hpf1, hpf2⟩ := row_Two (hL.below hB) hp
   subst hA0
   have hj0 : (0 : Int) ≤ (j : Int) := by omega
   have hjn : (j : Int) < (n : Int) := by omega
   have hjd : j < 1000000000000000000 := by omega
   have hFj := hFl j
   have hds := decS_size j
   have hsz : (word ++ ⟨#[32]⟩ : ByteArray).size ≤ 1001 := by rw [ByteArray.size_append]; exact Nat.add_le_add_right hws 1
   have HP : Hid (F (j + 1) = F j ++ pairP orders word (eitherB turned) l j p) := Lib.hid (by rw [← HF.out, pairsTo_succ hp])
   have HLS := Lib.hid hp
   have HO := Lib.hid hown
   have HPF := Lib.hid (And.intro hpf1 hpf2)
   obtain ⟨p1, hp1⟩ : ∃ x, p.1 = x := ⟨_, rfl⟩
   obtain ⟨p2, hp2⟩ : ∃ x, p.2 = x := ⟨_, rfl⟩
   have hbc := badB_cases orders p
   have HPP := Lib.hid (And.intro hp1 hp2)
   rw [hp1, hp2] at hbc
   rw [hp1] at m0
   rw [hp2] at m1
   clear hp hown hpf1 hpf2 hp1 hp2
   go_upto_region 10 with (go_at_call 173; refine (rdec_any j hjd _).mono ?_; rintro e w1 ⟨rfl, hb1⟩)
   have hB1 : Below w.heap.size w w1 := hB.trans (hb1.mono hz)
   have z1 := hB1.size
   have HO1 := Lib.hid (HO.out.below hb1)
   clear HO hB m0 m1
   obtain ⟨bad, hbad⟩ : ∃ q, badB orders p = q := ⟨_, rfl⟩
   rw [hbad] at hbc
   have HBAD := Lib.hid hbad
   clear hbad
   go_cut [65] (fun v wx => v = .bool bad ∧ w1 = wx)
   case first => as_aux_lemma =>
    rcases hbc with ⟨e, g⟩ | ⟨e, g, g2⟩ | ⟨e, g, g2, g3⟩ | ⟨e, g, g2, g3, g4⟩ | ⟨e, g, g2, g3, g4⟩
    case inr.inr.inr.inr =>
     have H := Lib.hid e
     have D := Lib.hid (And.intro (decide_eq_false (show ¬ p1 < 0 by omega)) (And.intro (decide_eq_false (show ¬ orders ≤ p1 by omega)) (And.intro (decide_eq_false (show ¬ p2 < 0 by omega)) (decide_eq_false (show ¬ orders ≤ p2 by omega)))))
     clear e
     go_wp2
     go_meet
     exact ⟨by rw [H.out, D.out.1, D.out.2.1, D.out.2.2.1, D.out.2.2.2]; rfl, rfl⟩
    all_goals
     have H := Lib.hid e
     clear e
     go_wp2
     go_meet
     exact ⟨by rw [H.out], rfl⟩
   obtain ⟨h65, hwc⟩ := hcut
   subst h65
   subst hwc
   clear hbc
   cases bad
   case true =>
    have hE : Hid (F (j + 1) = F j ++ [⟨2, atS word j⟩]) := Lib.hid (by rw [HP.out]; unfold pairP; rw [if_pos HBAD.out])
    go_wp2_with (at_builtin; refine zS rfl _ _ rfl w.heap.size A (F j) c rfl HO1.out (⟨2, atS word j⟩) (F (j + 1)) hE.out rfl (by first | omega | decide) (by omega) ?_; intro g3 c3 w3 hown3 hb3 hs3 hk3 hd3)
    go_roundw
    case rel => exact ⟨j + 1, _, _, by omega, by go_num, rfl, hown3, hB1.trans (hb3.mono (Nat.le_refl _))⟩
    case measure => simp [intOf]; omega
   case false =>
    obtain ⟨U, hU⟩ : ∃ U : Nat → Bool, (fun k => (l.take k).any (eitherB turned p)) = U := ⟨_, rfl⟩
    have HU0 : Hid (U 0 = false) := Lib.hid (by rw [← hU]; simp)
    have HUS : Hid (∀ (k : Nat) y, l[k]? = some y → U (k + 1) = (U k || eitherB turned p y)) := Lib.hid fun k y hy => by rw [← hU]; exact any_step hy
    have HP2 : Hid (F (j + 1) = F j ++ (if U j = true then [⟨6, atS word j⟩] else [])) := Lib.hid (by rw [HP.out]; unfold pairP; rw [HBAD.out, if_neg (by decide), ← hU])
    clear hU
    have hne : p1 ≠ p2 := by
     have h := (rul_ne HBAD.out)
     rw [HPP.out.1, HPP.out.2] at h
     exact h
    have hn1 : (p1 == p2) = false := by simp [hne]
    have hn2 : (p2 == p1) = false := by simp; exact fun e => hne e.symm
    have HNE := Lib.hid hne
    clear hne
    go_upto_region 14 with fail
    go_loop [14, 15] (fun t i => ∃ (k : Nat), k ≤ j ∧ i = .int .i64 k ∧ t = .bool (U k)) (fun _ i => j - (intOf i).toNat)
    case atStart => exact ⟨0, by omega, rfl, by rw [HU0.out]⟩
    case round =>
     obtain ⟨k, hk, rfl, rfl⟩ := hrel
     by_cases hkj : k < j
     ·obtain ⟨y, hy⟩ : ∃ y, l[k]? = some y := ⟨_, List.getElem?_eq_getElem (by rw [HN.out]; omega)⟩
      obtain ⟨ad2, hadeq, -, ⟨k0, k1⟩, -, -⟩ := row_Two (hL.below hB1) hy
      obtain rfl : ad = ad2 := Option.some.inj hadeq
      have hk0 : (0 : Int) ≤ (k : Int) := by omega
      have hk1 : (k : Int) < (n : Int) := by omega
      have hk2 : (k : Int) < (j : Int) := by omega
      have HST := Lib.hid (HUS.out k y hy)
      have hec := either_cases turned p y
      have hcc := cross_cases p y
      obtain ⟨q, hq⟩ : ∃ q, eitherB turned p y = q := ⟨_, rfl⟩
      obtain ⟨r, hr⟩ : ∃ r, (p.1 == y.2 && p.2 == y.1) = r := ⟨_, rfl⟩
      rw [hq] at hec
      rw [hr] at hec hcc
      rw [HPP.out.1, HPP.out.2] at hec hcc
      have HQ := Lib.hid hq
      clear hy hadeq hq hr
      cases hh : U k
      ·have HH := Lib.hid hh
       clear hh
       rcases hec with ⟨e, g⟩ | ⟨e, g, g2⟩ | ⟨e, g, g2⟩
       ·cases turned
        ·have H := Lib.hid e
         clear e hcc
         go_wp2
         go_round
         case rel => exact ⟨k + 1, by omega, by go_num, by rw [HST.out, HH.out, HQ.out, H.out]; rfl⟩
         case measure => simp [intOf]; omega
        ·rcases hcc with ⟨e2, g3⟩ | ⟨e2, g3, g4⟩ | ⟨e2, g3, g4⟩
         all_goals
          have H := Lib.hid (And.intro e e2)
          clear e e2
          go_wp2
          go_round
          case rel => exact ⟨k + 1, by omega, by go_num, by rw [HST.out, HH.out, HQ.out, H.out.1, H.out.2]; rfl⟩
          case measure => simp [intOf]; omega
       ·cases turned
        ·have H := Lib.hid e
         clear e hcc
         go_wp2
         go_round
         case rel => exact ⟨k + 1, by omega, by go_num, by rw [HST.out, HH.out, HQ.out, H.out]; rfl⟩
         case measure => simp [intOf]; omega
        ·have hrf : r = false := by
          rcases hcc with ⟨e2, -⟩ | ⟨e2, -, -⟩ | ⟨-, g3, -⟩
          ·exact e2
          ·exact e2
          ·exact absurd (g.symm.trans g3) HNE.out
         have H := Lib.hid (And.intro e hrf)
         clear e hrf hcc
         go_wp2
         go_round
         case rel => exact ⟨k + 1, by omega, by go_num, by rw [HST.out, HH.out, HQ.out, H.out.1, H.out.2]; rfl⟩
         case measure => simp [intOf]; omega
       ·have H := Lib.hid e
        clear e hcc
        go_wp2
        go_round
        case rel => exact ⟨k + 1, by omega, by go_num, by rw [HST.out, HH.out, HQ.out, H.out]; rfl⟩
        case measure => simp [intOf]; omega
      ·have HH := Lib.hid hh
       clear hh hec hcc
       go_wp2
       go_round
       case rel => exact ⟨k + 1, by omega, by go_num, by rw [HST.out, HH.out]; rfl⟩
       case measure => simp [intOf]; omega
     ·have hkj2 : j = k := by omega
      subst hkj2
      clear hkj
      cases hh : U j
      ·have hE : Hid (F (j + 1) = F j) := Lib.hid (by rw [HP2.out, hh]; simp)
       clear hh
       go_wp2
       go_roundw
       case rel => exact ⟨j + 1, A, c, by omega, by go_num, by rw [hE.out], by rw [hE.out]; exact HO1.out, hB1⟩
       case measure => simp [intOf]; omega
      ·have hE : Hid (F (j + 1) = F j ++ [⟨6, atS word j⟩]) := Lib.hid (by rw [HP2.out, hh]; rfl)
       clear hh
       go_wp2_with (at_builtin; refine zS rfl _ _ rfl w.heap.size A (F j) c rfl HO1.out (⟨6, atS word j⟩) (F (j + 1)) hE.out rfl (by first | omega | decide) (by omega) ?_; intro g3 c3 w3 hown3 hb3 hs3 hk3 hd3)
       go_roundw
       case rel => exact ⟨j + 1, _, _, by omega, by go_num, rfl, hown3, hB1.trans (hb3.mono (Nat.le_refl _))⟩
       case measure => simp [intOf]; omega
  ·have hjn : j = n := by omega
   subst hjn
   clear hlt
   go_wp2
   go_ret
   exact ⟨A, c, rfl, hown, hB⟩
end Go.Proofs.YtofabhenmplkoaaGreatDoor.rrul

/- The reference's check of the rules. -/
namespace Go.Proofs.YtofabhenmplkoaaGreatDoor.rrul
open Go.RowKit
open lib rd typ app flts eqg txt note rul
set_option maxHeartbeats 1000000 in
theorem rrcheck_any (orders : Int) (A : Option Addr) (c : Nat) (a : List (Int × Int)) (A' : Option Addr) (c' : Nat) (b : List (Int × Int)) (w : World) (hA : RowAt (rPair rInt rInt) w w.heap.size A a) (hB : RowAt (rPair rInt rInt) w w.heap.size A' b) (ha : a.length ≤ 10000000) (hb : b.length ≤ 10000000) :
  Calls Tryz.prog 61 #[.int .i64 orders, .slice A a.length c, .slice A' b.length c'] w (FltsOut w (rulesF orders a b)) := by
 obtain ⟨E, hE⟩ : ∃ E, rulesF orders a b = E := ⟨_, rfl⟩
 obtain ⟨E1, hE1⟩ : ∃ E, pairsTo orders apartS looseB a a.length = E := ⟨_, rfl⟩
 obtain ⟨E2, hE2⟩ : ∃ E, pairsTo orders beforeS twoEq b b.length = E := ⟨_, rfl⟩
 have l1 : E1.length ≤ 10000001 := by rw [← hE1]; have := pairsTo_len orders apartS looseB a a.length; omega
 have l2 : E2.length ≤ 10000001 := by rw [← hE2]; have := pairsTo_len orders beforeS twoEq b b.length; omega
 have HE : Hid (E = E1 ++ E2) := Lib.hid (by rw [← hE, ← hE1, ← hE2]; rfl)
 have lE : E.length ≤ 1000000000 := by rw [HE.out, List.length_append]; omega
 have H1 : Hid (Calls Tryz.prog 119 #[.int .i64 orders, .slice A a.length c, .string ⟨#[97, 112, 97, 114, 116]⟩, .bool true] w (FltsOut w E1)) := Lib.hid (by rw [← hE1, ← either_loose]; exact rfaults_any orders apartS true A c a w hA ha (by decide))
 have H2 : Hid (∀ w', Below w.heap.size w w' → Calls Tryz.prog 119 #[.int .i64 orders, .slice A' b.length c', .string ⟨#[98, 101, 102, 111, 114, 101]⟩, .bool false] w' (FltsOut w' E2)) := Lib.hid (fun w' h => by rw [← hE2, ← either_exact]; exact rfaults_any orders beforeS false A' c' b w' ((hB.below h).more h.size) hb (by decide))
 rw [hE]
 clear hE hE1 hE2 hA hB ha hb
 go_enter Tryz.func61, Tryz.ntmps61
 go_wp2_with fail
 refine H1.out.mono ?_
 rintro e w1 ⟨A1, c1, rfl, hown1, hb1⟩
 have HO := Lib.hid hown1
 have z1 := hb1.size
 clear hown1
 go_wp2_with (first
  | (go_at_call 119; refine (H2.out _ hb1).mono ?_; rintro e w2 ⟨A2, c2, rfl, hown2, hb2⟩; have z2 := hb2.size; have HO2 := Lib.hid (And.intro (HO.out.below hb2) (Reads.of_own hown2)); clear hown2)
  | (at_builtin; refine wpList_appF rfl _ _ rfl w.heap.size A1 E1 c1 rfl HO2.out.1 A2 E2 c2 rfl HO2.out.2 E HE.out lE (by omega) ?_; intro A5 c5 w5 hown5 hb5))
 go_ret
 exact ⟨A5, c5, rfl, hown5, (hb1.trans (hb2.mono z1)).trans hb5⟩
end Go.Proofs.YtofabhenmplkoaaGreatDoor.rrul

/- The violations of types: Check of the reference. -/
namespace Go.Proofs.YtofabhenmplkoaaGreatDoor.flt
open Go.RowKit
open lib rd typ txt app
set_option maxRecDepth 20000 in
set_option maxHeartbeats 4000000 in
theorem rcheck_any (n : Net) (A0 : Option Addr) (d0 : Nat) (A1 : Option Addr) (d1 : Nat) (A : Option Addr) (c : Nat) (l : List Ty) (w : World) (hL : RowAt rTy w w.heap.size A l) (hl : l.length ≤ 10000000) (hn : n.places.length ≤ 17592186043904) :
  Calls Tryz.prog 58 #[.agg #[.slice A0 n.places.length d0, .slice A1 n.arcs.length d1], .slice A l.length c] w (FltsOut w (fltsTo ((n.places.length : Int) - 1) l l.length)) := by
 obtain ⟨m, hm⟩ : ∃ m, l.length = m := ⟨_, rfl⟩
 have hm20 : m ≤ 10000000 := by omega
 have HM := Lib.hid hm
 obtain ⟨F, hF⟩ : ∃ F, fltsTo ((n.places.length : Int) - 1) l = F := ⟨_, rfl⟩
 have HF := Lib.hid hF
 have hFl : ∀ j, (F j).length ≤ 1 + 9 * j := fun j => by rw [← hF]; exact fltsTo_len _ _ j
 have HF0 : Hid (F 0 = if inB (m : Int) 1 6 then [] else [⟨4, ⟨#[]⟩⟩]) := Lib.hid (by rw [← hF, ← hm]; rfl)
 rw [hm]
 have hcells : w.heap.size < w.heap.size + 1 := by omega
 clear hm hF hl
 go_enter Tryz.func58, Tryz.ntmps58
 go_upto_if 12 with (go_at_call 116; refine (in_any _ _ _ _).mono ?_; rintro e w1 ⟨rfl, rfl⟩)
 go_cut [5] (fun v wx => ∃ A' c', v = .slice A' (F 0).length c' ∧ Fown wx (w.heap.size + 1) A' c' (F 0) ∧ wx.cell? ⟨w.heap.size, 0, none⟩ = some (.slice A0 n.places.length d0) ∧ wx.cell? ⟨w.heap.size, 1, none⟩ = some (.slice A1 n.arcs.length d1) ∧ Below w.heap.size w wx ∧ w.heap.size + 1 ≤ wx.heap.size)
 case first =>
  obtain ⟨W1, hW1⟩ : ∃ W1, w.alloc (.cells #[.slice A0 n.places.length d0, .slice A1 n.arcs.length d1] 25) = W1 := ⟨_, rfl⟩
  have hc0 : W1.cell? ⟨w.heap.size, 0, none⟩ = some (.slice A0 n.places.length d0) := by rw [← hW1]; exact two_new w _ _ _ 0 _ rfl
  have hc1 : W1.cell? ⟨w.heap.size, 1, none⟩ = some (.slice A1 n.arcs.length d1) := by rw [← hW1]; exact two_new w _ _ _ 1 _ rfl
  have hs1 : W1.heap.size = w.heap.size + 1 := by rw [← hW1]; simp
  have hB1 : Below w.heap.size w W1 := by rw [← hW1]; exact (Below.refl _ _).alloc (Nat.le_refl _) _
  rw [hW1]
  clear hW1
  have HS := Lib.hid hs1
  clear hs1
  cases hq : inB (m : Int) 1 6
  ·have HE : Hid (F 0 = [⟨4, ⟨#[]⟩⟩]) := Lib.hid (by rw [HF0.out, hq]; rfl)
   clear hq
   go_wp2_with (at_builtin; refine zN fault_elem _ _ rfl (w.heap.size + 1) none 0 0 [] rfl ((World.ownsRow_nil _ _ _ _).alloc _) ⟨W1.heap.size, 0, none⟩ 1 [.int .i64 4, .string ⟨#[]⟩] rfl rfl (two_new _ _ _ _) (by simp [Value.oneCell']) (by omega) (by simp; have := HS.out; omega) rfl ?_; intro g1 c1 w2 hown1 hg1 hd1)
   go_meet
   refine ⟨_, _, by rw [HE.out]; rfl, by rw [HE.out]; exact hown1, ?_, ?_, ?_, ?_⟩
   ·exact hg1.cell ((World.cell?_alloc_lt W1 _ _ (show w.heap.size < W1.heap.size by have := HS.out; omega)).trans hc0) (by intro e; cases e)
   ·exact hg1.cell ((World.cell?_alloc_lt W1 _ _ (show w.heap.size < W1.heap.size by have := HS.out; omega)).trans hc1) (by intro e; cases e)
   ·exact (hB1.alloc (by have := HS.out; omega) _).grown hg1 (by simp; have := HS.out; omega) (fun q e => by cases e)
   ·have := hg1.size; have := HS.out; simp at *; omega
  ·have HE : Hid (F 0 = []) := Lib.hid (by rw [HF0.out, hq]; rfl)
   clear hq
   go_wp2
   go_meet
   exact ⟨none, 0, by rw [HE.out]; rfl, by rw [HE.out]; exact World.ownsRow_nil _ _ _ _, hc0, hc1, hB1, by have := HS.out; omega⟩
 obtain ⟨A', c', hv, hown, hc0, hc1, hB, hs⟩ := hcut
 subst hv
 go_upto_region 5 with fail
 go_loopw [5, 6] (fun v k wr => ∃ (j : Nat) (A' : Option Addr) (c' : Nat), j ≤ m ∧ k = .int .i64 j ∧ v = .slice A' (F j).length c' ∧ Fown wr (w.heap.size + 1) A' c' (F j) ∧ wr.cell? ⟨w.heap.size, 0, none⟩ = some (.slice A0 n.places.length d0) ∧ wr.cell? ⟨w.heap.size, 1, none⟩ = some (.slice A1 n.arcs.length d1) ∧ Below w.heap.size w wr ∧ w.heap.size + 1 ≤ wr.heap.size) (fun _ k _ => m - (intOf k).toNat)
 case atStart => exact ⟨0, A', c', by omega, rfl, rfl, hown, hc0, hc1, hB, hs⟩
 case round =>
  clear hown hc0 hc1 hB hs
  obtain ⟨j, A', c', hj, rfl, rfl, hown, hc0, hc1, hB, hs⟩ := hrel
  by_cases hlt : j < m
  ·have hjl : j < l.length := by rw [HM.out]; exact hlt
   obtain ⟨t, ht⟩ : ∃ t, l[j]? = some t := ⟨_, List.getElem?_eq_getElem hjl⟩
   have hLr : RowAt rTy wr wr.heap.size A l := (hL.below hB).more (by omega)
   have herr := rules_any n A0 d0 A1 d1 A c l j t wr hLr ht (by rw [HM.out]; omega) hn
   rw [HM.out] at herr
   obtain ⟨E, hE⟩ : ∃ E, errsL ((n.places.length : Int) - 1) l j t (dimsN l) = E := ⟨_, rfl⟩
   have hE9 : E.length ≤ 9 := by rw [← hE]; exact errsL_len _ _ _ _ _
   have HFS : Hid (F (j + 1) = F j ++ mkF j E) := Lib.hid (by
    rw [← HF.out]
    show fltsTo _ l j ++ fltsAt _ l j = _
    unfold fltsAt
    rw [ht]
    simp only [hE]
    rfl)
   have hFj := hFl j
   rw [hE] at herr
   have HK := Lib.hid (And.intro hLr herr)
   clear ht hE hLr herr hjl
   have hjn : j < 10000000 := by omega
   go_wp2_with (go_at_call 117; refine HK.out.2.mono ?_; rintro e w1 ⟨Ae, ce, rfl, hownE, hb1⟩)
   obtain ⟨gE, hgE1, hgE2, hgE3⟩ := row_place hownE
   have s1 := hb1.size
   have hown1 : Fown w1 (w.heap.size + 1) A' c' (F j) := own_below hown hb1
   have hne : (Value.slice A' (F j).length c').ownBlock ≠ some gE := by
    intro e
    have := (World.ownsRow.lt hown gE e).2
    omega
   have hc01 : w1.cell? ⟨w.heap.size, 0, none⟩ = some (.slice A0 n.places.length d0) := (hb1.cell (p := ⟨w.heap.size, 0, none⟩) (show w.heap.size < wr.heap.size by omega)).trans hc0
   have hc11 : w1.cell? ⟨w.heap.size, 1, none⟩ = some (.slice A1 n.arcs.length d1) := (hb1.cell (p := ⟨w.heap.size, 1, none⟩) (show w.heap.size < wr.heap.size by omega)).trans hc1
   have hB1 : Below w.heap.size w w1 := hB.trans (hb1.mono (by omega))
   have HNE := Lib.hid hne
   have HG3 := Lib.hid hgE3
   have HX := Lib.hid (And.intro hc0 (And.intro hc1 hown))
   clear hownE hne hgE3 hc0 hc1 hown
   go_loopw [5, 8] (fun v k wr2 => ∃ (q : Nat) (A2 : Option Addr) (c2 : Nat), q ≤ E.length ∧ k = .int .i64 q ∧ v = .slice A2 ((F j).length + q) c2 ∧ wr2.ownsRow (w.heap.size + 1) 118 2 (.slice A2 ((F j).length + q) c2) ((F j).length + q) (fcs (F j ++ mkF j (E.take q))) ∧ Hid ((Value.slice A2 ((F j).length + q) c2).ownBlock ≠ some gE) ∧
    Hid (∀ q, q < E.length → wr2.cell? ⟨gE, q, none⟩ = some (.int .i64 (E[q]?.getD 0))) ∧ Hid (wr2.cell? ⟨w.heap.size, 0, none⟩ = some (.slice A0 n.places.length d0) ∧ wr2.cell? ⟨w.heap.size, 1, none⟩ = some (.slice A1 n.arcs.length d1)) ∧ Below w.heap.size w wr2 ∧ w1.heap.size ≤ wr2.heap.size) (fun _ k _ => E.length - (intOf k).toNat)
   case atStart => exact ⟨0, A', c', by omega, rfl, rfl, by unfold Fown at hown1; simpa [mkF] using hown1, HNE, HG3, Lib.hid ⟨hc01, hc11⟩, hB1, Nat.le_refl _⟩
   case round =>
    clear hown1 HNE HG3 hc01 hc11
    obtain ⟨q, A2, c2, hq, rfl, rfl, hown2, hne2, hcs2, hnet2, hB2, hs2⟩ := hrel
    by_cases hlq : q < E.length
    ·obtain ⟨rfl, hgw⟩ := hgE2 (by omega)
     obtain ⟨x, hx⟩ : ∃ x, E[q]? = some x := ⟨_, List.getElem?_eq_getElem hlq⟩
     have hcx : wr.cell? ⟨gE, q, none⟩ = some (.int .i64 x) := by have := hcs2.out q hlq; rw [hx] at this; exact this
     have hq0 : (0 : Int) ≤ (q : Int) := by omega
     have hqn : (q : Int) < (E.length : Int) := by omega
     have HT := Lib.hid (mkF_take (i := j) hx)
     clear hx hgE2
     have HW := Lib.hid hs2
     have hjn2 : j < 1000000000000000000 := by omega
     go_wp2
     (refine wp_region_held_drew (S := (fun w' => w'.cell? ⟨gE, q, none⟩ = some (.int .i64 x))) (by kernel_rfl) ?_ (fun hHeld => ?_))
     ·exact hcx
     (refine lib.tk 0 ?_ rfl (by kernel_rfl) (fun _ _ _ h => h) ?_ (by assumption) ?_; rotate_left; (focus (intro w hSw; (try dsimp only at hSw); go_simp; all_goals with_reducible rfl)); (try simp only [lib.hly]))
     (refine lib.tk 1 ?_ rfl (by kernel_rfl) (fun _ _ _ h => h) ?_ (by assumption) ?_; rotate_left; (focus (intro w hSw; (try dsimp only at hSw); go_simp; all_goals with_reducible rfl)); (try simp only [lib.hly]))
     (refine lib.tk 2 ?_ rfl (by kernel_rfl) (fun _ _ _ h => h) ?_ (by assumption) ?_; rotate_left; (focus (intro w hSw; (try dsimp only at hSw); go_simp; all_goals with_reducible rfl)); (try simp only [lib.hly]))
     (refine lib.tk 3 ?_ rfl (by kernel_rfl) (fun _ _ _ h => h) ?_ (by assumption) ?_; rotate_left; (focus (intro w hSw; (try dsimp only at hSw); go_simp; all_goals with_reducible rfl)); (try simp only [lib.hly]))
     (refine lib.tk 4 ?_ rfl (by kernel_rfl) (fun _ _ _ h => h) ?_ (by assumption) ?_; rotate_left; (focus (intro w hSw; (try dsimp only at hSw); go_simp; all_goals with_reducible rfl)); (try simp only [lib.hly]))
     (refine lib.tk 5 ?_ rfl (by kernel_rfl) (fun _ _ _ h => h) ?_ (by assumption) ?_; rotate_left; (focus (intro w hSw; (try dsimp only at hSw); go_simp; all_goals with_reducible rfl)); (try simp only [lib.hly]))
     (refine wpAnyH_ready (rs := [6]) (by kernel_rfl) (by simp) ?_; refine AllReadyH.cons rfl (fun K hK => ?_) AllReadyH.nil; go_simp)
     go_at_call 43
     refine (rdec_any j hjn2 _).mono ?_
     rintro e w3 ⟨rfl, hb3d⟩
     have hb3 : Below wr.heap.size wr w3 := ((Below.refl _ _).drew).trans (hb3d.mono (by simp))
     have s3 := hb3.size
     have hcx3 : w3.cell? ⟨gE, q, none⟩ = some (.int .i64 x) := (hb3.cell (p := ⟨gE, q, none⟩) (show gE < wr.heap.size by have := HW.out; omega)).trans hcx
     (refine hK.out _ _ ?_ (fun hHeld => ?_))
     ·exact hcx3
     clear hK K
     (try simp only [lib.hly])
     (refine lib.tk 7 ?_ rfl (by kernel_rfl) (fun _ _ _ h => h) ?_ (by assumption) ?_; rotate_left; (focus (intro w hSw; (try dsimp only at hSw); go_simp; all_goals with_reducible rfl)); (try simp only [lib.hly]))
     (refine wpAnyH_ready (rs := [8]) (by kernel_rfl) (by simp) ?_; refine AllReadyH.cons rfl (fun K hK => ?_) AllReadyH.nil; go_simp)
     have hcx4 : (w3.alloc (.cells #[.int .i64 x, .string (decS j)] 118)).cell? ⟨gE, q, none⟩ = some (.int .i64 x) := (World.cell?_alloc_lt w3 _ _ (show gE < w3.heap.size by have := HW.out; omega)).trans hcx3
     (refine hK.out _ _ ?_ (fun hHeld => ?_))
     ·exact hcx4
     clear hK K
     (try simp only [lib.hly])
     (refine wpAnyH_ready (rs := [9]) (by kernel_rfl) (by simp) ?_; refine AllReadyH.cons rfl (fun K hK => ?_) AllReadyH.nil)
     refine step_app fault_elem _ _ rfl (w.heap.size + 1) A2 ((F j).length + q) c2 (fcs (F j ++ mkF j (E.take q))) rfl ((own_below hown2 hb3).alloc _) ⟨w3.heap.size, 0, none⟩ 1 [.int .i64 x, .string (decS j)] rfl rfl (two_new _ _ _ _) (by simp [Value.oneCell']) (by omega) (by simp; have := HW.out; omega) rfl ?_
     intro g3 c3 w5 hown3 hg3 hd3
     (refine hK.out _ _ ?_ (fun hHeld => ?_))
     ·exact hg3.cell hcx4 (by intro e; exact hne2.out e.symm)
     clear hK K
     (try simp only [lib.hly])
     (refine lib.tk 10 ?_ rfl (by kernel_rfl) (fun _ _ _ h => h) ?_ (by assumption) ?_; rotate_left; (focus (intro w hSw; (try dsimp only at hSw); go_simp; all_goals with_reducible rfl)); (try simp only [lib.hly]))
     (refine wpAnyH_done (by kernel_rfl) ?_ _)
     go_wp2
     go_roundw
     case rel =>
      refine ⟨q + 1, some ⟨g3, 0, none⟩, c3, by omega, by go_num, rfl, ?_, Lib.hid ?_, Lib.hid ?_, Lib.hid ⟨?_, ?_⟩, ?_, ?_⟩
      ·rw [HT.out, ← List.append_assoc, fcs_snoc]; exact hown3
      ·rcases hd3 with h | h
       ·intro e; rw [show (Value.slice (some ⟨g3, 0, none⟩) ((F j).length + (q + 1)) c3).ownBlock = some g3 from rfl, ← h] at e; exact hne2.out e
       ·intro e; rw [show (Value.slice (some ⟨g3, 0, none⟩) ((F j).length + (q + 1)) c3).ownBlock = some g3 from rfl] at e; injection e with e; simp at h; have := HW.out; omega
      ·intro q' hq'
       exact hg3.cell ((World.cell?_alloc_lt w3 _ _ (show gE < w3.heap.size by have := HW.out; omega)).trans ((hb3.cell (p := ⟨gE, q', none⟩) (show gE < wr.heap.size by have := HW.out; omega)).trans (hcs2.out q' hq'))) (by intro e; exact hne2.out e.symm)
      ·exact hg3.cell ((World.cell?_alloc_lt w3 _ _ (show w.heap.size < w3.heap.size by have := HW.out; omega)).trans ((hb3.cell (p := ⟨w.heap.size, 0, none⟩) (show w.heap.size < wr.heap.size by have := HW.out; omega)).trans hnet2.out.1)) (by intro e; have := (World.ownsRow.lt hown2 _ e.symm).1; simp at this; omega)
      ·exact hg3.cell ((World.cell?_alloc_lt w3 _ _ (show w.heap.size < w3.heap.size by have := HW.out; omega)).trans ((hb3.cell (p := ⟨w.heap.size, 1, none⟩) (show w.heap.size < wr.heap.size by have := HW.out; omega)).trans hnet2.out.2)) (by intro e; have := (World.ownsRow.lt hown2 _ e.symm).1; simp at this; omega)
      ·exact ((hB2.trans (hb3.mono (by have := HW.out; omega))).alloc (by have := HW.out; omega) _).grown hg3 (by simp; have := HW.out; omega) (fun q' e => by have := (World.ownsRow.lt hown2 _ e).1; omega)
      ·have := hg3.size; have := HW.out; simp at *; omega
     case measure => simp [intOf]; omega
    ·have hqE : q = E.length := by omega
     subst hqE
     go_wp2
     go_roundw
     case rel => exact ⟨j + 1, A2, c2, by omega, by go_num, by rw [HFS.out, List.length_append]; simp [mkF], by unfold Fown; rw [HFS.out, List.length_append]; simpa [mkF] using hown2, hnet2.out.1, hnet2.out.2, hB2, by omega⟩
     case measure => simp [intOf]; omega
  ·have hjm : j = m := by omega
   subst hjm
   go_wp2
   go_ret
   rw [HF.out]
   unfold Fown at hown
   exact ⟨A', c', rfl, zY hown (by omega), hB⟩
end Go.Proofs.YtofabhenmplkoaaGreatDoor.flt

/- The reference's under. -/
namespace Go.Proofs.YtofabhenmplkoaaGreatDoor.und
open Go.RowKit
open lib rd typ app flts note
set_option maxRecDepth 20000 in
set_option maxHeartbeats 4000000 in
theorem runder_any (word : ByteArray) (A0 : Option Addr) (d0 : Nat) (fs : List Flt) (w : World) (hL : RowAt rFlt w w.heap.size A0 fs) (hl : fs.length ≤ 500000000) (hws : word.size ≤ 1000000) (hfs : ∀ f ∈ fs, f.at_.size ≤ 1000000) :
  Calls Tryz.prog 56 #[.string word, .slice A0 fs.length d0] w (FltsOut w (undL word fs)) := by
 obtain ⟨n, hn⟩ : ∃ n, fs.length = n := ⟨_, rfl⟩
 have HN := Lib.hid hn
 obtain ⟨U, hU⟩ : ∃ U : Nat → List Flt, (fun k => undL word (fs.take k)) = U := ⟨_, rfl⟩
 have hUl : ∀ k, k ≤ n → (U k).length ≤ k := fun k hk => by
  rw [← hU]
  show (undL word (fs.take k)).length ≤ k
  unfold undL
  rw [List.length_map, List.length_take]
  omega
 have HU0 : Hid (U 0 = []) := Lib.hid (by rw [← hU]; rfl)
 have HUS : Hid (∀ (k : Nat) f, fs[k]? = some f → U (k + 1) = U k ++ [undP word f]) := Lib.hid fun k f hf => by rw [← hU]; exact undL_take hf
 have HUT : Hid (undL word fs = U n) := Lib.hid (by rw [← hU, ← hn]; show _ = undL word (fs.take fs.length); rw [List.take_length])
 have HFS := Lib.hid hfs
 rw [hn] at hl ⊢
 clear hn hU hfs
 have B0 : Below w.heap.size w w := Below.refl _ _
 go_enter Tryz.func56, Tryz.ntmps56
 go_upto_region 3 with fail
 go_loopw [5, 6, 7] (fun v i _ wr => ∃ (j : Nat) (A : Option Addr) (c : Nat), j ≤ n ∧ i = .int .i64 j ∧ v = .slice A (U j).length c ∧ Fown wr w.heap.size A c (U j) ∧ Below w.heap.size w wr) (fun _ i _ _ => n - (intOf i).toNat)
 case atStart => exact ⟨0, none, 0, by omega, rfl, by rw [HU0.out]; rfl, by rw [HU0.out]; exact Fown.nil _ _, B0⟩
 case round =>
  obtain ⟨j, A, c, hj, rfl, rfl, hown, hB⟩ := hrel
  have hz := hB.size
  by_cases hlt : j < n
  ·obtain ⟨f, hf⟩ : ∃ f, fs[j]? = some f := ⟨_, List.getElem?_eq_getElem (by rw [HN.out]; exact hlt)⟩
   obtain ⟨ad, rfl, hadb, ⟨m0, m1⟩, hff⟩ := row_Flt (hL.below hB) hf
   have hj0 : (0 : Int) ≤ (j : Int) := by omega
   have hjn : (j : Int) < (n : Int) := by omega
   have hUj := hUl j hj
   have hfsz := HFS.out f (List.mem_of_getElem? hf)
   have hwsz : (word ++ ⟨#[32]⟩ : ByteArray).size ≤ 1000001 := by rw [ByteArray.size_append]; exact Nat.add_le_add_right hws 1
   have HS := Lib.hid (HUS.out j f hf)
   have HO := Lib.hid hown
   clear hf hown
   obtain ⟨q, hq⟩ : ∃ q, f.at_.toList.isEmpty = q := ⟨_, rfl⟩
   have HQ := Lib.hid hq
   clear hq
   cases q
   ·have hE : Hid (U (j + 1) = U j ++ [⟨f.err, word ++ ⟨#[32]⟩ ++ f.at_⟩]) := Lib.hid (by rw [HS.out]; unfold undP; rw [HQ.out, if_neg (by decide), ByteArray.append_assoc])
    have hq := HQ.out
    go_wp2_with (at_builtin; refine zS rfl _ _ rfl w.heap.size A (U j) c rfl HO.out (⟨f.err, word ++ ⟨#[32]⟩ ++ f.at_⟩) (U (j + 1)) hE.out rfl (by first | omega | decide) (by omega) ?_; intro g3 c3 w3 hown3 hb3 hs3 hk3 hd3)
    go_roundw
    case rel => exact ⟨j + 1, _, _, by omega, by go_num, rfl, hown3, hB.trans (hb3.mono (Nat.le_refl _))⟩
    case measure => simp [intOf]; omega
   ·have hE : Hid (U (j + 1) = U j ++ [⟨f.err, word⟩]) := Lib.hid (by rw [HS.out]; unfold undP; rw [HQ.out, if_pos rfl])
    have hq := HQ.out
    go_wp2_with (at_builtin; refine zS rfl _ _ rfl w.heap.size A (U j) c rfl HO.out (⟨f.err, word⟩) (U (j + 1)) hE.out rfl (by first | omega | decide) (by omega) ?_; intro g3 c3 w3 hown3 hb3 hs3 hk3 hd3)
    go_roundw
    case rel => exact ⟨j + 1, _, _, by omega, by go_num, rfl, hown3, hB.trans (hb3.mono (Nat.le_refl _))⟩
    case measure => simp [intOf]; omega
  ·have hjn : j = n := by omega
   subst hjn
   clear hlt
   go_wp2
   go_ret
   rw [HUT.out]
   exact ⟨A, c, rfl, hown, hB⟩
end Go.Proofs.YtofabhenmplkoaaGreatDoor.und

/- The reference's check of an instance. -/
namespace Go.Proofs.YtofabhenmplkoaaGreatDoor.ins
open Go.RowKit
open lib rd typ app flts note txt und cat rul net
structure RLim (x : Ins) : Prop where
 places : x.net.places.length ≤ 10000000
 points : ∀ a ∈ x.net.arcs, a.travel.length ≤ 10000000 ∧ a.slow.length ≤ 10000000
 net : (insN x).length ≤ 400000000
 types : x.types.length ≤ 10000000
 orders : x.orders.length ≤ 10000000
 apart : x.apart.length ≤ 10000000
 before : x.before.length ≤ 10000000
theorem runder_of (word : ByteArray) (A : Option Addr) (c : Nat) (fs : List Flt) (w : World) (base : Nat) (h : Fown w base A c fs) (hok : OkF fs) (hl : fs.length ≤ 500000000) (hws : word.size ≤ 1000000) :
  Calls Tryz.prog 56 #[.string word, .slice A fs.length c] w (FltsOut w (undL word fs)) :=
 runder_any word A c fs w (flts_row h hok.fits (by omega)) hl hws (fun f hf => Nat.le_trans (hok f hf).2 (by decide))
set_option maxRecDepth 100000 in
set_option maxHeartbeats 8000000 in
theorem richeck_any (x : Ins) (Q : InP) (w : World) (h : InAt w w.heap.size x Q) (hl : RLim x) : Calls Tryz.prog 20 #[InV x Q] w (FltsOut w (insF x)) := by
 obtain ⟨A0, c0, A1, c1, A2, c2, A3, c3, A4, c4, A5, c5⟩ := Q
 obtain ⟨E, hE⟩ : ∃ E, insF x = E := ⟨_, rfl⟩
 obtain ⟨E1, hE1⟩ : ∃ E, insN x = E := ⟨_, rfl⟩
 obtain ⟨E2, hE2⟩ : ∃ E, insT x = E := ⟨_, rfl⟩
 obtain ⟨E3, hE3⟩ : ∃ E, insO x = E := ⟨_, rfl⟩
 obtain ⟨E4, hE4⟩ : ∃ E, insR x = E := ⟨_, rfl⟩
 have o1 : OkF E1 := by rw [← hE1]; exact netTo_ok _ _
 have o2 : OkF E2 := by rw [← hE2]; exact fltsTo_ok _ _ _
 have o3 : OkF E3 := by rw [← hE3]; exact ofltsTo_ok _ _ _ _ _
 have o4 : OkF E4 := by rw [← hE4]; exact rulesF_ok _ _ _
 have l1 : E1.length ≤ 400000000 := by rw [← hE1]; exact hl.net
 have l2 : E2.length ≤ 90000001 := by
  rw [← hE2]
  have := flt.fltsTo_len ((x.net.places.length : Int) - 1) x.types x.types.length
  have := hl.types
  unfold insT
  omega
 have l3 : E3.length ≤ 80000001 := by
  rw [← hE3]
  have := ord.ofltsTo_len ((x.net.places.length : Int) - 1) (flt.dimsN x.types) x.types.length x.orders x.orders.length
  have := hl.orders
  unfold insO
  omega
 have l4 : E4.length ≤ 20000002 := by
  rw [← hE4]
  have := pairsTo_len x.orders.length apartS looseB x.apart x.apart.length
  have := pairsTo_len x.orders.length beforeS eqg.twoEq x.before x.before.length
  have := hl.apart
  have := hl.before
  unfold insR rulesF
  rw [List.length_append]
  omega
 obtain ⟨L1, hL1⟩ : ∃ L, undL netS E1 = L := ⟨_, rfl⟩
 obtain ⟨L2, hL2⟩ : ∃ L, L1 ++ undL typesS E2 = L := ⟨_, rfl⟩
 obtain ⟨L3, hL3⟩ : ∃ L, L2 ++ undL ordersS E3 = L := ⟨_, rfl⟩
 obtain ⟨L4, hL4⟩ : ∃ L, L3 ++ undL rulesS E4 = L := ⟨_, rfl⟩
 have HE : Hid (E = L4) := Lib.hid (by
  rw [← hL4, ← hL3, ← hL2, ← hL1, ← hE, ← hE1, ← hE2, ← hE3, ← hE4]
  have e : insF x = undL netS (insN x) ++ (undL typesS (insT x) ++ (undL ordersS (insO x) ++ (undL rulesS (insR x) ++ []))) := rfl
  rw [e]
  simp)
 have m1 : L1.length ≤ 400000000 := by rw [← hL1, undL_len]; exact l1
 have m2 : L2.length ≤ 490000001 := by rw [← hL2, List.length_append, undL_len]; omega
 have m3 : L3.length ≤ 570000002 := by rw [← hL3, List.length_append, undL_len]; omega
 have m4 : L4.length ≤ 590000004 := by rw [← hL4, List.length_append, undL_len]; omega
 have HL := Lib.hid (And.intro hL1.symm (And.intro hL2.symm (And.intro hL3.symm hL4.symm)))
 clear hL1 hL2 hL3 hL4
 have k1 : ∀ w', InAt w' w'.heap.size x ⟨A0, c0, A1, c1, A2, c2, A3, c3, A4, c4, A5, c5⟩ → Calls Tryz.prog 57 #[.agg #[.slice A0 x.net.places.length c0, .slice A1 x.net.arcs.length c1]] w' (FltsOut w' E1) := fun w' hi => by
  rw [← hE1]
  exact rnet.rncheck_any x.net A0 c0 A1 c1 w' hi.places hi.arcs hl.places hl.points hl.net
 have k2 : ∀ w', InAt w' w'.heap.size x ⟨A0, c0, A1, c1, A2, c2, A3, c3, A4, c4, A5, c5⟩ → Calls Tryz.prog 58 #[.agg #[.slice A0 x.net.places.length c0, .slice A1 x.net.arcs.length c1], .slice A2 x.types.length c2] w' (flt.FltsOut w' E2) := fun w' hi => by
  rw [← hE2]
  exact flt.rcheck_any x.net A0 c0 A1 c1 A2 c2 x.types w' hi.types hl.types hi.places.len
 have k3 : ∀ w', InAt w' w'.heap.size x ⟨A0, c0, A1, c1, A2, c2, A3, c3, A4, c4, A5, c5⟩ → Calls Tryz.prog 59 #[.agg #[.slice A0 x.net.places.length c0, .slice A1 x.net.arcs.length c1], .int .i64 (flt.dimsN x.types), .int .i64 x.types.length, .slice A3 x.orders.length c3] w' (FltsOut w' E3) := fun w' hi => by
  rw [← hE3]
  exact rord.rocheck_any x.net.places.length A0 c0 A1 x.net.arcs.length c1 (flt.dimsN x.types) x.types.length A3 c3 x.orders w' hi.orders hl.orders hi.places.len
 have k4 : ∀ w', InAt w' w'.heap.size x ⟨A0, c0, A1, c1, A2, c2, A3, c3, A4, c4, A5, c5⟩ → Calls Tryz.prog 61 #[.int .i64 x.orders.length, .slice A4 x.apart.length c4, .slice A5 x.before.length c5] w' (FltsOut w' E4) := fun w' hi => by
  rw [← hE4]
  exact rrul.rrcheck_any x.orders.length A4 c4 x.apart A5 c5 x.before w' hi.apart hi.before hl.apart hl.before
 have kd : ∀ w', InAt w' w'.heap.size x ⟨A0, c0, A1, c1, A2, c2, A3, c3, A4, c4, A5, c5⟩ → Calls Tryz.prog 60 #[.slice A2 x.types.length c2] w' fun e w'' => e = .returned (.int .i64 (flt.dimsN x.types)) ∧ w' = w'' := fun w' hi => flt.rdims_any A2 c2 x.types w' _ hi.types
 obtain ⟨W0, hW0⟩ : ∃ W0, w.alloc (.cells #[.slice A0 x.net.places.length c0, .slice A1 x.net.arcs.length c1, .slice A2 x.types.length c2, .slice A3 x.orders.length c3, .slice A4 x.apart.length c4, .slice A5 x.before.length c5] 30) = W0 := ⟨_, rfl⟩
 have hB0 : Below w.heap.size w W0 := by rw [← hW0]; exact (Below.refl _ _).alloc (Nat.le_refl _) _
 have z0 := hB0.size
 have hs0 : w.heap.size < W0.heap.size := by rw [← hW0]; simp
 have HI : Hid (∀ w', Below W0.heap.size W0 w' → InAt w' w'.heap.size x ⟨A0, c0, A1, c1, A2, c2, A3, c3, A4, c4, A5, c5⟩) := Lib.hid fun w' hb => (h.go hB0).go hb
 have HS : Hid (∀ w', Below W0.heap.size W0 w' → (w'.cell? ⟨w.heap.size, 0, none⟩ = some (.slice A0 x.net.places.length c0) ∧ w'.cell? ⟨w.heap.size, 1, none⟩ = some (.slice A1 x.net.arcs.length c1) ∧ w'.cell? ⟨w.heap.size, 2, none⟩ = some (.slice A2 x.types.length c2) ∧ w'.cell? ⟨w.heap.size, 3, none⟩ = some (.slice A3 x.orders.length c3) ∧ w'.cell? ⟨w.heap.size, 4, none⟩ = some (.slice A4 x.apart.length c4) ∧ w'.cell? ⟨w.heap.size, 5, none⟩ = some (.slice A5 x.before.length c5))) := Lib.hid fun w' hb => by
  have hk := fun (o : Nat) => hb.cell (p := ⟨w.heap.size, o, none⟩) hs0
  refine ⟨(hk _).trans ?_, (hk _).trans ?_, (hk _).trans ?_, (hk _).trans ?_, (hk _).trans ?_, (hk _).trans ?_⟩
  all_goals (rw [← hW0]; simp)
 have B0 : Below W0.heap.size W0 W0 := Below.refl _ _
 have HW0 := Lib.hid hW0
 have HK := Lib.hid (And.intro k1 (And.intro k2 (And.intro k3 (And.intro k4 kd))))
 have HEE := Lib.hid hE
 clear hE hE1 hE2 hE3 hE4 hW0 h hl k1 k2 k3 k4 kd
 simp only [InV]
 go_enter Tryz.func20, Tryz.ntmps20
 go_upto_region 1 with fail
 rw [HW0.out]
 go_cut [3] (fun v wx => ∃ A c, v = .slice A (L1).length c ∧ Fown wx W0.heap.size A c (L1) ∧ Below W0.heap.size W0 wx)
 case first => as_aux_lemma =>
  obtain ⟨x0, x1, x2, x3, x4, x5⟩ := HS.out _ (B0)
  go_wp2_with (first
   | (go_at_call 57; refine (HK.out.1 _ (HI.out _ B0)).mono ?_; rintro e w1 ⟨AF, cF, rfl, ownF, bw1⟩; have zw1 := bw1.size; have HOF := Lib.hid ownF; clear ownF)
   | (go_at_call 56; refine (runder_of netS _ _ E1 _ _ HOF.out o1 (by omega) (by decide)).mono ?_; rintro e w2 ⟨AU, cU, rfl, ownU, bw2⟩; have zw2 := bw2.size; have HOU := Lib.hid ownU; clear ownU))
  go_meet
  exact ⟨AU, cU, by rw [HL.out.1], by rw [HL.out.1]; exact zY HOU.out zw1, bw1.trans (bw2.mono zw1)⟩
 obtain ⟨A, c, h3, hown, hB⟩ := hcut
 subst h3
 have HO := Lib.hid hown
 have hz := hB.size
 clear hown
 go_upto_region 2 with fail
 go_cut [3] (fun v wx => ∃ A c, v = .slice A (L2).length c ∧ Fown wx W0.heap.size A c (L2) ∧ Below W0.heap.size W0 wx)
 case first => as_aux_lemma =>
  obtain ⟨x0, x1, x2, x3, x4, x5⟩ := HS.out _ (hB)
  go_wp2_with (first
   | (go_at_call 58; refine (HK.out.2.1 _ (HI.out _ hB)).mono ?_; rintro e w1 ⟨AF, cF, rfl, ownF, bw1⟩; have zw1 := bw1.size; have HOF := Lib.hid ownF; have HO1 := Lib.hid (HO.out.below bw1); clear ownF)
   | (go_at_call 56; refine (runder_of typesS _ _ E2 _ _ HOF.out o2 (by omega) (by decide)).mono ?_; rintro e w2 ⟨AU, cU, rfl, ownU, bw2⟩; have zw2 := bw2.size; have HOU := Lib.hid ownU; clear ownU)
   | (at_builtin; refine wpList_appF rfl _ _ rfl W0.heap.size A L1 c rfl (HO1.out.below bw2) AU (undL typesS E2) cU rfl (Reads.of_own HOU.out) L2 HL.out.2.1 (by omega) (by omega) ?_; intro A5 c5 w5 hown5 hb5))
  go_meet
  exact ⟨A5, c5, rfl, hown5, (hB.trans ((bw1.trans (bw2.mono zw1)).mono hz)).trans hb5⟩
 clear HO hB hz
 obtain ⟨A, c, h3, hown, hB⟩ := hcut
 subst h3
 have HO := Lib.hid hown
 have hz := hB.size
 clear hown
 go_upto_region 3 with fail
 have hS : ∀ w', Below W0.heap.size W0 w' → (Below W0.heap.size W0 w' ∧ w'.cell? ⟨w.heap.size, 0, none⟩ = some (.slice A0 x.net.places.length c0) ∧ w'.cell? ⟨w.heap.size, 1, none⟩ = some (.slice A1 x.net.arcs.length c1) ∧ w'.cell? ⟨w.heap.size, 2, none⟩ = some (.slice A2 x.types.length c2) ∧ w'.cell? ⟨w.heap.size, 3, none⟩ = some (.slice A3 x.orders.length c3) ∧ w'.cell? ⟨w.heap.size, 4, none⟩ = some (.slice A4 x.apart.length c4) ∧ w'.cell? ⟨w.heap.size, 5, none⟩ = some (.slice A5 x.before.length c5)) := fun w' hb => ⟨hb, HS.out _ hb⟩
 go_cut [3] (fun v wx => ∃ A c, v = .slice A (L3).length c ∧ Fown wx W0.heap.size A c (L3) ∧ Below W0.heap.size W0 wx)
 case first => as_aux_lemma =>
  have hBd := hB.drew
  (refine wp_region_held_drew (S := (fun w' => Below W0.heap.size W0 w' ∧ w'.cell? ⟨w.heap.size, 0, none⟩ = some (.slice A0 x.net.places.length c0) ∧ w'.cell? ⟨w.heap.size, 1, none⟩ = some (.slice A1 x.net.arcs.length c1) ∧ w'.cell? ⟨w.heap.size, 2, none⟩ = some (.slice A2 x.types.length c2) ∧ w'.cell? ⟨w.heap.size, 3, none⟩ = some (.slice A3 x.orders.length c3) ∧ w'.cell? ⟨w.heap.size, 4, none⟩ = some (.slice A4 x.apart.length c4) ∧ w'.cell? ⟨w.heap.size, 5, none⟩ = some (.slice A5 x.before.length c5))) (by kernel_rfl) ?_ (fun hHeld => ?_))
  ·exact hS _ hBd
  (refine lib.tk 0 ?_ rfl (by kernel_rfl) (fun _ _ _ h => h) ?_ (by assumption) ?_; rotate_left; (focus (intro w hSw; (try dsimp only at hSw); go_simp; all_goals with_reducible rfl)); (try simp only [lib.hly]))
  (refine lib.tk 1 ?_ rfl (by kernel_rfl) (fun _ _ _ h => h) ?_ (by assumption) ?_; rotate_left; (focus (intro w hSw; (try dsimp only at hSw); go_simp; all_goals with_reducible rfl)); (try simp only [lib.hly]))
  (refine lib.tk 2 ?_ rfl (by kernel_rfl) (fun _ _ _ h => h) ?_ (by assumption) ?_; rotate_left; (focus (intro w hSw; (try dsimp only at hSw); go_simp; all_goals with_reducible rfl)); (try simp only [lib.hly]))
  (refine lib.tk 3 ?_ rfl (by kernel_rfl) (fun _ _ _ h => h) ?_ (by assumption) ?_; rotate_left; (focus (intro w hSw; (try dsimp only at hSw); go_simp; all_goals with_reducible rfl)); (try simp only [lib.hly]))
  (refine lib.tk 4 ?_ rfl (by kernel_rfl) (fun _ _ _ h => h) ?_ (by assumption) ?_; rotate_left; (focus (intro w hSw; (try dsimp only at hSw); go_simp; all_goals with_reducible rfl)); (try simp only [lib.hly]))
  (refine lib.tk 6 ?_ rfl (by kernel_rfl) (fun _ _ _ h => h) ?_ (by assumption) ?_; rotate_left; (focus (intro w hSw; (try dsimp only at hSw); go_simp; all_goals with_reducible rfl)); (try simp only [lib.hly]))
  (refine lib.tk 7 ?_ rfl (by kernel_rfl) (fun _ _ _ h => h) ?_ (by assumption) ?_; rotate_left; (focus (intro w hSw; (try dsimp only at hSw); go_simp; all_goals with_reducible rfl)); (try simp only [lib.hly]))
  (refine lib.tk 8 ?_ rfl (by kernel_rfl) (fun _ _ _ h => h) ?_ (by assumption) ?_; rotate_left; (focus (intro w hSw; (try dsimp only at hSw); go_simp; all_goals with_reducible rfl)); (try simp only [lib.hly]))
  (refine lib.tk 9 ?_ rfl (by kernel_rfl) (fun _ _ _ h => h) ?_ (by assumption) ?_; rotate_left; (focus (intro w hSw; (try dsimp only at hSw); go_simp; all_goals with_reducible rfl)); (try simp only [lib.hly]))
  (refine lib.tk 10 ?_ rfl (by kernel_rfl) (fun _ _ _ h => h) ?_ (by assumption) ?_; rotate_left; (focus (intro w hSw; (try dsimp only at hSw); go_simp; all_goals with_reducible rfl)); (try simp only [lib.hly]))
  (refine wpAnyH_ready (rs := [5]) (by kernel_rfl) (by simp) ?_; refine AllReadyH.cons rfl (fun K hK => ?_) AllReadyH.nil; go_simp)
  go_at_call 60
  refine (HK.out.2.2.2.2 _ (HI.out _ hBd)).mono ?_
  rintro e we ⟨rfl, rfl⟩
  (refine hK.out _ _ ?_ (fun hHeld => ?_))
  ·exact hS _ hBd
  clear hK K
  (try simp only [lib.hly])
  (refine wpAnyH_ready (rs := [11]) (by kernel_rfl) (by simp) ?_; refine AllReadyH.cons rfl (fun K hK => ?_) AllReadyH.nil; go_simp)
  go_at_call 59
  refine (HK.out.2.2.1 _ (HI.out _ hBd)).mono ?_
  rintro e w1 ⟨AF, cF, rfl, ownF, bw1⟩
  have hB1 : Below W0.heap.size W0 w1 := hBd.trans (bw1.mono hBd.size)
  have zw1 := hB1.size
  have HOF := Lib.hid ownF
  have HO1 := Lib.hid (HO.out.below ((Below.refl _ _).drew.trans (bw1.mono (by simp))))
  clear ownF
  (refine hK.out _ _ ?_ (fun hHeld => ?_))
  ·exact hS _ hB1
  clear hK K
  (try simp only [lib.hly])
  (refine wpAnyH_ready (rs := [12]) (by kernel_rfl) (by simp) ?_; refine AllReadyH.cons rfl (fun K hK => ?_) AllReadyH.nil; go_simp)
  go_at_call 56
  refine (runder_of ordersS _ _ E3 _ _ HOF.out o3 (by omega) (by decide)).mono ?_
  rintro e w2 ⟨AU, cU, rfl, ownU, bw2⟩
  have hB2 : Below W0.heap.size W0 w2 := hB1.trans (bw2.mono zw1)
  have zw2 := hB2.size
  have HOU := Lib.hid ownU
  have HO2 := Lib.hid (HO1.out.below bw2)
  clear ownU
  (refine hK.out _ _ ?_ (fun hHeld => ?_))
  ·exact hS _ hB2
  clear hK K
  (try simp only [lib.hly])
  (refine wpAnyH_ready (rs := [13]) (by kernel_rfl) (by simp) ?_; refine AllReadyH.cons rfl (fun K hK => ?_) AllReadyH.nil)
  refine step_appN fault_elem _ _ rfl W0.heap.size (.slice A L2.length c) L2.length (fcs L2) rfl HO2.out w2.heap.size AU (undL ordersS E3).length cU (fcs (undL ordersS E3)) rfl (Reads.of_own HOU.out) (fcs_ones _) (by rw [undL_len]; omega) (by omega) rfl ?_
  intro A5 c5 w5 hown5 hg5
  have hB5 : Below W0.heap.size W0 w5 := hB2.grown hg5 zw2 (fun q e => (World.ownsRow.lt HO2.out _ e).1)
  (refine hK.out _ _ ?_ (fun hHeld => ?_))
  ·exact hS _ hB5
  clear hK K
  (try simp only [lib.hly])
  (refine lib.tk 14 ?_ rfl (by kernel_rfl) (fun _ _ _ h => h) ?_ (by assumption) ?_; rotate_left; (focus (intro w hSw; (try dsimp only at hSw); go_simp; all_goals with_reducible rfl)); (try simp only [lib.hly]))
  (refine wpAnyH_done (by kernel_rfl) ?_ _)
  have hlen : L3.length = L2.length + (undL ordersS E3).length := by rw [HL.out.2.2.1, List.length_append]
  have HLEN := Lib.hid hlen
  have HO5 := Lib.hid hown5
  clear hlen hown5
  go_wp2
  go_meet
  exact ⟨A5, c5, by rw [HLEN.out], by unfold Fown; rw [HLEN.out, HL.out.2.2.1, fcs_app]; exact HO5.out, hB5⟩
 clear HO hB hz
 obtain ⟨A, c, h3, hown, hB⟩ := hcut
 subst h3
 have HO := Lib.hid hown
 have hz := hB.size
 clear hown hS
 obtain ⟨x0, x1, x2, x3, x4, x5⟩ := HS.out _ (hB)
 go_wp2_with (first
  | (go_at_call 61; refine (HK.out.2.2.2.1 _ (HI.out _ hB)).mono ?_; rintro e w1 ⟨AF, cF, rfl, ownF, bw1⟩; have zw1 := bw1.size; have HOF := Lib.hid ownF; have HO1 := Lib.hid (HO.out.below bw1); clear ownF)
  | (go_at_call 56; refine (runder_of rulesS _ _ E4 _ _ HOF.out o4 (by omega) (by decide)).mono ?_; rintro e w2 ⟨AU, cU, rfl, ownU, bw2⟩; have zw2 := bw2.size; have HOU := Lib.hid ownU; clear ownU)
  | (at_builtin; refine wpList_appF rfl _ _ rfl W0.heap.size A L3 c rfl (HO1.out.below bw2) AU (undL rulesS E4) cU rfl (Reads.of_own HOU.out) L4 HL.out.2.2.2 (by omega) (by omega) ?_; intro A6 c6 w5 hown5 hb5))
 go_ret
 rw [HEE.out, HE.out]
 exact ⟨A6, c6, rfl, zY hown5 z0, hB0.trans (((hB.trans ((bw1.trans (bw2.mono zw1)).mono hz)).trans hb5).mono z0)⟩
end Go.Proofs.YtofabhenmplkoaaGreatDoor.ins

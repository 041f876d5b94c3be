import Derived.Test.YthefooacfcagbaaGreatDoorRefA
import Derived.Test.YthefooacfcagbaaGreatDoorC2
import Derived.Deep.DeepCutAuto
import Derived.Deep.QuietTactic
import Derived.Deep.RegionHeld3
import Derived.BigQuiet
import Derived.IntWalk
import Derived.Test.YthefooacfcagbaaGreatDoorBase
/- The reference's check of an arc. -/
namespace Go.Proofs.YthefooacfcagbaaGreatDoor.rnet
open Go.RowKit
open lib rd typ app note mrk trv flts txt net win
set_option linter.unusedVariables false
set_option linter.unusedSimpArgs false
theorem rtick_any (t : Int) (w : World) : Calls Tryz.prog 135 #[.int .i64 t] w fun e w' => e = .returned (.bool (tickB t)) ∧ w = w' := by
 by_cases h : 0 ≤ t
 all_goals
  go_enter Tryz.func135, Tryz.ntmps135
  go_wp2
  go_ret
  exact ⟨lib.ret_bool (by unfold tickB; first | (simp [h]; done) | (simp; omega)), rfl⟩
def mkA (s : ByteArray) (xs : List Int) : List Flt := xs.map fun e => ⟨e, s⟩
theorem mkA_len (s : ByteArray) (xs : List Int) : (mkA s xs).length = xs.length := by unfold mkA; rw [List.length_map]
theorem mkA_snoc (s : ByteArray) (xs : List Int) (u : Int) : mkA s (xs ++ [u]) = mkA s xs ++ [⟨u, s⟩] := by unfold mkA; rw [List.map_append]; rfl
theorem mkA_push (s : ByteArray) (xs : List Int) (u : Int) : mkA s (pushIf xs false u) = mkA s xs ++ [⟨u, s⟩] := by unfold pushIf; rw [if_neg (by decide)]; exact mkA_snoc s xs u
theorem place_cases (n : Nat) (i : Int) : (placeB n i = false ∧ i < 0) ∨ (placeB n i = false ∧ ¬ i < 0 ∧ (n : Int) ≤ i) ∨ (placeB n i = true ∧ ¬ i < 0 ∧ ¬ (n : Int) ≤ i) := by
 unfold placeB
 by_cases h1 : i < 0
 ·exact .inl ⟨by simp; omega, h1⟩
 ·by_cases h2 : (n : Int) ≤ i
  ·exact .inr (.inl ⟨by simp; omega, h1, h2⟩)
  ·exact .inr (.inr ⟨by simp; omega, h1, h2⟩)
theorem arcBad_cases (x : Arc) : (arcBad x = true ∧ x.profile < 0) ∨ (arcBad x = true ∧ ¬ x.profile < 0 ∧ 7 < x.profile) ∨ (arcBad x = true ∧ ¬ x.profile < 0 ∧ ¬ 7 < x.profile ∧ x.miles < 0) ∨ (arcBad x = true ∧ ¬ x.profile < 0 ∧ ¬ 7 < x.profile ∧ ¬ x.miles < 0 ∧ 10000 < x.miles) ∨ (arcBad x = (x.frm == x.to) ∧ ¬ x.profile < 0 ∧ ¬ 7 < x.profile ∧ ¬ x.miles < 0 ∧ ¬ 10000 < x.miles) := by
 unfold arcBad
 by_cases h1 : x.profile < 0
 ·exact .inl ⟨by simp [h1], h1⟩
 by_cases h2 : 7 < x.profile
 ·exact .inr (.inl ⟨by simp [h2], h1, h2⟩)
 by_cases h3 : x.miles < 0
 ·exact .inr (.inr (.inl ⟨by simp [h3], h1, h2, h3⟩))
 by_cases h4 : 10000 < x.miles
 ·exact .inr (.inr (.inr (.inl ⟨by simp [h4], h1, h2, h3, h4⟩)))
 ·exact .inr (.inr (.inr (.inr ⟨by simp [h1, h2, h3, h4], h1, h2, h3, h4⟩)))
theorem way_cases (x y : Arc) : (decide (wayK y = wayK x) = false ∧ (x.frm == y.frm) = false) ∨ (decide (wayK y = wayK x) = false ∧ x.frm = y.frm ∧ (x.to == y.to) = false) ∨ (decide (wayK y = wayK x) = (x.profile == y.profile) ∧ x.frm = y.frm ∧ x.to = y.to) := by
 unfold wayK
 by_cases h1 : x.frm = y.frm
 ·by_cases h2 : x.to = y.to
  ·refine .inr (.inr ⟨?_, h1, h2⟩)
   rw [Bool.eq_iff_iff]
   simp [h1, h2]
   exact eq_comm
  ·exact .inr (.inl ⟨by simp; intro _ h; exact absurd h.symm h2, h1, by simp [h2]⟩)
 ·exact .inl ⟨by simp; intro h; exact absurd h.symm h1, by simp [h1]⟩
theorem ways_step {l : List Arc} {k : Nat} {x y : Arc} (h : l[k]? = some y) : hasB ((l.take (k + 1)).map wayK) (wayK x) = (hasB ((l.take k).map wayK) (wayK x) || decide (wayK y = wayK x)) := by
 have h1 := hasB_step (l := l.map wayK) (k := k) (x := wayK y) (y := wayK x) (by rw [List.getElem?_map, h]; rfl)
 rw [← List.map_take, ← List.map_take] at h1
 exact h1
set_option maxRecDepth 20000 in
set_option maxHeartbeats 8000000 in
theorem rarc_any (N : Net) (A0 : Option Addr) (d0 : Nat) (A1 : Option Addr) (d1 : Nat) (i : Nat) (x : Arc) (w : World) (hA : RowAt rArc w w.heap.size A1 N.arcs) (hi : N.arcs[i]? = some x) (hl : x.travel.length ≤ 10000000) (hl2 : x.slow.length ≤ 10000000) (hp : N.places.length ≤ 17592186043904) :
  Calls Tryz.prog 91 #[.agg #[.slice A0 N.places.length d0, .slice A1 N.arcs.length d1], .int .i64 i] w (FltsOut w (arFs N.places.length N.arcs i x)) := by
 obtain ⟨n, hn⟩ : ∃ n, N.places.length = n := ⟨_, rfl⟩
 obtain ⟨m, hm⟩ : ∃ m, N.arcs.length = m := ⟨_, rfl⟩
 obtain ⟨l, hxl⟩ : ∃ l, N.arcs = l := ⟨_, rfl⟩
 have HN : Hid (l.length = m) := Lib.hid (by rw [← hxl]; exact hm)
 have hm0 := hA.len
 rw [hn] at hp
 rw [hm] at hm0
 rw [hn, hm]
 rw [hxl] at hA hi ⊢
 clear hn hm hxl N
 have him : i < m := by have := (List.getElem?_eq_some_iff.1 hi).1; rw [← HN.out]; exact this
 have hid : i < 1000000000000000000 := by omega
 have hi0 : (0 : Int) ≤ (i : Int) := by omega
 have hi1 : (i : Int) < (m : Int) := by omega
 have hds := decS_size i
 obtain ⟨W0, hW0⟩ : ∃ W0, w.alloc (.cells #[.slice A0 n d0, .slice A1 m d1] 25) = W0 := ⟨_, rfl⟩
 have hB0 : Below w.heap.size w W0 := by rw [← hW0]; exact (Below.refl _ _).alloc (Nat.le_refl _) _
 have z0 := hB0.size
 have hs0 : w.heap.size < W0.heap.size := by rw [← hW0]; simp
 have HS0 : Hid (∀ w', Below W0.heap.size W0 w' → w'.cell? ⟨w.heap.size, 0, none⟩ = some (.slice A0 n d0) ∧ w'.cell? ⟨w.heap.size, 1, none⟩ = some (.slice A1 m d1) ∧ RowAt rArc w' W0.heap.size A1 l) := Lib.hid fun w' h => by
  have hk := fun (o : Nat) => h.cell (p := ⟨w.heap.size, o, none⟩) hs0
  refine ⟨(hk _).trans ?_, (hk _).trans ?_, ((hA.below hB0).more z0).below h⟩
  all_goals (rw [← hW0]; simp)
 have B0 : Below W0.heap.size W0 W0 := Below.refl _ _
 have HW0 := Lib.hid hW0
 clear hW0 hA
 go_enter Tryz.func91, Tryz.ntmps91
 go_upto_region 2 with fail
 rw [HW0.out]
 go_upto_region 3 with (go_at_call 18; refine (rdec_any i hid _).mono ?_; rintro e w1 ⟨rfl, hb1⟩)
 obtain ⟨n0, n1, hrow⟩ := HS0.out _ hb1
 obtain ⟨ad, C, c, D, d, rfl, hadb, ⟨k0, k1, k2, k3, k4, k5⟩, hC, hD, hxf⟩ := row_Arc hrow hi
 have HI := Lib.hid hi
 have hz1 := hb1.size
 clear hi hrow
 go_upto_region 4 with fail
 clear k0 k1 k2 k3 k4 k5 n0 n1
 obtain ⟨W1, hW1⟩ : ∃ W1, w1.alloc (.cells #[.int .i64 x.frm, .int .i64 x.to, .int .i64 x.profile, .int .i64 x.miles, .slice C x.travel.length c, .slice D x.slow.length d] 49) = W1 := ⟨_, rfl⟩
 obtain ⟨P, hP⟩ : ∃ P, w1.heap.size = P := ⟨_, rfl⟩
 have hPW : P < W1.heap.size := by rw [← hW1, ← hP]; simp
 have B01 : Below W0.heap.size W0 W1 := by rw [← hW1]; exact hb1.alloc hz1 _
 have z1 := B01.size
 have HS : Hid (∀ w', Below W1.heap.size W1 w' → w'.cell? ⟨P, 0, none⟩ = some (.int .i64 x.frm) ∧ w'.cell? ⟨P, 1, none⟩ = some (.int .i64 x.to) ∧ w'.cell? ⟨P, 2, none⟩ = some (.int .i64 x.profile) ∧ w'.cell? ⟨P, 3, none⟩ = some (.int .i64 x.miles) ∧ w'.cell? ⟨P, 4, none⟩ = some (.slice C x.travel.length c) ∧ w'.cell? ⟨P, 5, none⟩ = some (.slice D x.slow.length d) ∧ w'.cell? ⟨w.heap.size, 0, none⟩ = some (.slice A0 n d0) ∧ w'.cell? ⟨w.heap.size, 1, none⟩ = some (.slice (some ad) m d1)) := Lib.hid fun w' h => by
  have hk := fun (o : Nat) => h.cell (p := ⟨P, o, none⟩) hPW
  have hk0 := HS0.out _ (B01.trans (h.mono z1))
  refine ⟨(hk _).trans ?_, (hk _).trans ?_, (hk _).trans ?_, (hk _).trans ?_, (hk _).trans ?_, (hk _).trans ?_, hk0.1, hk0.2.1⟩
  all_goals (rw [← hW1, ← hP]; simp)
 have HR : Hid (∀ w', Below W1.heap.size W1 w' → RowAt rPt w' w'.heap.size C x.travel ∧ RowAt rPt w' w'.heap.size D x.slow ∧ RowAt rArc w' W0.heap.size (some ad) l) := Lib.hid fun w' h => by
  have hb : Below W0.heap.size w1 w' := by
   have h9 : Below W0.heap.size w1 W1 := by rw [← hW1]; exact (Below.refl _ _).alloc hz1 _
   exact h9.trans (h.mono z1)
  have hs := h.size
  exact ⟨(hC.below hb).more (by omega), (hD.below hb).more (by omega), (HS0.out _ (B01.trans (h.mono z1))).2.2⟩
 have hP0 : w.heap.size < P := by omega
 rw [hW1, hP]
 clear hW1 hP hC hD
 have B1 : Below W1.heap.size W1 W1 := Below.refl _ _
 obtain ⟨R, hR⟩ : ∃ R, arFs n l i x = R := ⟨_, rfl⟩
 have HR0 : Hid (R = mkA (arcS i) (arcE n ((l.take i).map wayK) x)) := Lib.hid (by rw [← hR]; rfl)
 have HRA := Lib.hid hR
 clear hR
 obtain ⟨ok, hok⟩ : ∃ q, arcOk n x = q := ⟨_, rfl⟩
 obtain ⟨bad, hbad⟩ : ∃ q, arcBad x = q := ⟨_, rfl⟩
 obtain ⟨two, htwo⟩ : ∃ q, hasB ((l.take i).map wayK) (wayK x) = q := ⟨_, rfl⟩
 obtain ⟨T, hT⟩ : ∃ T, tvTo x.travel x.travel.length = T := ⟨_, rfl⟩
 obtain ⟨S, hS⟩ : ∃ S, slTo x.slow = S := ⟨_, rfl⟩
 have hTl : T.length ≤ 30000000 := by rw [← hT]; have := tvTo_len x.travel x.travel.length; omega
 have hSl : ∀ j, (S j).length ≤ 1 + j := fun j => by rw [← hS]; exact slTo_len _ j
 obtain ⟨x1, hx1⟩ : ∃ x1, pushIf [] ok 11 = x1 := ⟨_, rfl⟩
 obtain ⟨x2, hx2⟩ : ∃ x2, pushIf x1 (!bad) 2 = x2 := ⟨_, rfl⟩
 obtain ⟨x3, hx3⟩ : ∃ x3, pushIf x2 (!two) 6 = x3 := ⟨_, rfl⟩
 have HRL : Hid (R = mkA (arcS i) ((x3 ++ T.map (·.err)) ++ S x.slow.length)) := Lib.hid (by rw [HR0.out, ← hx3, ← hx2, ← hx1, ← hok, ← hbad, ← htwo, ← hT, ← hS]; rfl)
 have l1 : x1.length ≤ 1 := by rw [← hx1]; exact pushIf_len [] ok 11
 have l2 : x2.length ≤ 2 := by rw [← hx2]; have := pushIf_len x1 (!bad) 2; omega
 have l3 : x3.length ≤ 3 := by rw [← hx3]; have := pushIf_len x2 (!two) 6; omega
 have HX := Lib.hid (And.intro hx1 (And.intro hx2 hx3))
 have HOK := Lib.hid (And.intro hok (And.intro hbad htwo))
 have HTS := Lib.hid (And.intro hT hS)
 have HF0 := Lib.hid (Fown.nil W1 W1.heap.size)
 clear hok hbad htwo hT hS hx1 hx2 hx3 HR0
 go_cut [46] (fun v wx => v = .bool (!ok) ∧ W1 = wx)
 case first => as_aux_lemma =>
  obtain ⟨m0, m1, m2, m3, m4, m5, n0, n1⟩ := HS.out _ (B1)
  have hc := place_cases n x.frm
  have hc2 := place_cases n x.to
  have HE : Hid (ok = (placeB n x.frm && placeB n x.to)) := Lib.hid (by rw [← HOK.out.1]; rfl)
  rcases hc with ⟨e, g⟩ | ⟨e, g, g'⟩ | ⟨e, g, g'⟩
  ·have H := Lib.hid e
   clear e hc2
   go_wp2
   go_meet
   exact ⟨by rw [HE.out, H.out]; rfl, rfl⟩
  ·have H := Lib.hid e
   clear e hc2
   go_wp2
   go_meet
   exact ⟨by rw [HE.out, H.out]; rfl, rfl⟩
  ·have H := Lib.hid e
   clear e
   rcases hc2 with ⟨e, q⟩ | ⟨e, q, q'⟩ | ⟨e, q, q'⟩
   ·have H2 := Lib.hid e
    clear e
    go_wp2
    go_meet
    exact ⟨by rw [HE.out, H.out, H2.out]; rfl, rfl⟩
   ·have H2 := Lib.hid e
    clear e
    go_wp2
    go_meet
    exact ⟨by rw [HE.out, H.out, H2.out]; rfl, rfl⟩
   ·have H2 := Lib.hid e
    clear e
    go_wp2
    go_meet
    exact ⟨by rw [HE.out, H.out, H2.out]; rfl, rfl⟩
 obtain ⟨h46, hwc⟩ := hcut
 subst h46
 subst hwc
 go_upto_if 46 with fail
 go_cut [5] (fun v wx => ∃ A c, v = .slice A (mkA (arcS i) (x1)).length c ∧ Fown wx W1.heap.size A c (mkA (arcS i) (x1)) ∧ Below W1.heap.size W1 wx)
 case first => as_aux_lemma =>
  cases ok
  ·have hE : Hid (mkA (arcS i) x1 = [] ++ [⟨11, arcS i⟩]) := Lib.hid (by rw [← HX.out.1]; rfl)
   go_wp2_with (at_builtin; refine wpList_pushF rfl _ _ rfl W1.heap.size none ([]) 0 rfl HF0.out (⟨11, arcS i⟩) (mkA (arcS i) x1) hE.out rfl (by first | omega | decide) (by omega) ?_; intro g3 c3 w3 hown3 hb3 hs3 hk3 hd3)
   go_meet
   exact ⟨_, _, rfl, hown3, hb3⟩
  ·have hE : Hid (mkA (arcS i) x1 = []) := Lib.hid (by rw [← HX.out.1]; rfl)
   go_wp2
   go_meet
   exact ⟨none, 0, by rw [hE.out]; rfl, by rw [hE.out]; exact HF0.out, B1⟩
 obtain ⟨A, c', h5, hown, hB⟩ := hcut
 subst h5
 have HO := Lib.hid hown
 have hz := hB.size
 clear hown
 go_upto_region 6 with fail
 go_cut [76] (fun v wx => v = .bool bad ∧ wc = wx)
 case first => as_aux_lemma =>
  obtain ⟨m0, m1, m2, m3, m4, m5, n0, n1⟩ := HS.out _ (hB)
  have hc := arcBad_cases x
  rw [HOK.out.2.1] at hc
  rcases hc with ⟨e, g⟩ | ⟨e, g, g2⟩ | ⟨e, g, g2, g3⟩ | ⟨e, g, g2, g3, g4⟩ | ⟨e, g, g2, g3, g4⟩
  all_goals
   have H := Lib.hid e
   clear e
   go_wp2
   go_meet
   exact ⟨by rw [H.out], rfl⟩
 obtain ⟨h76, hwc⟩ := hcut
 subst h76
 subst hwc
 go_upto_if 76 with fail
 go_cut [5] (fun v wx => ∃ A c, v = .slice A (mkA (arcS i) (x2)).length c ∧ Fown wx W1.heap.size A c (mkA (arcS i) (x2)) ∧ Below W1.heap.size W1 wx)
 case first => as_aux_lemma =>
  cases bad
  ·have hE : Hid (x2 = x1) := Lib.hid (by rw [← HX.out.2.1]; rfl)
   go_wp2
   go_meet
   exact ⟨A, c', by rw [hE.out], by rw [hE.out]; exact HO.out, hB⟩
  ·have hE : Hid (mkA (arcS i) x2 = mkA (arcS i) x1 ++ [⟨2, arcS i⟩]) := Lib.hid (by rw [← HX.out.2.1]; exact mkA_push (arcS i) _ _)
   have hle : (mkA (arcS i) x1).length ≤ 1 := by rw [mkA_len]; exact l1
   go_wp2_with (at_builtin; refine wpList_pushF rfl _ _ rfl W1.heap.size A (mkA (arcS i) x1) c' rfl HO.out (⟨2, arcS i⟩) (mkA (arcS i) x2) hE.out rfl (by first | omega | decide) (by omega) ?_; intro g3 c3 w3 hown3 hb3 hs3 hk3 hd3)
   go_meet
   exact ⟨_, _, rfl, hown3, hB.trans (hb3.mono (Nat.le_refl _))⟩
 clear hB hz HO
 obtain ⟨A, c', h5, hown, hB⟩ := hcut
 subst h5
 have HO := Lib.hid hown
 have hz := hB.size
 clear hown
 go_upto_region 10 with fail
 obtain ⟨W2, hW2⟩ : ∃ W2, wc = W2 := ⟨_, rfl⟩
 rw [hW2] at hB HO hz ⊢
 clear hW2
 go_loopw [8, 9, 10] (fun t v _ wr => ∃ (k : Nat), k ≤ i ∧ v = .int .i64 k ∧ t = .bool (hasB ((l.take k).map wayK) (wayK x)) ∧ Below W2.heap.size W2 wr) (fun _ v _ _ => i - (intOf v).toNat)
 case atStart => exact ⟨0, by omega, rfl, by unfold hasB; simp, Below.refl _ _⟩
 case round =>
  obtain ⟨k, hk, rfl, rfl, hb⟩ := hrel
  have hBr : Below W1.heap.size W1 wr := hB.trans (hb.mono hz)
  have hzr := hBr.size
  obtain ⟨m0, m1, m2, m3, m4, m5, n0, n1⟩ := HS.out _ (hBr)
  by_cases hki : k < i
  ·obtain ⟨y, hy⟩ : ∃ y, l[k]? = some y := ⟨_, List.getElem?_eq_getElem (by rw [HN.out]; omega)⟩
   obtain ⟨ad', E0, f0, E1, f1, hadeq, hadb', ⟨k0, k1, k2, k3, k4, k5⟩, -, -, -⟩ := row_Arc (HR.out _ hBr).2.2 hy
   obtain rfl : ad = ad' := Option.some.inj hadeq
   have hk0 : (0 : Int) ≤ (k : Int) := by omega
   have hk1 : (k : Int) < (m : Int) := by omega
   have hk2 : (k : Int) < (i : Int) := by omega
   have hPr : P < wr.heap.size := by omega
   have HST := Lib.hid (ways_step (x := x) hy)
   have hw := way_cases x y
   obtain ⟨q, hq⟩ : ∃ q, decide (wayK y = wayK x) = q := ⟨_, rfl⟩
   rw [hq] at hw
   have HQ := Lib.hid hq
   have hbl : ∀ o, Below W2.heap.size W2 (wr.alloc o) := fun o => hb.alloc hb.size o
   clear hy hadeq hq
   cases hh : hasB ((l.take k).map wayK) (wayK x)
   ·have HH := Lib.hid hh
    clear hh
    rcases hw with ⟨e, g⟩ | ⟨e, g, g2⟩ | ⟨e, g, g2⟩
    all_goals
     have H := Lib.hid e
     clear e
     go_wp2
     go_roundw
     case rel => exact ⟨k + 1, by omega, by go_num, by rw [HST.out, HH.out, HQ.out, H.out]; rfl, hbl _⟩
     case measure => simp [intOf]; omega
   ·have HH := Lib.hid hh
    clear hh hw
    go_wp2
    go_roundw
    case rel => exact ⟨k + 1, by omega, by go_num, by rw [HST.out, HH.out]; rfl, hbl _⟩
    case measure => simp [intOf]; omega
  ·have hkj : i = k := by omega
   subst hkj
   clear hki
   rw [HOK.out.2.2]
   have HO2 := Lib.hid (HO.out.below hb)
   have hB2 : Below W1.heap.size W1 wr := hBr
   have hz2 := hB2.size
   clear HO hB hb hz hBr hzr
   go_upto_if 114 with fail
   go_cut [5] (fun v wx => ∃ A c, v = .slice A (mkA (arcS i) (x3)).length c ∧ Fown wx W1.heap.size A c (mkA (arcS i) (x3)) ∧ Below W1.heap.size W1 wx)
   case first => as_aux_lemma =>
    cases two
    ·have hE : Hid (x3 = x2) := Lib.hid (by rw [← HX.out.2.2]; rfl)
     go_wp2
     go_meet
     exact ⟨A, c', by rw [hE.out], by rw [hE.out]; exact HO2.out, hB2⟩
    ·have hE : Hid (mkA (arcS i) x3 = mkA (arcS i) x2 ++ [⟨6, arcS i⟩]) := Lib.hid (by rw [← HX.out.2.2]; exact mkA_push (arcS i) _ _)
     have hle : (mkA (arcS i) x2).length ≤ 2 := by rw [mkA_len]; exact l2
     go_wp2_with (at_builtin; refine wpList_pushF rfl _ _ rfl W1.heap.size A (mkA (arcS i) x2) c' rfl HO2.out (⟨6, arcS i⟩) (mkA (arcS i) x3) hE.out rfl (by first | omega | decide) (by omega) ?_; intro g3 c3 w3 hown3 hb3 hs3 hk3 hd3)
     go_meet
     exact ⟨_, _, rfl, hown3, hB2.trans (hb3.mono (Nat.le_refl _))⟩
   clear hB2 hz2 HO2
   obtain ⟨A, c', h5, hown, hB⟩ := hcut
   subst h5
   have HO := Lib.hid hown
   have hz := hB.size
   have HLT := Lib.hid (fun q e => (World.ownsRow.lt hown q e).2)
   clear hown
   obtain ⟨m0, m1, m2, m3, m4, m5, n0, n1⟩ := HS.out _ (hB)
   go_upto_region 17 with (go_at_call 134; refine (rtv_any C c x.travel _ (HR.out _ hB).1 hl).mono ?_; rw [HTS.out.1]; rintro e w2 ⟨At, ct, rfl, hownT, hb2⟩)
   clear m0 m1 m2 m3 m4 m5 n0 n1
   have HO2 := Lib.hid (HO.out.below hb2)
   have hB2 : Below W1.heap.size W1 w2 := hB.trans (hb2.mono hz)
   have hz2 := hB2.size
   obtain ⟨g, hgb, hgA, hgc⟩ := flt_place hownT
   have HGC := Lib.hid hgc
   have HGA := Lib.hid hgA
   have hTg : T.length = 0 ∨ (At = some ⟨g, 0, none⟩ ∧ g < w2.heap.size) := by
    rcases Nat.eq_zero_or_pos T.length with h | h
    ·exact .inl h
    ·exact .inr (hgA h)
   have HNE : Hid ((Value.slice A (mkA (arcS i) x3).length c').ownBlock ≠ some g) := Lib.hid (fun e => by have := HLT.out g e; omega)
   clear hgc hgA hownT HO hB hz HLT
   go_upto_region 18 with fail
   obtain ⟨U, hU⟩ : ∃ U : Nat → List Flt, (fun k => mkA (arcS i) (x3 ++ (T.take k).map (·.err))) = U := ⟨_, rfl⟩
   have HU0 : Hid (U 0 = mkA (arcS i) x3) := Lib.hid (by rw [← hU]; simp)
   have HUT : Hid (U T.length = mkA (arcS i) (x3 ++ T.map (·.err))) := Lib.hid (by rw [← hU]; simp)
   have HUS : Hid (∀ (k : Nat) f, T[k]? = some f → U (k + 1) = U k ++ [⟨f.err, arcS i⟩]) := Lib.hid fun k f hf => by
    rw [← hU]
    show mkA (arcS i) (x3 ++ (T.take (k + 1)).map (·.err)) = mkA (arcS i) (x3 ++ (T.take k).map (·.err)) ++ [⟨f.err, arcS i⟩]
    rw [take_snoc'' hf, List.map_append, ← List.append_assoc]
    exact mkA_snoc _ _ _
   have hUl : ∀ k, (U k).length ≤ 30000003 := fun k => by
    rw [← hU]
    show (mkA (arcS i) (x3 ++ (T.take k).map (·.err))).length ≤ _
    rw [mkA_len, List.length_append, List.length_map, List.length_take]
    omega
   clear hU
   go_loopw [5, 12] (fun v i' wr => ∃ (k : Nat) (A : Option Addr) (c' : Nat), k ≤ T.length ∧ i' = .int .i64 k ∧ v = .slice A (U k).length c' ∧ Fown wr W1.heap.size A c' (U k) ∧ Below W1.heap.size W1 wr ∧ (T.length = 0 ∨ (wr.heap[g]? = w2.heap[g]? ∧ g < wr.heap.size ∧ (Value.slice A (U k).length c').ownBlock ≠ some g))) (fun _ i' _ => T.length - (intOf i').toNat)
   case atStart => exact ⟨0, A, c', by omega, rfl, by rw [HU0.out], by rw [HU0.out]; exact HO2.out, hB2, hTg.imp id fun h => ⟨rfl, h.2, by rw [HU0.out]; exact HNE.out⟩⟩
   case round =>
    obtain ⟨k, A2, c2, hk, rfl, rfl, hown, hb, hg⟩ := hrel
    have hzr := hb.size
    have hgl := hUl k
    by_cases hkt : k < T.length
    ·obtain ⟨f, hf⟩ : ∃ f, T[k]? = some f := ⟨_, List.getElem?_eq_getElem hkt⟩
     obtain ⟨hw, hgs, hne⟩ := hg.resolve_left (by omega)
     obtain ⟨hAt, hg2⟩ := hTg.resolve_left (by omega)
     subst hAt
     obtain ⟨c0, -⟩ := HGC.out k f hf
     have c1 : wr.cell? ⟨g, k * 2, none⟩ = some (.int .i64 f.err) := cell_heap hw c0
     have hk0 : (0 : Int) ≤ (k : Int) := by omega
     have hk1 : (k : Int) < (T.length : Int) := by omega
     have hE : Hid (U (k + 1) = U k ++ [⟨f.err, arcS i⟩]) := Lib.hid (HUS.out k f hf)
     have HO := Lib.hid hown
     have HGS := Lib.hid (And.intro hw (And.intro hgs hne))
     clear hf c0 hw hne hown hg
     go_wp2_with (at_builtin; refine wpList_pushF rfl _ _ rfl W1.heap.size A2 (U k) c2 rfl HO.out (⟨f.err, arcS i⟩) (U (k + 1)) hE.out rfl (by first | omega | decide) (by omega) ?_; intro g3 c3 w3 hown3 hb3 hs3 hk3 hd3)
     go_roundw
     case rel => exact ⟨k + 1, _, _, by omega, by go_num, rfl, hown3, hb.trans (hb3.mono (Nat.le_refl _)), .inr ⟨(hk3 g hgs HGS.out.2.2).trans HGS.out.1, by omega, fun e => by
      rcases hd3 with h | h
      ·exact HGS.out.2.2 (h.trans e)
      ·have e' : some g3 = some g := e
       injection e' with e'
       omega⟩⟩
     case measure => simp [intOf]; omega
    ·have hkT : k = T.length := by omega
     subst hkT
     rw [HUT.out] at hown ⊢
     clear hkt
     clear HO2 hB2 hz2 HNE HGC HGA hTg hg
     have hB := hb
     clear hb hzr hgl
     obtain ⟨x4, hx4⟩ : ∃ x4, x3 ++ T.map (·.err) = x4 := ⟨_, rfl⟩
     have l4 : x4.length ≤ 30000003 := by rw [← hx4, List.length_append, List.length_map]; omega
     rw [hx4] at hown HRL ⊢
     have HO := Lib.hid hown
     have hz := hB.size
     clear hown hx4
     obtain ⟨ns, hns⟩ : ∃ n, x.slow.length = n := ⟨_, rfl⟩
     have HNS := Lib.hid hns
     have HS0' : Hid (S 0 = if 16 < ns then [4] else []) := Lib.hid (by rw [← HTS.out.2, ← hns]; rfl)
     rw [hns] at HRL HS hl2
     clear hns
     go_upto_region 21 with fail
     go_cut [142] (fun v wx => v = .bool (decide (16 < ns)) ∧ wr = wx)
     case first => as_aux_lemma =>
      obtain ⟨m0, m1, m2, m3, m4, m5, n0, n1⟩ := HS.out _ (hB)
      have hE : decide ((16 : Int) < (ns : Int)) = decide (16 < ns) := by rw [Bool.eq_iff_iff]; simp; omega
      have HE := Lib.hid hE
      clear hE
      go_wp2
      go_meet
      exact ⟨by rw [HE.out], rfl⟩
     obtain ⟨h142, hwc⟩ := hcut
     subst h142
     subst hwc
     go_upto_if 142 with fail
     go_cut [5] (fun v wx => ∃ A c, v = .slice A (mkA (arcS i) (x4 ++ S 0)).length c ∧ Fown wx W1.heap.size A c (mkA (arcS i) (x4 ++ S 0)) ∧ Below W1.heap.size W1 wx)
     case first => as_aux_lemma =>
      cases hq : decide (16 < ns)
      ·have hE : Hid (x4 ++ S 0 = x4) := Lib.hid (by rw [HS0'.out, if_neg (of_decide_eq_false hq), List.append_nil])
       clear hq
       go_wp2
       go_meet
       exact ⟨A2, c2, by rw [hE.out], by rw [hE.out]; exact HO.out, hB⟩
      ·have hE : Hid (mkA (arcS i) (x4 ++ S 0) = mkA (arcS i) x4 ++ [⟨4, arcS i⟩]) := Lib.hid (by rw [HS0'.out, if_pos (of_decide_eq_true hq)]; exact mkA_snoc _ _ _)
       have hle : (mkA (arcS i) x4).length ≤ 30000003 := by rw [mkA_len]; exact l4
       clear hq
       go_wp2_with (at_builtin; refine wpList_pushF rfl _ _ rfl W1.heap.size A2 (mkA (arcS i) x4) c2 rfl HO.out (⟨4, arcS i⟩) (mkA (arcS i) (x4 ++ S 0)) hE.out rfl (by first | omega | decide) (by omega) ?_; intro g3 c3 w3 hown3 hb3 hs3 hk3 hd3)
       go_meet
       exact ⟨_, _, rfl, hown3, hB.trans (hb3.mono (Nat.le_refl _))⟩
     clear hB hz HO
     obtain ⟨A, c', h5, hown, hB⟩ := hcut
     subst h5
     go_upto_region 24 with fail
     go_loopw [5, 13, 14] (fun v i' _ wr => ∃ (j : Nat) (A : Option Addr) (c' : Nat), j ≤ ns ∧ i' = .int .i64 j ∧ v = .slice A (mkA (arcS i) (x4 ++ S j)).length c' ∧ Fown wr W1.heap.size A c' (mkA (arcS i) (x4 ++ S j)) ∧ Below W1.heap.size W1 wr) (fun _ i' _ _ => ns - (intOf i').toNat)
     case atStart => exact ⟨0, A, c', by omega, rfl, rfl, hown, hB⟩
     case round =>
      clear hown hB
      obtain ⟨j, A, c', hj, rfl, rfl, hown, hB⟩ := hrel
      have hz := hB.size
      obtain ⟨m0, m1, m2, m3, m4, m5, n0, n1⟩ := HS.out _ (hB)
      by_cases hlt : j < ns
      ·obtain ⟨p, hp⟩ : ∃ p, x.slow[j]? = some p := ⟨_, List.getElem?_eq_getElem (by rw [HNS.out]; exact hlt)⟩
       obtain ⟨sd, hDs, hsdb, ⟨s0, s1⟩, hpf⟩ := row_Pt (HR.out _ hB).2.1 hp
       subst hDs
       have hk0 : (0 : Int) ≤ (j : Int) := by omega
       have hkn : (j : Int) < (ns : Int) := by omega
       have hSj := hSl j
       have hgl : (mkA (arcS i) (x4 ++ S j)).length ≤ 50000000 := by rw [mkA_len, List.length_append]; omega
       have HP : Hid (S (j + 1) = S j ++ slP x.slow j p) := Lib.hid (by rw [← HTS.out.2, slTo_succ hp])
       go_upto_region 27 with fail
       have q0 : (wr.alloc (.cells #[.int .i64 p.t, .int .i64 p.a] 89)).cell? ⟨wr.heap.size, 0, none⟩ = some (.int .i64 p.t) := two_new wr _ _ _ 0 _ rfl
       have q1 : (wr.alloc (.cells #[.int .i64 p.t, .int .i64 p.a] 89)).cell? ⟨wr.heap.size, 1, none⟩ = some (.int .i64 p.a) := two_new wr _ _ _ 1 _ rfl
       obtain ⟨W, hW⟩ : ∃ W, wr.alloc (.cells #[.int .i64 p.t, .int .i64 p.a] 89) = W := ⟨_, rfl⟩
       have HOW : Hid (Fown W W1.heap.size A c' (mkA (arcS i) (x4 ++ S j))) := Lib.hid (by rw [← hW]; exact World.ownsRow.alloc hown _)
       have BW : Below W1.heap.size W1 W := by rw [← hW]; exact hB.alloc hz _
       rw [hW] at q0 q1 ⊢
       clear m0 m1 m2 m3 m4 m5 n0 n1
       clear hW s0 s1 hown
       obtain ⟨m0, m1, m2, m3, m4, m5, n0, n1⟩ := HS.out _ (BW)
       obtain ⟨Q, hQ⟩ : ∃ Q, wr.heap.size = Q := ⟨_, rfl⟩
       rw [hQ] at q0 q1 ⊢
       clear hQ
       have zW := BW.size
       obtain ⟨pt, hpt⟩ : ∃ x, p.t = x := ⟨_, rfl⟩
       obtain ⟨pa, hpa⟩ : ∃ x, p.a = x := ⟨_, rfl⟩
       have HPT := Lib.hid (And.intro hpt hpa)
       rw [hpt] at q0
       rw [hpa] at q1
       clear hpt hpa hpf
       obtain ⟨q, hq⟩ : ∃ q, slBad x.slow j p = q := ⟨_, rfl⟩
       have HQ := Lib.hid hq
       have HP2 : Hid (S (j + 1) = S j ++ (if q = true then [2] else [])) := Lib.hid (by rw [HP.out]; unfold slP; rw [hq])
       clear hq HP hp
       go_cut [185] (fun v wx => v = .bool q ∧ ∃ n, wx = W.drewN n)
       case first => as_aux_lemma =>
        cases hr1 : tickB pt
        case false =>
         have HE : Hid (q = true) := Lib.hid (by rw [← HQ.out]; unfold slBad; rw [HPT.out.1, hr1]; rfl)
         go_quiet ((go_at_call 135; exact Calls.quiet_of_same ((rtick_any _ _).mono fun _ _ h => ⟨h.1, h.2.symm⟩)))
         go_wp2
         go_meet
         exact ⟨by rw [HE.out], _, rfl⟩
        case true =>
         cases hr2 : tickB pa
         case false =>
          have HE : Hid (q = true) := Lib.hid (by rw [← HQ.out]; unfold slBad; rw [HPT.out.2, hr2]; simp)
          go_quiet ((go_at_call 135; exact Calls.quiet_of_same ((rtick_any _ _).mono fun _ _ h => ⟨h.1, h.2.symm⟩)))
          go_wp2
          go_meet
          exact ⟨by rw [HE.out], _, rfl⟩
         case true =>
          rcases j with _ | k
          ·have HE : Hid (q = false) := Lib.hid (by rw [← HQ.out]; unfold slBad; rw [HPT.out.1, HPT.out.2, hr1, hr2]; rfl)
           have hj0 : ¬ (0 : Int) < ((0 : Nat) : Int) := by omega
           go_quiet ((go_at_call 135; exact Calls.quiet_of_same ((rtick_any _ _).mono fun _ _ h => ⟨h.1, h.2.symm⟩)))
           go_wp2
           go_meet
           exact ⟨by rw [HE.out], _, rfl⟩
          ·obtain ⟨y, hy⟩ : ∃ y, x.slow[k]? = some y := ⟨_, List.getElem?_eq_getElem (by rw [HNS.out]; omega)⟩
           obtain ⟨sd2, hadeq, hadb2, ⟨t0, t1⟩, hxf⟩ := row_Pt (HR.out _ BW).2.1 hy
           obtain rfl : sd = sd2 := Option.some.inj hadeq
           have HE : Hid (q = decide (pt ≤ y.t)) := Lib.hid (by rw [← HQ.out]; unfold slBad; rw [HPT.out.1, HPT.out.2, hr1, hr2]; simp only [hy]; simp)
           have hj0 : (0 : Int) < ((k + 1 : Nat) : Int) := by omega
           have hj1 : IntKind.i64.wrap (((k + 1 : Nat) : Int) - 1) = (k : Int) := by rw [IntWalk.i64_in _ (by omega)]; omega
           clear hy hadeq
           go_quiet ((go_at_call 135; exact Calls.quiet_of_same ((rtick_any _ _).mono fun _ _ h => ⟨h.1, h.2.symm⟩)))
           go_wp2
           go_meet
           exact ⟨by rw [HE.out], _, rfl⟩
       obtain ⟨h185, nq, hw185⟩ := hcut
       subst h185
       have ownD := HOW.out.below (bel_drewN (Below.refl _ _) nq)
       have BD2 := bel_drewN BW nq
       rw [← hw185] at ownD BD2
       have HOD := Lib.hid ownD
       clear m0 m1 m2 m3 m4 m5 n0 n1
       clear q0 q1 hw185 ownD
       go_upto_if 185 with fail
       have zD := BD2.size
       cases q
       ·have HE : Hid (S (j + 1) = S j) := Lib.hid (by rw [HP2.out]; simp)
        go_wp2
        go_roundw
        case rel => exact ⟨j + 1, A, c', by omega, by go_num, by rw [HE.out], by rw [HE.out]; exact HOD.out, BD2⟩
        case measure => simp [intOf]; omega
       ·have hE : Hid (mkA (arcS i) (x4 ++ S (j + 1)) = mkA (arcS i) (x4 ++ S j) ++ [⟨2, arcS i⟩]) := Lib.hid (by rw [HP2.out, if_pos rfl, ← List.append_assoc]; exact mkA_snoc _ _ _)
        go_wp2_with (at_builtin; refine wpList_pushF rfl _ _ rfl W1.heap.size A (mkA (arcS i) (x4 ++ S j)) c' rfl HOD.out (⟨2, arcS i⟩) (mkA (arcS i) (x4 ++ S (j + 1))) hE.out rfl (by first | omega | decide) (by omega) ?_; intro g3 c3 w3 hown3 hb3 hs3 hk3 hd3)
        go_roundw
        case rel => exact ⟨j + 1, _, _, by omega, by go_num, rfl, hown3, BD2.trans (hb3.mono (Nat.le_refl _))⟩
        case measure => simp [intOf]; omega
      ·have hjn : j = ns := by omega
       subst hjn
       clear hlt
       go_wp2
       go_ret
       rw [HRA.out, HRL.out]
       exact ⟨A, c', rfl, own_less hown (by omega), hB0.trans ((B01.trans (hB.mono z1)).mono z0)⟩
end Go.Proofs.YthefooacfcagbaaGreatDoor.rnet

/- The reference's check of a network. -/
namespace Go.Proofs.YthefooacfcagbaaGreatDoor.rnet
open Go.RowKit
open lib rd typ app note mrk trv flts txt net
set_option linter.unusedVariables false
set_option linter.unusedSimpArgs false
theorem netTo_mono (x : Net) : ∀ {j k : Nat}, j ≤ k → (netTo x j).length ≤ (netTo x k).length
 | j, 0, h => by
  obtain rfl : j = 0 := (by omega)
  exact Nat.le_refl _
 | j, k + 1, h => by
  rcases Nat.lt_or_ge k j with h1 | h1
  ·obtain rfl : j = k + 1 := by omega
   exact Nat.le_refl _
  ·refine Nat.le_trans (netTo_mono x h1) ?_
   rw [netTo, List.length_append]
   exact Nat.le_add_right _ _
set_option maxRecDepth 20000 in
set_option maxHeartbeats 4000000 in
theorem rncheck_any (x : Net) (A0 : Option Addr) (d0 : Nat) (A1 : Option Addr) (d1 : Nat) (w : World) (hP : RowAt rStr w w.heap.size A0 x.places) (hA : RowAt rArc w w.heap.size A1 x.arcs)
  (hl : x.places.length ≤ 10000000) (hp : ∀ a ∈ x.arcs, a.travel.length ≤ 10000000 ∧ a.slow.length ≤ 10000000) (ht : (netTo x x.arcs.length).length ≤ 400000000) :
  Calls Tryz.prog 53 #[.agg #[.slice A0 x.places.length d0, .slice A1 x.arcs.length d1]] w (FltsOut w (netTo x x.arcs.length)) := by
 obtain ⟨W0, hW0⟩ : ∃ W0, w.alloc (.cells #[.slice A0 x.places.length d0, .slice A1 x.arcs.length d1] 25) = W0 := ⟨_, rfl⟩
 have hB0 : Below w.heap.size w W0 := by rw [← hW0]; exact (Below.refl _ _).alloc (Nat.le_refl _) _
 have z0 := hB0.size
 have hs0 : w.heap.size < W0.heap.size := by rw [← hW0]; simp
 have HS : Hid (∀ w', Below W0.heap.size W0 w' → w'.cell? ⟨w.heap.size, 0, none⟩ = some (.slice A0 x.places.length d0) ∧ w'.cell? ⟨w.heap.size, 1, none⟩ = some (.slice A1 x.arcs.length d1)) := Lib.hid fun w' h => by
  have hk := fun (o : Nat) => h.cell (p := ⟨w.heap.size, o, none⟩) hs0
  refine ⟨(hk _).trans ?_, (hk _).trans ?_⟩
  all_goals (rw [← hW0]; simp)
 have HR : Hid (∀ w', Below W0.heap.size W0 w' → RowAt rStr w' w'.heap.size A0 x.places ∧ RowAt rArc w' w'.heap.size A1 x.arcs) := Lib.hid fun w' h => by
  have hb := hB0.trans (h.mono z0)
  exact ⟨(hP.below hb).more hb.size, (hA.below hb).more hb.size⟩
 have hm0 := hA.len
 have hp0 := hP.len
 have hHP := Lib.hid hp
 have B0 : Below W0.heap.size W0 W0 := Below.refl _ _
 have HW0 := Lib.hid hW0
 clear hW0 hP hA hp
 obtain ⟨n, hn⟩ : ∃ n, x.places.length = n := ⟨_, rfl⟩
 obtain ⟨m, hm⟩ : ∃ m, x.arcs.length = m := ⟨_, rfl⟩
 obtain ⟨F, hF⟩ : ∃ F, netTo x = F := ⟨_, rfl⟩
 have HF := Lib.hid hF
 have hFl : ∀ j, j ≤ m → (F j).length ≤ 400000000 := fun j hj => by rw [← hF]; rw [hm] at ht; exact Nat.le_trans (netTo_mono x hj) ht
 have HF0 : Hid (F 0 = plTo x.places n ++ (if 1024 < m then [⟨4, ⟨#[97, 114, 99, 115]⟩⟩] else [])) := Lib.hid (by rw [← hF, ← hn, ← hm]; rfl)
 have HN := Lib.hid (And.intro hn hm)
 have HCP : Hid (∀ w', Below W0.heap.size W0 w' → Calls Tryz.prog 90 #[.agg #[.slice A0 n d0, .slice A1 m d1]] w' (FltsOut w' (plTo x.places n))) := Lib.hid fun w' h => by
  have h1 := rplaces_any x A0 d0 A1 d1 w' (HR.out _ h).1 hl
  rw [hn, hm] at h1
  exact h1
 have HCA : Hid (∀ w' (i : Nat) a, Below W0.heap.size W0 w' → x.arcs[i]? = some a → Calls Tryz.prog 91 #[.agg #[.slice A0 n d0, .slice A1 m d1], .int .i64 i] w' (FltsOut w' (arFs n x.arcs i a))) := Lib.hid fun w' i a h hi => by
  have hh := hHP.out a (List.mem_of_getElem? hi)
  have h1 := rarc_any x A0 d0 A1 d1 i a w' (HR.out _ h).2 hi hh.1 hh.2 hp0
  rw [hn, hm] at h1
  exact h1
 have hpl : (plTo x.places n).length ≤ 1 + n := plTo_len _ _
 rw [hn] at hl hp0 HS ⊢
 rw [hm] at hm0 ht HS ⊢
 have HW1 : Hid (w.alloc (.cells #[.slice A0 n d0, .slice A1 m d1] 25) = W0) := Lib.hid (by rw [← hn, ← hm]; exact HW0.out)
 rw [hF] at ht ⊢
 clear hn hm hF HW0
 go_enter Tryz.func53, Tryz.ntmps53
 go_upto_region 1 with fail
 rw [HW1.out]
 obtain ⟨x0, x1⟩ := HS.out _ B0
 go_wp2_with fail
 refine (HCP.out _ B0).mono ?_
 rintro e w1 ⟨A2, c2, rfl, hown, hb1⟩
 have HO := Lib.hid hown
 have z1 := hb1.size
 clear hown x0 x1
 obtain ⟨x0, x1⟩ := HS.out _ hb1
 go_upto_region 2 with fail
 go_cut [10] (fun v wx => v = .bool (decide (1024 < m)) ∧ w1 = wx)
 case first => as_aux_lemma =>
  have hE : decide ((1024 : Int) < (m : Int)) = decide (1024 < m) := by rw [Bool.eq_iff_iff]; simp; omega
  have HE := Lib.hid hE
  clear hE
  go_wp2
  go_meet
  exact ⟨by rw [HE.out], rfl⟩
 obtain ⟨h10, hwc⟩ := hcut
 subst h10
 subst hwc
 go_upto_if 10 with fail
 go_cut [3] (fun v wx => ∃ A c, v = .slice A (F 0).length c ∧ Fown wx W0.heap.size A c (F 0) ∧ Below W0.heap.size W0 wx)
 case first => as_aux_lemma =>
  cases hq : decide (1024 < m)
  ·have hE : Hid (F 0 = plTo x.places n) := Lib.hid (by rw [HF0.out, if_neg (of_decide_eq_false hq), List.append_nil])
   clear hq
   go_wp2
   go_meet
   exact ⟨A2, c2, by rw [hE.out], by rw [hE.out]; exact HO.out, hb1⟩
  ·have hE : Hid (F 0 = plTo x.places n ++ [⟨4, ⟨#[97, 114, 99, 115]⟩⟩]) := Lib.hid (by rw [HF0.out, if_pos (of_decide_eq_true hq)])
   clear hq
   go_wp2_with (at_builtin; refine wpList_pushF rfl _ _ rfl W0.heap.size A2 (plTo x.places n) c2 rfl HO.out (⟨4, ⟨#[97, 114, 99, 115]⟩⟩) (F 0) hE.out rfl (by first | omega | decide) (by omega) ?_; intro g3 c3 w3 hown3 hb3 hs3 hk3 hd3)
   go_meet
   exact ⟨_, _, rfl, hown3, hb1.trans (hb3.mono (Nat.le_refl _))⟩
 clear x0 x1 HO hb1 z1
 obtain ⟨A, c, h3, hown, hB⟩ := hcut
 subst h3
 go_upto_region 5 with fail
 go_loopw [3, 4] (fun v i wr => ∃ (j : Nat) (A : Option Addr) (c : Nat), j ≤ m ∧ i = .int .i64 j ∧ v = .slice A (F j).length c ∧ Fown wr W0.heap.size A c (F j) ∧ Below W0.heap.size W0 wr) (fun _ i _ => m - (intOf i).toNat)
 case atStart => exact ⟨0, A, c, by omega, rfl, rfl, hown, hB⟩
 case round =>
  clear hown hB
  obtain ⟨j, A, c, hj, rfl, rfl, hown, hB⟩ := hrel
  have hz := hB.size
  obtain ⟨x0, x1⟩ := HS.out _ hB
  by_cases hlt : j < m
  ·obtain ⟨a, ha⟩ : ∃ a, x.arcs[j]? = some a := ⟨_, List.getElem?_eq_getElem (by rw [HN.out.2]; exact hlt)⟩
   have hE : Hid (F (j + 1) = F j ++ arFs n x.arcs j a) := Lib.hid (by rw [← HF.out, netTo_succ ha, HN.out.1])
   have hj0 : (0 : Int) ≤ (j : Int) := by omega
   have hjn : (j : Int) < (m : Int) := by omega
   have hFj := hFl (j + 1) (by omega)
   have HO := Lib.hid hown
   have HC := Lib.hid (HCA.out _ j a hB ha)
   clear ha hown
   obtain ⟨E2, hE2⟩ : ∃ E, arFs n x.arcs j a = E := ⟨_, rfl⟩
   rw [hE2] at hE HC
   clear hE2
   go_wp2_with (first
    | (go_at_call 91; refine HC.out.mono ?_; rintro e w2 ⟨A2, c2, rfl, hown2, hb2⟩; have z2 := hb2.size; have HO2 := Lib.hid (And.intro (HO.out.below hb2) (Reads.of_own hown2)); clear hown2)
    | (at_builtin; refine wpList_appF rfl _ _ rfl W0.heap.size A (F j) c rfl HO2.out.1 A2 E2 c2 rfl HO2.out.2 (F (j + 1)) hE.out (by omega) (by omega) ?_; intro A5 c5 w5 hown5 hb5))
   go_roundw
   case rel => exact ⟨j + 1, A5, c5, by omega, by go_num, rfl, hown5, (hB.trans (hb2.mono hz)).trans hb5⟩
   case measure => simp [intOf]; omega
  ·have hjn : j = m := by omega
   subst hjn
   clear hlt
   go_wp2
   go_ret
   exact ⟨A, c, rfl, own_less hown z0, hB0.trans (hB.mono z0)⟩
end Go.Proofs.YthefooacfcagbaaGreatDoor.rnet

/- network.arc: the errors of an arc. -/
import Derived.Test.YtceceomaheobhaaGreatDoorNetB
import Derived.Test.YtceceomaheobhaaGreatDoorTrv
import Derived.Test.YtceceomaheobhaaGreatDoorBase
namespace Go.Proofs.YtceceomaheobhaaGreatDoor.net
open Go.RowKit
open Go.Proofs.YtceceomaheobhaaGreatDoor.lib Go.Proofs.YtceceomaheobhaaGreatDoor.rd Go.Proofs.YtceceomaheobhaaGreatDoor.typ Go.Proofs.YtceceomaheobhaaGreatDoor.app Go.Proofs.YtceceomaheobhaaGreatDoor.note Go.Proofs.YtceceomaheobhaaGreatDoor.mrk Go.Proofs.YtceceomaheobhaaGreatDoor.trv Go.Proofs.YtceceomaheobhaaGreatDoor.flts Go.Proofs.YtceceomaheobhaaGreatDoor.txt
set_option linter.unusedVariables false
set_option linter.unusedSimpArgs false

theorem errno_elem : ElemOf 109 35 (.int .i64 0) 1 8 := ⟨Tryz.underlying109, by kernel_rfl, rfl, by decide, by decide⟩
theorem flt_place {w : World} {base c : Nat} {A : Option Addr} {fs : List Flt} (h : Fown w base A c fs) :
    ∃ g, base ≤ g ∧ (0 < fs.length → A = some ⟨g, 0, none⟩ ∧ g < w.heap.size) ∧ ∀ (q : Nat) f, fs[q]? = some f → w.cell? ⟨g, q * 2, none⟩ = some (.int .i64 f.err) ∧ w.cell? ⟨g, q * 2 + 1, none⟩ = some (.string f.at_) := by
  unfold Fown at h
  rcases h.2 with ⟨h1, h2⟩ | ⟨g, cap, cur, h1, h2, h3, h4⟩
  · exact ⟨base, Nat.le_refl _, fun hh => absurd hh (by omega), fun q f hq => absurd (List.getElem?_eq_some_iff.1 hq).1 (by omega)⟩
  · injection h1 with h1 _ _
    subst h1
    refine ⟨g, h2, fun _ => ⟨rfl, (Array.getElem?_eq_some_iff.1 h3).1⟩, fun q f hq => ?_⟩
    have hlt := (List.getElem?_eq_some_iff.1 hq).1
    have hf := fun j hj => flat_at (g := fun f : Flt => [Value.int .i64 f.err, Value.string f.at_]) (s := 2) (fun _ => rfl) fs q f hq j hj
    have h0 := hf 0 (by decide)
    have h1' := hf 1 (by decide)
    refine ⟨?_, ?_⟩
    · rw [h.cellAt (q * 2) (by omega)]
      exact h0
    · rw [h.cellAt (q * 2 + 1) (by omega)]
      exact h1'
def arcOk (P : Int) (x : Arc) : Bool := placeB P x.frm && placeB P x.to
def arcBad (x : Arc) : Bool := decide (x.profile < 0) || (decide (7 < x.profile) || (decide (x.miles < 0) || (decide (10000 < x.miles) || (x.frm == x.to))))
def wayK (x : Arc) : Int × Int × Int := (x.frm, x.to, x.profile)
/-- The errors of an arc; ks: the ways before it. -/
def arcE (P : Int) (ks : List (Int × Int × Int)) (x : Arc) : List Int :=
  ((pushIf (pushIf (pushIf [] (arcOk P x) 11) (!arcBad x) 2) (!hasB ks (wayK x)) 6) ++ (tvTo x.travel x.travel.length).map (·.err)) ++ slTo x.slow x.slow.length
theorem pushIf_own {w w' : World} {base : Nat} {A : Option Addr} {c : Nat} {xs : List Int} {u : Int} (h : EOwn w base A c xs) (hb : Below w.heap.size w w') : EOwn w' base A c (pushIf xs true u) := own_below h hb
theorem wayOk_of {x : Arc} (h : ArcFits x) : wayOk (wayK x) := by
  unfold ArcFits at h
  exact ⟨h.1, h.2.1, h.2.2.1⟩

set_option maxRecDepth 20000 in
set_option maxHeartbeats 2000000 in
theorem arc_any (n : Nat) (A0 : Option Addr) (d0 : Nat) (A1 : Option Addr) (n1 d1 : Nat) (x : Arc) (C : Option Addr) (c : Nat) (D : Option Addr) (d : Nat) (mb mn : Nat) (ks : List (Int × Int × Int)) (w : World)
    (hC : RowAt rPt w w.heap.size C x.travel) (hD : RowAt rPt w w.heap.size D x.slow) (hM : Marks wayE w mb mn ks) (hf : ArcFits x) (hl : x.travel.length ≤ 100) (hl2 : x.slow.length ≤ 1000000) :
    Calls Tryz.prog 63 #[.agg #[.slice A0 n d0, .slice A1 n1 d1], .agg #[.int .i64 x.frm, .int .i64 x.to, .int .i64 x.profile, .int .i64 x.miles, .slice C x.travel.length c, .slice D x.slow.length d], .map (some mb)] w (ErrsOut w (arcE n ks x)) := by
  obtain ⟨W0, hW0⟩ : ∃ W0, (w.alloc (.cells #[.slice A0 n d0, .slice A1 n1 d1] 25)).alloc (.cells #[.int .i64 x.frm, .int .i64 x.to, .int .i64 x.profile, .int .i64 x.miles, .slice C x.travel.length c, .slice D x.slow.length d] 51) = W0 := ⟨_, rfl⟩
  have hB0 : Below w.heap.size w W0 := by rw [← hW0]; exact ((Below.refl _ _).alloc (Nat.le_refl _) _).alloc (by simp) _
  have z0 := hB0.size
  have hs0 : w.heap.size + 1 < W0.heap.size := by rw [← hW0]; simp
  have HS : Hid (∀ w', Below W0.heap.size W0 w' → w'.cell? ⟨w.heap.size + 1, 0, none⟩ = some (.int .i64 x.frm) ∧ w'.cell? ⟨w.heap.size + 1, 1, none⟩ = some (.int .i64 x.to) ∧ w'.cell? ⟨w.heap.size + 1, 2, none⟩ = some (.int .i64 x.profile) ∧ w'.cell? ⟨w.heap.size + 1, 3, none⟩ = some (.int .i64 x.miles) ∧ w'.cell? ⟨w.heap.size + 1, 4, none⟩ = some (.slice C x.travel.length c) ∧ w'.cell? ⟨w.heap.size + 1, 5, none⟩ = some (.slice D x.slow.length d) ∧ w'.cell? ⟨w.heap.size, 0, none⟩ = some (.slice A0 n d0) ∧ w'.cell? ⟨w.heap.size, 1, none⟩ = some (.slice A1 n1 d1)) := Lib.hid fun w' h => by
    have hk := fun (o : Nat) => h.cell (p := ⟨w.heap.size, o, none⟩) (show w.heap.size < W0.heap.size by omega)
    have hk1 := fun (o : Nat) => h.cell (p := ⟨w.heap.size + 1, o, none⟩) hs0
    refine ⟨(hk1 _).trans ?_, (hk1 _).trans ?_, (hk1 _).trans ?_, (hk1 _).trans ?_, (hk1 _).trans ?_, (hk1 _).trans ?_, (hk _).trans ?_, (hk _).trans ?_⟩
    all_goals (rw [← hW0]; simp)
  have HR : Hid (∀ w', Below W0.heap.size W0 w' → RowAt rPt w' w'.heap.size C x.travel ∧ RowAt rPt w' w'.heap.size D x.slow ∧ Marks wayE w' mb mn ks) := Lib.hid fun w' h => by
    have hb := hB0.trans (h.mono z0)
    exact ⟨(hC.below hb).more hb.size, (hD.below hb).more hb.size, hM.below hb⟩
  have HF := Lib.hid hf
  have HW0 := Lib.hid hW0
  have B0 : Below W0.heap.size W0 W0 := Below.refl _ _
  obtain ⟨E, hE⟩ : ∃ E, arcE n ks x = E := ⟨_, rfl⟩
  obtain ⟨G1, hG1⟩ : ∃ G, pushIf [] (arcOk n x) 11 = G := ⟨_, rfl⟩
  obtain ⟨G2, hG2⟩ : ∃ G, pushIf G1 (!arcBad x) 2 = G := ⟨_, rfl⟩
  obtain ⟨G3, hG3⟩ : ∃ G, pushIf G2 (!hasB ks (wayK x)) 6 = G := ⟨_, rfl⟩
  have l1 : G1.length ≤ 1 := by rw [← hG1]; exact pushIf_len _ _ _
  have l2 : G2.length ≤ 2 := by rw [← hG2]; exact Nat.le_trans (pushIf_len _ _ _) (by omega)
  have l3 : G3.length ≤ 3 := by rw [← hG3]; exact Nat.le_trans (pushIf_len _ _ _) (by omega)
  have HE : Hid (E = (G3 ++ (tvTo x.travel x.travel.length).map (·.err)) ++ slTo x.slow x.slow.length) := Lib.hid (by rw [← hE, ← hG3, ← hG2, ← hG1]; rfl)
  have HG1 := Lib.hid hG1
  have HG2 := Lib.hid hG2
  have HG3 := Lib.hid hG3
  rw [hE]
  clear hE hG1 hG2 hG3 hC hD hM hf hW0
  go_enter Tryz.func63, Tryz.ntmps63
  go_upto_region 2 with fail
  rw [HW0.out]
  go_cut [21] (fun v wx => v = .bool (!arcOk n x) ∧ Below W0.heap.size W0 wx)
  case first => as_aux_lemma =>
    obtain ⟨m0, m1, m2, m3, m4, m5, n0, n1'⟩ := HS.out _ (B0)
    cases hp1 : placeB n x.frm
    · have HA : Hid (arcOk n x = false) := Lib.hid (by unfold arcOk; rw [hp1]; rfl)
      go_wp2_with (go_at_call 94; refine (place_any n A0 d0 A1 n1 d1 _ _).mono ?_; rintro e w1 ⟨rfl, hb1⟩)
      go_meet
      exact ⟨by rw [HA.out]; rfl, hb1⟩
    · have HA : Hid (arcOk n x = placeB n x.to) := Lib.hid (by unfold arcOk; rw [hp1]; rfl)
      go_wp2_with fail
      refine (place_any n A0 d0 A1 n1 d1 _ _).mono ?_
      rintro e w1 ⟨rfl, hb1⟩
      obtain ⟨m0, m1, m2, m3, m4, m5, n0, n1'⟩ := HS.out _ (hb1)
      go_wp2_with (go_at_call 94; refine (place_any n A0 d0 A1 n1 d1 _ _).mono ?_; rintro e w2 ⟨rfl, hb2⟩)
      go_meet
      exact ⟨by rw [HA.out], hb1.trans (hb2.mono hb1.size)⟩
  obtain ⟨h21, BC⟩ := hcut
  subst h21
  go_upto_if 21 with fail
  go_cut [7] (fun v wx => ∃ A' c', v = .slice A' G1.length c' ∧ EOwn wx W0.heap.size A' c' G1 ∧ Below W0.heap.size W0 wx)
  case first => as_aux_lemma =>
    have zc := BC.size
    cases ho : arcOk n x
    · have HG : Hid (G1 = [11]) := Lib.hid (by rw [← HG1.out, ho]; rfl)
      go_wp2_with (at_builtin; refine push_errno rfl _ _ rfl W0.heap.size _ 0 [] rfl (World.ownsRow_nil _ _ _ _) 11 rfl (by omega) zc ?_; intro A1' c1' w1 hown1 hb1 hz1)
      go_meet
      exact ⟨A1', c1', by rw [HG.out]; rfl, by rw [HG.out]; exact hown1, BC.trans hb1⟩
    · have HG : Hid (G1 = []) := Lib.hid (by rw [← HG1.out, ho]; rfl)
      go_wp2
      go_meet
      exact ⟨none, 0, by rw [HG.out]; rfl, by rw [HG.out]; exact World.ownsRow_nil _ _ _ _, BC⟩
  clear BC
  obtain ⟨A', c', hv, hown, BC⟩ := hcut
  subst hv
  unfold EOwn at hown
  have HO := Lib.hid hown
  clear hown
  go_upto_region 4 with fail
  go_cut [49] (fun v wx => v = .bool (arcBad x) ∧ wc = wx)
  case first => as_aux_lemma =>
    obtain ⟨m0, m1, m2, m3, m4, m5, n0, n1'⟩ := HS.out _ (BC)
    cases c1 : decide (x.profile < 0)
    case true =>
      have HA : Hid (arcBad x = true) := Lib.hid (by unfold arcBad; rw [c1]; rfl)
      go_wp2
      go_meet
      exact ⟨by rw [HA.out], rfl⟩
    cases c2 : decide (7 < x.profile)
    case true =>
      have HA : Hid (arcBad x = true) := Lib.hid (by unfold arcBad; rw [c1, c2]; rfl)
      go_wp2
      go_meet
      exact ⟨by rw [HA.out], rfl⟩
    cases c3 : decide (x.miles < 0)
    case true =>
      have HA : Hid (arcBad x = true) := Lib.hid (by unfold arcBad; rw [c1, c2, c3]; rfl)
      go_wp2
      go_meet
      exact ⟨by rw [HA.out], rfl⟩
    cases c4 : decide (10000 < x.miles)
    case true =>
      have HA : Hid (arcBad x = true) := Lib.hid (by unfold arcBad; rw [c1, c2, c3, c4]; rfl)
      go_wp2
      go_meet
      exact ⟨by rw [HA.out], rfl⟩
    have HA : Hid (arcBad x = (x.frm == x.to)) := Lib.hid (by unfold arcBad; rw [c1, c2, c3, c4]; rfl)
    go_wp2
    go_meet
    exact ⟨by rw [HA.out], rfl⟩
  obtain ⟨h49, hw49⟩ := hcut
  subst h49
  subst hw49
  go_upto_if 49 with fail
  go_cut [7] (fun v wx => ∃ A' c', v = .slice A' G2.length c' ∧ EOwn wx W0.heap.size A' c' G2 ∧ Below W0.heap.size W0 wx)
  case first => as_aux_lemma =>
    have zc := BC.size
    cases ho : arcBad x
    · have HG : Hid (G2 = G1) := Lib.hid (by rw [← HG2.out, ho]; rfl)
      go_wp2
      go_meet
      exact ⟨A', c', by rw [HG.out], by rw [HG.out]; exact HO.out, BC⟩
    · have HG : Hid (G2 = G1 ++ [2]) := Lib.hid (by rw [← HG2.out, ho]; rfl)
      go_wp2_with (at_builtin; refine push_errno rfl _ _ rfl W0.heap.size _ G1.length G1 rfl HO.out 2 rfl (by omega) zc ?_; intro A1' c1' w1 hown1 hb1 hz1)
      go_meet
      exact ⟨A1', c1', by rw [HG.out, List.length_append]; rfl, by unfold EOwn; rw [HG.out, List.length_append]; exact hown1, BC.trans hb1⟩
  clear BC HO
  obtain ⟨A', c', hv, hown, BC⟩ := hcut
  subst hv
  unfold EOwn at hown
  have HO := Lib.hid hown
  clear hown
  go_upto_region 6 with fail
  go_cut [56] (fun v wx => v = .bool (hasB ks (wayK x)) ∧ EOwn wx W0.heap.size A' c' G2 ∧ Below W0.heap.size W0 wx)
  case first => as_aux_lemma =>
    have zc := BC.size
    obtain ⟨m0, m1, m2, m3, m4, m5, n0, n1'⟩ := HS.out _ (BC)
    go_wp2_with (first
      | (go_at_call 64; refine (wayOf_any x C c D d _).mono ?_; rintro e w1 ⟨rfl, hb1⟩)
      | (at_lookup; refine wpList_mark_look wayE rfl _ _ rfl mb mn ks rfl (HR.out _ (BC.trans (hb1.mono zc))).2.2 (wayK x) rfl (wayOk_of HF.out) ?_))
    go_meet
    exact ⟨rfl, own_below HO.out hb1, BC.trans (hb1.mono zc)⟩
  clear BC HO
  obtain ⟨h56, hown, BC⟩ := hcut
  subst h56
  unfold EOwn at hown
  have HO := Lib.hid hown
  clear hown
  go_upto_if 56 with fail
  go_cut [7] (fun v wx => ∃ A' c', v = .slice A' G3.length c' ∧ EOwn wx W0.heap.size A' c' G3 ∧ Below W0.heap.size W0 wx)
  case first => as_aux_lemma =>
    have zc := BC.size
    cases ho : hasB ks (wayK x)
    · have HG : Hid (G3 = G2) := Lib.hid (by rw [← HG3.out, ho]; rfl)
      go_wp2
      go_meet
      exact ⟨A', c', by rw [HG.out], by rw [HG.out]; exact HO.out, BC⟩
    · have HG : Hid (G3 = G2 ++ [6]) := Lib.hid (by rw [← HG3.out, ho]; rfl)
      go_wp2_with (at_builtin; refine push_errno rfl _ _ rfl W0.heap.size _ G2.length G2 rfl HO.out 6 rfl (by omega) zc ?_; intro A1' c1' w1 hown1 hb1 hz1)
      go_meet
      exact ⟨A1', c1', by rw [HG.out, List.length_append]; rfl, by unfold EOwn; rw [HG.out, List.length_append]; exact hown1, BC.trans hb1⟩
  clear BC HO A' c'
  obtain ⟨A', c', hv, hown, BC⟩ := hcut
  subst hv
  obtain ⟨FS, hFS⟩ : ∃ FS, tvTo x.travel x.travel.length = FS := ⟨_, rfl⟩
  have hFl : FS.length ≤ 201 := by rw [← hFS]; have := tvTo_len x.travel x.travel.length; omega
  obtain ⟨SL, hSL⟩ : ∃ SL, slTo x.slow x.slow.length = SL := ⟨_, rfl⟩
  have hSl : SL.length ≤ 1000001 := by rw [← hSL]; have := slTo_len x.slow x.slow.length; omega
  have HT : Hid (∀ w', Below W0.heap.size W0 w' → Calls Tryz.prog 95 #[.slice C x.travel.length c] w' (FltsOut w' FS)) := Lib.hid fun w' h => by rw [← hFS]; exact tcheck_any C c x.travel _ (HR.out _ h).1 hl
  have HL : Hid (∀ w', Below W0.heap.size W0 w' → Calls Tryz.prog 96 #[.slice D x.slow.length d] w' (ErrsOut w' SL)) := Lib.hid fun w' h => by rw [← hSL]; exact slow_any D d x.slow _ (HR.out _ h).2.1 hl2
  rw [hFS, hSL] at HE
  clear hFS hSL hl hl2
  obtain ⟨m0, m1, m2, m3, m4, m5, n0, n1'⟩ := HS.out _ (BC)
  have zc := BC.size
  go_wp2_with (go_at_call 95; refine (HT.out _ BC).mono ?_; rintro e w8 ⟨Af, cf, rfl, hownF, hb8⟩)
  obtain ⟨gF, hgF1, hgF2, hgF3⟩ := flt_place hownF
  have s8 := hb8.size
  have hown8 := own_below hown hb8
  have HNE : Hid ((Value.slice A' G3.length c').ownBlock ≠ some gF) := Lib.hid (by
    intro e
    have := (World.ownsRow.lt hown gF e).2
    omega)
  have HG8 := Lib.hid hgF3
  have B8 : Below W0.heap.size W0 w8 := BC.trans (hb8.mono zc)
  have HO8 := Lib.hid hown8
  clear hown hown8 hownF hgF3 m0 m1 m2 m3 m4 m5 n0 n1'
  go_loopw [7, 64] (fun v k wr => ∃ (q : Nat) (A2 : Option Addr) (c2 : Nat), q ≤ FS.length ∧ k = .int .i64 q ∧ v = .slice A2 (G3.length + q) c2 ∧ wr.ownsRow W0.heap.size 35 1 (.slice A2 (G3.length + q) c2) (G3.length + q) ((G3 ++ (FS.take q).map (·.err)).map (.int .i64)) ∧ Hid ((Value.slice A2 (G3.length + q) c2).ownBlock ≠ some gF) ∧
    Hid (∀ (q : Nat) f, FS[q]? = some f → wr.cell? ⟨gF, q * 2, none⟩ = some (.int .i64 f.err) ∧ wr.cell? ⟨gF, q * 2 + 1, none⟩ = some (.string f.at_)) ∧ Below W0.heap.size W0 wr ∧ w8.heap.size ≤ wr.heap.size) (fun _ k _ => FS.length - (intOf k).toNat)
  case atStart => exact ⟨0, A', c', by omega, rfl, rfl, by simpa using HO8.out, HNE, HG8, B8, Nat.le_refl _⟩
  case round =>
    clear HO8 HNE HG8
    obtain ⟨q, A2, c2, hq, rfl, rfl, hown2, hne2, hcs2, hB2, hs2⟩ := hrel
    by_cases hlq : q < FS.length
    · obtain ⟨rfl, hgw⟩ := hgF2 (by omega)
      obtain ⟨f, hx⟩ : ∃ f, FS[q]? = some f := ⟨_, List.getElem?_eq_getElem hlq⟩
      obtain ⟨hcx, hcx'⟩ := hcs2.out q f hx
      have hq0 : (0 : Int) ≤ (q : Int) := by omega
      have hqn : (q : Int) < (FS.length : Int) := by omega
      have HTK : Hid ((G3 ++ (FS.take (q + 1)).map (·.err)).map (Value.int .i64) = (G3 ++ (FS.take q).map (·.err)).map (Value.int .i64) ++ [.int .i64 f.err]) := Lib.hid (by
        obtain ⟨h1, h2⟩ := List.getElem?_eq_some_iff.1 hx
        rw [List.take_succ_eq_append_getElem h1, h2]
        simp)
      clear hx hgF2
      have HW := Lib.hid hs2
      have zb := hB2.size
      go_wp2_with (at_builtin; refine wpList_app errno_elem _ _ rfl W0.heap.size A2 (G3.length + q) c2 _ rfl ((hown2.alloc _).alloc _) ⟨wr.heap.size + 1, 0, none⟩ 1 [.int .i64 f.err] rfl rfl (fun j u hu => by have h := one_new (wr.alloc (.cells #[.int .i64 f.err, .string f.at_] 37)) (.int .i64 f.err) 35 j u hu; rw [World.size_alloc] at h; exact h) (by simp [Value.oneCell']) (by omega) (by simp; omega) rfl ?_; intro g3 c3 w3 hown3 hg3 hd3)
      go_roundw
      case rel =>
        refine ⟨q + 1, some ⟨g3, 0, none⟩, c3, by omega, by go_num, rfl, by rw [HTK.out]; exact hown3, Lib.hid ?_, Lib.hid ?_, ?_, ?_⟩
        · rcases hd3 with h | h
          · intro e; rw [show (Value.slice (some ⟨g3, 0, none⟩) (G3.length + (q + 1)) c3).ownBlock = some g3 from rfl, ← h] at e; exact hne2.out e
          · intro e; rw [show (Value.slice (some ⟨g3, 0, none⟩) (G3.length + (q + 1)) c3).ownBlock = some g3 from rfl] at e; injection e with e; simp at h; have := HW.out; omega
        · intro q' f' hq'
          have hg : gF < wr.heap.size := by have := HW.out; omega
          have hc1 := World.cell?_alloc_lt (wr.alloc (.cells #[.int .i64 f.err, .string f.at_] 37)) (.cells #[.int .i64 f.err] 35)
          have hc2 := World.cell?_alloc_lt wr (.cells #[.int .i64 f.err, .string f.at_] 37)
          obtain ⟨a1, a2⟩ := hcs2.out q' f' hq'
          exact ⟨hg3.cell ((hc1 _ (by simp; omega)).trans ((hc2 _ hg).trans a1)) (by intro e; exact hne2.out e.symm), hg3.cell ((hc1 _ (by simp; omega)).trans ((hc2 _ hg).trans a2)) (by intro e; exact hne2.out e.symm)⟩
        · exact ((hB2.alloc zb _).alloc (by simp; omega) _).grown hg3 (by simp; omega) (fun q' e => (World.ownsRow.lt hown2 _ e).1)
        · have := hg3.size; have := HW.out; simp at *; omega
      case measure => simp [intOf]; omega
    · have hqE : q = FS.length := by omega
      subst hqE
      have zb := hB2.size
      rw [List.take_of_length_le (Nat.le_refl _)] at hown2
      have HO2 := Lib.hid hown2
      clear hown2 hne2 hcs2
      obtain ⟨m0, m1, m2, m3, m4, m5, n0, n1'⟩ := HS.out _ (hB2)
      go_wp2_with (first
        | (go_at_call 96; refine (HL.out _ hB2).mono ?_; rintro e w9 ⟨As, cs, rfl, hownS, hb9⟩)
        | (at_builtin; refine wpList_appN errno_elem _ _ rfl W0.heap.size (.slice A2 (G3.length + FS.length) c2) (G3.length + FS.length) _ rfl (own_below HO2.out hb9) w9.heap.size As SL.length cs (SL.map (.int .i64)) rfl (Reads.of_own hownS) (fun u hu => by obtain ⟨y, _, rfl⟩ := List.mem_map.1 hu; rfl) (by omega) (by have := hb9.size; omega) rfl ?_; intro A5 c5 w5 hown5 hg5))
      go_ret
      have hEl : E.length = G3.length + FS.length + SL.length := by rw [HE.out]; simp [Nat.add_assoc]
      have hEm : E.map (Value.int .i64) = (G3 ++ FS.map (·.err)).map (Value.int .i64) ++ SL.map (Value.int .i64) := by rw [HE.out]; simp
      refine ⟨A5, c5, by rw [hEl]; rfl, ?_, ?_⟩
      · rw [hEl, hEm]
        exact own_less hown5 z0
      · have B9 : Below W0.heap.size W0 w9 := hB2.trans (hb9.mono zb)
        exact hB0.trans ((B9.grown hg5 B9.size (fun q' e => (World.ownsRow.lt (own_below HO2.out hb9) _ e).1)).mono z0)
end Go.Proofs.YtceceomaheobhaaGreatDoor.net

/- The examples of layer 13: awake. -/
import Derived.Test.YtceceomaheobhaaGreatDoorInsG
import Derived.Test.YtceceomaheobhaaGreatDoorInsJ
import Derived.Test.YtceceomaheobhaaGreatDoorInsH
import Derived.Test.YtceceomaheobhaaGreatDoorOnlB
import Derived.BigRegion
namespace Go.Proofs.YtceceomaheobhaaGreatDoor.ins
open Go.RowKit
open Go.Proofs.YtceceomaheobhaaGreatDoor.lib Go.Proofs.YtceceomaheobhaaGreatDoor.rd Go.Proofs.YtceceomaheobhaaGreatDoor.typ Go.Proofs.YtceceomaheobhaaGreatDoor.big Go.Proofs.YtceceomaheobhaaGreatDoor.app Go.Proofs.YtceceomaheobhaaGreatDoor.flts
set_option linter.unusedVariables false
set_option linter.unusedSimpArgs false

def netI : Ins := ⟨littleI.net, [], [], [], []⟩
def onlyY : Ins := ⟨littleI.net, littleI.types, [obO], [], []⟩
theorem little_only : onlyI littleI 2 = onlyY := by rfl
theorem little_mem : sets.memTo 2 littleI.orders.length = [1] := by rfl
theorem little_check : insF littleI = [] := by kernel_rfl
theorem net_check : insF netI = [⟨4, ⟨#[116, 121, 112, 101, 115]⟩⟩] := by kernel_rfl
theorem little_all : sch.suchN allP littleI.orders littleI.orders.length = 3 := by kernel_rfl
theorem little_must : sch.suchN mustP littleI.orders littleI.orders.length = 1 := by kernel_rfl
theorem little_same : sameI littleI littleI = true := by kernel_rfl
theorem little_lim : Lim littleI := ⟨by decide, by decide, fun a h => (by cases h), fun j a h => (by simp [littleI] at h), by rw [show insN littleI = [] by kernel_rfl]; decide, by decide, by decide, by decide, by decide⟩
theorem net_lim : Lim netI := ⟨by decide, by decide, fun a h => (by cases h), fun j a h => (by simp [netI, littleI] at h), by rw [show insN netI = [] by kernel_rfl]; decide, by decide, by decide, by decide, by decide⟩
theorem awk_only (P : InP) (w : World) (h : InAt w w.heap.size littleI P) : Calls Tryz.prog 18 #[InV littleI P, .int .i64 2] w (OnlyGood onlyY [1] w) := by
  have h := onlyGood_any littleI P 2 w h (by decide) (by decide) (by decide) (by decide) (by decide)
  rw [little_only, little_mem] at h
  exact h
theorem awk_check (P : InP) (w : World) (h : InAt w w.heap.size littleI P) : Calls Tryz.prog 8 #[InV littleI P] w (FltsOut w []) := by
  have h := icheck_any littleI P w h little_lim
  rw [little_check] at h
  exact h
theorem awk_net (P : InP) (w : World) (h : InAt w w.heap.size netI P) : Calls Tryz.prog 8 #[InV netI P] w (FltsOut w [⟨4, ⟨#[116, 121, 112, 101, 115]⟩⟩]) := by
  have h := icheck_any netI P w h net_lim
  rw [net_check] at h
  exact h
theorem awk_all (P : InP) (w : World) (h : InAt w w.heap.size littleI P) : Calls Tryz.prog 19 #[InV littleI P] w fun e w' => e = .returned (.int .i64 3) ∧ Below w.heap.size w w' := by
  have h := all_any littleI P w h (by decide)
  rw [little_all] at h
  exact h
theorem awk_must (P : InP) (w : World) (h : InAt w w.heap.size littleI P) : Calls Tryz.prog 20 #[InV littleI P] w fun e w' => e = .returned (.int .i64 1) ∧ Below w.heap.size w w' := by
  have h := must_any littleI P w h (by decide)
  rw [little_must] at h
  exact h
theorem awk_same (P : InP) (w : World) (h : InAt w w.heap.size littleI P) : Calls Tryz.prog 21 #[InV littleI P, InV littleI P] w fun e w' => e = .returned (.bool true) ∧ Below w.heap.size w w' := by
  have h := same_any littleI littleI P P w h h
  rw [little_same] at h
  exact h
theorem insCs_one (x : Ins) (P : InP) : ∀ u ∈ insCs x P, u.oneCell' = true := fun u hu => by
  simp only [insCs, List.mem_cons, List.not_mem_nil, or_false] at hu
  rcases hu with rfl | rfl | rfl | rfl | rfl | rfl <;> rfl
set_option maxRecDepth 100000 in
set_option maxHeartbeats 4000000 in
theorem awake_any (w : World) : Calls Tryz.prog 7 #[] w fun e w' => e = .returned (.bool true) ∧ Below w.heap.size w w' := by
  go_enter Tryz.func7, Tryz.ntmps7
  go_upto_region 1 with fail
  go_cut [1] (fun p wx => ∃ P k, p = .pointer (some ⟨k, 0, none⟩) ∧ SixAt wx k (insCs littleI P) ∧ InAt wx wx.heap.size littleI P ∧ Below w.heap.size w wx)
  case first => as_aux_lemma =>
    go_wp2_with (first
      | (go_at_call 17; refine (little_any _).mono ?_; rintro e w1 ⟨P, rfl, hI, hb⟩; have HI := Lib.hid hI; clear hI)
      | ((with_reducible refine wpList_storeL sIns rfl _ _ rfl w1.heap.size nilCs (insCs littleI P) ?_ ?_ ?_ ?_ ?_ (insCs_one _ _) ?_); exact rfl; exact rfl; exact World.alloc_heap_new w1 _; exact rfl; exact rfl; intro w2 k1 k2 k3 k4; have K := Lib.hid (And.intro k1 (And.intro k2 (And.intro k3 k4))); clear k1 k2 k3 k4))
    go_meet
    obtain ⟨k1, k2, k3, k4⟩ := K.out
    have hb2 : Below w1.heap.size w1 w2 := ((Below.refl _ _).alloc (Nat.le_refl _) _).trans k4
    exact ⟨P, w1.heap.size, rfl, k1, HI.out.go hb2, hb.trans (hb2.mono hb.size)⟩
  obtain ⟨P, k, h1, hx, hI, hB⟩ := hcut
  subst h1
  have HX := Lib.hid hx
  have HI := Lib.hid hI
  have hkw : k < wc.heap.size := (Array.getElem?_eq_some_iff.1 hx).1
  clear hx hI
  go_upto_region 2 with fail
  go_cut [2, 3, 4] (fun p v e wx => ∃ P2 A c k2, p = .pointer (some ⟨k2, 0, none⟩) ∧ v = .slice A 1 c ∧ e = .int .i64 0 ∧ SixAt wx k (insCs littleI P) ∧ SixAt wx k2 (insCs onlyY P2) ∧ InAt wx wx.heap.size littleI P ∧ InAt wx wx.heap.size onlyY P2 ∧ wx.ownsRow wc.heap.size 3 1 (.slice A 1 c) 1 [.int .i64 1] ∧ Below w.heap.size w wx)
  case first => as_aux_lemma =>
    go_wp2_with (first
      | ((with_reducible refine wpList_loadB sIns rfl _ rfl k (insCs littleI P).toArray (0, 0) ?_ ?_ ?_ ?_); exact rfl; exact HX.out; exact rfl)
      | (go_at_call 18; refine (awk_only P _ HI.out).mono ?_; rintro e w1 ⟨P2, A, c, rfl, hI2, hown, hb⟩; have HI2 := Lib.hid (And.intro hI2 hown); clear hI2 hown)
      | ((with_reducible refine wpList_storeL sIns rfl _ _ rfl w1.heap.size nilCs (insCs onlyY P2) ?_ ?_ ?_ ?_ ?_ (insCs_one _ _) ?_); exact rfl; exact rfl; exact World.alloc_heap_new w1 _; exact rfl; exact rfl; intro w2 k1 k2 k3 k4; have K := Lib.hid (And.intro k1 (And.intro k2 (And.intro k3 k4))); clear k1 k2 k3 k4))
    go_meet
    obtain ⟨k1, k2, k3, k4⟩ := K.out
    have hb2 : Below w1.heap.size w1 w2 := ((Below.refl _ _).alloc (Nat.le_refl _) _).trans k4
    have hb3 : Below wc.heap.size wc w2 := hb.trans (hb2.mono hb.size)
    exact ⟨P2, A, c, w1.heap.size, rfl, rfl, rfl, HX.out.below hb3, k1, HI.out.go hb3, HI2.out.1.go hb2, own_below HI2.out.2 hb2, hB.trans (hb3.mono hB.size)⟩
  clear HX HI hkw hB
  obtain ⟨P2, A, c, k2, h2, h3, h4, hx, hy, hI, hI2, hown, hB⟩ := hcut
  subst h2
  subst h3
  subst h4
  have HX := Lib.hid hx
  have c0 : wc.cell? ⟨k, 0, none⟩ = some (.slice P.a0 1 P.c0) := hx.cell (j := 0) rfl
  have c1 : wc.cell? ⟨k, 1, none⟩ = some (.slice P.a1 0 P.c1) := hx.cell (j := 1) rfl
  have HI := Lib.hid (And.intro hI hI2)
  have HY := Lib.hid hy
  have HO := Lib.hid hown
  clear hx hI hI2 hown hy
  go_upto_region 3 with fail
  have hi := HI.out.1
  have hnet : InAt wc wc.heap.size netI ⟨P.a0, P.c0, P.a1, P.c1, none, 0, none, 0, none, 0, none, 0⟩ := ⟨hi.places, hi.arcs, RowAt.nil, RowAt.nil, RowAt.nil, RowAt.nil, Nat.le_refl 0, Nat.le_refl 0, Nat.le_refl 0, Nat.le_refl 0⟩
  have HNET := Lib.hid hnet
  clear hi hnet
  go_wp2_with fail
  refine (awk_net _ _ HNET.out).mono ?_
  rintro e w3 ⟨Af, cf, rfl, hownF, hb3⟩
  have HF := Lib.hid hownF
  have hx3 := HX.out.below hb3
  have hi3 := Lib.hid (HI.out.1.go hb3)
  have z3 := hb3.size
  obtain ⟨gf, rfl, hgf, f0, f1⟩ := flt_one hownF
  obtain ⟨gl, hgl1, hgl2, hgl3⟩ := row_place (l := [1]) HO.out
  obtain ⟨rfl, hgl⟩ := hgl2 (by decide)
  have l0 : w3.cell? ⟨gl, 0, none⟩ = some (.int .i64 1) := (hb3.cell (p := ⟨gl, 0, none⟩) hgl).trans (hgl3 0 (by decide))
  have hy3 := HY.out.below hb3
  obtain ⟨ad, C0, d0, hAd, hadb, hox, -, -⟩ := row_Ord (HI.out.2.orders.below hb3) (i := 0) (t := obO) rfl
  have o0 : w3.cell? ad = some (.string ⟨#[111, 98]⟩) := by have h := hox.1; rw [Nat.zero_mul] at h; simpa [Addr.add, obO] using h
  have y3 : w3.cell? ⟨k2, 3, none⟩ = some (.slice (some ad) 1 P2.c3) := by rw [← hAd]; exact hy3.cell (j := 3) rfl
  have hk3 : k < w3.heap.size := (Array.getElem?_eq_some_iff.1 hx3).1
  have hk23 : k2 < w3.heap.size := (Array.getElem?_eq_some_iff.1 hy3).1
  have hS : ∀ w', Below w3.heap.size w3 w' → (Below w3.heap.size w3 w' ∧ w'.cell? ⟨k, 0, none⟩ = some (.slice P.a0 1 P.c0) ∧ w'.cell? ⟨k, 1, none⟩ = some (.slice P.a1 0 P.c1) ∧ w'.cell? ⟨k, 2, none⟩ = some (.slice P.a2 1 P.c2) ∧ w'.cell? ⟨k, 3, none⟩ = some (.slice P.a3 2 P.c3) ∧ w'.cell? ⟨k, 4, none⟩ = some (.slice P.a4 1 P.c4) ∧ w'.cell? ⟨k, 5, none⟩ = some (.slice P.a5 0 P.c5) ∧ w'.cell? ⟨gl, 0, none⟩ = some (.int .i64 1) ∧ w'.cell? ⟨k2, 3, none⟩ = some (.slice (some ad) 1 P2.c3) ∧ w'.cell? ⟨k2, 4, none⟩ = some (.slice P2.a4 0 P2.c4) ∧ w'.cell? ad = some (.string ⟨#[111, 98]⟩) ∧ w'.cell? ⟨gf, 0, none⟩ = some (.int .i64 4) ∧ w'.cell? ⟨gf, 1, none⟩ = some (.string ⟨#[116, 121, 112, 101, 115]⟩)) := fun w' hb => by
    have q1 := fun o => hb.cell (p := ⟨k, o, none⟩) hk3
    have q2 := fun o => hb.cell (p := ⟨k2, o, none⟩) hk23
    have q3 := fun o => hb.cell (p := ⟨gf, o, none⟩) hgf
    exact ⟨hb, (q1 _).trans (hx3.cell (j := 0) rfl), (q1 _).trans (hx3.cell (j := 1) rfl), (q1 _).trans (hx3.cell (j := 2) rfl), (q1 _).trans (hx3.cell (j := 3) rfl), (q1 _).trans (hx3.cell (j := 4) rfl), (q1 _).trans (hx3.cell (j := 5) rfl), (hb.cell (p := ⟨gl, 0, none⟩) (by show gl < _; omega)).trans l0, (q2 _).trans y3, (q2 _).trans (hy3.cell (j := 4) rfl), (hb.cell (by omega)).trans o0, (q3 _).trans f0, (q3 _).trans f1⟩
  have B3 : Below w.heap.size w w3 := hB.trans (hb3.mono hB.size)
  have HXB : Hid (∀ w', Below w3.heap.size w3 w' → SixAt w' k (insCs littleI P)) := Lib.hid fun w' h => hx3.below h
  have HS := Lib.hid hS
  have HI3 : Hid (∀ w', Below w3.heap.size w3 w' → InAt w' w'.heap.size littleI P) := Lib.hid fun w' h => hi3.out.go h
  have B0 : Below w3.heap.size w3 w3 := Below.refl _ _
  have z0 := B3.size
  clear hS hownF hb3 c0 c1 hx3 hi3 hy3 f0 f1 l0 o0 y3 hox hAd hgl1 hgl2 hgl3 hB
  go_upto_region 4 with fail
  obtain ⟨-, x0, x1, x2, x3, x4, x5, -, -, -, -, -, -⟩ := HS.out _ B0
  go_wp2_with fail
  refine (awk_check P _ (HI3.out _ B0)).mono ?_
  rintro e w4 ⟨A4, c4, rfl, -, b4⟩
  have B4 : Below w3.heap.size w3 w4 := b4
  clear b4 x0 x1 x2 x3 x4 x5
  obtain ⟨-, x0, x1, x2, x3, x4, x5, -, -, -, -, -, -⟩ := HS.out _ B4
  go_wp2_with fail
  refine (awk_all P _ (HI3.out _ B4)).mono ?_
  rintro e w5 ⟨rfl, b5⟩
  have B5 : Below w3.heap.size w3 w5 := B4.trans (b5.mono B4.size)
  clear b5 x0 x1 x2 x3 x4 x5
  obtain ⟨-, x0, x1, x2, x3, x4, x5, -, -, -, -, -, -⟩ := HS.out _ B5
  go_wp2_with fail
  refine (awk_must P _ (HI3.out _ B5)).mono ?_
  rintro e w6 ⟨rfl, b6⟩
  have B6 : Below w3.heap.size w3 w6 := B5.trans (b6.mono B5.size)
  clear b6 x0 x1 x2 x3 x4 x5
  obtain ⟨-, x0, x1, x2, x3, x4, x5, l0, y3, y4, o0, f0, f1⟩ := HS.out _ B6
  go_wp2_with fail
  refine (awk_same P _ (HI3.out _ B6)).mono ?_
  rintro e w7 ⟨rfl, b7⟩
  have B7 : Below w3.heap.size w3 w7 := B6.trans (b7.mono B6.size)
  clear b7 x0 x1 x2 x3 x4 x5 l0 y3 y4 o0 f0 f1
  go_wp2_with fail
  go_ret
  exact ⟨rfl, B3.trans (B7.mono z0)⟩
end Go.Proofs.YtceceomaheobhaaGreatDoor.ins

/- The same instances: the program. -/
import Derived.Test.YtceceomaheobhaaGreatDoorInsF
namespace Go.Proofs.YtceceomaheobhaaGreatDoor.ins
open Go.RowKit
open Go.Proofs.YtceceomaheobhaaGreatDoor.lib Go.Proofs.YtceceomaheobhaaGreatDoor.rd Go.Proofs.YtceceomaheobhaaGreatDoor.typ Go.Proofs.YtceceomaheobhaaGreatDoor.eqg Go.Proofs.YtceceomaheobhaaGreatDoor.note
set_option linter.unusedVariables false
set_option linter.unusedSimpArgs false

def sameI (a b : Ins) : Bool := eqL sameS a.net.places b.net.places && (eqL sameA a.net.arcs b.net.arcs && (eqL flt.sameT a.types b.types && (eqL ord.sameO a.orders b.orders && (eqL twoEq a.apart b.apart && (eqL twoEq a.before b.before)))))
set_option maxRecDepth 20000 in
set_option maxHeartbeats 4000000 in
theorem same_any (a b : Ins) (P Q : InP) (w : World) (hP : InAt w w.heap.size a P) (hQ : InAt w w.heap.size b Q) :
    Calls Tryz.prog 21 #[InV a P, InV b Q] w fun e w' => e = .returned (.bool (sameI a b)) ∧ Below w.heap.size w w' := by
  obtain ⟨A0, c0, A1, c1, A2, c2, A3, c3, A4, c4, A5, c5⟩ := P
  obtain ⟨D0, d0, D1, d1, D2, d2, D3, d3, D4, d4, D5, d5⟩ := Q
  obtain ⟨R, hR⟩ : ∃ R, sameI a b = R := ⟨_, rfl⟩
  have HR0 : Hid (R = (eqL sameS a.net.places b.net.places && (eqL sameA a.net.arcs b.net.arcs && (eqL flt.sameT a.types b.types && (eqL ord.sameO a.orders b.orders && (eqL twoEq a.apart b.apart && (eqL twoEq a.before b.before))))))) := Lib.hid (by rw [← hR]; rfl)
  rw [hR]
  simp only [InV]
  obtain ⟨W0, hW0⟩ : ∃ W0, (w.alloc (.cells #[.slice A0 a.net.places.length c0, .slice A1 a.net.arcs.length c1, .slice A2 a.types.length c2, .slice A3 a.orders.length c3, .slice A4 a.apart.length c4, .slice A5 a.before.length c5] 30)).alloc (.cells #[.slice D0 b.net.places.length d0, .slice D1 b.net.arcs.length d1, .slice D2 b.types.length d2, .slice D3 b.orders.length d3, .slice D4 b.apart.length d4, .slice D5 b.before.length d5] 30) = W0 := ⟨_, rfl⟩
  have hB0 : Below w.heap.size w W0 := by rw [← hW0]; exact ((Below.refl _ _).alloc (Nat.le_refl _) _).alloc (by simp) _
  have z0 := hB0.size
  have hs0 : w.heap.size + 1 < W0.heap.size := by rw [← hW0]; simp
  have HS : Hid (∀ w', Below W0.heap.size W0 w' → w'.cell? ⟨w.heap.size, 0, none⟩ = some (.slice A0 a.net.places.length c0) ∧ w'.cell? ⟨w.heap.size, 1, none⟩ = some (.slice A1 a.net.arcs.length c1) ∧ w'.cell? ⟨w.heap.size, 2, none⟩ = some (.slice A2 a.types.length c2) ∧ w'.cell? ⟨w.heap.size, 3, none⟩ = some (.slice A3 a.orders.length c3) ∧ w'.cell? ⟨w.heap.size, 4, none⟩ = some (.slice A4 a.apart.length c4) ∧ w'.cell? ⟨w.heap.size, 5, none⟩ = some (.slice A5 a.before.length c5) ∧ w'.cell? ⟨w.heap.size + 1, 0, none⟩ = some (.slice D0 b.net.places.length d0) ∧ w'.cell? ⟨w.heap.size + 1, 1, none⟩ = some (.slice D1 b.net.arcs.length d1) ∧ w'.cell? ⟨w.heap.size + 1, 2, none⟩ = some (.slice D2 b.types.length d2) ∧ w'.cell? ⟨w.heap.size + 1, 3, none⟩ = some (.slice D3 b.orders.length d3) ∧ w'.cell? ⟨w.heap.size + 1, 4, none⟩ = some (.slice D4 b.apart.length d4) ∧ w'.cell? ⟨w.heap.size + 1, 5, none⟩ = some (.slice D5 b.before.length d5)) := Lib.hid fun w' h => by
    have hk := fun (o : Nat) => h.cell (p := ⟨w.heap.size, o, none⟩) (show w.heap.size < W0.heap.size by omega)
    have hk1 := fun (o : Nat) => h.cell (p := ⟨w.heap.size + 1, o, none⟩) hs0
    refine ⟨(hk _).trans ?_, (hk _).trans ?_, (hk _).trans ?_, (hk _).trans ?_, (hk _).trans ?_, (hk _).trans ?_, (hk1 _).trans ?_, (hk1 _).trans ?_, (hk1 _).trans ?_, (hk1 _).trans ?_, (hk1 _).trans ?_, (hk1 _).trans ?_⟩
    all_goals (rw [← hW0]; simp)
  have HP : Hid (∀ w', Below W0.heap.size W0 w' → InAt w' w'.heap.size a ⟨A0, c0, A1, c1, A2, c2, A3, c3, A4, c4, A5, c5⟩ ∧ InAt w' w'.heap.size b ⟨D0, d0, D1, d1, D2, d2, D3, d3, D4, d4, D5, d5⟩) := Lib.hid fun w' h => ⟨(hP.go hB0).go h, (hQ.go hB0).go h⟩
  have B0 : Below W0.heap.size W0 W0 := Below.refl _ _
  have HW0 := Lib.hid hW0
  clear hR hW0 hP hQ
  go_enter Tryz.func21, Tryz.ntmps21
  go_wp2_with fail
  rw [HW0.out]
  refine (eqStr_any A0 c0 a.net.places _ rfl D0 d0 b.net.places _ rfl _ _ _ (Nat.le_refl _) (Nat.le_refl _) (HP.out _ B0).1.places (HP.out _ B0).2.places).mono ?_
  rintro e w1 ⟨rfl, hb1⟩
  have B1 : Below W0.heap.size W0 w1 := B0.trans (hb1.mono B0.size)
  obtain ⟨m0, m1, m2, m3, m4, m5, n0, n1, n2, n3, n4, n5⟩ := HS.out _ B1
  cases hq0 : eqL sameS a.net.places b.net.places
  · have HT : Hid (R = false) := Lib.hid (by rw [HR0.out, hq0]; rfl)
    go_wp2
    go_ret
    exact ⟨ret_bool HT.out.symm, hB0.trans (B1.mono z0)⟩
  have HR1 : Hid (R = (eqL sameA a.net.arcs b.net.arcs && (eqL flt.sameT a.types b.types && (eqL ord.sameO a.orders b.orders && (eqL twoEq a.apart b.apart && (eqL twoEq a.before b.before)))))) := Lib.hid (by rw [HR0.out, hq0]; rfl)
  clear hq0 hb1
  go_wp2_with fail
  refine (eqArc_any A1 c1 a.net.arcs _ rfl D1 d1 b.net.arcs _ rfl _ _ _ (Nat.le_refl _) (Nat.le_refl _) (HP.out _ B1).1.arcs (HP.out _ B1).2.arcs).mono ?_
  rintro e w2 ⟨rfl, hb2⟩
  have B2 : Below W0.heap.size W0 w2 := B1.trans (hb2.mono B1.size)
  obtain ⟨m0, m1, m2, m3, m4, m5, n0, n1, n2, n3, n4, n5⟩ := HS.out _ B2
  cases hq1 : eqL sameA a.net.arcs b.net.arcs
  · have HT : Hid (R = false) := Lib.hid (by rw [HR1.out, hq1]; rfl)
    go_wp2
    go_ret
    exact ⟨ret_bool HT.out.symm, hB0.trans (B2.mono z0)⟩
  have HR2 : Hid (R = (eqL flt.sameT a.types b.types && (eqL ord.sameO a.orders b.orders && (eqL twoEq a.apart b.apart && (eqL twoEq a.before b.before))))) := Lib.hid (by rw [HR1.out, hq1]; rfl)
  clear hq1 hb2
  go_wp2_with fail
  refine (eqTy_any A2 c2 a.types _ rfl D2 d2 b.types _ rfl _ _ _ (Nat.le_refl _) (Nat.le_refl _) (HP.out _ B2).1.types (HP.out _ B2).2.types).mono ?_
  rintro e w3 ⟨rfl, hb3⟩
  have B3 : Below W0.heap.size W0 w3 := B2.trans (hb3.mono B2.size)
  obtain ⟨m0, m1, m2, m3, m4, m5, n0, n1, n2, n3, n4, n5⟩ := HS.out _ B3
  cases hq2 : eqL flt.sameT a.types b.types
  · have HT : Hid (R = false) := Lib.hid (by rw [HR2.out, hq2]; rfl)
    go_wp2
    go_ret
    exact ⟨ret_bool HT.out.symm, hB0.trans (B3.mono z0)⟩
  have HR3 : Hid (R = (eqL ord.sameO a.orders b.orders && (eqL twoEq a.apart b.apart && (eqL twoEq a.before b.before)))) := Lib.hid (by rw [HR2.out, hq2]; rfl)
  clear hq2 hb3
  go_wp2_with fail
  refine (eqOrd_any A3 c3 a.orders _ rfl D3 d3 b.orders _ rfl _ _ _ (Nat.le_refl _) (Nat.le_refl _) (HP.out _ B3).1.orders (HP.out _ B3).2.orders).mono ?_
  rintro e w4 ⟨rfl, hb4⟩
  have B4 : Below W0.heap.size W0 w4 := B3.trans (hb4.mono B3.size)
  obtain ⟨m0, m1, m2, m3, m4, m5, n0, n1, n2, n3, n4, n5⟩ := HS.out _ B4
  cases hq3 : eqL ord.sameO a.orders b.orders
  · have HT : Hid (R = false) := Lib.hid (by rw [HR3.out, hq3]; rfl)
    go_wp2
    go_ret
    exact ⟨ret_bool HT.out.symm, hB0.trans (B4.mono z0)⟩
  have HR4 : Hid (R = (eqL twoEq a.apart b.apart && (eqL twoEq a.before b.before))) := Lib.hid (by rw [HR3.out, hq3]; rfl)
  clear hq3 hb4
  go_wp2_with fail
  refine (eqTwo_any A4 c4 a.apart _ rfl D4 d4 b.apart _ rfl _ _ _ (Nat.le_refl _) (Nat.le_refl _) (HP.out _ B4).1.apart (HP.out _ B4).2.apart).mono ?_
  rintro e w5 ⟨rfl, hb5⟩
  have B5 : Below W0.heap.size W0 w5 := B4.trans (hb5.mono B4.size)
  obtain ⟨m0, m1, m2, m3, m4, m5, n0, n1, n2, n3, n4, n5⟩ := HS.out _ B5
  cases hq4 : eqL twoEq a.apart b.apart
  · have HT : Hid (R = false) := Lib.hid (by rw [HR4.out, hq4]; rfl)
    go_wp2
    go_ret
    exact ⟨ret_bool HT.out.symm, hB0.trans (B5.mono z0)⟩
  have HR5 : Hid (R = (eqL twoEq a.before b.before)) := Lib.hid (by rw [HR4.out, hq4]; rfl)
  clear hq4 hb5
  go_wp2_with fail
  refine (eqTwo_any A5 c5 a.before _ rfl D5 d5 b.before _ rfl _ _ _ (Nat.le_refl _) (Nat.le_refl _) (HP.out _ B5).1.before (HP.out _ B5).2.before).mono ?_
  rintro e w6 ⟨rfl, hb6⟩
  have B6 : Below W0.heap.size W0 w6 := B5.trans (hb6.mono B5.size)
  go_wp2
  go_ret
  exact ⟨ret_bool HR5.out.symm, hB0.trans (B6.mono z0)⟩
end Go.Proofs.YtceceomaheobhaaGreatDoor.ins

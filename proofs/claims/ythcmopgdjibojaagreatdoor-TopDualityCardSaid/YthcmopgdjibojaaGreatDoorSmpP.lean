/- simplex: Check. -/
import Derived.Test.YthcmopgdjibojaaGreatDoorSmpN
namespace Go.Proofs.YthcmopgdjibojaaGreatDoor.smp
open Go.RowKit
open Go.Proofs.YthcmopgdjibojaaGreatDoor.lib Go.Proofs.YthcmopgdjibojaaGreatDoor.app Go.Proofs.YthcmopgdjibojaaGreatDoor.nt Go.Proofs.YthcmopgdjibojaaGreatDoor.rd Go.Proofs.YthcmopgdjibojaaGreatDoor.wh Go.Proofs.YthcmopgdjibojaaGreatDoor.smx Go.Proofs.YthcmopgdjibojaaGreatDoor.rat Go.Proofs.YthcmopgdjibojaaGreatDoor.lnr Go.Proofs.YthcmopgdjibojaaGreatDoor.typ
set_option linter.unusedVariables false
set_option linter.unusedSimpArgs false

/-- A call that says yes, in every later world. -/
def Yes (f : Nat) (args : Array Value) (v : Value) (w : World) : Prop := ∀ w', Below w.heap.size w w' → Calls Tryz.prog f args w' fun e w2 => e = .returned v ∧ Below w'.heap.size w' w2
set_option maxRecDepth 20000 in
set_option maxHeartbeats 4000000 in
theorem check1_any (n m : Nat) (C0 : Option Addr) (c0 : Nat) (C1 : Option Addr) (c1 : Nat) (A : Option Addr) (na ca : Nat) (D : Option Addr) (nd cd : Nat) (R : Option Addr) (nr cr : Nat) (v : ByteArray) (w : World)
    (h1 : Yes 21 #[LnV n m C0 c0 C1 c1] (.slice none 0 0) w) (h2 : Yes 32 #[LnV n m C0 c0 C1 c1, AnsV 1 A na ca D nd cd R nr cr v] (.bool true) w)
    (h3 : Yes 33 #[.slice A na ca] (.bool true) w) (h4 : Yes 33 #[.slice D nd cd] (.bool true) w) (h5 : Yes 33 #[.slice R nr cr] (.bool true) w) (h6 : Yes 34 #[.string v] (.bool true) w) (h7 : Yes 11 #[LnV n m C0 c0 C1 c1, .slice A na ca] (.bool true) w) (h8 : Yes 35 #[LnV n m C0 c0 C1 c1, AnsV 1 A na ca D nd cd R nr cr v] (.bool true) w) :
    Calls Tryz.prog 8 #[LnV n m C0 c0 C1 c1, AnsV 1 A na ca D nd cd R nr cr v] w fun e w' => e = .returned (.int .i64 0) ∧ Below w.heap.size w w' := by
  have H1 := Lib.hid h1
  have H2 := Lib.hid h2
  have H3 := Lib.hid h3
  have H4 := Lib.hid h4
  have H5 := Lib.hid h5
  have H6 := Lib.hid h6; have H7 := Lib.hid h7; have H8 := Lib.hid h8; clear h6 h7 h8
  clear h1 h2 h3 h4 h5
  simp only [Yes, LnV, AnsV] at H1 H2 H3 H4 H5 H6 H7 H8 ⊢
  go_enter Tryz.func8, Tryz.ntmps8
  obtain ⟨w1, hw1⟩ : ∃ x, (w.alloc (.cells #[.slice C0 n c0, .slice C1 m c1] 25)).alloc (.cells #[.int .i64 1, .slice A na ca, .slice D nd cd, .slice R nr cr, .string v] 34) = x := ⟨_, rfl⟩
  have hb1 : Below w.heap.size w w1 := by rw [← hw1]; exact by repeat (first | assumption | exact Below.refl _ _ | refine Below.drew ?_ | refine Below.alloc ?_ (by first | omega | (simp <;> omega)) _ | refine Below.setCell ?_ (by first | omega | (simp <;> omega)) _)
  have hz1 : w.heap.size + 1 < w1.heap.size := by rw [← hw1]; simp
  have HX : Hid (∀ x, Below w1.heap.size w1 x → Below w.heap.size w x ∧ x.cell? ⟨w.heap.size, 0, none⟩ = some (.slice C0 n c0) ∧ x.cell? ⟨w.heap.size, 1, none⟩ = some (.slice C1 m c1) ∧ x.cell? ⟨w.heap.size + 1, 0, none⟩ = some (.int .i64 1) ∧ x.cell? ⟨w.heap.size + 1, 1, none⟩ = some (.slice A na ca) ∧ x.cell? ⟨w.heap.size + 1, 2, none⟩ = some (.slice D nd cd) ∧ x.cell? ⟨w.heap.size + 1, 3, none⟩ = some (.slice R nr cr) ∧ x.cell? ⟨w.heap.size + 1, 4, none⟩ = some (.string v)) := Lib.hid (fun x hx => by
    have e := fun q i (h : q < w1.heap.size) => hx.cell (p := ⟨q, i, none⟩) h
    refine ⟨hb1.trans (hx.mono (by omega)), ?_, ?_, ?_, ?_, ?_, ?_, ?_⟩
    all_goals (rw [e _ _ (by omega), ← hw1]; simp))
  go_upto_region 1 with fail
  try rw [hw1]
  have hxw1 : Below w1.heap.size w1 w1 := Below.refl _ _
  obtain ⟨hblw1, y0, y1, z0, z1, z2, z3, z4⟩ := HX.out w1 (Below.refl _ _)
  clear hw1 hb1
  go_wp2_with (first | (go_at_call 21; (with_reducible refine (H1.out _ hblw1).mono ?_); rintro e w2 ⟨rfl, hbw2⟩; obtain ⟨hblw2, p0w2, p1w2, a0w2, a1w2, a2w2, a3w2, a4w2⟩ := HX.out w2 (Below.trans hxw1 (hbw2.mono hxw1.size)); have hxw2 := Below.trans hxw1 (hbw2.mono hxw1.size)) | (go_at_call 32; (with_reducible refine (H2.out _ hblw2).mono ?_); rintro e w3 ⟨rfl, hbw3⟩; obtain ⟨hblw3, p0w3, p1w3, a0w3, a1w3, a2w3, a3w3, a4w3⟩ := HX.out w3 (Below.trans hxw2 (hbw3.mono hxw2.size)); have hxw3 := Below.trans hxw2 (hbw3.mono hxw2.size)) | (go_at_call 33; (with_reducible refine (H3.out _ hblw3).mono ?_); rintro e w4 ⟨rfl, hbw4⟩; obtain ⟨hblw4, p0w4, p1w4, a0w4, a1w4, a2w4, a3w4, a4w4⟩ := HX.out w4 (Below.trans hxw3 (hbw4.mono hxw3.size)); have hxw4 := Below.trans hxw3 (hbw4.mono hxw3.size)) | (go_at_call 33; (with_reducible refine (H4.out _ hblw4).mono ?_); rintro e w5 ⟨rfl, hbw5⟩; obtain ⟨hblw5, p0w5, p1w5, a0w5, a1w5, a2w5, a3w5, a4w5⟩ := HX.out w5 (Below.trans hxw4 (hbw5.mono hxw4.size)); have hxw5 := Below.trans hxw4 (hbw5.mono hxw4.size)) | (go_at_call 33; (with_reducible refine (H5.out _ hblw5).mono ?_); rintro e w6 ⟨rfl, hbw6⟩; obtain ⟨hblw6, p0w6, p1w6, a0w6, a1w6, a2w6, a3w6, a4w6⟩ := HX.out w6 (Below.trans hxw5 (hbw6.mono hxw5.size)); have hxw6 := Below.trans hxw5 (hbw6.mono hxw5.size)) | (go_at_call 34; (with_reducible refine (H6.out _ hblw6).mono ?_); rintro e w7 ⟨rfl, hbw7⟩; obtain ⟨hblw7, p0w7, p1w7, a0w7, a1w7, a2w7, a3w7, a4w7⟩ := HX.out w7 (Below.trans hxw6 (hbw7.mono hxw6.size)); have hxw7 := Below.trans hxw6 (hbw7.mono hxw6.size)) | (go_at_call 11; (with_reducible refine (H7.out _ hblw7).mono ?_); rintro e w8 ⟨rfl, hbw8⟩; obtain ⟨hblw8, p0w8, p1w8, a0w8, a1w8, a2w8, a3w8, a4w8⟩ := HX.out w8 (Below.trans hxw7 (hbw8.mono hxw7.size)); have hxw8 := Below.trans hxw7 (hbw8.mono hxw7.size)) | (go_at_call 35; (with_reducible refine (H8.out _ hblw8).mono ?_); rintro e w9 ⟨rfl, hbw9⟩; obtain ⟨hblw9, p0w9, p1w9, a0w9, a1w9, a2w9, a3w9, a4w9⟩ := HX.out w9 (Below.trans hxw8 (hbw9.mono hxw8.size)); have hxw9 := Below.trans hxw8 (hbw9.mono hxw8.size)))
  go_ret
  exact ⟨rfl, hblw9⟩
set_option maxRecDepth 20000 in
set_option maxHeartbeats 4000000 in
theorem check2_any (n m : Nat) (C0 : Option Addr) (c0 : Nat) (C1 : Option Addr) (c1 : Nat) (A : Option Addr) (na ca : Nat) (D : Option Addr) (nd cd : Nat) (R : Option Addr) (nr cr : Nat) (v : ByteArray) (w : World)
    (h1 : Yes 21 #[LnV n m C0 c0 C1 c1] (.slice none 0 0) w) (h2 : Yes 32 #[LnV n m C0 c0 C1 c1, AnsV 2 A na ca D nd cd R nr cr v] (.bool true) w)
    (h3 : Yes 33 #[.slice A na ca] (.bool true) w) (h4 : Yes 33 #[.slice D nd cd] (.bool true) w) (h5 : Yes 33 #[.slice R nr cr] (.bool true) w) (h6 : Yes 12 #[LnV n m C0 c0 C1 c1, .slice D nd cd] (.bool true) w) :
    Calls Tryz.prog 8 #[LnV n m C0 c0 C1 c1, AnsV 2 A na ca D nd cd R nr cr v] w fun e w' => e = .returned (.int .i64 0) ∧ Below w.heap.size w w' := by
  have H1 := Lib.hid h1
  have H2 := Lib.hid h2
  have H3 := Lib.hid h3
  have H4 := Lib.hid h4
  have H5 := Lib.hid h5
  have H6 := Lib.hid h6; clear h6
  clear h1 h2 h3 h4 h5
  simp only [Yes, LnV, AnsV] at H1 H2 H3 H4 H5 H6 ⊢
  go_enter Tryz.func8, Tryz.ntmps8
  obtain ⟨w1, hw1⟩ : ∃ x, (w.alloc (.cells #[.slice C0 n c0, .slice C1 m c1] 25)).alloc (.cells #[.int .i64 2, .slice A na ca, .slice D nd cd, .slice R nr cr, .string v] 34) = x := ⟨_, rfl⟩
  have hb1 : Below w.heap.size w w1 := by rw [← hw1]; exact by repeat (first | assumption | exact Below.refl _ _ | refine Below.drew ?_ | refine Below.alloc ?_ (by first | omega | (simp <;> omega)) _ | refine Below.setCell ?_ (by first | omega | (simp <;> omega)) _)
  have hz1 : w.heap.size + 1 < w1.heap.size := by rw [← hw1]; simp
  have HX : Hid (∀ x, Below w1.heap.size w1 x → Below w.heap.size w x ∧ x.cell? ⟨w.heap.size, 0, none⟩ = some (.slice C0 n c0) ∧ x.cell? ⟨w.heap.size, 1, none⟩ = some (.slice C1 m c1) ∧ x.cell? ⟨w.heap.size + 1, 0, none⟩ = some (.int .i64 2) ∧ x.cell? ⟨w.heap.size + 1, 1, none⟩ = some (.slice A na ca) ∧ x.cell? ⟨w.heap.size + 1, 2, none⟩ = some (.slice D nd cd) ∧ x.cell? ⟨w.heap.size + 1, 3, none⟩ = some (.slice R nr cr) ∧ x.cell? ⟨w.heap.size + 1, 4, none⟩ = some (.string v)) := Lib.hid (fun x hx => by
    have e := fun q i (h : q < w1.heap.size) => hx.cell (p := ⟨q, i, none⟩) h
    refine ⟨hb1.trans (hx.mono (by omega)), ?_, ?_, ?_, ?_, ?_, ?_, ?_⟩
    all_goals (rw [e _ _ (by omega), ← hw1]; simp))
  go_upto_region 1 with fail
  try rw [hw1]
  have hxw1 : Below w1.heap.size w1 w1 := Below.refl _ _
  obtain ⟨hblw1, y0, y1, z0, z1, z2, z3, z4⟩ := HX.out w1 (Below.refl _ _)
  clear hw1 hb1
  go_wp2_with (first | (go_at_call 21; (with_reducible refine (H1.out _ hblw1).mono ?_); rintro e w2 ⟨rfl, hbw2⟩; obtain ⟨hblw2, p0w2, p1w2, a0w2, a1w2, a2w2, a3w2, a4w2⟩ := HX.out w2 (Below.trans hxw1 (hbw2.mono hxw1.size)); have hxw2 := Below.trans hxw1 (hbw2.mono hxw1.size)) | (go_at_call 32; (with_reducible refine (H2.out _ hblw2).mono ?_); rintro e w3 ⟨rfl, hbw3⟩; obtain ⟨hblw3, p0w3, p1w3, a0w3, a1w3, a2w3, a3w3, a4w3⟩ := HX.out w3 (Below.trans hxw2 (hbw3.mono hxw2.size)); have hxw3 := Below.trans hxw2 (hbw3.mono hxw2.size)) | (go_at_call 33; (with_reducible refine (H3.out _ hblw3).mono ?_); rintro e w4 ⟨rfl, hbw4⟩; obtain ⟨hblw4, p0w4, p1w4, a0w4, a1w4, a2w4, a3w4, a4w4⟩ := HX.out w4 (Below.trans hxw3 (hbw4.mono hxw3.size)); have hxw4 := Below.trans hxw3 (hbw4.mono hxw3.size)) | (go_at_call 33; (with_reducible refine (H4.out _ hblw4).mono ?_); rintro e w5 ⟨rfl, hbw5⟩; obtain ⟨hblw5, p0w5, p1w5, a0w5, a1w5, a2w5, a3w5, a4w5⟩ := HX.out w5 (Below.trans hxw4 (hbw5.mono hxw4.size)); have hxw5 := Below.trans hxw4 (hbw5.mono hxw4.size)) | (go_at_call 33; (with_reducible refine (H5.out _ hblw5).mono ?_); rintro e w6 ⟨rfl, hbw6⟩; obtain ⟨hblw6, p0w6, p1w6, a0w6, a1w6, a2w6, a3w6, a4w6⟩ := HX.out w6 (Below.trans hxw5 (hbw6.mono hxw5.size)); have hxw6 := Below.trans hxw5 (hbw6.mono hxw5.size)) | (go_at_call 12; (with_reducible refine (H6.out _ hblw6).mono ?_); rintro e w7 ⟨rfl, hbw7⟩; obtain ⟨hblw7, p0w7, p1w7, a0w7, a1w7, a2w7, a3w7, a4w7⟩ := HX.out w7 (Below.trans hxw6 (hbw7.mono hxw6.size)); have hxw7 := Below.trans hxw6 (hbw7.mono hxw6.size)))
  go_ret
  exact ⟨rfl, hblw7⟩
set_option maxRecDepth 20000 in
set_option maxHeartbeats 4000000 in
theorem check3_any (n m : Nat) (C0 : Option Addr) (c0 : Nat) (C1 : Option Addr) (c1 : Nat) (A : Option Addr) (na ca : Nat) (D : Option Addr) (nd cd : Nat) (R : Option Addr) (nr cr : Nat) (v : ByteArray) (w : World)
    (h1 : Yes 21 #[LnV n m C0 c0 C1 c1] (.slice none 0 0) w) (h2 : Yes 32 #[LnV n m C0 c0 C1 c1, AnsV 3 A na ca D nd cd R nr cr v] (.bool true) w)
    (h3 : Yes 33 #[.slice A na ca] (.bool true) w) (h4 : Yes 33 #[.slice D nd cd] (.bool true) w) (h5 : Yes 33 #[.slice R nr cr] (.bool true) w) (h6 : Yes 11 #[LnV n m C0 c0 C1 c1, .slice A na ca] (.bool true) w) (h7 : Yes 36 #[LnV n m C0 c0 C1 c1, .slice R nr cr] (.bool true) w) :
    Calls Tryz.prog 8 #[LnV n m C0 c0 C1 c1, AnsV 3 A na ca D nd cd R nr cr v] w fun e w' => e = .returned (.int .i64 0) ∧ Below w.heap.size w w' := by
  have H1 := Lib.hid h1
  have H2 := Lib.hid h2
  have H3 := Lib.hid h3
  have H4 := Lib.hid h4
  have H5 := Lib.hid h5
  have H6 := Lib.hid h6; have H7 := Lib.hid h7; clear h6 h7
  clear h1 h2 h3 h4 h5
  simp only [Yes, LnV, AnsV] at H1 H2 H3 H4 H5 H6 H7 ⊢
  go_enter Tryz.func8, Tryz.ntmps8
  obtain ⟨w1, hw1⟩ : ∃ x, (w.alloc (.cells #[.slice C0 n c0, .slice C1 m c1] 25)).alloc (.cells #[.int .i64 3, .slice A na ca, .slice D nd cd, .slice R nr cr, .string v] 34) = x := ⟨_, rfl⟩
  have hb1 : Below w.heap.size w w1 := by rw [← hw1]; exact by repeat (first | assumption | exact Below.refl _ _ | refine Below.drew ?_ | refine Below.alloc ?_ (by first | omega | (simp <;> omega)) _ | refine Below.setCell ?_ (by first | omega | (simp <;> omega)) _)
  have hz1 : w.heap.size + 1 < w1.heap.size := by rw [← hw1]; simp
  have HX : Hid (∀ x, Below w1.heap.size w1 x → Below w.heap.size w x ∧ x.cell? ⟨w.heap.size, 0, none⟩ = some (.slice C0 n c0) ∧ x.cell? ⟨w.heap.size, 1, none⟩ = some (.slice C1 m c1) ∧ x.cell? ⟨w.heap.size + 1, 0, none⟩ = some (.int .i64 3) ∧ x.cell? ⟨w.heap.size + 1, 1, none⟩ = some (.slice A na ca) ∧ x.cell? ⟨w.heap.size + 1, 2, none⟩ = some (.slice D nd cd) ∧ x.cell? ⟨w.heap.size + 1, 3, none⟩ = some (.slice R nr cr) ∧ x.cell? ⟨w.heap.size + 1, 4, none⟩ = some (.string v)) := Lib.hid (fun x hx => by
    have e := fun q i (h : q < w1.heap.size) => hx.cell (p := ⟨q, i, none⟩) h
    refine ⟨hb1.trans (hx.mono (by omega)), ?_, ?_, ?_, ?_, ?_, ?_, ?_⟩
    all_goals (rw [e _ _ (by omega), ← hw1]; simp))
  go_upto_region 1 with fail
  try rw [hw1]
  have hxw1 : Below w1.heap.size w1 w1 := Below.refl _ _
  obtain ⟨hblw1, y0, y1, z0, z1, z2, z3, z4⟩ := HX.out w1 (Below.refl _ _)
  clear hw1 hb1
  go_wp2_with (first | (go_at_call 21; (with_reducible refine (H1.out _ hblw1).mono ?_); rintro e w2 ⟨rfl, hbw2⟩; obtain ⟨hblw2, p0w2, p1w2, a0w2, a1w2, a2w2, a3w2, a4w2⟩ := HX.out w2 (Below.trans hxw1 (hbw2.mono hxw1.size)); have hxw2 := Below.trans hxw1 (hbw2.mono hxw1.size)) | (go_at_call 32; (with_reducible refine (H2.out _ hblw2).mono ?_); rintro e w3 ⟨rfl, hbw3⟩; obtain ⟨hblw3, p0w3, p1w3, a0w3, a1w3, a2w3, a3w3, a4w3⟩ := HX.out w3 (Below.trans hxw2 (hbw3.mono hxw2.size)); have hxw3 := Below.trans hxw2 (hbw3.mono hxw2.size)) | (go_at_call 33; (with_reducible refine (H3.out _ hblw3).mono ?_); rintro e w4 ⟨rfl, hbw4⟩; obtain ⟨hblw4, p0w4, p1w4, a0w4, a1w4, a2w4, a3w4, a4w4⟩ := HX.out w4 (Below.trans hxw3 (hbw4.mono hxw3.size)); have hxw4 := Below.trans hxw3 (hbw4.mono hxw3.size)) | (go_at_call 33; (with_reducible refine (H4.out _ hblw4).mono ?_); rintro e w5 ⟨rfl, hbw5⟩; obtain ⟨hblw5, p0w5, p1w5, a0w5, a1w5, a2w5, a3w5, a4w5⟩ := HX.out w5 (Below.trans hxw4 (hbw5.mono hxw4.size)); have hxw5 := Below.trans hxw4 (hbw5.mono hxw4.size)) | (go_at_call 33; (with_reducible refine (H5.out _ hblw5).mono ?_); rintro e w6 ⟨rfl, hbw6⟩; obtain ⟨hblw6, p0w6, p1w6, a0w6, a1w6, a2w6, a3w6, a4w6⟩ := HX.out w6 (Below.trans hxw5 (hbw6.mono hxw5.size)); have hxw6 := Below.trans hxw5 (hbw6.mono hxw5.size)) | (go_at_call 11; (with_reducible refine (H6.out _ hblw6).mono ?_); rintro e w7 ⟨rfl, hbw7⟩; obtain ⟨hblw7, p0w7, p1w7, a0w7, a1w7, a2w7, a3w7, a4w7⟩ := HX.out w7 (Below.trans hxw6 (hbw7.mono hxw6.size)); have hxw7 := Below.trans hxw6 (hbw7.mono hxw6.size)) | (go_at_call 36; (with_reducible refine (H7.out _ hblw7).mono ?_); rintro e w8 ⟨rfl, hbw8⟩; obtain ⟨hblw8, p0w8, p1w8, a0w8, a1w8, a2w8, a3w8, a4w8⟩ := HX.out w8 (Below.trans hxw7 (hbw8.mono hxw7.size)); have hxw8 := Below.trans hxw7 (hbw8.mono hxw7.size)))
  go_ret
  exact ⟨rfl, hblw8⟩
end Go.Proofs.YthcmopgdjibojaaGreatDoor.smp

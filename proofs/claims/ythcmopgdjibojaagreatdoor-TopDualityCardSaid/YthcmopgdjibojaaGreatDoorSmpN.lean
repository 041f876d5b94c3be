/- simplex: sizes, right, proved. -/
import Derived.Test.YthcmopgdjibojaaGreatDoorSmpM
import Derived.Test.YthcmopgdjibojaaGreatDoorLnrC
import Derived.Test.YthcmopgdjibojaaGreatDoorLnrG
namespace Go.Proofs.YthcmopgdjibojaaGreatDoor.smp
open Go.RowKit
open Go.Proofs.YthcmopgdjibojaaGreatDoor.lib Go.Proofs.YthcmopgdjibojaaGreatDoor.app Go.Proofs.YthcmopgdjibojaaGreatDoor.nt Go.Proofs.YthcmopgdjibojaaGreatDoor.rd Go.Proofs.YthcmopgdjibojaaGreatDoor.wh Go.Proofs.YthcmopgdjibojaaGreatDoor.smx Go.Proofs.YthcmopgdjibojaaGreatDoor.rat Go.Proofs.YthcmopgdjibojaaGreatDoor.lnr Go.Proofs.YthcmopgdjibojaaGreatDoor.typ
set_option linter.unusedVariables false
set_option linter.unusedSimpArgs false

theorem sizes1_any (n m : Nat) (C0 : Option Addr) (c0 : Nat) (C1 : Option Addr) (c1 : Nat) (A : Option Addr) (ca : Nat) (D : Option Addr) (cd : Nat) (R : Option Addr) (cr : Nat) (v : ByteArray) (w : World) :
    Calls Tryz.prog 32 #[LnV n m C0 c0 C1 c1, AnsV 1 A n ca D m cd R 0 cr v] w fun e w' => e = .returned (.bool true) ∧ Below w.heap.size w w' := by
  unfold LnV AnsV
  go_enter Tryz.func32, Tryz.ntmps32
  go_upto_region 1 with fail
  (refine wp_region_held_drew (S := (fun w' => w'.cell? ⟨w.heap.size, 0, none⟩ = some (.slice C0 n c0) ∧ w'.cell? ⟨w.heap.size, 1, none⟩ = some (.slice C1 m c1))) (by kernel_rfl) ?_ (fun hHeld => ?_))
  · simp
  (refine wpAnyH_take (i := 0) (v := ?_) rfl (by kernel_rfl) (by kernel_rfl) (by kernel_rfl) (fun _ _ _ h => h) (Or.inl ⟨by kernel_rfl, ?_⟩) (by assumption) ?_; rotate_left; (focus (intro w hSw; (try dsimp only at hSw); go_simp; all_goals with_reducible rfl)); (try simp only [Act.put, List.getElem_toArray, List.getElem_cons_succ, List.getElem_cons_zero, List.setIfInBounds_toArray, List.set_cons_zero, List.set_cons_succ]))
  (refine wpAnyH_take (i := 1) (v := ?_) rfl (by kernel_rfl) (by kernel_rfl) (by kernel_rfl) (fun _ _ _ h => h) (Or.inl ⟨by kernel_rfl, ?_⟩) (by assumption) ?_; rotate_left; (focus (intro w hSw; (try dsimp only at hSw); go_simp; all_goals with_reducible rfl)); (try simp only [Act.put, List.getElem_toArray, List.getElem_cons_succ, List.getElem_cons_zero, List.setIfInBounds_toArray, List.set_cons_zero, List.set_cons_succ]))
  (refine wpAnyH_take (i := 2) (v := ?_) rfl (by kernel_rfl) (by kernel_rfl) (by kernel_rfl) (fun _ _ _ h => h) (Or.inl ⟨by kernel_rfl, ?_⟩) (by assumption) ?_; rotate_left; (focus (intro w hSw; (try dsimp only at hSw); go_simp; all_goals with_reducible rfl)); (try simp only [Act.put, List.getElem_toArray, List.getElem_cons_succ, List.getElem_cons_zero, List.setIfInBounds_toArray, List.set_cons_zero, List.set_cons_succ]))
  (refine wpAnyH_take (i := 3) (v := ?_) rfl (by kernel_rfl) (by kernel_rfl) (by kernel_rfl) (fun _ _ _ h => h) (Or.inl ⟨by kernel_rfl, ?_⟩) (by assumption) ?_; rotate_left; (focus (intro w hSw; (try dsimp only at hSw); go_simp; all_goals with_reducible rfl)); (try simp only [Act.put, List.getElem_toArray, List.getElem_cons_succ, List.getElem_cons_zero, List.setIfInBounds_toArray, List.set_cons_zero, List.set_cons_succ]))
  (refine wpAnyH_take (i := 4) (v := ?_) rfl (by kernel_rfl) (by kernel_rfl) (by kernel_rfl) (fun _ _ _ h => h) (Or.inl ⟨by kernel_rfl, ?_⟩) (by assumption) ?_; rotate_left; (focus (intro w hSw; (try dsimp only at hSw); go_simp; all_goals with_reducible rfl)); (try simp only [Act.put, List.getElem_toArray, List.getElem_cons_succ, List.getElem_cons_zero, List.setIfInBounds_toArray, List.set_cons_zero, List.set_cons_succ]))
  (refine wpAnyH_take (i := 5) (v := ?_) rfl (by kernel_rfl) (by kernel_rfl) (by kernel_rfl) (fun _ _ _ h => h) (Or.inl ⟨by kernel_rfl, ?_⟩) (by assumption) ?_; rotate_left; (focus (intro w hSw; (try dsimp only at hSw); go_simp; all_goals with_reducible rfl)); (try simp only [Act.put, List.getElem_toArray, List.getElem_cons_succ, List.getElem_cons_zero, List.setIfInBounds_toArray, List.set_cons_zero, List.set_cons_succ]))
  (refine wpAnyH_take (i := 6) (v := ?_) rfl (by kernel_rfl) (by kernel_rfl) (by kernel_rfl) (fun _ _ _ h => h) (Or.inl ⟨by kernel_rfl, ?_⟩) (by assumption) ?_; rotate_left; (focus (intro w hSw; (try dsimp only at hSw); go_simp; all_goals with_reducible rfl)); (try simp only [Act.put, List.getElem_toArray, List.getElem_cons_succ, List.getElem_cons_zero, List.setIfInBounds_toArray, List.set_cons_zero, List.set_cons_succ]))
  (refine wpAnyH_take (i := 7) (v := ?_) rfl (by kernel_rfl) (by kernel_rfl) (by kernel_rfl) (fun _ _ _ h => h) (Or.inl ⟨by kernel_rfl, ?_⟩) (by assumption) ?_; rotate_left; (focus (intro w hSw; (try dsimp only at hSw); go_simp; all_goals with_reducible rfl)); (try simp only [Act.put, List.getElem_toArray, List.getElem_cons_succ, List.getElem_cons_zero, List.setIfInBounds_toArray, List.set_cons_zero, List.set_cons_succ]))
  (refine wpAnyH_done (by kernel_rfl) ?_ _)
  clear hHeld
  go_wp2
  go_ret
  exact ⟨rfl, by repeat (first | assumption | exact Below.refl _ _ | refine Below.drew ?_ | refine Below.alloc ?_ (by first | omega | (simp <;> omega)) _ | refine Below.setCell ?_ (by first | omega | (simp <;> omega)) _)⟩
theorem sizes2_any (n m : Nat) (C0 : Option Addr) (c0 : Nat) (C1 : Option Addr) (c1 : Nat) (A : Option Addr) (ca : Nat) (D : Option Addr) (cd : Nat) (R : Option Addr) (cr : Nat) (v : ByteArray) (w : World) :
    Calls Tryz.prog 32 #[LnV n m C0 c0 C1 c1, AnsV 2 A 0 ca D m cd R 0 cr ⟨#[]⟩] w fun e w' => e = .returned (.bool true) ∧ Below w.heap.size w w' := by
  unfold LnV AnsV
  go_enter Tryz.func32, Tryz.ntmps32
  go_upto_region 1 with fail
  (refine wp_region_held_drew (S := (fun w' => w'.cell? ⟨w.heap.size, 0, none⟩ = some (.slice C0 n c0) ∧ w'.cell? ⟨w.heap.size, 1, none⟩ = some (.slice C1 m c1))) (by kernel_rfl) ?_ (fun hHeld => ?_))
  · simp
  (refine wpAnyH_take (i := 0) (v := ?_) rfl (by kernel_rfl) (by kernel_rfl) (by kernel_rfl) (fun _ _ _ h => h) (Or.inl ⟨by kernel_rfl, ?_⟩) (by assumption) ?_; rotate_left; (focus (intro w hSw; (try dsimp only at hSw); go_simp; all_goals with_reducible rfl)); (try simp only [Act.put, List.getElem_toArray, List.getElem_cons_succ, List.getElem_cons_zero, List.setIfInBounds_toArray, List.set_cons_zero, List.set_cons_succ]))
  (refine wpAnyH_take (i := 1) (v := ?_) rfl (by kernel_rfl) (by kernel_rfl) (by kernel_rfl) (fun _ _ _ h => h) (Or.inl ⟨by kernel_rfl, ?_⟩) (by assumption) ?_; rotate_left; (focus (intro w hSw; (try dsimp only at hSw); go_simp; all_goals with_reducible rfl)); (try simp only [Act.put, List.getElem_toArray, List.getElem_cons_succ, List.getElem_cons_zero, List.setIfInBounds_toArray, List.set_cons_zero, List.set_cons_succ]))
  (refine wpAnyH_take (i := 2) (v := ?_) rfl (by kernel_rfl) (by kernel_rfl) (by kernel_rfl) (fun _ _ _ h => h) (Or.inl ⟨by kernel_rfl, ?_⟩) (by assumption) ?_; rotate_left; (focus (intro w hSw; (try dsimp only at hSw); go_simp; all_goals with_reducible rfl)); (try simp only [Act.put, List.getElem_toArray, List.getElem_cons_succ, List.getElem_cons_zero, List.setIfInBounds_toArray, List.set_cons_zero, List.set_cons_succ]))
  (refine wpAnyH_take (i := 3) (v := ?_) rfl (by kernel_rfl) (by kernel_rfl) (by kernel_rfl) (fun _ _ _ h => h) (Or.inl ⟨by kernel_rfl, ?_⟩) (by assumption) ?_; rotate_left; (focus (intro w hSw; (try dsimp only at hSw); go_simp; all_goals with_reducible rfl)); (try simp only [Act.put, List.getElem_toArray, List.getElem_cons_succ, List.getElem_cons_zero, List.setIfInBounds_toArray, List.set_cons_zero, List.set_cons_succ]))
  (refine wpAnyH_take (i := 4) (v := ?_) rfl (by kernel_rfl) (by kernel_rfl) (by kernel_rfl) (fun _ _ _ h => h) (Or.inl ⟨by kernel_rfl, ?_⟩) (by assumption) ?_; rotate_left; (focus (intro w hSw; (try dsimp only at hSw); go_simp; all_goals with_reducible rfl)); (try simp only [Act.put, List.getElem_toArray, List.getElem_cons_succ, List.getElem_cons_zero, List.setIfInBounds_toArray, List.set_cons_zero, List.set_cons_succ]))
  (refine wpAnyH_take (i := 5) (v := ?_) rfl (by kernel_rfl) (by kernel_rfl) (by kernel_rfl) (fun _ _ _ h => h) (Or.inl ⟨by kernel_rfl, ?_⟩) (by assumption) ?_; rotate_left; (focus (intro w hSw; (try dsimp only at hSw); go_simp; all_goals with_reducible rfl)); (try simp only [Act.put, List.getElem_toArray, List.getElem_cons_succ, List.getElem_cons_zero, List.setIfInBounds_toArray, List.set_cons_zero, List.set_cons_succ]))
  (refine wpAnyH_take (i := 6) (v := ?_) rfl (by kernel_rfl) (by kernel_rfl) (by kernel_rfl) (fun _ _ _ h => h) (Or.inl ⟨by kernel_rfl, ?_⟩) (by assumption) ?_; rotate_left; (focus (intro w hSw; (try dsimp only at hSw); go_simp; all_goals with_reducible rfl)); (try simp only [Act.put, List.getElem_toArray, List.getElem_cons_succ, List.getElem_cons_zero, List.setIfInBounds_toArray, List.set_cons_zero, List.set_cons_succ]))
  (refine wpAnyH_take (i := 7) (v := ?_) rfl (by kernel_rfl) (by kernel_rfl) (by kernel_rfl) (fun _ _ _ h => h) (Or.inl ⟨by kernel_rfl, ?_⟩) (by assumption) ?_; rotate_left; (focus (intro w hSw; (try dsimp only at hSw); go_simp; all_goals with_reducible rfl)); (try simp only [Act.put, List.getElem_toArray, List.getElem_cons_succ, List.getElem_cons_zero, List.setIfInBounds_toArray, List.set_cons_zero, List.set_cons_succ]))
  (refine wpAnyH_done (by kernel_rfl) ?_ _)
  clear hHeld
  go_wp2
  go_ret
  exact ⟨rfl, by repeat (first | assumption | exact Below.refl _ _ | refine Below.drew ?_ | refine Below.alloc ?_ (by first | omega | (simp <;> omega)) _ | refine Below.setCell ?_ (by first | omega | (simp <;> omega)) _)⟩
theorem sizes3_any (n m : Nat) (C0 : Option Addr) (c0 : Nat) (C1 : Option Addr) (c1 : Nat) (A : Option Addr) (ca : Nat) (D : Option Addr) (cd : Nat) (R : Option Addr) (cr : Nat) (v : ByteArray) (w : World) :
    Calls Tryz.prog 32 #[LnV n m C0 c0 C1 c1, AnsV 3 A n ca D 0 cd R n cr ⟨#[]⟩] w fun e w' => e = .returned (.bool true) ∧ Below w.heap.size w w' := by
  unfold LnV AnsV
  go_enter Tryz.func32, Tryz.ntmps32
  go_upto_region 1 with fail
  (refine wp_region_held_drew (S := (fun w' => w'.cell? ⟨w.heap.size, 0, none⟩ = some (.slice C0 n c0) ∧ w'.cell? ⟨w.heap.size, 1, none⟩ = some (.slice C1 m c1))) (by kernel_rfl) ?_ (fun hHeld => ?_))
  · simp
  (refine wpAnyH_take (i := 0) (v := ?_) rfl (by kernel_rfl) (by kernel_rfl) (by kernel_rfl) (fun _ _ _ h => h) (Or.inl ⟨by kernel_rfl, ?_⟩) (by assumption) ?_; rotate_left; (focus (intro w hSw; (try dsimp only at hSw); go_simp; all_goals with_reducible rfl)); (try simp only [Act.put, List.getElem_toArray, List.getElem_cons_succ, List.getElem_cons_zero, List.setIfInBounds_toArray, List.set_cons_zero, List.set_cons_succ]))
  (refine wpAnyH_take (i := 1) (v := ?_) rfl (by kernel_rfl) (by kernel_rfl) (by kernel_rfl) (fun _ _ _ h => h) (Or.inl ⟨by kernel_rfl, ?_⟩) (by assumption) ?_; rotate_left; (focus (intro w hSw; (try dsimp only at hSw); go_simp; all_goals with_reducible rfl)); (try simp only [Act.put, List.getElem_toArray, List.getElem_cons_succ, List.getElem_cons_zero, List.setIfInBounds_toArray, List.set_cons_zero, List.set_cons_succ]))
  (refine wpAnyH_take (i := 2) (v := ?_) rfl (by kernel_rfl) (by kernel_rfl) (by kernel_rfl) (fun _ _ _ h => h) (Or.inl ⟨by kernel_rfl, ?_⟩) (by assumption) ?_; rotate_left; (focus (intro w hSw; (try dsimp only at hSw); go_simp; all_goals with_reducible rfl)); (try simp only [Act.put, List.getElem_toArray, List.getElem_cons_succ, List.getElem_cons_zero, List.setIfInBounds_toArray, List.set_cons_zero, List.set_cons_succ]))
  (refine wpAnyH_take (i := 3) (v := ?_) rfl (by kernel_rfl) (by kernel_rfl) (by kernel_rfl) (fun _ _ _ h => h) (Or.inl ⟨by kernel_rfl, ?_⟩) (by assumption) ?_; rotate_left; (focus (intro w hSw; (try dsimp only at hSw); go_simp; all_goals with_reducible rfl)); (try simp only [Act.put, List.getElem_toArray, List.getElem_cons_succ, List.getElem_cons_zero, List.setIfInBounds_toArray, List.set_cons_zero, List.set_cons_succ]))
  (refine wpAnyH_take (i := 4) (v := ?_) rfl (by kernel_rfl) (by kernel_rfl) (by kernel_rfl) (fun _ _ _ h => h) (Or.inl ⟨by kernel_rfl, ?_⟩) (by assumption) ?_; rotate_left; (focus (intro w hSw; (try dsimp only at hSw); go_simp; all_goals with_reducible rfl)); (try simp only [Act.put, List.getElem_toArray, List.getElem_cons_succ, List.getElem_cons_zero, List.setIfInBounds_toArray, List.set_cons_zero, List.set_cons_succ]))
  (refine wpAnyH_take (i := 5) (v := ?_) rfl (by kernel_rfl) (by kernel_rfl) (by kernel_rfl) (fun _ _ _ h => h) (Or.inl ⟨by kernel_rfl, ?_⟩) (by assumption) ?_; rotate_left; (focus (intro w hSw; (try dsimp only at hSw); go_simp; all_goals with_reducible rfl)); (try simp only [Act.put, List.getElem_toArray, List.getElem_cons_succ, List.getElem_cons_zero, List.setIfInBounds_toArray, List.set_cons_zero, List.set_cons_succ]))
  (refine wpAnyH_take (i := 6) (v := ?_) rfl (by kernel_rfl) (by kernel_rfl) (by kernel_rfl) (fun _ _ _ h => h) (Or.inl ⟨by kernel_rfl, ?_⟩) (by assumption) ?_; rotate_left; (focus (intro w hSw; (try dsimp only at hSw); go_simp; all_goals with_reducible rfl)); (try simp only [Act.put, List.getElem_toArray, List.getElem_cons_succ, List.getElem_cons_zero, List.setIfInBounds_toArray, List.set_cons_zero, List.set_cons_succ]))
  (refine wpAnyH_take (i := 7) (v := ?_) rfl (by kernel_rfl) (by kernel_rfl) (by kernel_rfl) (fun _ _ _ h => h) (Or.inl ⟨by kernel_rfl, ?_⟩) (by assumption) ?_; rotate_left; (focus (intro w hSw; (try dsimp only at hSw); go_simp; all_goals with_reducible rfl)); (try simp only [Act.put, List.getElem_toArray, List.getElem_cons_succ, List.getElem_cons_zero, List.setIfInBounds_toArray, List.set_cons_zero, List.set_cons_succ]))
  (refine wpAnyH_done (by kernel_rfl) ?_ _)
  clear hHeld
  go_wp2
  go_ret
  exact ⟨rfl, by repeat (first | assumption | exact Below.refl _ _ | refine Below.drew ?_ | refine Below.alloc ?_ (by first | omega | (simp <;> omega)) _ | refine Below.setCell ?_ (by first | omega | (simp <;> omega)) _)⟩
theorem right_any (A : Option Addr) (c n : Nat) (q : Nat → Rat) (hn : n ≤ 20) (hq : ∀ i, i < n → Dg 4096 (q i)) (w : World) (B : Nat) (hB : B ≤ w.heap.size) (hr : Rats w B A n q) (ht : TabT w) :
    Calls Tryz.prog 33 #[.slice A n c] w fun e w' => e = .returned (.bool true) ∧ Below w.heap.size w w' := by
  have HRI : Hid (∀ i, i < n → ∀ w', Below w.heap.size w w' → Calls Tryz.prog 34 #[.string (ratS (q i))] w' fun e w2 => e = .returned (.bool true) ∧ Below w'.heap.size w' w2) := Lib.hid (fun i hi w' h => rright_any (q i) (hq i hi) w' (ht.below h))
  have hbelx : ∀ w', Below w.heap.size w w' → Rats w' B A n q := fun w' h => hr.below (h.mono hB)
  clear hq hr ht
  go_enter Tryz.func33, Tryz.ntmps33
  go_wp2
  go_loopw [7] (fun i wr => ∃ k : Nat, k ≤ n ∧ i = .int .i64 k ∧ Below w.heap.size w wr) (fun i _ => n - (intOf i).toNat)
  case atStart => exact ⟨0, by omega, rfl, Below.refl _ _⟩
  case round =>
    obtain ⟨k, hk, rfl, hbel⟩ := hrel
    have hsz := hbel.size
    by_cases hlt : k < n
    · obtain ⟨ad, rfl, hadb, hcx⟩ := (hbelx _ hbel).at_ hlt
      have HR := Lib.hid (HRI.out k hlt)
      generalize ratS (q k) = S at HR hcx
      go_wp2_with (go_at_call 34; (with_reducible refine (HR.out _ hbel).mono ?_); rintro e w2 ⟨rfl, hb2⟩; have hbl2 := hbel.trans (hb2.mono hsz))
      go_roundw
      case rel => exact ⟨k + 1, by omega, by go_num, hbl2⟩
      case measure => simp [intOf]; omega
    · obtain rfl : k = n := by omega
      clear hlt
      go_wp2
      go_ret
      exact ⟨rfl, hbel⟩
/-- The duals and the value of an answer prove each other. -/
theorem proved_any (n m : Nat) (C0 : Option Addr) (c0 : Nat) (C1 : Option Addr) (c1 : Nat) (kind : Int) (A : Option Addr) (na ca : Nat) (D : Option Addr) (nd cd : Nat) (R : Option Addr) (nr cr : Nat) (v : ByteArray) (w : World)
    (hP : ∀ w', Below w.heap.size w w' → Calls Tryz.prog 10 #[LnV n m C0 c0 C1 c1, .slice D nd cd] w' fun e w2 => e = .returned (.tuple #[.string v, .bool true]) ∧ Below w'.heap.size w' w2)
    (hV : ∀ w', Below w.heap.size w w' → Calls Tryz.prog 9 #[LnV n m C0 c0 C1 c1, .slice A na ca] w' fun e w2 => e = .returned (.tuple #[.string v, .int .i64 0]) ∧ Below w'.heap.size w' w2) :
    Calls Tryz.prog 35 #[LnV n m C0 c0 C1 c1, AnsV kind A na ca D nd cd R nr cr v] w fun e w' => e = .returned (.bool true) ∧ Below w.heap.size w w' := by
  have HP := Lib.hid hP
  have HV := Lib.hid hV
  clear hP hV
  unfold LnV at HP HV ⊢
  unfold AnsV
  go_enter Tryz.func35, Tryz.ntmps35
  obtain ⟨w1, hw1⟩ : ∃ x, (w.alloc (.cells #[.slice C0 n c0, .slice C1 m c1] 25)).alloc (.cells #[.int .i64 kind, .slice A na ca, .slice D nd cd, .slice R nr cr, .string v] 34) = x := ⟨_, rfl⟩
  have hb1 : Below w.heap.size w w1 := by rw [← hw1]; exact by repeat (first | assumption | exact Below.refl _ _ | refine Below.drew ?_ | refine Below.alloc ?_ (by first | omega | (simp <;> omega)) _ | refine Below.setCell ?_ (by first | omega | (simp <;> omega)) _)
  have hz1 : w.heap.size + 1 < w1.heap.size := by rw [← hw1]; simp
  have HX : Hid (∀ x, Below w1.heap.size w1 x → Below w.heap.size w x ∧ x.cell? ⟨w.heap.size, 0, none⟩ = some (.slice C0 n c0) ∧ x.cell? ⟨w.heap.size, 1, none⟩ = some (.slice C1 m c1) ∧ x.cell? ⟨w.heap.size + 1, 1, none⟩ = some (.slice A na ca) ∧ x.cell? ⟨w.heap.size + 1, 2, none⟩ = some (.slice D nd cd) ∧ x.cell? ⟨w.heap.size + 1, 4, none⟩ = some (.string v)) := Lib.hid (fun x hx => by
    have e := fun q i (h : q < w1.heap.size) => hx.cell (p := ⟨q, i, none⟩) h
    refine ⟨hb1.trans (hx.mono (by omega)), ?_, ?_, ?_, ?_, ?_⟩
    · rw [e _ _ (by omega), ← hw1]; simp
    · rw [e _ _ (by omega), ← hw1]; simp
    · rw [e _ _ (by omega), ← hw1]; simp
    · rw [e _ _ (by omega), ← hw1]; simp
    · rw [e _ _ (by omega), ← hw1]; simp)
  go_upto_region 1 with fail
  try rw [hw1]
  obtain ⟨hbx, y0, y1, z1, z2, z4⟩ := HX.out w1 (Below.refl _ _)
  clear hw1 hb1
  go_wp2_with (first | (go_at_call 10; (with_reducible refine (HP.out _ hbx).mono ?_); rintro e w2 ⟨rfl, hb2⟩; obtain ⟨hbl2, y20, y21, z21, z22, z24⟩ := HX.out w2 hb2) | (go_at_call 9; (with_reducible refine (HV.out _ hbl2).mono ?_); rintro e w3 ⟨rfl, hb3⟩; obtain ⟨hbl3, y30, y31, z31, z32, z34⟩ := HX.out w3 (hb2.trans (hb3.mono hb2.size))))
  go_ret
  exact ⟨rfl, hbl3⟩
end Go.Proofs.YthcmopgdjibojaaGreatDoor.smp

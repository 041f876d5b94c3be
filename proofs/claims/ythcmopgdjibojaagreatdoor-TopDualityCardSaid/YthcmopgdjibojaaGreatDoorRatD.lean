import Derived.Test.YthcmopgdjibojaaGreatDoorRatX
/- ratio: Mul, quotient, Div, Sign, Of. -/
namespace Go.Proofs.YthcmopgdjibojaaGreatDoor.rat
open Go.RowKit
open Go.Lib (decDigits nDigits itoa decDigits_length nDigits_pos)
open Go.Proofs.YthcmopgdjibojaaGreatDoor.lib Go.Proofs.YthcmopgdjibojaaGreatDoor.app Go.Proofs.YthcmopgdjibojaaGreatDoor.nt Go.Proofs.YthcmopgdjibojaaGreatDoor.rd Go.Proofs.YthcmopgdjibojaaGreatDoor.wh
set_option linter.unusedVariables false
set_option linter.unusedSimpArgs false

theorem int_rat (z : Int) : ratS (z : Rat) = intS z := (one_rat (q := (z : Rat)) rfl).symm
theorem rof_any (z : Int) (h0 : -9223372036854775808 ≤ z) (h1 : z ≤ 9223372036854775807) (w : World) (ht : TabT w) :
    Calls Tryz.prog 45 #[.int .i64 z] w fun e w' => e = .returned (.string (ratS (z : Rat))) ∧ Below w.heap.size w w' := by
  have HC := Lib.hid (wof_any z h0 h1 w ht)
  rw [int_rat]
  generalize intS z = S at HC ⊢
  clear h0 h1 ht
  go_enter Tryz.func45, Tryz.ntmps45
  go_wp2_with (go_at_call 78; (with_reducible refine HC.out.mono ?_); rintro e w1 ⟨rfl, hb1⟩)
  go_ret
  exact ⟨rfl, hb1⟩
/-- The sign of a rational number. -/
def sgnQ (q : Rat) : Int := sgnI q.num
theorem sgnQ_neg {q : Rat} : sgnQ q < 0 ↔ q < 0 := by
  have h := Rat.num_nonneg (q := q)
  unfold sgnQ sgnI
  rw [← Rat.not_le, ← h]
  by_cases h1 : q.num < 0
  · rw [if_pos h1]; omega
  · rw [if_neg h1]
    by_cases h2 : q.num = 0
    · rw [if_pos h2]; omega
    · rw [if_neg h2]; omega
theorem sgnQ_zero {q : Rat} : sgnQ q = 0 ↔ q = 0 := by
  rw [← Rat.num_eq_zero]
  unfold sgnQ sgnI
  by_cases h1 : q.num < 0
  · rw [if_pos h1]; omega
  · rw [if_neg h1]
    by_cases h2 : q.num = 0
    · rw [if_pos h2]; omega
    · rw [if_neg h2]; omega
theorem sgnQ_pos {q : Rat} : 0 < sgnQ q ↔ 0 < q := by
  have h1 := sgnQ_neg (q := q)
  have h2 := sgnQ_zero (q := q)
  constructor
  · intro h
    refine Classical.byContradiction fun hn => ?_
    have : q < 0 ∨ q = 0 := by grind
    rcases this with h3 | h3
    · have := h1.2 h3; omega
    · have := h2.2 h3; omega
  · intro h
    have h3 : ¬ sgnQ q < 0 := fun h4 => by have := h1.1 h4; grind
    have h5 : ¬ sgnQ q = 0 := fun h4 => by have := h2.1 h4; grind
    omega
theorem rsign_any (q : Rat) (hq : Dg 4096 q) (w : World) (ht : TabT w) :
    Calls Tryz.prog 42 #[.string (ratS q)] w fun e w' => e = .returned (.int .i64 (sgnQ q)) ∧ Below w.heap.size w w' := by
  have HR := Lib.hid (rright_any q hq w ht)
  have HS : Hid (∀ w', Below w.heap.size w w' → Calls Tryz.prog 68 #[.string (ratS q)] w' fun e w2 => e = .returned (.tuple #[.string (intS q.num), .string (natS q.den)]) ∧ Below w'.heap.size w' w2) := Lib.hid (fun w' h => split_any q hq w' (ht.below h))
  have HG : Hid (∀ w', Calls Tryz.prog 77 #[.string (intS q.num)] w' fun e w2 => e = .returned (.int .i64 (sgnQ q)) ∧ w' = w2) := Lib.hid (fun w' => wsign_any q.num (by have := hq.1; omega) w')
  generalize ratS q = S at HR HS ⊢
  generalize intS q.num = P at HS HG
  generalize natS q.den = Q at HS
  generalize sgnQ q = v at HG ⊢
  clear hq ht
  go_enter Tryz.func42, Tryz.ntmps42
  go_wp2_with (first | (go_at_call 34; (with_reducible refine HR.out.mono ?_); rintro e w1 ⟨rfl, hb1⟩) | (go_at_call 68; (with_reducible refine (HS.out _ hb1).mono ?_); rintro e w2 ⟨rfl, hb2⟩) | (go_at_call 77; (with_reducible refine (HG.out _).mono ?_); rintro e w3 ⟨rfl, rfl⟩))
  go_ret
  exact ⟨rfl, hb1.trans (hb2.mono hb1.size)⟩
set_option maxHeartbeats 1000000 in
theorem rmul_any (a b : Rat) (ha : Dg 2000 a) (hb : Dg 2000 b) (w : World) (ht : TabT w) :
    Calls Tryz.prog 75 #[.string (ratS a), .string (ratS b)] w (RatOut w (a * b)) := by
  have H2 := Lib.hid (rtwo_any a b (ha.mono (by omega)) (hb.mono (by omega)) w ht)
  have a1 := ha.1
  have a2 := ha.2
  have b1 := hb.1
  have b2 := hb.2
  have m1 : nDigits (a.num.natAbs * b.num.natAbs) ≤ 4000 := Nat.le_trans (digits_mul _ _) (by omega)
  have m3 : nDigits (a.den * b.den) ≤ 4000 := Nat.le_trans (digits_mul _ _) (by omega)
  have HPR : Hid (∀ w', Below w.heap.size w w' → Calls Tryz.prog 101 #[.slice (some ⟨w'.heap.size, 0, none⟩) 2 2] (w'.alloc (.cells #[.string (intS a.num), .string (intS b.num), .string (natS a.den), .string (natS b.den)] 162)) fun e W => ∃ g c, e = .returned (.tuple #[.slice (some ⟨g, 0, none⟩) 2 c, .int .i64 0]) ∧ W.cell? ⟨g, 0, none⟩ = some (.string (intS (a.num * b.num))) ∧ W.cell? ⟨g, 1, none⟩ = some (.string (natS (a.den * b.den))) ∧ g < W.heap.size ∧ Below w'.heap.size w' W ∧ w'.heap.size < W.heap.size) := Lib.hid (fun w' h => by
    have h := prods2 a.num b.num a.den b.den (by omega) (by omega) (by omega) (by rw [den_abs]; omega) (by rw [den_abs]; omega) (by rw [den_abs, den_abs]; omega) w' (ht.below h)
    rw [intS_nat, intS_nat, show (a.den : Int) * (b.den : Int) = ((a.den * b.den : Nat) : Int) from rfl, intS_nat] at h
    exact h)
  have HLO : Hid (∀ w', Below w.heap.size w w' → Calls Tryz.prog 102 #[.string (intS (a.num * b.num)), .string (natS (a.den * b.den))] w' (RatOut w' (a * b))) := Lib.hid (fun w' h => by
    rw [Rat.mul_def']
    exact lowest_any _ _ (Nat.mul_pos a.den_pos b.den_pos) (by rw [Int.natAbs_mul]; omega) (by omega) w' (ht.below h))
  unfold RatOut at HLO ⊢
  generalize ratS a = S at H2 ⊢
  generalize ratS b = T at H2 ⊢
  generalize ratS (a * b) = Z at HLO ⊢
  generalize intS (a.num * b.num) = X1 at HPR HLO
  generalize natS (a.den * b.den) = X2 at HPR HLO
  generalize intS a.num = P at H2 HPR
  generalize natS a.den = Q at H2 HPR
  generalize intS b.num = R at H2 HPR
  generalize natS b.den = U at H2 HPR
  clear ha hb ht a1 a2 b1 b2 m1 m3
  go_enter Tryz.func75, Tryz.ntmps75
  go_wp2_with (first | (go_at_call 100; (with_reducible refine H2.out.mono ?_); rintro e w1 ⟨rfl, hb1⟩; have hz1 := hb1.size) | (go_at_call 101; (with_reducible refine (HPR.out _ hb1).mono ?_); rintro e w2 ⟨g, c, rfl, c0, c1, hg, hb2, hz2⟩; have hbl2 := hb1.trans (hb2.mono hz1)))
  (refine wp_region_held_drew (S := (fun w' => w'.cell? ⟨g, 0, none⟩ = some (.string X1) ∧ w'.cell? ⟨g, 1, none⟩ = some (.string X2))) (by kernel_rfl) ?_ (fun hHeld => ?_))
  · exact ⟨c0, c1⟩
  (refine wpAnyH_take (i := 0) (v := ?_) rfl (by kernel_rfl) (by kernel_rfl) (by kernel_rfl) (fun _ _ _ h => h) (Or.inl ⟨by kernel_rfl, ?_⟩) (by assumption) ?_; rotate_left; (focus (intro w hSw; (try dsimp only at hSw); go_simp; all_goals with_reducible rfl)); (try simp only [Act.put, List.getElem_toArray, List.getElem_cons_succ, List.getElem_cons_zero, List.setIfInBounds_toArray, List.set_cons_zero, List.set_cons_succ]))
  (refine wpAnyH_take (i := 1) (v := ?_) rfl (by kernel_rfl) (by kernel_rfl) (by kernel_rfl) (fun _ _ _ h => h) (Or.inl ⟨by kernel_rfl, ?_⟩) (by assumption) ?_; rotate_left; (focus (intro w hSw; (try dsimp only at hSw); go_simp; all_goals with_reducible rfl)); (try simp only [Act.put, List.getElem_toArray, List.getElem_cons_succ, List.getElem_cons_zero, List.setIfInBounds_toArray, List.set_cons_zero, List.set_cons_succ]))
  (refine wpAnyH_take (i := 2) (v := ?_) rfl (by kernel_rfl) (by kernel_rfl) (by kernel_rfl) (fun _ _ _ h => h) (Or.inl ⟨by kernel_rfl, ?_⟩) (by assumption) ?_; rotate_left; (focus (intro w hSw; (try dsimp only at hSw); go_simp; all_goals with_reducible rfl)); (try simp only [Act.put, List.getElem_toArray, List.getElem_cons_succ, List.getElem_cons_zero, List.setIfInBounds_toArray, List.set_cons_zero, List.set_cons_succ]))
  (refine wpAnyH_take (i := 3) (v := ?_) rfl (by kernel_rfl) (by kernel_rfl) (by kernel_rfl) (fun _ _ _ h => h) (Or.inl ⟨by kernel_rfl, ?_⟩) (by assumption) ?_; rotate_left; (focus (intro w hSw; (try dsimp only at hSw); go_simp; all_goals with_reducible rfl)); (try simp only [Act.put, List.getElem_toArray, List.getElem_cons_succ, List.getElem_cons_zero, List.setIfInBounds_toArray, List.set_cons_zero, List.set_cons_succ]))
  (refine wpAnyH_take (i := 4) (v := ?_) rfl (by kernel_rfl) (by kernel_rfl) (by kernel_rfl) (fun _ _ _ h => h) (Or.inl ⟨by kernel_rfl, ?_⟩) (by assumption) ?_; rotate_left; (focus (intro w hSw; (try dsimp only at hSw); go_simp; all_goals with_reducible rfl)); (try simp only [Act.put, List.getElem_toArray, List.getElem_cons_succ, List.getElem_cons_zero, List.setIfInBounds_toArray, List.set_cons_zero, List.set_cons_succ]))
  (refine wpAnyH_take (i := 5) (v := ?_) rfl (by kernel_rfl) (by kernel_rfl) (by kernel_rfl) (fun _ _ _ h => h) (Or.inl ⟨by kernel_rfl, ?_⟩) (by assumption) ?_; rotate_left; (focus (intro w hSw; (try dsimp only at hSw); go_simp; all_goals with_reducible rfl)); (try simp only [Act.put, List.getElem_toArray, List.getElem_cons_succ, List.getElem_cons_zero, List.setIfInBounds_toArray, List.set_cons_zero, List.set_cons_succ]))
  (refine wpAnyH_ready (rs := [6]) (by kernel_rfl) (by simp) ?_; refine AllReadyH.cons rfl (fun K hK => ?_) AllReadyH.nil; go_simp)
  go_at_call 102
  refine (HLO.out _ hbl2.drew).mono ?_
  rintro e w3 ⟨rfl, hb3⟩
  have k (o : Nat) : w3.cell? ⟨g, o, none⟩ = w2.cell? ⟨g, o, none⟩ := hb3.cell (p := ⟨g, o, none⟩) hg
  have hbl3 : Below w.heap.size w w3 := hbl2.drew.trans (hb3.mono hbl2.size)
  (refine hK.out _ _ ?_ (fun hHeld => ?_))
  · exact ⟨(k _).trans c0, (k _).trans c1⟩
  clear hK K k c0 c1
  (try simp only [Act.put, List.getElem_toArray, List.getElem_cons_succ, List.getElem_cons_zero, List.setIfInBounds_toArray, List.set_cons_zero, List.set_cons_succ])
  (refine wpAnyH_take (i := 7) (v := ?_) rfl (by kernel_rfl) (by kernel_rfl) (by kernel_rfl) (fun _ _ _ h => h) (Or.inl ⟨by kernel_rfl, ?_⟩) (by assumption) ?_; rotate_left; (focus (intro w hSw; (try dsimp only at hSw); go_simp; all_goals with_reducible rfl)); (try simp only [Act.put, List.getElem_toArray, List.getElem_cons_succ, List.getElem_cons_zero, List.setIfInBounds_toArray, List.set_cons_zero, List.set_cons_succ]))
  (refine wpAnyH_take (i := 8) (v := ?_) rfl (by kernel_rfl) (by kernel_rfl) (by kernel_rfl) (fun _ _ _ h => h) (Or.inl ⟨by kernel_rfl, ?_⟩) (by assumption) ?_; rotate_left; (focus (intro w hSw; (try dsimp only at hSw); go_simp; all_goals with_reducible rfl)); (try simp only [Act.put, List.getElem_toArray, List.getElem_cons_succ, List.getElem_cons_zero, List.setIfInBounds_toArray, List.set_cons_zero, List.set_cons_succ]))
  (refine wpAnyH_take (i := 9) (v := ?_) rfl (by kernel_rfl) (by kernel_rfl) (by kernel_rfl) (fun _ _ _ h => h) (Or.inl ⟨by kernel_rfl, ?_⟩) (by assumption) ?_; rotate_left; (focus (intro w hSw; (try dsimp only at hSw); go_simp; all_goals with_reducible rfl)); (try simp only [Act.put, List.getElem_toArray, List.getElem_cons_succ, List.getElem_cons_zero, List.setIfInBounds_toArray, List.set_cons_zero, List.set_cons_succ]))
  (refine wpAnyH_take (i := 10) (v := ?_) rfl (by kernel_rfl) (by kernel_rfl) (by kernel_rfl) (fun _ _ _ h => h) (Or.inl ⟨by kernel_rfl, ?_⟩) (by assumption) ?_; rotate_left; (focus (intro w hSw; (try dsimp only at hSw); go_simp; all_goals with_reducible rfl)); (try simp only [Act.put, List.getElem_toArray, List.getElem_cons_succ, List.getElem_cons_zero, List.setIfInBounds_toArray, List.set_cons_zero, List.set_cons_succ]))
  (refine wpAnyH_done (by kernel_rfl) ?_ _)
  go_wp2
  go_ret2
  exact ⟨rfl, hbl3⟩

/-! quotient, Div. -/
theorem divInt_nat (p : Int) {d : Int} (h : 0 < d) : Rat.divInt p d = mkRat p d.natAbs := by
  obtain ⟨n, rfl⟩ : ∃ n : Nat, d = n := ⟨d.natAbs, by omega⟩
  rw [Rat.divInt_ofNat, Int.natAbs_natCast]
theorem divInt_neg_ (p : Int) {d : Int} (h : d < 0) : Rat.divInt p d = mkRat (-p) d.natAbs := by
  obtain ⟨n, rfl⟩ : ∃ n : Nat, d = -(n : Int) := ⟨d.natAbs, by omega⟩
  rw [Rat.divInt_neg', Rat.divInt_ofNat, Int.natAbs_neg, Int.natAbs_natCast]
theorem div_is (a b : Rat) (hb : b ≠ 0) : a / b = Rat.divInt (a.num * b.den) (a.den * b.num) := by
  have ea : a = (a.num : Rat) / (a.den : Rat) := by rw [← Rat.mkRat_eq_div, Rat.mkRat_self]
  have eb : b = (b.num : Rat) / (b.den : Rat) := by rw [← Rat.mkRat_eq_div, Rat.mkRat_self]
  have hn : (b.num : Rat) ≠ 0 := fun h => hb (by rw [eb, h]; grind)
  have hd : (b.den : Rat) ≠ 0 := fun h => b.den_nz (by exact_mod_cast h)
  have hd' : (a.den : Rat) ≠ 0 := fun h => a.den_nz (by exact_mod_cast h)
  rw [Rat.divInt_eq_div, Rat.intCast_mul, Rat.intCast_mul]
  have h1 : ((a.den : Int) : Rat) = (a.den : Rat) := rfl
  have h2 : ((b.den : Int) : Rat) = (b.den : Rat) := rfl
  rw [h1, h2]
  generalize (a.num : Rat) = x at ea ⊢
  generalize (a.den : Rat) = y at ea hd' ⊢
  generalize (b.num : Rat) = z at eb hn ⊢
  generalize (b.den : Rat) = t at eb hd ⊢
  rw [ea, eb]
  grind
set_option maxHeartbeats 1000000 in
theorem quotient_any (p d : Int) (hd : d ≠ 0) (hp : nDigits p.natAbs ≤ 4095) (hq : nDigits d.natAbs ≤ 4095) (w : World) (ht : TabT w) :
    Calls Tryz.prog 211 #[.string (intS p), .string (intS d)] w (RatOut w (Rat.divInt p d)) := by
  have HS := Lib.hid (fun w => wsign_any d (by omega) w)
  by_cases h : d < 0
  · have hs : sgnI d < 0 := by unfold sgnI; rw [if_pos h]; omega
    have HN1 : Hid (∀ w', Below w.heap.size w w' → Calls Tryz.prog 244 #[.string (intS p)] w' (IntOut w' (-p))) := Lib.hid (fun w' h => wneg_any p (by omega) w' (ht.below h))
    have HN2 : Hid (∀ w', Below w.heap.size w w' → Calls Tryz.prog 244 #[.string (intS d)] w' (IntOut w' (-d))) := Lib.hid (fun w' h => wneg_any d (by omega) w' (ht.below h))
    have HLO : Hid (∀ w', Below w.heap.size w w' → Calls Tryz.prog 102 #[.string (intS (-p)), .string (intS (-d))] w' (RatOut w' (Rat.divInt p d))) := Lib.hid (fun w' hb => by
      rw [divInt_neg_ p h, show -d = ((d.natAbs : Nat) : Int) by omega, intS_nat]
      exact lowest_any _ _ (by omega) (by rw [Int.natAbs_neg]; exact hp) hq w' (ht.below hb))
    unfold RatOut at HLO ⊢
    unfold IntOut at HN1 HN2
    generalize sgnI d = v at HS hs
    generalize intS (-p) = P' at HN1 HLO
    generalize intS (-d) = D' at HN2 HLO
    generalize intS p = P at HN1 ⊢
    generalize intS d = D at HN2 HS ⊢
    generalize ratS (Rat.divInt p d) = Z at HLO ⊢
    clear h hp hq ht hd
    go_enter Tryz.func211, Tryz.ntmps211
    go_wp2_with (first | (go_at_call 77; (with_reducible refine (HS.out _).mono ?_); rintro e w1 ⟨rfl, rfl⟩) | (go_at_call 244; (with_reducible refine (HN1.out _ (Below.refl _ _)).mono ?_); rintro e w2 ⟨rfl, hb2⟩) | (go_at_call 244; (with_reducible refine (HN2.out _ hb2).mono ?_); rintro e w3 ⟨rfl, hb3⟩; have hbl3 := hb2.trans (hb3.mono hb2.size)) | (go_at_call 102; (with_reducible refine (HLO.out _ hbl3).mono ?_); rintro e w4 ⟨rfl, hb4⟩; have hbl4 := hbl3.trans (hb4.mono hbl3.size)))
    go_ret2
    exact ⟨rfl, hbl4⟩
  · have hs : ¬ sgnI d < 0 := by unfold sgnI; rw [if_neg h, if_neg hd]; omega
    have HLO : Hid (∀ w', Below w.heap.size w w' → Calls Tryz.prog 102 #[.string (intS p), .string (intS d)] w' (RatOut w' (Rat.divInt p d))) := Lib.hid (fun w' hb => by
      rw [divInt_nat p (by omega)]
      have e : intS d = natS d.natAbs := by rw [← intS_nat]; congr 1; omega
      rw [e]
      exact lowest_any _ _ (by omega) hp hq w' (ht.below hb))
    unfold RatOut at HLO ⊢
    generalize sgnI d = v at HS hs
    generalize intS p = P at HLO ⊢
    generalize intS d = D at HS HLO ⊢
    generalize ratS (Rat.divInt p d) = Z at HLO ⊢
    clear h hp hq ht hd
    go_enter Tryz.func211, Tryz.ntmps211
    go_wp2_with (first | (go_at_call 77; (with_reducible refine (HS.out _).mono ?_); rintro e w1 ⟨rfl, rfl⟩) | (go_at_call 102; (with_reducible refine (HLO.out _ (Below.refl _ _)).mono ?_); rintro e w4 ⟨rfl, hb4⟩))
    go_ret2
    exact ⟨rfl, hb4⟩
set_option maxHeartbeats 1000000 in
theorem rdiv_any (a b : Rat) (hb0 : b ≠ 0) (ha : Dg 2000 a) (hb : Dg 2000 b) (w : World) (ht : TabT w) :
    Calls Tryz.prog 157 #[.string (ratS a), .string (ratS b)] w (RatOut w (a / b)) := by
  have H2 := Lib.hid (rtwo_any a b (ha.mono (by omega)) (hb.mono (by omega)) w ht)
  have a1 := ha.1
  have a2 := ha.2
  have b1 := hb.1
  have b2 := hb.2
  have m1 : nDigits (a.num.natAbs * b.den) ≤ 4000 := Nat.le_trans (digits_mul _ _) (by omega)
  have m3 : nDigits (a.den * b.num.natAbs) ≤ 4000 := Nat.le_trans (digits_mul _ _) (by omega)
  have hbn : b.num ≠ 0 := fun h => hb0 (Rat.num_eq_zero.1 h)
  have HPR : Hid (∀ w', Below w.heap.size w w' → Calls Tryz.prog 101 #[.slice (some ⟨w'.heap.size, 0, none⟩) 2 2] (w'.alloc (.cells #[.string (intS a.num), .string (natS b.den), .string (natS a.den), .string (intS b.num)] 162)) fun e W => ∃ g c, e = .returned (.tuple #[.slice (some ⟨g, 0, none⟩) 2 c, .int .i64 0]) ∧ W.cell? ⟨g, 0, none⟩ = some (.string (intS (a.num * b.den))) ∧ W.cell? ⟨g, 1, none⟩ = some (.string (intS (a.den * b.num))) ∧ g < W.heap.size ∧ Below w'.heap.size w' W ∧ w'.heap.size < W.heap.size) := Lib.hid (fun w' h => by
    have h := prods2 a.num b.den a.den b.num (by omega) (by rw [den_abs]; omega) (by rw [den_abs]; omega) (by rw [den_abs]; omega) (by omega) (by rw [den_abs]; omega) w' (ht.below h)
    rw [intS_nat, intS_nat] at h
    exact h)
  have HQU : Hid (∀ w', Below w.heap.size w w' → Calls Tryz.prog 211 #[.string (intS (a.num * b.den)), .string (intS (a.den * b.num))] w' (RatOut w' (a / b))) := Lib.hid (fun w' h => by
    rw [div_is a b hb0]
    refine quotient_any _ _ ?_ (by rw [Int.natAbs_mul, den_abs]; omega) (by rw [Int.natAbs_mul, den_abs]; omega) w' (ht.below h)
    intro h
    rcases Int.mul_eq_zero.1 h with h | h
    · exact a.den_nz (by exact_mod_cast h)
    · exact hbn h)
  have p0 : ((intS b.num).toList == [48]) = decide (b.num = 0) := intS_is _ 0 (by decide)
  rw [decide_eq_false hbn] at p0
  unfold RatOut at HQU ⊢
  generalize ratS a = S at H2 ⊢
  generalize ratS b = T at H2 ⊢
  generalize ratS (a / b) = Z at HQU ⊢
  generalize intS (a.num * b.den) = X1 at HPR HQU
  generalize intS (a.den * b.num) = X2 at HPR HQU
  generalize intS a.num = P at H2 HPR
  generalize natS a.den = Q at H2 HPR
  generalize intS b.num = R at H2 HPR p0
  generalize natS b.den = U at H2 HPR
  clear ha hb ht a1 a2 b1 b2 m1 m3 hb0 hbn
  go_enter Tryz.func157, Tryz.ntmps157
  go_wp2_with (first | (go_at_call 100; (with_reducible refine H2.out.mono ?_); rintro e w1 ⟨rfl, hb1⟩; have hz1 := hb1.size) | (go_at_call 101; (with_reducible refine (HPR.out _ hb1).mono ?_); rintro e w2 ⟨g, c, rfl, c0, c1, hg, hb2, hz2⟩; have hbl2 := hb1.trans (hb2.mono hz1)))
  (refine wp_region_held_drew (S := (fun w' => w'.cell? ⟨g, 0, none⟩ = some (.string X1) ∧ w'.cell? ⟨g, 1, none⟩ = some (.string X2))) (by kernel_rfl) ?_ (fun hHeld => ?_))
  · exact ⟨c0, c1⟩
  (refine wpAnyH_take (i := 0) (v := ?_) rfl (by kernel_rfl) (by kernel_rfl) (by kernel_rfl) (fun _ _ _ h => h) (Or.inl ⟨by kernel_rfl, ?_⟩) (by assumption) ?_; rotate_left; (focus (intro w hSw; (try dsimp only at hSw); go_simp; all_goals with_reducible rfl)); (try simp only [Act.put, List.getElem_toArray, List.getElem_cons_succ, List.getElem_cons_zero, List.setIfInBounds_toArray, List.set_cons_zero, List.set_cons_succ]))
  (refine wpAnyH_take (i := 1) (v := ?_) rfl (by kernel_rfl) (by kernel_rfl) (by kernel_rfl) (fun _ _ _ h => h) (Or.inl ⟨by kernel_rfl, ?_⟩) (by assumption) ?_; rotate_left; (focus (intro w hSw; (try dsimp only at hSw); go_simp; all_goals with_reducible rfl)); (try simp only [Act.put, List.getElem_toArray, List.getElem_cons_succ, List.getElem_cons_zero, List.setIfInBounds_toArray, List.set_cons_zero, List.set_cons_succ]))
  (refine wpAnyH_take (i := 2) (v := ?_) rfl (by kernel_rfl) (by kernel_rfl) (by kernel_rfl) (fun _ _ _ h => h) (Or.inl ⟨by kernel_rfl, ?_⟩) (by assumption) ?_; rotate_left; (focus (intro w hSw; (try dsimp only at hSw); go_simp; all_goals with_reducible rfl)); (try simp only [Act.put, List.getElem_toArray, List.getElem_cons_succ, List.getElem_cons_zero, List.setIfInBounds_toArray, List.set_cons_zero, List.set_cons_succ]))
  (refine wpAnyH_take (i := 3) (v := ?_) rfl (by kernel_rfl) (by kernel_rfl) (by kernel_rfl) (fun _ _ _ h => h) (Or.inl ⟨by kernel_rfl, ?_⟩) (by assumption) ?_; rotate_left; (focus (intro w hSw; (try dsimp only at hSw); go_simp; all_goals with_reducible rfl)); (try simp only [Act.put, List.getElem_toArray, List.getElem_cons_succ, List.getElem_cons_zero, List.setIfInBounds_toArray, List.set_cons_zero, List.set_cons_succ]))
  (refine wpAnyH_take (i := 4) (v := ?_) rfl (by kernel_rfl) (by kernel_rfl) (by kernel_rfl) (fun _ _ _ h => h) (Or.inl ⟨by kernel_rfl, ?_⟩) (by assumption) ?_; rotate_left; (focus (intro w hSw; (try dsimp only at hSw); go_simp; all_goals with_reducible rfl)); (try simp only [Act.put, List.getElem_toArray, List.getElem_cons_succ, List.getElem_cons_zero, List.setIfInBounds_toArray, List.set_cons_zero, List.set_cons_succ]))
  (refine wpAnyH_take (i := 5) (v := ?_) rfl (by kernel_rfl) (by kernel_rfl) (by kernel_rfl) (fun _ _ _ h => h) (Or.inl ⟨by kernel_rfl, ?_⟩) (by assumption) ?_; rotate_left; (focus (intro w hSw; (try dsimp only at hSw); go_simp; all_goals with_reducible rfl)); (try simp only [Act.put, List.getElem_toArray, List.getElem_cons_succ, List.getElem_cons_zero, List.setIfInBounds_toArray, List.set_cons_zero, List.set_cons_succ]))
  (refine wpAnyH_ready (rs := [6]) (by kernel_rfl) (by simp) ?_; refine AllReadyH.cons rfl (fun K hK => ?_) AllReadyH.nil; go_simp)
  go_at_call 211
  refine (HQU.out _ hbl2.drew).mono ?_
  rintro e w3 ⟨rfl, hb3⟩
  have k (o : Nat) : w3.cell? ⟨g, o, none⟩ = w2.cell? ⟨g, o, none⟩ := hb3.cell (p := ⟨g, o, none⟩) hg
  have hbl3 : Below w.heap.size w w3 := hbl2.drew.trans (hb3.mono hbl2.size)
  (refine hK.out _ _ ?_ (fun hHeld => ?_))
  · exact ⟨(k _).trans c0, (k _).trans c1⟩
  clear hK K k c0 c1
  (try simp only [Act.put, List.getElem_toArray, List.getElem_cons_succ, List.getElem_cons_zero, List.setIfInBounds_toArray, List.set_cons_zero, List.set_cons_succ])
  (refine wpAnyH_take (i := 7) (v := ?_) rfl (by kernel_rfl) (by kernel_rfl) (by kernel_rfl) (fun _ _ _ h => h) (Or.inl ⟨by kernel_rfl, ?_⟩) (by assumption) ?_; rotate_left; (focus (intro w hSw; (try dsimp only at hSw); go_simp; all_goals with_reducible rfl)); (try simp only [Act.put, List.getElem_toArray, List.getElem_cons_succ, List.getElem_cons_zero, List.setIfInBounds_toArray, List.set_cons_zero, List.set_cons_succ]))
  (refine wpAnyH_take (i := 8) (v := ?_) rfl (by kernel_rfl) (by kernel_rfl) (by kernel_rfl) (fun _ _ _ h => h) (Or.inl ⟨by kernel_rfl, ?_⟩) (by assumption) ?_; rotate_left; (focus (intro w hSw; (try dsimp only at hSw); go_simp; all_goals with_reducible rfl)); (try simp only [Act.put, List.getElem_toArray, List.getElem_cons_succ, List.getElem_cons_zero, List.setIfInBounds_toArray, List.set_cons_zero, List.set_cons_succ]))
  (refine wpAnyH_take (i := 9) (v := ?_) rfl (by kernel_rfl) (by kernel_rfl) (by kernel_rfl) (fun _ _ _ h => h) (Or.inl ⟨by kernel_rfl, ?_⟩) (by assumption) ?_; rotate_left; (focus (intro w hSw; (try dsimp only at hSw); go_simp; all_goals with_reducible rfl)); (try simp only [Act.put, List.getElem_toArray, List.getElem_cons_succ, List.getElem_cons_zero, List.setIfInBounds_toArray, List.set_cons_zero, List.set_cons_succ]))
  (refine wpAnyH_take (i := 10) (v := ?_) rfl (by kernel_rfl) (by kernel_rfl) (by kernel_rfl) (fun _ _ _ h => h) (Or.inl ⟨by kernel_rfl, ?_⟩) (by assumption) ?_; rotate_left; (focus (intro w hSw; (try dsimp only at hSw); go_simp; all_goals with_reducible rfl)); (try simp only [Act.put, List.getElem_toArray, List.getElem_cons_succ, List.getElem_cons_zero, List.setIfInBounds_toArray, List.set_cons_zero, List.set_cons_succ]))
  (refine wpAnyH_done (by kernel_rfl) ?_ _)
  go_wp2
  go_ret2
  exact ⟨rfl, hbl3⟩
end Go.Proofs.YthcmopgdjibojaaGreatDoor.rat

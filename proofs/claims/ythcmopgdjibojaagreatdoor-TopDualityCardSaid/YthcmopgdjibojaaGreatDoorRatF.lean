import Derived.Test.YthcmopgdjibojaaGreatDoorRatE
import Derived.Test.YthcmopgdjibojaaGreatDoorSmxX
/- ratio: Times. -/
namespace Go.Proofs.YthcmopgdjibojaaGreatDoor.rat
open Go.RowKit
open Go.Lib (decDigits nDigits itoa decDigits_length nDigits_pos)
open Go.Proofs.YthcmopgdjibojaaGreatDoor.lib Go.Proofs.YthcmopgdjibojaaGreatDoor.app Go.Proofs.YthcmopgdjibojaaGreatDoor.nt Go.Proofs.YthcmopgdjibojaaGreatDoor.rd Go.Proofs.YthcmopgdjibojaaGreatDoor.wh Go.Proofs.YthcmopgdjibojaaGreatDoor.smx
set_option linter.unusedVariables false
set_option linter.unusedSimpArgs false

/-! Sizes. -/
theorem mkRat_dg {p : Int} {n k : Nat} (hn : n ≠ 0) (hp : nDigits p.natAbs ≤ k) (hd : nDigits n ≤ k) : Dg k (mkRat p n) := by
  refine ⟨?_, ?_⟩
  · rw [Rat.num_mkRat, if_neg hn]
    refine Nat.le_trans (nDigits_mono ?_) hp
    rw [Int.natAbs_ediv_of_dvd (Int.ofNat_dvd_left.2 (Nat.gcd_dvd_right _ _))]
    exact Nat.div_le_self _ _
  · rw [Rat.den_mkRat, if_neg hn]
    exact Nat.le_trans (nDigits_mono (Nat.div_le_self _ _)) hd
theorem Dg.mul {i j : Nat} {a b : Rat} (ha : Dg i a) (hb : Dg j b) : Dg (i + j) (a * b) := by
  rw [Rat.mul_def']
  refine mkRat_dg (Nat.mul_ne_zero a.den_nz b.den_nz) ?_ (Nat.le_trans (digits_mul _ _) (by have := ha.2; have := hb.2; omega))
  rw [Int.natAbs_mul]
  exact Nat.le_trans (digits_mul _ _) (by have := ha.1; have := hb.1; omega)
theorem Dg.add {i j : Nat} {a b : Rat} (ha : Dg i a) (hb : Dg j b) : Dg (i + j + 1) (a + b) := by
  rw [Rat.add_def']
  have ha1 := ha.1
  have ha2 := ha.2
  have hb1 := hb.1
  have hb2 := hb.2
  refine mkRat_dg (Nat.mul_ne_zero a.den_nz b.den_nz) ?_ (Nat.le_trans (digits_mul _ _) (by omega))
  have h1 : nDigits (a.num * b.den).natAbs ≤ i + j := by rw [Int.natAbs_mul, den_abs]; exact Nat.le_trans (digits_mul _ _) (by omega)
  have h2 : nDigits (b.num * a.den).natAbs ≤ i + j := by rw [Int.natAbs_mul, den_abs]; exact Nat.le_trans (digits_mul _ _) (by omega)
  exact Nat.le_trans (nDigits_mono (by omega)) (digits_add h1 h2)
theorem Dg.int {z : Int} {k : Nat} (h : nDigits z.natAbs ≤ k) (hk : 1 ≤ k) : Dg k (z : Rat) := ⟨h, by show nDigits 1 ≤ k; rw [Go.Lib.nDigits_small (by decide)]; exact hk⟩
theorem Dg.zero : Dg 1 (0 : Rat) := ⟨by show nDigits 0 ≤ 1; rw [Go.Lib.nDigits_small (by decide)]; exact Nat.le_refl _, by show nDigits 1 ≤ 1; rw [Go.Lib.nDigits_small (by decide)]; exact Nat.le_refl _⟩
theorem i64_digits {z : Int} (h0 : -9223372036854775808 ≤ z) (h1 : z ≤ 9223372036854775807) : nDigits z.natAbs ≤ 19 := nDigits_le (by decide) (Nat.lt_of_lt_of_le (show z.natAbs < 10000000000000000000 by omega) (by decide))
theorem sum_dg {f : Nat → Rat} {e n : Nat} (h : ∀ i, i < n → Dg e (f i)) : Dg (1 + n * (e + 1)) (sm f n) := by
  induction n with
  | zero => simpa [sm] using Dg.zero
  | succ n ih =>
    have h1 := (ih fun i hi => h i (by omega)).add (h n (by omega))
    refine h1.mono ?_
    rw [Nat.add_mul]; omega
/-- A slice of rational numbers. -/
def Rats (w : World) (B : Nat) (A : Option Addr) (n : Nat) (q : Nat → Rat) : Prop := Reads w B 1 A n ((List.range n).map fun i => .string (ratS (q i)))
theorem Rats.at_ {w : World} {B : Nat} {A : Option Addr} {n : Nat} {q : Nat → Rat} (h : Rats w B A n q) {k : Nat} (hk : k < n) : ∃ ad, A = some ad ∧ ad.block < B ∧ w.cell? (ad.add k) = some (.string (ratS (q k))) := by
  obtain ⟨ad, u, hA, hb, hx, hc⟩ := Reads.at_ h hk
  rw [List.getElem?_map, List.getElem?_range hk] at hx
  injection hx with hx
  subst hx
  exact ⟨ad, hA, hb, hc⟩
theorem Rats.below {w w' : World} {B : Nat} {A : Option Addr} {n : Nat} {q : Nat → Rat} (h : Rats w B A n q) (hb : Below B w w') : Rats w' B A n q := Reads.below h hb
theorem Rats.more {w : World} {B B' : Nat} {A : Option Addr} {n : Nat} {q : Nat → Rat} (h : Rats w B A n q) (hB : B ≤ B') : Rats w B' A n q := Reads.more h hB
/-- The sum of the products of integers and rational numbers. -/
def dot (l : List Int) (q : Nat → Rat) : Nat → Rat := sm (fun i => (((l[i]?.getD 0 : Int)) : Rat) * q i)
theorem rat_zero : ratS (0 : Rat) = ⟨#[48]⟩ := by
  rw [show (0 : Rat) = ((0 : Int) : Rat) from rfl, int_rat, show (0 : Int) = ((0 : Nat) : Int) from rfl, intS_nat, natS_zero]
set_option maxRecDepth 20000 in
set_option maxHeartbeats 2000000 in
theorem times_any (A : Option Addr) (c : Nat) (l : List Int) (A' : Option Addr) (c' : Nat) (q : Nat → Rat) (hn : l.length ≤ 8) (h64 : ∀ x ∈ l, -9223372036854775808 ≤ x ∧ x ≤ 9223372036854775807) (hq : ∀ i, i < l.length → Dg 200 (q i)) (w : World) (B B' : Nat) (hB : B ≤ w.heap.size) (hB' : B' ≤ w.heap.size) (hl : Ints w B A l) (hr : Rats w B' A' l.length q) (ht : TabT w) :
    Calls Tryz.prog 37 #[.slice A l.length c, .slice A' l.length c'] w (RatOut w (dot l q l.length)) := by
  have hdg : ∀ k, k ≤ l.length → Dg 2000 (dot l q k) := fun k hk => by
    have h := sum_dg (f := fun i => (((l[i]?.getD 0 : Int)) : Rat) * q i) (e := 219) (n := k) (fun i hi => by
      have hx := h64 (l[i]'(by omega)) (List.getElem_mem _)
      rw [List.getElem?_eq_getElem (by omega)]
      exact (Dg.int (i64_digits hx.1 hx.2) (by omega)).mul (hq i (by omega)))
    refine h.mono ?_
    have : k * (219 + 1) ≤ 8 * (219 + 1) := Nat.mul_le_mul_right _ (by omega)
    omega
  obtain ⟨n, hn'⟩ : ∃ n, l.length = n := ⟨_, rfl⟩
  have HN := Lib.hid hn'
  have HRI : Hid (∀ i, i < n → ∀ w', Below w.heap.size w w' → Calls Tryz.prog 34 #[.string (ratS (q i))] w' fun e w2 => e = .returned (.bool true) ∧ Below w'.heap.size w' w2) := Lib.hid (fun i hi w' h => rright_any (q i) ((hq i (by omega)).mono (by omega)) w' (ht.below h))
  have HOF : Hid (∀ x w', x ∈ l → Below w.heap.size w w' → Calls Tryz.prog 45 #[.int .i64 x] w' fun e w2 => e = .returned (.string (ratS (x : Rat))) ∧ Below w'.heap.size w' w2) := Lib.hid (fun x w' hx h => rof_any x (h64 x hx).1 (h64 x hx).2 w' (ht.below h))
  have HMU : Hid (∀ x i w', x ∈ l → i < n → Below w.heap.size w w' → Calls Tryz.prog 75 #[.string (ratS (x : Rat)), .string (ratS (q i))] w' (RatOut w' ((x : Rat) * q i))) := Lib.hid (fun x i w' hx hi h => rmul_any _ _ ((Dg.int (i64_digits (h64 x hx).1 (h64 x hx).2) (by omega)).mono (by omega)) ((hq i (by omega)).mono (by omega)) w' (ht.below h))
  have HAD : Hid (∀ x i w', x ∈ l → i < n → Below w.heap.size w w' → Calls Tryz.prog 19 #[.string (ratS (dot l q i)), .string (ratS ((x : Rat) * q i))] w' (RatOut w' (dot l q i + (x : Rat) * q i))) := Lib.hid (fun x i w' hx hi h => radd_any _ _ (hdg i (by omega)) (((Dg.int (i64_digits (h64 x hx).1 (h64 x hx).2) (by omega)).mul (hq i (by omega))).mono (by omega)) w' (ht.below h))
  have HZ : Hid (ratS (dot l q 0) = ⟨#[48]⟩) := Lib.hid rat_zero
  unfold RatOut at HMU HAD ⊢
  rw [hn'] at hr hn ⊢
  clear hn' h64 hq hdg ht
  go_enter Tryz.func37, Tryz.ntmps37
  go_wp2
  go_loopw [20] (fun i wr => ∃ k : Nat, k ≤ n ∧ i = .int .i64 k ∧ Below w.heap.size w wr) (fun i _ => n - (intOf i).toNat)
  case atStart => exact ⟨0, by omega, rfl, Below.refl _ _⟩
  case round =>
    obtain ⟨k, hk, rfl, hbel⟩ := hrel
    have hsz := hbel.size
    by_cases hlt : k < n
    · obtain ⟨ad, rfl, hadb, hcx⟩ := (hr.below (hbel.mono hB')).at_ hlt
      have HRX := Lib.hid (fun (w' : World) (h : Below w.heap.size w w') => HRI.out k hlt w' h)
      generalize ratS (q k) = S at HRX hcx
      go_wp2_with (go_at_call 34; (with_reducible refine (HRX.out _ hbel).mono ?_); rintro e w2 ⟨rfl, hb2⟩)
      go_roundw
      case rel => exact ⟨k + 1, by omega, by go_num, hbel.trans (hb2.mono hsz)⟩
      case measure => simp [intOf]; omega
    · obtain rfl : k = n := by omega
      obtain ⟨wo, hwo⟩ : ∃ wo : World, wo = wr := ⟨_, rfl⟩
      subst hwo
      clear hlt
      go_wp2
      go_loopw [8, 30] (fun v i wr => ∃ j : Nat, j ≤ k ∧ i = .int .i64 j ∧ v = .string (ratS (dot l q j)) ∧ Below w.heap.size w wr) (fun _ i _ => k - (intOf i).toNat)
      case atStart => exact ⟨0, by omega, rfl, by rw [HZ.out], hbel⟩
      case round =>
        obtain ⟨j, hj, rfl, rfl, hbel'⟩ := hrel
        have hsz' := hbel'.size
        by_cases hlt : j < k
        · obtain ⟨ad, rfl, hadb, hcx⟩ := (hr.below (hbel'.mono hB')).at_ hlt
          obtain ⟨ad', x, rfl, hadb', hx, hcy⟩ := (hl.below (hbel'.mono hB)).at_ (k := j) (by rw [HN.out]; exact hlt)
          have hmem := List.mem_of_getElem? hx
          have HST : Hid (dot l q j + (x : Rat) * q j = dot l q (j + 1)) := Lib.hid (by unfold dot; rw [sm, hx]; rfl)
          have HO := Lib.hid (fun (w' : World) (h : Below w.heap.size w w') => HOF.out x w' hmem h)
          have HM := Lib.hid (fun (w' : World) (h : Below w.heap.size w w') => HMU.out x j w' hmem hlt h)
          have HA := Lib.hid (fun (w' : World) (h : Below w.heap.size w w') => HAD.out x j w' hmem hlt h)
          rw [HST.out] at HA
          have hcl := (hl.below (hbel'.mono hB))
          clear hx hmem
          generalize hN : ratS (dot l q (j + 1)) = N at HA
          have HNN := Lib.hid hN
          clear hN
          generalize ratS ((x : Rat) * q j) = Y at HM HA
          generalize ratS (x : Rat) = X at HO HM
          generalize ratS (q j) = S at HM hcx
          generalize ratS (dot l q j) = D at HA ⊢
          go_wp2_with (first | (go_at_call 45; (with_reducible refine (HO.out _ hbel').mono ?_); rintro e w2 ⟨rfl, hb2⟩; have hbl2 := hbel'.trans (hb2.mono hsz')) | (go_at_call 75; (with_reducible refine (HM.out _ hbl2).mono ?_); rintro e w3 ⟨rfl, hb3⟩; have hbl3 := hbl2.trans (hb3.mono hbl2.size)) | (go_at_call 19; (with_reducible refine (HA.out _ hbl3).mono ?_); rintro e w4 ⟨rfl, hb4⟩; have hbl4 := hbl3.trans (hb4.mono hbl3.size)))
          go_roundw
          case rel => exact ⟨j + 1, by omega, by go_num, by rw [HNN.out], hbl4⟩
          case measure => simp [intOf]; omega
        · obtain rfl : j = k := by omega
          clear hlt
          go_wp2
          go_ret2
          exact ⟨rfl, hbel'⟩
end Go.Proofs.YthcmopgdjibojaaGreatDoor.rat

/- Plain: limbs in the base 10^9, decimal digits, and what joins the two. -/
import Derived.Lib.ItoaNum
namespace Go.Proofs.YthcmopgdjibojaaGreatDoor.nt
open Go.Lib (decDigits nDigits itoa decDigits_length nDigits_small nDigits_big nDigits_pos lt_pow_nDigits nDigits_unique)
set_option linter.unusedVariables false
set_option linter.unusedSimpArgs false

/-! Limbs in the base 10^9, the least one first. -/
def limbs (n : Nat) : List Int := if h : n = 0 then [] else ((n % 1000000000 : Nat) : Int) :: limbs (n / 1000000000)
termination_by n
decreasing_by omega
def valL : List Int → Int
  | [] => 0
  | x :: l => x + 1000000000 * valL l
def Lim (l : List Int) : Prop := ∀ x, x ∈ l → 0 ≤ x ∧ x < 1000000000
def b9 (n : Nat) : Int := (1000000000 : Int) ^ n
theorem b9_zero : b9 0 = 1 := rfl
theorem b9_succ (n : Nat) : b9 (n + 1) = 1000000000 * b9 n := by unfold b9; rw [Int.pow_succ, Int.mul_comm]
theorem b9_pos (n : Nat) : 1 ≤ b9 n := by
  induction n with
  | zero => exact Int.le_refl _
  | succ n ih => rw [b9_succ]; omega
theorem b9_add (m n : Nat) : b9 (m + n) = b9 m * b9 n := by unfold b9; rw [Int.pow_add]
theorem b9_mono {m n : Nat} (h : m ≤ n) : b9 m ≤ b9 n := by
  obtain ⟨k, rfl⟩ : ∃ k, n = m + k := ⟨n - m, by omega⟩
  rw [b9_add]
  have h1 := b9_pos m
  have h2 := b9_pos k
  have := Int.mul_le_mul_of_nonneg_left h2 (show 0 ≤ b9 m by omega)
  omega
theorem limbs_zero : limbs 0 = [] := by rw [limbs, dif_pos rfl]
theorem limbs_pos {n : Nat} (h : n ≠ 0) : limbs n = ((n % 1000000000 : Nat) : Int) :: limbs (n / 1000000000) := by rw [limbs, dif_neg h]
theorem limbs_nil {n : Nat} : limbs n = [] ↔ n = 0 := by
  constructor
  · intro h
    by_cases h0 : n = 0
    · exact h0
    · rw [limbs_pos h0] at h; cases h
  · rintro rfl; exact limbs_zero
theorem Lim.nil : Lim [] := fun x hx => by cases hx
theorem Lim.cons {x : Int} {l : List Int} (h0 : 0 ≤ x) (h1 : x < 1000000000) (h : Lim l) : Lim (x :: l) := fun y hy => by
  rcases List.mem_cons.1 hy with rfl | hy
  · exact ⟨h0, h1⟩
  · exact h y hy
theorem Lim.head {x : Int} {l : List Int} (h : Lim (x :: l)) : 0 ≤ x ∧ x < 1000000000 := h x (List.mem_cons_self ..)
theorem Lim.tail {x : Int} {l : List Int} (h : Lim (x :: l)) : Lim l := fun y hy => h y (List.mem_cons_of_mem _ hy)
theorem Lim.take {l : List Int} (h : Lim l) (k : Nat) : Lim (l.take k) := fun y hy => h y (List.mem_of_mem_take hy)
theorem Lim.drop {l : List Int} (h : Lim l) (k : Nat) : Lim (l.drop k) := fun y hy => h y (List.mem_of_mem_drop hy)
theorem Lim.app {l m : List Int} (h : Lim l) (h' : Lim m) : Lim (l ++ m) := fun y hy => by
  rcases List.mem_append.1 hy with hy | hy
  · exact h y hy
  · exact h' y hy
theorem Lim.snoc {x : Int} {l : List Int} (h : Lim l) (h0 : 0 ≤ x) (h1 : x < 1000000000) : Lim (l ++ [x]) := h.app (Lim.cons h0 h1 Lim.nil)
theorem Lim.at_ {l : List Int} {k : Nat} {x : Int} (h : Lim l) (hx : l[k]? = some x) : 0 ≤ x ∧ x < 1000000000 := h x (List.mem_of_getElem? hx)
theorem Lim.getD {l : List Int} (h : Lim l) (k : Nat) : 0 ≤ (l[k]?.getD 0) ∧ (l[k]?.getD 0) < 1000000000 := by
  by_cases hk : k < l.length
  · rw [List.getElem?_eq_getElem hk]
    exact h _ (List.getElem_mem hk)
  · rw [List.getElem?_eq_none (by omega)]
    simp
theorem Lim.set {l : List Int} (h : Lim l) (k : Nat) {x : Int} (h0 : 0 ≤ x) (h1 : x < 1000000000) : Lim (l.set k x) := fun y hy => by
  rcases List.mem_or_eq_of_mem_set hy with hy | rfl
  · exact h y hy
  · exact ⟨h0, h1⟩
theorem Lim.zeros (n : Nat) : Lim (List.replicate n 0) := fun y hy => by rw [List.eq_of_mem_replicate hy]; omega
theorem limbs_lim (n : Nat) : Lim (limbs n) := by
  induction n using Nat.strongRecOn with
  | _ n ih =>
    by_cases h0 : n = 0
    · subst h0; rw [limbs_zero]; exact Lim.nil
    · rw [limbs_pos h0]
      exact Lim.cons (by omega) (by omega) (ih _ (by omega))
theorem valL_limbs (n : Nat) : valL (limbs n) = n := by
  induction n using Nat.strongRecOn with
  | _ n ih =>
    by_cases h0 : n = 0
    · subst h0; rw [limbs_zero]; rfl
    · rw [limbs_pos h0, valL, ih _ (by omega)]
      omega
theorem valL_nonneg {l : List Int} (h : Lim l) : 0 ≤ valL l := by
  induction l with
  | nil => exact Int.le_refl _
  | cons x l ih =>
    have h1 := h.head
    have h2 := ih h.tail
    rw [valL]; omega
theorem valL_lt {l : List Int} (h : Lim l) : valL l < b9 l.length := by
  induction l with
  | nil => show (0 : Int) < 1; omega
  | cons x l ih =>
    have h1 := h.head
    have h2 := ih h.tail
    rw [valL, List.length_cons, b9_succ]; omega
theorem valL_app (l m : List Int) : valL (l ++ m) = valL l + b9 l.length * valL m := by
  induction l with
  | nil => show valL m = 0 + 1 * valL m; omega
  | cons x l ih =>
    rw [List.cons_append, valL, valL, ih, List.length_cons, b9_succ, Int.mul_add, Int.mul_assoc, Int.add_assoc]
theorem valL_snoc (l : List Int) (x : Int) : valL (l ++ [x]) = valL l + b9 l.length * x := by
  rw [valL_app]; simp [valL]
theorem valL_take {l : List Int} {k : Nat} {x : Int} (hx : l[k]? = some x) : valL (l.take (k + 1)) = valL (l.take k) + b9 k * x := by
  obtain ⟨hk, rfl⟩ := List.getElem?_eq_some_iff.1 hx
  rw [List.take_succ_eq_append_getElem hk, valL_snoc, List.length_take, Nat.min_eq_left (by omega)]
theorem valL_takeD (l : List Int) (k : Nat) : valL (l.take (k + 1)) = valL (l.take k) + b9 k * (l[k]?.getD 0) := by
  by_cases hk : k < l.length
  · rw [List.getElem?_eq_getElem hk]
    exact valL_take (List.getElem?_eq_getElem hk)
  · rw [List.getElem?_eq_none (by omega), List.take_of_length_le (by omega), List.take_of_length_le (by omega)]
    simp
theorem valL_split (l : List Int) (k : Nat) (hk : k ≤ l.length) : valL l = valL (l.take k) + b9 k * valL (l.drop k) := by
  have h := valL_app (l.take k) (l.drop k)
  rw [List.take_append_drop, List.length_take, Nat.min_eq_left hk] at h
  exact h
theorem valL_zeros (n : Nat) : valL (List.replicate n 0) = 0 := by
  induction n with
  | zero => rfl
  | succ n ih => rw [List.replicate_succ, valL, ih]; rfl
theorem valL_set {l : List Int} {k : Nat} {x : Int} (hx : l[k]? = some x) (y : Int) : valL (l.set k y) = valL l + b9 k * (y - x) := by
  induction l generalizing k with
  | nil => simp at hx
  | cons z l ih =>
    cases k with
    | zero =>
      simp at hx
      subst hx
      rw [List.set_cons_zero, valL, valL, b9_zero]; omega
    | succ k =>
      rw [List.set_cons_succ, valL, valL, ih (by simpa using hx), b9_succ, Int.mul_add, Int.mul_assoc, Int.add_assoc]
/-- Limbs whose last one is not 0 are those of their value. -/
theorem limbs_of {l : List Int} (h : Lim l) (hl : ∀ x, l.getLast? = some x → x ≠ 0) : limbs (valL l).toNat = l := by
  induction l with
  | nil => exact limbs_zero
  | cons x l ih =>
    have h1 := h.head
    have h2 := valL_nonneg h.tail
    have hp : l ≠ [] → 0 < valL l := by
      intro hn
      rcases Int.lt_or_eq_of_le h2 with h3 | h3
      · exact h3
      · exfalso
        have h4 := ih h.tail (fun y hy => hl y (by rw [List.getLast?_cons]; rw [hy]; rfl))
        rw [← h3] at h4
        exact hn (h4.symm.trans limbs_zero)
    have h0 : (valL (x :: l)).toNat ≠ 0 := by
      rw [valL]
      by_cases hn : l = []
      · subst hn
        have h5 := hl x (by simp)
        simp only [valL]
        omega
      · have := hp hn
        omega
    rw [limbs_pos h0]
    congr 1
    · rw [valL]; omega
    · rw [show (valL (x :: l)).toNat / 1000000000 = (valL l).toNat by rw [valL]; omega]
      refine ih h.tail fun y hy => hl y ?_
      rw [List.getLast?_cons, hy]
      rfl
theorem limbs_of_ge {l : List Int} (h : Lim l) (hn : l ≠ []) (hl : b9 (l.length - 1) ≤ valL l) : limbs (valL l).toNat = l := by
  refine limbs_of h fun x hx h0 => ?_
  subst h0
  obtain ⟨m, rfl⟩ : ∃ m, l = m ++ [0] := by
    refine ⟨l.dropLast, ?_⟩
    have h1 := List.dropLast_concat_getLast hn
    have h3 : l.getLast hn = 0 := by
      have h4 := List.getLast?_eq_some_getLast hn
      rw [hx] at h4
      injection h4 with h4
      exact h4.symm
    rw [h3] at h1
    exact h1.symm
  rw [valL_snoc] at hl
  simp at hl
  have h2 : Lim m := fun y hy => h y (List.mem_append_left _ hy)
  have := valL_lt h2
  omega
theorem limbs_len_lt {n : Nat} (h : n ≠ 0) : b9 ((limbs n).length - 1) ≤ n := by
  induction n using Nat.strongRecOn with
  | _ n ih =>
    rw [limbs_pos h, List.length_cons, Nat.add_sub_cancel]
    by_cases h0 : n / 1000000000 = 0
    · rw [h0, limbs_zero]
      show (1 : Int) ≤ _
      omega
    · have h1 := ih _ (by omega) h0
      have h2 : (limbs (n / 1000000000)).length ≠ 0 := fun e => h0 (limbs_nil.1 (List.length_eq_zero_iff.1 e))
      obtain ⟨k, hk⟩ : ∃ k, (limbs (n / 1000000000)).length = k + 1 := ⟨_, (Nat.succ_pred_eq_of_ne_zero h2).symm⟩
      rw [hk] at h1 ⊢
      rw [Nat.add_sub_cancel] at h1
      rw [b9_succ]
      omega
theorem limbs_lt (n : Nat) : (n : Int) < b9 (limbs n).length := by
  have h := valL_lt (limbs_lim n)
  rw [valL_limbs] at h
  exact h
/-- How many limbs a number below a power of the base has. -/
theorem limbs_len_le {n k : Nat} (h : (n : Int) < b9 k) : (limbs n).length ≤ k := by
  by_cases h0 : n = 0
  · subst h0; rw [limbs_zero]; simp
  · have h1 := limbs_len_lt h0
    rcases Nat.lt_or_ge k (limbs n).length with h2 | h2
    · exfalso
      have := b9_mono (show k ≤ (limbs n).length - 1 by omega)
      omega
    · exact h2
theorem len_lt_lt {a b : Nat} (h : (limbs a).length < (limbs b).length) : a < b := by
  have h1 := limbs_lt a
  have hb : b ≠ 0 := by rintro rfl; rw [limbs_zero] at h; simp at h
  have h2 := limbs_len_lt hb
  have h3 := b9_mono (show (limbs a).length ≤ (limbs b).length - 1 by omega)
  omega
/-- What decides a comparison: the first limb from above that differs. -/
theorem lt_of_limb {l m : List Int} (hl : Lim l) (hm : Lim m) (hlen : l.length = m.length) {k : Nat} {x y : Int} (hx : l[k]? = some x) (hy : m[k]? = some y) (hd : l.drop (k + 1) = m.drop (k + 1)) (hxy : x < y) : valL l < valL m := by
  have hk := (List.getElem?_eq_some_iff.1 hx).1
  have hk' := (List.getElem?_eq_some_iff.1 hy).1
  rw [valL_split l (k + 1) (by omega), valL_split m (k + 1) (by omega), hd, valL_take hx, valL_take hy]
  have h1 := valL_lt (hl.take k)
  have h2 := valL_nonneg (hm.take k)
  rw [List.length_take, Nat.min_eq_left (by omega)] at h1
  have h3 : b9 k * (x + 1) ≤ b9 k * y := Int.mul_le_mul_of_nonneg_left (by omega) (by have := b9_pos k; omega)
  rw [Int.mul_add] at h3
  omega
def ordN (a b : Int) : Int := if a < b then -1 else if b < a then 1 else 0
theorem ordN_lt {a b : Int} (h : a < b) : ordN a b = -1 := by unfold ordN; rw [if_pos h]
theorem ordN_gt {a b : Int} (h : b < a) : ordN a b = 1 := by unfold ordN; rw [if_neg (by omega), if_pos h]
theorem ordN_eq {a b : Int} (h : a = b) : ordN a b = 0 := by unfold ordN; rw [if_neg (by omega), if_neg (by omega)]

/-! Decimal digits. -/
def valD (l : List UInt8) : Nat := l.foldl (fun v c => 10 * v + (c.toNat - 48)) 0
def DigS (l : List UInt8) : Prop := ∀ c, c ∈ l → 48 ≤ c.toNat ∧ c.toNat ≤ 57
theorem foldl_app (l : List UInt8) (v : Nat) : l.foldl (fun v c => 10 * v + (c.toNat - 48)) v = v * 10 ^ l.length + valD l := by
  induction l generalizing v with
  | nil => simp [valD]
  | cons c l ih =>
    unfold valD
    rw [List.foldl_cons, List.foldl_cons, ih, ih (10 * 0 + (c.toNat - 48)), List.length_cons, Nat.pow_succ, Nat.add_mul, Nat.add_mul]
    have : 10 * v * 10 ^ l.length = v * (10 ^ l.length * 10) := by rw [Nat.mul_comm 10 v, Nat.mul_assoc, Nat.mul_comm 10]
    omega
theorem valD_app (l m : List UInt8) : valD (l ++ m) = valD l * 10 ^ m.length + valD m := by
  unfold valD
  rw [List.foldl_append, foldl_app]
  rfl
theorem valD_nil : valD [] = 0 := rfl
theorem valD_one (c : UInt8) : valD [c] = c.toNat - 48 := by unfold valD; simp
theorem valD_snoc (l : List UInt8) (c : UInt8) : valD (l ++ [c]) = 10 * valD l + (c.toNat - 48) := by
  rw [valD_app, valD_one]; simp; omega
theorem DigS.nil : DigS [] := fun c h => by cases h
theorem DigS.app {l m : List UInt8} (h : DigS l) (h' : DigS m) : DigS (l ++ m) := fun y hy => by
  rcases List.mem_append.1 hy with hy | hy
  · exact h y hy
  · exact h' y hy
theorem DigS.take {l : List UInt8} (h : DigS l) (k : Nat) : DigS (l.take k) := fun y hy => h y (List.mem_of_mem_take hy)
theorem DigS.drop {l : List UInt8} (h : DigS l) (k : Nat) : DigS (l.drop k) := fun y hy => h y (List.mem_of_mem_drop hy)
theorem dig_toNat {d : Nat} (h : d < 10) : (UInt8.ofNat (48 + d)).toNat = 48 + d := by
  rw [UInt8.toNat_ofNat']; omega
theorem DigS.one {d : Nat} (h : d < 10) : DigS [UInt8.ofNat (48 + d)] := fun c hc => by
  rw [List.mem_singleton.1 hc, dig_toNat h]; omega
theorem dec_small {n : Nat} (h : n < 10) : decDigits n = [UInt8.ofNat (48 + n)] := by rw [decDigits, dif_pos h]
theorem dec_big {n : Nat} (h : ¬ n < 10) : decDigits n = decDigits (n / 10) ++ [UInt8.ofNat (48 + n % 10)] := by rw [decDigits, dif_neg h]
theorem dec_digs (n : Nat) : DigS (decDigits n) := by
  induction n using Nat.strongRecOn with
  | _ n ih =>
    by_cases h : n < 10
    · rw [dec_small h]; exact DigS.one h
    · rw [dec_big h]; exact (ih _ (by omega)).app (DigS.one (by omega))
theorem valD_dec (n : Nat) : valD (decDigits n) = n := by
  induction n using Nat.strongRecOn with
  | _ n ih =>
    by_cases h : n < 10
    · rw [dec_small h, valD_one, dig_toNat h]; omega
    · rw [dec_big h, valD_snoc, ih _ (by omega), dig_toNat (by omega)]; omega
theorem dec_inj {a b : Nat} (h : decDigits a = decDigits b) : a = b := by
  have h1 := valD_dec a
  rw [h, valD_dec] at h1
  exact h1.symm
theorem dec_ne_nil (n : Nat) : decDigits n ≠ [] := by
  intro h
  have := decDigits_length n
  rw [h] at this
  have h2 := nDigits_pos n
  simp at this
  omega
/-- The first digit of a number of more than one digit is not 0. -/
theorem dec_head (n : Nat) : (∃ c r, decDigits n = c :: r ∧ (c.toNat = 48 → r = [])) := by
  induction n using Nat.strongRecOn with
  | _ n ih =>
    by_cases h : n < 10
    · exact ⟨_, [], dec_small h, fun _ => rfl⟩
    · obtain ⟨c, r, h1, h2⟩ := ih (n / 10) (by omega)
      refine ⟨c, r ++ [UInt8.ofNat (48 + n % 10)], by rw [dec_big h, h1]; rfl, fun hc => ?_⟩
      exfalso
      have h3 := h2 hc
      subst h3
      have h4 := valD_dec (n / 10)
      rw [h1, valD_one, hc] at h4
      omega
theorem ten_pos (n : Nat) : 1 ≤ 10 ^ n := Nat.one_le_pow _ _ (by decide)
theorem nDigits_le {n k : Nat} (hk : 1 ≤ k) (h : n < 10 ^ k) : nDigits n ≤ k := by
  induction k generalizing n with
  | zero => omega
  | succ k ih =>
    by_cases h10 : n < 10
    · rw [nDigits_small h10]; omega
    · rw [nDigits_big h10]
      rw [Nat.pow_succ] at h
      have hk1 : 1 ≤ k := by
        rcases Nat.eq_zero_or_pos k with rfl | h1
        · simp at h; omega
        · exact h1
      have := ih hk1 (n := n / 10) (by omega)
      omega
theorem nDigits_mono {a b : Nat} (h : a ≤ b) : nDigits a ≤ nDigits b :=
  nDigits_le (nDigits_pos b) (Nat.lt_of_le_of_lt h (lt_pow_nDigits b))
theorem lt_of_digits {a b : Nat} (h : nDigits a < nDigits b) : a < b := by
  rcases Nat.lt_or_ge a b with h1 | h1
  · exact h1
  · have := nDigits_mono h1
    omega
theorem ten_nine (n : Nat) : ((10 ^ (9 * n) : Nat) : Int) = b9 n := by
  unfold b9
  rw [Nat.pow_mul]
  simp
theorem limbs_le_digits (n : Nat) : (limbs n).length ≤ nDigits n := by
  refine limbs_len_le ?_
  rw [← ten_nine]
  have h := lt_pow_nDigits n
  have h2 : 10 ^ nDigits n ≤ 10 ^ (9 * nDigits n) := Nat.pow_le_pow_right (by decide) (by omega)
  exact Int.ofNat_lt.2 (by omega)

/-! Writing limbs. -/
def pad9 (x : Nat) : List UInt8 := List.replicate (9 - nDigits x) 48 ++ decDigits x
theorem nDigits_limb {x : Nat} (h : x < 1000000000) : nDigits x ≤ 9 := nDigits_le (by decide) (by simpa using h)
/-- A number of digits and a number: the numeral's end. -/
theorem dec_pad (m : Nat) (hm : m ≠ 0) : ∀ (k x : Nat), x < 10 ^ (k + 1) → decDigits (10 ^ (k + 1) * m + x) = decDigits m ++ (List.replicate (k + 1 - nDigits x) 48 ++ decDigits x) := by
  intro k
  induction k with
  | zero =>
    intro x hx
    simp at hx
    rw [dec_big (by omega), show (10 ^ (0 + 1) * m + x) / 10 = m by omega, show (10 ^ (0 + 1) * m + x) % 10 = x by omega, dec_small hx, nDigits_small hx]
    simp
  | succ k ih =>
    intro x hx
    have hp : 10 ^ (k + 1 + 1) = 10 * 10 ^ (k + 1) := by rw [Nat.pow_succ, Nat.mul_comm]
    have h1 := ten_pos (k + 1)
    rw [hp] at hx ⊢
    have hmm : 10 * 10 ^ (k + 1) * m = 10 * (10 ^ (k + 1) * m) := Nat.mul_assoc ..
    have hm1 : 1 ≤ 10 ^ (k + 1) * m := Nat.mul_pos h1 (by omega)
    rw [hmm, dec_big (by omega), show (10 * (10 ^ (k + 1) * m) + x) / 10 = 10 ^ (k + 1) * m + x / 10 by omega, show (10 * (10 ^ (k + 1) * m) + x) % 10 = x % 10 by omega, ih (x / 10) (by omega)]
    by_cases h10 : x < 10
    · have hx0 : x / 10 = 0 := by omega
      have hxm : x % 10 = x := by omega
      rw [hx0, hxm, dec_small h10, nDigits_small h10, nDigits_small (show 0 < 10 by decide), dec_small (show 0 < 10 by decide), List.append_assoc, List.append_assoc]
      congr 1
      rw [show k + 1 + 1 - 1 = (k + 1 - 1) + 1 by omega, List.replicate_succ', List.append_assoc]
      rfl
    · have h2 : nDigits (x / 10) ≤ k + 1 := nDigits_le (by omega) (by omega)
      rw [nDigits_big h10, dec_big h10, show k + 1 + 1 - (nDigits (x / 10) + 1) = k + 1 - nDigits (x / 10) by omega]
      simp [List.append_assoc]
theorem dec_limb {m x : Nat} (hm : m ≠ 0) (hx : x < 1000000000) : decDigits (1000000000 * m + x) = decDigits m ++ pad9 x := by
  have h := dec_pad m hm 8 x (by simpa using hx)
  unfold pad9
  simpa using h
end Go.Proofs.YthcmopgdjibojaaGreatDoor.nt

/- Plain: numbers in decimal form and back; lines of words. -/
import Derived.Test.YthefooacfcagbaaGreatDoorBase
import Derived.Lib.AtoiAllCases
import Derived.Lib.ItoaNum
import Derived.Lib.Join
import Derived.Lib.Strings
namespace Go.Proofs.YthefooacfcagbaaGreatDoor.txt
open Go Go.RowKit
set_option linter.unusedVariables false

abbrev By := List UInt8
/-- A digit. -/
def isD (c : UInt8) : Bool := decide (48 ≤ c.toNat ∧ c.toNat ≤ 57)
/-- What digits spell. -/
def valD (acc : Nat) : By → Nat
  | [] => acc
  | c :: r => valD (acc * 10 + (c.toNat - 48)) r
theorem valD_app (acc : Nat) (a b : By) : valD acc (a ++ b) = valD (valD acc a) b := by
  induction a generalizing acc with
  | nil => rfl
  | cons c r ih => exact ih _
theorem valD_ge (acc : Nat) (l : By) : acc ≤ valD acc l := by
  induction l generalizing acc with
  | nil => exact Nat.le_refl _
  | cons c r ih => exact Nat.le_trans (by omega) (ih _)
/-- The parse of digits. -/
theorem parse_digs : ∀ (l : By) (acc : Nat), acc < 18446744073709551616 → l.all isD = true → Lib.parseUint10 acc l = if valD acc l < 18446744073709551616 then .ok (valD acc l) else .range
  | [], acc, ha, _ => by
    show Lib.parseUint10 acc [] = if acc < _ then Lib.NumEnd.ok acc else _
    rw [if_pos ha]; rfl
  | c :: r, acc, ha, h => by
    rw [List.all_cons, Bool.and_eq_true] at h
    have hc : 48 ≤ c.toNat ∧ c.toNat ≤ 57 := of_decide_eq_true h.1
    have hge := valD_ge (acc * 10 + (c.toNat - 48)) r
    have hv : valD acc (c :: r) = valD (acc * 10 + (c.toNat - 48)) r := rfl
    rw [hv]
    unfold Lib.parseUint10
    rw [if_pos hc]
    split
    · rw [if_neg (by omega)]
    · split
      · rw [if_neg (by omega)]
      · exact parse_digs r _ (by omega) h.2
/-- In the reach of an int. -/
def in64 (n : Int) : Prop := -9223372036854775808 ≤ n ∧ n ≤ 9223372036854775807
/-- A number, written. -/
def decW (n : Int) : ByteArray := ⟨(Lib.itoa n).toArray⟩
theorem decW_list (n : Int) : (decW n).data.toList = Lib.itoa n := by unfold decW; simp
/-- The digits of a number and its sign. -/
def sgn (l : By) : Bool := decide (l.head? = some 45)
def dgs (l : By) : By := if sgn l then l.drop 1 else l
/-- Digits without a needless nought. -/
def goodD (l : By) : Bool := decide (l ≠ []) && (decide (l.head? ≠ some 48) || decide (l = [48])) && l.all isD
/-- What Number answers: the number and the error. -/
def numL (l : By) : Int × Int :=
  let d := dgs l
  if d = [] ∨ (d.head? = some 48 ∧ l ≠ [48]) then (0, 3)
  else if d.all isD = false then (0, 3)
  else if sgn l then (if valD 0 d ≤ 9223372036854775808 then (-(valD 0 d : Int), 0) else (0, 4))
  else (if valD 0 d ≤ 9223372036854775807 then ((valD 0 d : Int), 0) else (0, 4))

theorem dec_val : ∀ (u : Nat), valD 0 (Lib.decDigits u) = u := by
  intro u
  induction u using Nat.strongRecOn with
  | _ u ih =>
    rw [Lib.decDigits]
    split
    · rename_i h
      show 0 * 10 + ((UInt8.ofNat (48 + u)).toNat - 48) = u
      rw [UInt8.toNat_ofNat']
      omega
    · rename_i h
      rw [valD_app, ih (u / 10) (by omega)]
      show u / 10 * 10 + ((UInt8.ofNat (48 + u % 10)).toNat - 48) = u
      rw [UInt8.toNat_ofNat']
      omega
theorem dec_all : ∀ (u : Nat), (Lib.decDigits u).all isD = true := by
  intro u
  induction u using Nat.strongRecOn with
  | _ u ih =>
    rw [Lib.decDigits]
    split
    · rename_i h
      rw [List.all_cons, List.all_nil, Bool.and_true]
      unfold isD
      rw [UInt8.toNat_ofNat', decide_eq_true_eq]
      omega
    · rename_i h
      rw [List.all_append, ih (u / 10) (by omega), Bool.true_and, List.all_cons, List.all_nil, Bool.and_true]
      unfold isD
      rw [UInt8.toNat_ofNat', decide_eq_true_eq]
      omega
theorem dec_ne : ∀ (u : Nat), Lib.decDigits u ≠ [] := by
  intro u h
  have := Lib.decDigits_length u
  rw [h] at this
  have := Lib.nDigits_pos u
  simp at *
  omega
theorem u8_48 {u : Nat} (h : u < 10) (e : UInt8.ofNat (48 + u) = 48) : u = 0 := by
  have := congrArg UInt8.toNat e
  rw [UInt8.toNat_ofNat'] at this
  have h48 : (48 : UInt8).toNat = 48 := rfl
  omega
theorem dec_head : ∀ (u : Nat), 0 < u → (Lib.decDigits u).head? ≠ some 48 := by
  intro u
  induction u using Nat.strongRecOn with
  | _ u ih =>
    intro h0
    rw [Lib.decDigits]
    split
    · rename_i h
      rw [List.head?_cons]
      intro e
      have := u8_48 h (Option.some.inj e)
      omega
    · rename_i h
      have h1 := ih (u / 10) (by omega) (by omega)
      cases hd : Lib.decDigits (u / 10) with
      | nil => exact absurd hd (dec_ne _)
      | cons x r =>
        rw [hd] at h1
        simpa using h1
theorem dec_zero : Lib.decDigits 0 = [48] := by rw [Lib.decDigits]; rfl
theorem valD_pos : ∀ (l : By) (acc : Nat), 0 < acc → 0 < valD acc l := fun l acc h => Nat.lt_of_lt_of_le h (valD_ge acc l)
/-- Digits without a needless nought are those of what they spell. -/
theorem canonR : ∀ (l : By), l ≠ [] → l.head? ≠ some 48 → l.all isD = true → 0 < valD 0 l ∧ Lib.decDigits (valD 0 l) = l := by
  intro l
  induction hn : l.length using Nat.strongRecOn generalizing l with
  | _ n ih =>
    intro h0 h1 h2
    obtain ⟨r, c, rfl⟩ : ∃ r c, l = r ++ [c] := ⟨l.dropLast, l.getLast h0, (List.dropLast_concat_getLast h0).symm⟩
    rw [List.all_append, Bool.and_eq_true, List.all_cons, List.all_nil, Bool.and_true] at h2
    have hc : 48 ≤ c.toNat ∧ c.toNat ≤ 57 := of_decide_eq_true h2.2
    rw [valD_app]
    have hlast : ∀ a, valD a [c] = a * 10 + (c.toNat - 48) := fun a => rfl
    rw [hlast]
    have hcb : UInt8.ofNat (48 + (c.toNat - 48)) = c := by
      apply UInt8.toNat_inj.1
      rw [UInt8.toNat_ofNat']
      omega
    cases r with
    | nil =>
      have hne : c ≠ 48 := by intro e; subst e; exact h1 rfl
      have hne2 : c.toNat ≠ 48 := fun e => hne (UInt8.toNat_inj.1 e)
      show 0 < 0 * 10 + (c.toNat - 48) ∧ Lib.decDigits (0 * 10 + (c.toNat - 48)) = [c]
      refine ⟨by omega, ?_⟩
      rw [Nat.zero_mul, Nat.zero_add, Lib.decDigits_one (by omega), hcb]
    | cons x t =>
      have hr := ih (x :: t).length (by rw [← hn]; simp) (x :: t) rfl (by simp) (by simpa using h1) h2.1
      obtain ⟨hp, hd⟩ := hr
      generalize hV : valD 0 (x :: t) = V at hp hd ⊢
      refine ⟨by omega, ?_⟩
      rw [Lib.decDigits, dif_neg (by omega)]
      rw [show (V * 10 + (c.toNat - 48)) / 10 = V by omega, show (V * 10 + (c.toNat - 48)) % 10 = c.toNat - 48 by omega, hd, hcb]
theorem canon {l : By} (h : goodD l = true) : Lib.decDigits (valD 0 l) = l := by
  unfold goodD at h
  rw [Bool.and_eq_true, Bool.and_eq_true, Bool.or_eq_true, decide_eq_true_eq, decide_eq_true_eq, decide_eq_true_eq] at h
  obtain ⟨⟨h0, h1⟩, h2⟩ := h
  rcases h1 with h1 | rfl
  · exact (canonR l h0 h1 h2).2
  · exact dec_zero
theorem good_dec (u : Nat) : goodD (Lib.decDigits u) = true := by
  unfold goodD
  rw [Bool.and_eq_true, Bool.and_eq_true, Bool.or_eq_true, decide_eq_true_eq, decide_eq_true_eq, decide_eq_true_eq]
  refine ⟨⟨dec_ne u, ?_⟩, dec_all u⟩
  rcases Nat.eq_zero_or_pos u with rfl | h
  · exact .inr dec_zero
  · exact .inl (dec_head u h)
theorem head_dig {l : By} (h : goodD l = true) : l.head? ≠ some 45 := by
  unfold goodD at h
  rw [Bool.and_eq_true, Bool.and_eq_true] at h
  cases l with
  | nil => simp
  | cons c r =>
    have h2 := h.2
    rw [List.all_cons, Bool.and_eq_true] at h2
    intro e
    have e2 : c = 45 := Option.some.inj e
    subst e2
    exact absurd h2.1 (by decide)
/-- A number that is written reads as the number. -/
theorem num_dec {n : Int} (h : in64 n) : numL (Lib.itoa n) = (n, 0) := by
  obtain ⟨h0, h1⟩ := h
  unfold Lib.itoa
  by_cases hn : n < 0
  · rw [if_pos hn]
    have hg := good_dec n.natAbs
    have hv := dec_val n.natAbs
    have hgd := hg
    unfold goodD at hg
    rw [Bool.and_eq_true, Bool.and_eq_true, Bool.or_eq_true, decide_eq_true_eq, decide_eq_true_eq, decide_eq_true_eq] at hg
    have hne : (Lib.decDigits n.natAbs).head? ≠ some 48 := dec_head _ (by omega)
    have hs : sgn (45 :: Lib.decDigits n.natAbs) = true := rfl
    have hd : dgs (45 :: Lib.decDigits n.natAbs) = Lib.decDigits n.natAbs := by unfold dgs; rw [if_pos hs]; rfl
    unfold numL
    simp only [hd, hs]
    rw [if_neg (by rintro (e | e); exact hg.1.1 e; exact hne e.1), if_neg (by rw [hg.2]; decide), if_pos trivial, hv, if_pos (by omega)]
    congr 1
    omega
  · rw [if_neg hn]
    have hg := good_dec n.toNat
    have hv := dec_val n.toNat
    have hs : sgn (Lib.decDigits n.toNat) = false := decide_eq_false (head_dig hg)
    unfold goodD at hg
    rw [Bool.and_eq_true, Bool.and_eq_true, Bool.or_eq_true, decide_eq_true_eq, decide_eq_true_eq, decide_eq_true_eq] at hg
    have hd : dgs (Lib.decDigits n.toNat) = Lib.decDigits n.toNat := by unfold dgs; rw [if_neg (by rw [hs]; decide)]
    unfold numL
    simp only [hd, hs]
    rw [if_neg (by rintro (e | e); exact hg.1.1 e; rcases hg.1.2 with h | h; exact h e.1; exact e.2 h), if_neg (by rw [hg.2]; decide), if_neg (by decide), hv, if_pos (by omega)]
    congr 1
    omega
/-- What reads as a number is the number, written. -/
theorem dec_num {l : By} {n : Int} (h : numL l = (n, 0)) : l = Lib.itoa n ∧ in64 n := by
  unfold numL at h
  simp only [] at h
  split at h
  · cases h
  rename_i hA
  split at h
  · cases h
  rename_i hB
  have hB' : (dgs l).all isD = true := by simpa using hB
  rw [not_or] at hA
  obtain ⟨hA1, hA2⟩ := hA
  split at h
  · rename_i hs
    have hs' : l.head? = some 45 := of_decide_eq_true hs
    split at h
    · rename_i hle
      injection h with h _
      have hd : dgs l = l.drop 1 := by unfold dgs; rw [if_pos hs]
      obtain ⟨c, r, rfl⟩ : ∃ c r, l = c :: r := by cases l with | nil => cases hs' | cons c r => exact ⟨c, r, rfl⟩
      obtain rfl : c = 45 := Option.some.inj hs'
      rw [hd] at hA1 hA2 hB' hle h
      rw [List.drop_one, List.tail_cons] at hA1 hA2 hB' hle h
      have hne : r.head? ≠ some 48 := fun e => hA2 ⟨e, by intro e2; injection e2 with e3 _; exact absurd e3 (by decide)⟩
      have hc := canonR r hA1 hne hB'
      have hp := hc.1
      refine ⟨?_, by unfold in64; omega⟩
      unfold Lib.itoa
      rw [if_pos (by omega), show n.natAbs = valD 0 r by omega, hc.2]
    · cases h
  · rename_i hs
    have hs' : l.head? ≠ some 45 := by intro e; exact hs (decide_eq_true e)
    have hd : dgs l = l := by unfold dgs; rw [if_neg hs]
    rw [hd] at hA1 hA2 hB' h
    split at h
    · rename_i hle
      injection h with h _
      refine ⟨?_, by unfold in64; omega⟩
      unfold Lib.itoa
      rw [if_neg (by omega), show n.toNat = valD 0 l by omega]
      refine (canon ?_).symm
      unfold goodD
      rw [Bool.and_eq_true, Bool.and_eq_true, Bool.or_eq_true, decide_eq_true_eq, decide_eq_true_eq, decide_eq_true_eq]
      refine ⟨⟨hA1, ?_⟩, hB'⟩
      by_cases e : l.head? = some 48
      · right
        by_cases e2 : l = [48]
        · exact e2
        · exact absurd ⟨e, e2⟩ hA2
      · exact .inl e
    · cases h
/-- The road of the program: Atoi behind the tests. -/
theorem atoi_num {l : By} (h0 : ¬ (dgs l = [] ∨ ((dgs l).head? = some 48 ∧ l ≠ [48]))) (h1 : (dgs l).all isD = true) : (∃ v, Lib.atoiAll l = .ok v ∧ numL l = (v, 0)) ∨ (Lib.atoiAll l = .range ∧ numL l = (0, 4)) := by
  rw [not_or] at h0
  obtain ⟨hA1, hA2⟩ := h0
  unfold numL
  simp only []
  rw [if_neg (by rw [not_or]; exact ⟨hA1, hA2⟩), if_neg (by rw [h1]; decide)]
  cases hl : l with
  | nil => rw [hl] at hA1; exact absurd rfl hA1
  | cons c r =>
    subst hl
    by_cases hc : c = 45
    · subst hc
      have hs : sgn (45 :: r) = true := rfl
      have hd : dgs (45 :: r) = r := by unfold dgs; rw [if_pos hs]; rfl
      rw [hd] at hA1 h1 ⊢
      rw [if_pos hs, Lib.atoiAll_minus]
      unfold Lib.parseMag
      rw [if_neg hA1, parse_digs r 0 (by omega) h1]
      generalize valD 0 r = V
      by_cases hV : V < 18446744073709551616
      · rw [if_pos hV]
        by_cases hV2 : V ≤ 9223372036854775808
        · left
          refine ⟨-(V : Int), ?_, by rw [if_pos hV2]⟩
          unfold Lib.signed
          simp only []
          rw [if_neg (by omega)]
        · right
          refine ⟨?_, by rw [if_neg hV2]⟩
          unfold Lib.signed
          simp only []
          rw [if_pos (by omega)]
      · right
        rw [if_neg hV]
        exact ⟨rfl, by rw [if_neg (by omega)]⟩
    · have hc45 : c.toNat ≠ 45 := fun e => hc (UInt8.toNat_inj.1 e)
      have hs : sgn (c :: r) = false := decide_eq_false (by intro e; exact hc (Option.some.inj e))
      have hd : dgs (c :: r) = c :: r := by unfold dgs; rw [if_neg (by rw [hs]; decide)]
      rw [hd] at hA1 h1 ⊢
      have hcd : 48 ≤ c.toNat := by
        rw [List.all_cons, Bool.and_eq_true] at h1
        exact (of_decide_eq_true h1.1).1
      rw [if_neg (by rw [hs]; decide), Lib.atoiAll_plain c r (by omega) hc45]
      unfold Lib.parseMag
      rw [if_neg (by simp), parse_digs (c :: r) 0 (by omega) h1]
      generalize valD 0 (c :: r) = V
      by_cases hV : V < 18446744073709551616
      · rw [if_pos hV]
        by_cases hV2 : V ≤ 9223372036854775807
        · left
          refine ⟨(V : Int), ?_, by rw [if_pos hV2]⟩
          unfold Lib.signless
          simp only []
          rw [if_neg (by omega)]
        · right
          refine ⟨?_, by rw [if_neg hV2]⟩
          unfold Lib.signless
          simp only []
          rw [if_pos (by omega)]
      · right
        rw [if_neg hV]
        exact ⟨rfl, by rw [if_neg (by omega)]⟩
end Go.Proofs.YthefooacfcagbaaGreatDoor.txt

/- Plain: pairs that follow from pairs: the program's sets and the reference's. -/
import Derived.Test.YtofabhenmplkoaaGreatDoorBase
import Derived.Test.YtofabhenmplkoaaGreatDoorLimX
import Derived.Test.YtofabhenmplkoaaGreatDoorRefC
import Derived.Deep.DeepCutAuto
import Derived.Test.YtofabhenmplkoaaGreatDoorEvtX
import Derived.Deep.QuietTactic
import Derived.BigQuiet
set_option linter.unusedVariables false
set_option linter.unusedSimpArgs false
namespace Go.Proofs.YtofabhenmplkoaaGreatDoor.gon
open sets
inductive Path (E : List (Int × Int)) (a : Nat) : Nat → Prop
 | one {b : Nat} : ((a : Int), (b : Int)) ∈ E → Path E a b
 | snoc {c b : Nat} : Path E a c → ((c : Int), (b : Int)) ∈ E → Path E a b
def bitsN : Nat → Nat → Nat
 | 0, _ => 0
 | n + 1, x => bitsN n x + (if x.testBit n then 1 else 0)
theorem bitsN_le : ∀ (n x : Nat), bitsN n x ≤ n
 | 0, _ => Nat.le_refl _
 | n + 1, x => by
  have := bitsN_le n x
  rw [bitsN]
  split <;> omega
theorem bitsN_mono {x y : Nat} : ∀ {n : Nat}, (∀ i, i < n → x.testBit i = true → y.testBit i = true) → bitsN n x ≤ bitsN n y
 | 0, _ => Nat.le_refl _
 | n + 1, h => by
  have h1 := bitsN_mono (n := n) fun i hi => h i (by omega)
  have h2 := h n (by omega)
  rw [bitsN, bitsN]
  cases hx : x.testBit n
  ·simp; omega
  ·rw [h2 hx]; simp; omega
theorem bitsN_lt {x y j : Nat} : ∀ {n : Nat}, (∀ i, i < n → x.testBit i = true → y.testBit i = true) → j < n → x.testBit j = false → y.testBit j = true → bitsN n x < bitsN n y
 | 0, _, hj, _, _ => absurd hj (by omega)
 | n + 1, h, hj, hx, hy => by
  rw [bitsN, bitsN]
  by_cases hjn : j = n
  ·subst hjn
   have h1 := bitsN_mono (n := j) fun i hi => h i (by omega)
   rw [hx, hy]
   simp
   omega
  ·have h1 := bitsN_lt (n := n) (fun i hi => h i (by omega)) (by omega) hx hy
   have h2 := h n (by omega)
   cases hx' : x.testBit n
   ·simp; omega
   ·rw [h2 hx']; simp; omega
def at0 (L : List Nat) (b : Nat) : Nat := L[b]?.getD 0
def setC (L : List Nat) (a b : Nat) : Nat := at0 L b ||| at0 L a ||| 2 ^ a
def stC (L : List Nat) (a b : Nat) : List Nat := L.set b (setC L a b)
def pA (p : Int × Int) : Nat := p.1.toNat
def pB (p : Int × Int) : Nat := p.2.toNat
def rnC (E : List (Int × Int)) (L : List Nat) : Nat → List Nat × Bool
 | 0 => (L, false)
 | k + 1 => match E[k]? with
  | none => rnC E L k
  | some p => (stC (rnC E L k).1 (pA p) (pB p), (rnC E L k).2 || decide (setC (rnC E L k).1 (pA p) (pB p) ≠ at0 (rnC E L k).1 (pB p)))
theorem rnC_succ {E : List (Int × Int)} {L : List Nat} {k : Nat} {p : Int × Int} (h : E[k]? = some p) : rnC E L (k + 1) = (stC (rnC E L k).1 (pA p) (pB p), (rnC E L k).2 || decide (setC (rnC E L k).1 (pA p) (pB p) ≠ at0 (rnC E L k).1 (pB p))) := by
 rw [rnC, h]
def InE (n : Nat) (E : List (Int × Int)) : Prop := ∀ p ∈ E, (0 ≤ p.1 ∧ p.1 < n) ∧ (0 ≤ p.2 ∧ p.2 < n)
structure Sound (n : Nat) (E : List (Int × Int)) (L : List Nat) : Prop where
 len : L.length = n
 lt : ∀ x ∈ L, x < 2 ^ n
 path : ∀ a b, (at0 L b).testBit a = true → Path E a b
theorem at0_set {L : List Nat} {b v : Nat} (hb : b < L.length) (c : Nat) : at0 (L.set b v) c = if c = b then v else at0 L c := by
 unfold at0
 rw [List.getElem?_set]
 by_cases h : c = b
 ·subst h
  rw [if_pos rfl, if_pos rfl, if_pos hb]
  rfl
 ·rw [if_neg h, if_neg (fun e => h e.symm)]
theorem at0_lt {n : Nat} {L : List Nat} (h : ∀ x ∈ L, x < 2 ^ n) (b : Nat) : at0 L b < 2 ^ n := by
 unfold at0
 cases hb : L[b]? with
 | none => exact Nat.two_pow_pos n
 | some x => exact h x (List.mem_of_getElem? hb)
theorem setC_lt {n : Nat} {L : List Nat} (h : ∀ x ∈ L, x < 2 ^ n) {a b : Nat} (ha : a < n) : setC L a b < 2 ^ n := by
 unfold setC
 exact Nat.or_lt_two_pow (Nat.or_lt_two_pow (at0_lt h b) (at0_lt h a)) (Nat.pow_lt_pow_right (by decide) ha)
theorem stC_sound {n : Nat} {E : List (Int × Int)} {L : List Nat} (h : Sound n E L) {p : Int × Int} (hp : p ∈ E) (hE : InE n E) : Sound n E (stC L (pA p) (pB p)) := by
 obtain ⟨⟨h1, h2⟩, h3, h4⟩ := hE p hp
 have ha : pA p < n := by unfold pA; omega
 have hb : pB p < n := by unfold pB; omega
 have he : ((pA p : Nat) : Int) = p.1 ∧ ((pB p : Nat) : Int) = p.2 := by unfold pA pB; omega
 refine ⟨by unfold stC; rw [List.length_set]; exact h.len, fun x hx => ?_, fun a b hab => ?_⟩
 ·unfold stC at hx
  rcases List.mem_or_eq_of_mem_set hx with hx | rfl
  ·exact h.lt x hx
  ·exact setC_lt h.lt ha
 ·unfold stC at hab
  rw [at0_set (by rw [h.len]; exact hb)] at hab
  split at hab
  ·rename_i hbb
   subst hbb
   unfold setC at hab
   have hmem : (((pA p : Nat) : Int), ((pB p : Nat) : Int)) ∈ E := by rw [he.1, he.2]; exact hp
   rw [Nat.testBit_or, Nat.testBit_or, Bool.or_eq_true, Bool.or_eq_true] at hab
   rcases hab with (hab | hab) | hab
   ·exact h.path a _ hab
   ·exact .snoc (h.path a _ hab) hmem
   ·rw [Nat.testBit_two_pow, decide_eq_true_eq] at hab
    subst hab
    exact .one hmem
  ·exact h.path a b hab
theorem rnC_sound {n : Nat} {E : List (Int × Int)} {L : List Nat} (h : Sound n E L) (hE : InE n E) : ∀ k, Sound n E (rnC E L k).1
 | 0 => h
 | k + 1 => by
  cases hk : E[k]? with
  | none => rw [rnC, hk]; exact rnC_sound h hE k
  | some p =>
   rw [rnC_succ hk]
   exact stC_sound (rnC_sound h hE k) (List.mem_of_getElem? hk) hE
def tot (n : Nat) (L : List Nat) : Nat := (L.map (bitsN n)).sum
theorem sum_set : ∀ {L : List Nat} {b v : Nat} (f : Nat → Nat), b < L.length → ((L.set b v).map f).sum + f (at0 L b) = (L.map f).sum + f v
 | [], b, v, f, h => absurd h (by simp)
 | x :: L, 0, v, f, h => by simp [at0]; omega
 | x :: L, b + 1, v, f, h => by
  have ih := sum_set (L := L) (b := b) (v := v) f (by simpa using h)
  have e : at0 (x :: L) (b + 1) = at0 L b := rfl
  rw [e]
  simp only [List.set_cons_succ, List.map_cons, List.sum_cons]
  omega
theorem setC_ge (L : List Nat) (a b i : Nat) (h : (at0 L b).testBit i = true) : (setC L a b).testBit i = true := by
 unfold setC
 rw [Nat.testBit_or, Nat.testBit_or, h]
 rfl
theorem stC_tot {n : Nat} {E : List (Int × Int)} {L : List Nat} (h : Sound n E L) {a b : Nat} (ha : a < n) (hb : b < n) : tot n L ≤ tot n (stC L a b) ∧ (setC L a b ≠ at0 L b → tot n L < tot n (stC L a b)) := by
 have hs := sum_set (L := L) (b := b) (v := setC L a b) (bitsN n) (by rw [h.len]; exact hb)
 have hm := bitsN_mono (n := n) (x := at0 L b) (y := setC L a b) fun i _ hi => setC_ge L a b i hi
 unfold tot stC
 refine ⟨by omega, fun hne => ?_⟩
 have hd : ∃ i, (at0 L b).testBit i ≠ (setC L a b).testBit i := by
  apply Classical.byContradiction
  intro hc
  apply hne
  apply Nat.eq_of_testBit_eq
  intro i
  apply Classical.byContradiction
  intro hi
  exact hc ⟨i, fun e => hi e.symm⟩
 obtain ⟨i, hi⟩ := hd
 have hfi : (at0 L b).testBit i = false := by
  cases hx : (at0 L b).testBit i
  ·rfl
  ·exact absurd (by rw [hx, setC_ge L a b i hx]) hi
 have hti : (setC L a b).testBit i = true := by
  cases hx : (setC L a b).testBit i
  ·exact absurd (by rw [hfi, hx]) hi
  ·rfl
 have hin : i < n := by
  rcases Nat.lt_or_ge i n with hlt | hge
  ·exact hlt
  ·have := Nat.testBit_lt_two_pow (Nat.lt_of_lt_of_le (setC_lt (b := b) h.lt ha) (Nat.pow_le_pow_right (by decide) hge))
   rw [this] at hti
   cases hti
 have hlt := bitsN_lt (n := n) (x := at0 L b) (y := setC L a b) (fun i _ hi => setC_ge L a b i hi) hin hfi hti
 omega
theorem rnC_tot {n : Nat} {E : List (Int × Int)} {L : List Nat} (h : Sound n E L) (hE : InE n E) : ∀ k, tot n L ≤ tot n (rnC E L k).1 ∧ ((rnC E L k).2 = true → tot n L < tot n (rnC E L k).1)
 | 0 => ⟨Nat.le_refl _, fun h => by cases h⟩
 | k + 1 => by
  have ih := rnC_tot h hE k
  cases hk : E[k]? with
  | none => rw [rnC, hk]; exact ih
  | some p =>
   obtain ⟨⟨h1, h2⟩, h3, h4⟩ := hE p (List.mem_of_getElem? hk)
   have hs := stC_tot (rnC_sound h hE k) (a := pA p) (b := pB p) (by unfold pA; omega) (by unfold pB; omega)
   rw [rnC_succ hk]
   refine ⟨Nat.le_trans ih.1 hs.1, fun hm => ?_⟩
   dsimp only at hm
   rw [Bool.or_eq_true, decide_eq_true_eq] at hm
   rcases hm with hm | hm
   ·exact Nat.lt_of_lt_of_le (ih.2 hm) hs.1
   ·exact Nat.lt_of_le_of_lt ih.1 (hs.2 hm)
theorem set_same {L : List Nat} {b : Nat} (hb : b < L.length) : L.set b (at0 L b) = L := by
 apply List.ext_getElem?
 intro k
 rw [List.getElem?_set]
 by_cases hk : b = k
 ·subst hk
  rw [if_pos rfl, if_pos hb]
  unfold at0
  rw [List.getElem?_eq_getElem hb]
  rfl
 ·rw [if_neg hk]
theorem rnC_same {n : Nat} {E : List (Int × Int)} {L : List Nat} (h : Sound n E L) (hE : InE n E) : ∀ k, (rnC E L k).2 = false → (rnC E L k).1 = L ∧ ∀ (j : Nat) p, j < k → E[j]? = some p → setC L (pA p) (pB p) = at0 L (pB p)
 | 0, _ => ⟨rfl, fun j p hj => absurd hj (by omega)⟩
 | k + 1, hm => by
  cases hk : E[k]? with
  | none =>
   rw [rnC, hk] at hm ⊢
   obtain ⟨h1, h2⟩ := rnC_same h hE k hm
   refine ⟨h1, fun j p hj hp => ?_⟩
   rcases Nat.lt_or_ge j k with hlt | hge
   ·exact h2 j p hlt hp
   ·obtain rfl : j = k := by omega
    rw [hk] at hp
    cases hp
  | some p =>
   obtain ⟨⟨h5, h6⟩, h7, h8⟩ := hE p (List.mem_of_getElem? hk)
   rw [rnC_succ hk] at hm ⊢
   dsimp only at hm ⊢
   rw [Bool.or_eq_false_iff, decide_eq_false_iff_not] at hm
   obtain ⟨hm1, hm2⟩ := hm
   have hm3 := Decidable.not_not.1 hm2
   clear hm2
   obtain ⟨h1, h2⟩ := rnC_same h hE k hm1
   rw [h1] at hm3 ⊢
   refine ⟨?_, fun j q hj hq => ?_⟩
   ·unfold stC
    rw [hm3]
    exact set_same (by rw [h.len]; unfold pB; omega)
   ·rcases Nat.lt_or_ge j k with hlt | hge
    ·exact h2 j q hlt hq
    ·obtain rfl : j = k := by omega
     rw [hk] at hq
     obtain rfl := Option.some.inj hq
     exact hm3
theorem closed_path {n : Nat} {E : List (Int × Int)} {L : List Nat} (hc : ∀ (j : Nat) p, E[j]? = some p → setC L (pA p) (pB p) = at0 L (pB p)) {a b : Nat} (h : Path E a b) : (at0 L b).testBit a = true := by
 have key : ∀ c d : Nat, ((c : Int), (d : Int)) ∈ E → setC L c d = at0 L d := fun c d hm => by
  obtain ⟨j, hj⟩ := List.mem_iff_getElem?.1 hm
  have := hc j _ hj
  simpa [pA, pB] using this
 induction h with
 | one hm =>
  rw [← key _ _ hm]
  unfold setC
  rw [Nat.testBit_or, Nat.testBit_two_pow]
  simp
 | snoc hp hm ih =>
  rw [← key _ _ hm]
  unfold setC
  rw [Nat.testBit_or, Nat.testBit_or, ih]
  simp
theorem chains_ok {n : Nat} {E : List (Int × Int)} {L : List Nat} (h : Sound n E L) (hE : InE n E) (hm : (rnC E L E.length).2 = false) (a b : Nat) : (at0 L b).testBit a = true ↔ Path E a b := by
 obtain ⟨_, h2⟩ := rnC_same h hE _ hm
 exact ⟨h.path a b, closed_path (n := n) fun j p hp => h2 j p (List.getElem?_eq_some_iff.1 hp).1 hp⟩
theorem Sound.zero (n : Nat) (E : List (Int × Int)) : Sound n E (List.replicate n 0) := ⟨by simp, fun x hx => by rw [(List.mem_replicate.1 hx).2]; exact Nat.two_pow_pos n, fun a b h => by
 have e : at0 (List.replicate n 0) b = 0 := by
  unfold at0
  rw [List.getElem?_replicate]
  split <;> rfl
 rw [e] at h
 simp at h⟩
theorem tot_le {n : Nat} {E : List (Int × Int)} {L : List Nat} (h : Sound n E L) : tot n L ≤ n * n := by
 have key : ∀ L : List Nat, (L.map (bitsN n)).sum ≤ L.length * n := by
  intro L
  induction L with
  | nil => simp
  | cons x L ih =>
   have := bitsN_le n x
   rw [List.map_cons, List.sum_cons, List.length_cons, Nat.succ_mul]
   omega
 have := key L
 rw [h.len] at this
 exact this
def stR (f S a b : Nat) : Nat := if (a = f ∨ S.testBit a = true) ∧ S.testBit b = false then S + 2 ^ b else S
def rnR (E : List (Int × Int)) (f S : Nat) : Nat → Nat
 | 0 => S
 | k + 1 => match E[k]? with
  | none => rnR E f S k
  | some p => stR f (rnR E f S k) (pA p) (pB p)
theorem rnR_succ {E : List (Int × Int)} {f S k : Nat} {p : Int × Int} (h : E[k]? = some p) : rnR E f S (k + 1) = stR f (rnR E f S k) (pA p) (pB p) := by rw [rnR, h]
def goR (E : List (Int × Int)) (f : Nat) : Nat → Nat
 | 0 => 0
 | r + 1 => rnR E f (goR E f r) E.length
theorem add_bit {S b : Nat} (h : S.testBit b = false) (i : Nat) : (S + 2 ^ b).testBit i = (S.testBit i || decide (b = i)) := by
 have e : S + 2 ^ b = S ||| 2 ^ b := by
  have h0 : S / 2 ^ b % 2 = 0 := by
   rw [Nat.testBit_eq_decide_div_mod_eq, decide_eq_false_iff_not] at h
   omega
  have h1 : S % 2 ^ (b + 1) = S % 2 ^ b := by rw [Nat.mod_pow_succ, h0, Nat.mul_zero, Nat.add_zero]
  have h2 : S % 2 ^ b < 2 ^ b := Nat.mod_lt _ (Nat.two_pow_pos b)
  have h3 := Nat.div_add_mod S (2 ^ (b + 1))
  rw [h1] at h3
  generalize S % 2 ^ b = r at h2 h3
  generalize S / 2 ^ (b + 1) = q at h3
  have h4 : r < 2 ^ (b + 1) := by rw [Nat.pow_succ]; omega
  have h5 : r + 2 ^ b < 2 ^ (b + 1) := by rw [Nat.pow_succ]; omega
  rw [← h3, Nat.add_assoc, Nat.two_pow_add_eq_or_of_lt h4, Nat.two_pow_add_eq_or_of_lt h5, ← Nat.or_two_pow_eq_add_of_lt h2, Nat.or_assoc]
 rw [e, Nat.testBit_or, Nat.testBit_two_pow]
theorem stR_ge {f S a b i : Nat} (h : S.testBit i = true) : (stR f S a b).testBit i = true := by
 unfold stR
 split
 ·rename_i hc
  rw [add_bit hc.2, h]
  rfl
 ·exact h
structure SoundR (n : Nat) (E : List (Int × Int)) (f S : Nat) : Prop where
 lt : S < 2 ^ n
 path : ∀ b, S.testBit b = true → Path E f b
theorem stR_sound {n : Nat} {E : List (Int × Int)} {f S : Nat} (h : SoundR n E f S) {p : Int × Int} (hp : p ∈ E) (hE : InE n E) : SoundR n E f (stR f S (pA p) (pB p)) := by
 obtain ⟨⟨h1, h2⟩, h3, h4⟩ := hE p hp
 have he : ((pA p : Nat) : Int) = p.1 ∧ ((pB p : Nat) : Int) = p.2 := by unfold pA pB; omega
 have hmem : (((pA p : Nat) : Int), ((pB p : Nat) : Int)) ∈ E := by rw [he.1, he.2]; exact hp
 have hb : pB p < n := by unfold pB; omega
 unfold stR
 split
 ·rename_i hc
  refine ⟨?_, fun b hb2 => ?_⟩
  ·apply Nat.lt_pow_two_of_testBit
   intro i hi
   rw [add_bit hc.2, Nat.testBit_lt_two_pow (Nat.lt_of_lt_of_le h.lt (Nat.pow_le_pow_right (by decide) hi)), decide_eq_false (by omega)]
   rfl
  ·rw [add_bit hc.2, Bool.or_eq_true, decide_eq_true_eq] at hb2
   rcases hb2 with hb2 | rfl
   ·exact h.path b hb2
   ·rcases hc.1 with ha | ha
    ·rw [ha] at hmem
     exact .one hmem
    ·exact .snoc (h.path _ ha) hmem
 ·exact h
theorem rnR_sound {n : Nat} {E : List (Int × Int)} {f S : Nat} (h : SoundR n E f S) (hE : InE n E) : ∀ k, SoundR n E f (rnR E f S k)
 | 0 => h
 | k + 1 => by
  cases hk : E[k]? with
  | none => rw [rnR, hk]; exact rnR_sound h hE k
  | some p =>
   rw [rnR_succ hk]
   exact stR_sound (rnR_sound h hE k) (List.mem_of_getElem? hk) hE
theorem rnR_ge {E : List (Int × Int)} {f S i : Nat} (h : S.testBit i = true) : ∀ k, (rnR E f S k).testBit i = true
 | 0 => h
 | k + 1 => by
  cases hk : E[k]? with
  | none => rw [rnR, hk]; exact rnR_ge h k
  | some p => rw [rnR_succ hk]; exact stR_ge (rnR_ge h k)
theorem goR_sound {n : Nat} {E : List (Int × Int)} (f : Nat) (hE : InE n E) : ∀ r, SoundR n E f (goR E f r)
 | 0 => ⟨Nat.two_pow_pos n, fun b h => by rw [goR, Nat.zero_testBit] at h; cases h⟩
 | r + 1 => rnR_sound (goR_sound f hE r) hE _
theorem rnR_same {E : List (Int × Int)} {f S : Nat} : ∀ k, rnR E f S k = S → ∀ (j : Nat) p, j < k → E[j]? = some p → stR f S (pA p) (pB p) = S
 | 0, _ => fun j p hj => absurd hj (by omega)
 | k + 1, hm => by
  intro j p hj hp
  have hk : ∃ q, E[k]? = some q ∨ E[k]? = none := by
   cases h : E[k]? with
   | none => exact ⟨p, .inr rfl⟩
   | some q => exact ⟨q, .inl rfl⟩
  obtain ⟨q, hq | hq⟩ := hk
  ·rw [rnR_succ hq] at hm
   have hS : rnR E f S k = S := by
    apply Nat.eq_of_testBit_eq
    intro i
    cases hi : S.testBit i
    ·cases hi2 : (rnR E f S k).testBit i
     ·rfl
     ·have := stR_ge (f := f) (a := pA q) (b := pB q) hi2
      rw [hm, hi] at this
      cases this
    ·exact rnR_ge hi k
   rcases Nat.lt_or_ge j k with hlt | hge
   ·exact rnR_same k hS j p hlt hp
   ·obtain rfl : j = k := by omega
    rw [hq] at hp
    obtain rfl := Option.some.inj hp
    rw [hS] at hm
    exact hm
  ·rw [rnR, hq] at hm
   rcases Nat.lt_or_ge j k with hlt | hge
   ·exact rnR_same k hm j p hlt hp
   ·obtain rfl : j = k := by omega
    rw [hq] at hp
    cases hp
theorem closedR {E : List (Int × Int)} {f S : Nat} (hc : ∀ (j : Nat) p, E[j]? = some p → stR f S (pA p) (pB p) = S) {b : Nat} (h : Path E f b) : S.testBit b = true := by
 have key : ∀ c d : Nat, ((c : Int), (d : Int)) ∈ E → (c = f ∨ S.testBit c = true) → S.testBit d = true := fun c d hm hcf => by
  obtain ⟨j, hj⟩ := List.mem_iff_getElem?.1 hm
  have h1 := hc j _ hj
  have h2 : stR f S c d = S := by simpa [pA, pB] using h1
  unfold stR at h2
  cases hd : S.testBit d
  ·rw [if_pos ⟨hcf, hd⟩] at h2
   have := Nat.two_pow_pos d
   omega
  ·rfl
 induction h with
 | one hm => exact key _ _ hm (.inl rfl)
 | snoc hp hm ih => exact key _ _ hm (.inr ih)
theorem bits_same {n x y : Nat} (hx : x < 2 ^ n) (hy : y < 2 ^ n) (h : ∀ i, x.testBit i = true → y.testBit i = true) (hb : bitsN n y ≤ bitsN n x) : y = x := by
 apply Nat.eq_of_testBit_eq
 intro i
 cases hi : x.testBit i
 ·cases hi2 : y.testBit i
  ·rfl
  ·have hin : i < n := by
    rcases Nat.lt_or_ge i n with hlt | hge
    ·exact hlt
    ·have := Nat.testBit_lt_two_pow (Nat.lt_of_lt_of_le hy (Nat.pow_le_pow_right (by decide) hge))
     rw [this] at hi2
     cases hi2
   have := bitsN_lt (n := n) (fun i _ h1 => h i h1) hin hi hi2
   omega
 ·exact h i hi
theorem goR_grow {n : Nat} {E : List (Int × Int)} {f : Nat} (hE : InE n E) : ∀ r, r ≤ bitsN n (goR E f r) ∨ goR E f (r + 1) = goR E f r
 | 0 => .inl (Nat.zero_le _)
 | r + 1 => by
  rcases goR_grow (f := f) hE r with h | h
  ·by_cases hlt : bitsN n (goR E f r) < bitsN n (goR E f (r + 1))
   ·exact .inl (by omega)
   ·right
    have e : goR E f (r + 1) = goR E f r := bits_same (goR_sound f hE r).lt (goR_sound f hE (r + 1)).lt (fun i hi => rnR_ge hi _) (by omega)
    show rnR E f (goR E f (r + 1)) E.length = goR E f (r + 1)
    rw [e]
    exact e
  ·right
   show rnR E f (goR E f (r + 1)) E.length = goR E f (r + 1)
   rw [h]
   exact h
theorem goR_ok {n : Nat} {E : List (Int × Int)} (f : Nat) (hE : InE n E) (b : Nat) : (goR E f (n + 1)).testBit b = true ↔ Path E f b := by
 refine ⟨(goR_sound f hE (n + 1)).path b, fun h => ?_⟩
 have hs : goR E f (n + 1 + 1) = goR E f (n + 1) := by
  rcases goR_grow (f := f) hE (n + 1) with h1 | h1
  ·have := bitsN_le n (goR E f (n + 1))
   omega
  ·exact h1
 exact closedR (fun j p hp => rnR_same E.length hs j p (List.getElem?_eq_some_iff.1 hp).1 hp) h
end Go.Proofs.YtofabhenmplkoaaGreatDoor.gon
namespace Go.Proofs.YtofabhenmplkoaaGreatDoor.gon
open Go.RowKit
open sets typ ins evt
def bitTo (p : Nat → Bool) : Nat → Nat
 | 0 => 0
 | k + 1 => bitTo p k + if p k = true then 2 ^ k else 0
theorem bitTo_yes {p : Nat → Bool} {k : Nat} (h : p k = true) : bitTo p (k + 1) = bitTo p k + 2 ^ k := by rw [bitTo, if_pos h]
theorem bitTo_no {p : Nat → Bool} {k : Nat} (h : p k = false) : bitTo p (k + 1) = bitTo p k := by rw [bitTo, if_neg (by rw [h]; decide)]; rfl
theorem bitTo_lt (p : Nat → Bool) : ∀ k, bitTo p k < 2 ^ k
 | 0 => Nat.one_pos
 | k + 1 => by
  have := bitTo_lt p k
  rw [bitTo, Nat.pow_succ]
  split <;> omega
theorem or_bit {s k : Nat} (h : s < 2 ^ k) : s ||| 2 ^ k = s + 2 ^ k := by
 have := Nat.two_pow_add_eq_or_of_lt h 1
 rw [Nat.mul_one] at this
 rw [Nat.or_comm, ← this, Nat.add_comm]
theorem bitTo_test (p : Nat → Bool) (i : Nat) : ∀ k, (bitTo p k).testBit i = (decide (i < k) && p i)
 | 0 => by simp [bitTo]
 | k + 1 => by
  have ih := bitTo_test p i k
  have hlt := bitTo_lt p k
  rw [bitTo]
  split
  ·rename_i hp
   rw [← or_bit hlt, Nat.testBit_or, ih, Nat.testBit_two_pow]
   by_cases h : k = i
   ·subst h
    simp [hp]
   ·rw [decide_eq_false h, Bool.or_false]
    congr 1
    exact decide_eq_decide.2 (by omega)
  ·rename_i hp
   rw [Nat.add_zero, ih]
   by_cases h : k = i
   ·subst h
    simp at hp
    simp [hp]
   ·congr 1
    exact decide_eq_decide.2 (by omega)
theorem lt_test {s n i : Nat} (h : s < 2 ^ n) (hi : s.testBit i = true) : i < n := by
 apply Classical.byContradiction
 intro hc
 have : 2 ^ n ≤ 2 ^ i := Nat.pow_le_pow_right (by decide) (by omega)
 rw [Nat.testBit_lt_two_pow (by omega)] at hi
 cases hi
def needP (E : List (Int × Int)) (n i a : Nat) : Bool := a == i || (goR E a (n + 1)).testBit i
def needN (E : List (Int × Int)) (n i : Nat) : Nat := bitTo (needP E n i) n
theorem needP_path {n : Nat} {E : List (Int × Int)} (hE : InE n E) {i a : Nat} : needP E n i a = true ↔ a = i ∨ Path E a i := by
 unfold needP
 rw [Bool.or_eq_true, beq_iff_eq, goR_ok a hE i]
theorem path_lt {n : Nat} {E : List (Int × Int)} (hE : InE n E) {a b : Nat} (h : Path E a b) : a < n ∧ b < n := by
 induction h with
 | one hm => have := hE _ hm; dsimp only at this; omega
 | snoc _ hm ih => have := hE _ hm; dsimp only at this; omega
theorem need_chains {n : Nat} {E : List (Int × Int)} {L : List Nat} (h : Sound n E L) (hE : InE n E) (hm : (rnC E L E.length).2 = false) {i : Nat} (hi : i < n) : at0 L i ||| 2 ^ i = needN E n i := by
 apply Nat.eq_of_testBit_eq
 intro a
 unfold needN
 rw [Nat.testBit_or, Nat.testBit_two_pow, bitTo_test]
 have h1 := chains_ok h hE hm a i
 have h2 := needP_path hE (i := i) (a := a)
 rw [Bool.eq_iff_iff, Bool.or_eq_true, Bool.and_eq_true, decide_eq_true_eq, decide_eq_true_eq, h1, h2]
 constructor
 ·rintro (h | h)
  ·exact ⟨(path_lt hE h).1, .inr h⟩
  ·exact ⟨by omega, .inl h.symm⟩
 ·rintro ⟨_, h | h⟩
  ·exact .inr h.symm
  ·exact .inl h
theorem need_lt (E : List (Int × Int)) (n i : Nat) : needN E n i < 2 ^ n := bitTo_lt _ n
def onP (l : List Ord) (i : Nat) : Bool := match l[i]? with
 | none => false
 | some o => !o.off
def gonP (x : Ins) (A i : Nat) : Bool := onP x.orders i && (needN x.before x.orders.length i).testBit A
def gonN (x : Ins) (A : Nat) : Nat := bitTo (gonP x A) x.orders.length
def allN (x : Ins) : Nat := bitTo (onP x.orders) x.orders.length
theorem gon_all (x : Ins) (A : Nat) : gonN x A ||| allN x = allN x := by
 apply Nat.eq_of_testBit_eq
 intro i
 unfold gonN allN
 rw [Nat.testBit_or, bitTo_test, bitTo_test]
 unfold gonP
 cases decide (i < x.orders.length) <;> cases onP x.orders i <;> simp
def gonF (x : Ins) (e : Evt) : Nat := if ¬ e.kind = 2 ∨ e.a < 0 ∨ (x.orders.length : Int) ≤ e.a then 0 else gonN x e.a.toNat
theorem gonF_all (x : Ins) (e : Evt) : gonF x e ||| allN x = allN x := by
 unfold gonF
 split
 ·exact Nat.zero_or _
 ·exact gon_all x _
theorem gonF_no {x : Ins} {e : Evt} (h : ¬ e.kind = 2 ∨ e.a < 0 ∨ (x.orders.length : Int) ≤ e.a) : gonF x e = 0 := by unfold gonF; rw [if_pos h]
theorem gonF_yes {x : Ins} {e : Evt} {A : Nat} (h2 : e.kind = 2) (ha : e.a = A) (hl : A < x.orders.length) : gonF x e = gonN x A := by
 unfold gonF
 rw [if_neg (by omega), ha]
 rfl
theorem path_last {E : List (Int × Int)} {a b : Nat} (h : Path E a b) : ∃ c : Nat, ((c : Int), (b : Int)) ∈ E := by
 cases h with
 | one hm => exact ⟨a, hm⟩
 | snoc _ hm => exact ⟨_, hm⟩
theorem hap_cancel {x y : Ins} {e : Evt} (h : hapF x e = .ok y) (h2 : e.kind = 2) : ∃ (j : Nat) (o : Ord), e.a = j ∧ x.orders[j]? = some o ∧ o.off = false ∧ y = { x with orders := x.orders.set j { o with off := true } } := by
 unfold hapF at h
 rw [if_neg (by omega), if_neg (by omega), if_neg (by omega)] at h
 by_cases ht : thrF x e.a = 0
 ·rw [if_neg (fun g => g ht)] at h
  have ha : 0 ≤ e.a := by
   apply Classical.byContradiction
   intro hc
   unfold thrF at ht
   rw [if_pos (.inl (by omega))] at ht
   cases ht
  cases ho : x.orders[e.a.toNat]? with
  | none => rw [ho] at h; cases h
  | some o =>
   rw [ho] at h
   dsimp only at h
   rw [if_pos h2] at h
   injection h with h
   refine ⟨e.a.toNat, o, by omega, ho, ?_, h.symm⟩
   unfold thrF at ht
   by_cases hr : e.a < 0 ∨ (x.orders.length : Int) ≤ e.a
   ·rw [if_pos hr] at ht; cases ht
   ·rw [if_neg hr, ho] at ht
    dsimp only at ht
    cases hb : o.off
    ·rfl
    ·rw [hb] at ht; cases ht
 ·rw [if_pos ht] at h; cases h
theorem on_of {l : List Ord} {i : Nat} {o : Ord} (h : l[i]? = some o) : onP l i = !o.off := by
 unfold onP
 rw [h]
theorem gon_self {x : Ins} {A : Nat} {o : Ord} (ho : x.orders[A]? = some o) (hb : o.off = false) : (gonN x A).testBit A = true := by
 have hl := (List.getElem?_eq_some_iff.1 ho).1
 unfold gonN
 rw [bitTo_test, Bool.and_eq_true, decide_eq_true_eq]
 refine ⟨hl, ?_⟩
 unfold gonP
 rw [on_of ho, hb, Bool.and_eq_true]
 refine ⟨rfl, ?_⟩
 unfold needN
 rw [bitTo_test, Bool.and_eq_true, decide_eq_true_eq]
 exact ⟨hl, by unfold needP; simp⟩
theorem gon_test {x : Ins} {A i : Nat} (h : (gonN x A).testBit i = true) : i < x.orders.length ∧ onP x.orders i = true ∧ (needN x.before x.orders.length i).testBit A = true := by
 unfold gonN at h
 rw [bitTo_test, Bool.and_eq_true, decide_eq_true_eq] at h
 obtain ⟨h1, h2⟩ := h
 unfold gonP at h2
 rw [Bool.and_eq_true] at h2
 exact ⟨h1, h2.1, h2.2⟩
theorem need_path {n : Nat} {E : List (Int × Int)} (hE : InE n E) {i A : Nat} (h : (needN E n i).testBit A = true) : A = i ∨ Path E A i := by
 unfold needN at h
 rw [bitTo_test, Bool.and_eq_true] at h
 exact (needP_path hE).1 h.2
end Go.Proofs.YtofabhenmplkoaaGreatDoor.gon
namespace Go.Proofs.YtofabhenmplkoaaGreatDoor.gon
open Go.RowKit
open lib rd typ app flts eqg txt note rul
theorem half (s k : Nat) : ((s / 2 ^ k : Nat) : Int) / 2 = ((s / 2 ^ (k + 1) : Nat) : Int) := by
 rw [Nat.pow_succ, ← Nat.div_div_eq_div_mul]
 omega
theorem rhas_any (s i : Nat) (hs : s < 4611686018427387904) (hi : i < 1000000) (w : World) :
  Calls Tryz.prog 83 #[.int .i64 s, .int .i64 i] w fun e w' => e = .returned (.bool (s.testBit i)) ∧ Below w.heap.size w w' := by
 obtain ⟨b, hb⟩ : ∃ b, s.testBit i = b := ⟨_, rfl⟩
 rw [hb]
 have HB := Lib.hid hb
 clear hb
 have B0 := Below.refl w.heap.size w
 have HV : Hid (∀ k, s / 2 ^ k ≤ s) := Lib.hid (fun k => Nat.div_le_self _ _)
 go_enter Tryz.func83, Tryz.ntmps83
 go_wp2
 go_loopw [0, 5] (fun v k wr => ∃ (j n : Nat), j ≤ i ∧ k = .int .i64 j ∧ v = .int .i64 n ∧ Hid (n = s / 2 ^ j) ∧ Below w.heap.size w wr) (fun _ k _ => i - (intOf k).toNat)
 case atStart => exact ⟨0, s, by omega, rfl, rfl, Lib.hid (by simp), B0⟩
 case round =>
  obtain ⟨j, n, hj, rfl, rfl, HN, hbz⟩ := hrel
  have hn : n < 4611686018427387904 := by have := HV.out j; rw [HN.out]; omega
  have hn0 : (0 : Int) ≤ (n : Int) := by omega
  by_cases hlt : j < i
  ·have hji : (j : Int) < (i : Int) := by omega
   obtain ⟨n2, hn2⟩ : ∃ n2, n / 2 = n2 := ⟨_, rfl⟩
   have hh : (n : Int) / 2 = (n2 : Int) := by omega
   have HN2 : Hid (n2 = s / 2 ^ (j + 1)) := Lib.hid (by rw [← hn2, HN.out, Nat.pow_succ, ← Nat.div_div_eq_div_mul])
   clear hn2
   go_wp2
   go_roundw
   case rel => exact ⟨j + 1, n2, by omega, by go_num, by first | rfl | go_num | (simp; omega), HN2, hbz⟩
   case measure => simp [intOf]; omega
  ·have hji : ¬ (j : Int) < (i : Int) := by omega
   have hij : j = i := by omega
   have HR : Hid (b = ((n : Int) % 2 == 1)) := Lib.hid (by
    rw [← HB.out, Nat.testBit_eq_decide_div_mod_eq, ← hij, ← HN.out, Bool.eq_iff_iff, decide_eq_true_eq, beq_iff_eq]
    omega)
   clear hij
   go_wp2
   go_ret
   exact ⟨by rw [HR.out]; rfl, hbz⟩
theorem rbit_any (i : Nat) (hi : i ≤ 60) (w : World) :
  Calls Tryz.prog 85 #[.int .i64 i] w fun e w' => e = .returned (.int .i64 ((2 ^ i : Nat) : Int)) ∧ Below w.heap.size w w' := by
 obtain ⟨b, hb⟩ : ∃ b, 2 ^ i = b := ⟨_, rfl⟩
 rw [hb]
 have HB := Lib.hid hb
 clear hb
 have B0 := Below.refl w.heap.size w
 go_enter Tryz.func85, Tryz.ntmps85
 go_wp2
 go_loopw [3, 4] (fun v k wr => ∃ (j n : Nat), j ≤ i ∧ k = .int .i64 j ∧ v = .int .i64 n ∧ Hid (n = 2 ^ j) ∧ Below w.heap.size w wr) (fun _ k _ => i - (intOf k).toNat)
 case atStart => exact ⟨0, 1, by omega, rfl, rfl, Lib.hid rfl, B0⟩
 case round =>
  obtain ⟨j, n, hj, rfl, rfl, HN, hbz⟩ := hrel
  have hn : n ≤ 1152921504606846976 := by
   rw [HN.out]
   exact Nat.le_trans (Nat.pow_le_pow_right (by decide) (show j ≤ 60 by omega)) (by decide)
  by_cases hlt : j < i
  ·have hji : (j : Int) < (i : Int) := by omega
   have HN2 : Hid (2 * n = 2 ^ (j + 1)) := Lib.hid (by rw [HN.out, Nat.pow_succ, Nat.mul_comm])
   go_wp2
   go_roundw
   case rel => exact ⟨j + 1, 2 * n, by omega, by go_num, by first | rfl | go_num | (simp; omega), HN2, hbz⟩
   case measure => simp [intOf]; omega
  ·have hji : ¬ (j : Int) < (i : Int) := by omega
   have hij : j = i := by omega
   have HR : Hid (b = n) := Lib.hid (by rw [← HB.out, ← hij, HN.out])
   clear hij
   go_wp2
   go_ret
   exact ⟨by rw [HR.out]; rfl, hbz⟩
theorem pow_small {n : Nat} (h : n ≤ 20) : 2 ^ n ≤ 1048576 := Nat.le_trans (Nat.pow_le_pow_right (by decide) h) (by decide)
theorem stR_lt {n : Nat} {E : List (Int × Int)} {f S : Nat} (h : SoundR n E f S) (hE : InE n E) (k : Nat) : rnR E f S k < 2 ^ n := (rnR_sound h hE k).lt
theorem stR_yes {f S a b : Nat} (h1 : a = f ∨ S.testBit a = true) (h2 : S.testBit b = false) : stR f S a b = S + 2 ^ b := by unfold stR; rw [if_pos ⟨h1, h2⟩]
theorem stR_no1 {f S a b : Nat} (h1 : ¬ (a = f ∨ S.testBit a = true)) : stR f S a b = S := by unfold stR; rw [if_neg (fun h => h1 h.1)]
theorem stR_no2 {f S a b : Nat} (h2 : S.testBit b = true) : stR f S a b = S := by unfold stR; rw [if_neg (fun h => by rw [h2] at h; cases h.2)]
set_option maxRecDepth 20000 in
set_option maxHeartbeats 4000000 in
theorem rreach_any (n : Nat) (E : List (Int × Int)) (f : Nat) (A : Option Addr) (c : Nat) (w : World) (hL : RowAt (rPair rInt rInt) w w.heap.size A E) (hE : InE n E) (hn : n ≤ 20) (hl : E.length ≤ 100000) (hf : f < n) :
  Calls Tryz.prog 84 #[.int .i64 n, .slice A E.length c, .int .i64 f] w fun e w' => e = .returned (.int .i64 (goR E f (n + 1))) ∧ Below w.heap.size w w' := by
 obtain ⟨r, hr⟩ : ∃ r, goR E f (n + 1) = r := ⟨_, rfl⟩
 rw [hr]
 have HR := Lib.hid hr
 obtain ⟨m, hm⟩ : ∃ m, E.length = m := ⟨_, rfl⟩
 have HM := Lib.hid hm
 rw [hm] at hl ⊢
 have HE := Lib.hid hE
 have HL := Lib.hid hL
 have HP := Lib.hid (pow_small hn)
 clear hm hr hE hL
 have B0 := Lib.hid (Below.refl w.heap.size w)
 go_enter Tryz.func84, Tryz.ntmps84
 go_wp2
 go_loopw [7, 8] (fun v k wr => ∃ (j S : Nat), j ≤ n + 1 ∧ k = .int .i64 j ∧ v = .int .i64 S ∧ Hid (S = goR E f j) ∧ Below w.heap.size w wr) (fun _ k _ => n + 1 - (intOf k).toNat)
 case atStart => exact ⟨0, 0, by omega, rfl, rfl, Lib.hid rfl, B0.out⟩
 case round =>
  obtain ⟨j, S0, hj, rfl, rfl, HS, hb⟩ := hrel
  by_cases hlt : j ≤ n
  ·have hjn : (j : Int) ≤ (n : Int) := by omega
   have HSO := Lib.hid (show SoundR n E f S0 by rw [HS.out]; exact goR_sound f HE.out j)
   have HB := Lib.hid hb
   obtain ⟨Z, hZ⟩ : ∃ Z, wr = Z := ⟨_, rfl⟩
   subst hZ
   clear hb
   go_upto_region 6 with fail
   go_loopw [7, 9] (fun v k wz => ∃ (i S : Nat), i ≤ m ∧ k = .int .i64 i ∧ v = .int .i64 S ∧ Hid (S = rnR E f S0 i) ∧ Below w.heap.size w wz) (fun _ k _ => m - (intOf k).toNat)
   case atStart => exact ⟨0, S0, by omega, rfl, rfl, Lib.hid rfl, HB.out⟩
   case round =>
    obtain ⟨i, S, hi, rfl, rfl, HT, hbz⟩ := hrel
    have hSlt : S < 4611686018427387904 := by
     have h1 := stR_lt HSO.out HE.out i
     have h2 := HP.out
     rw [HT.out]
     omega
    by_cases hil : i < m
    ·obtain ⟨p, hp⟩ : ∃ p, E[i]? = some p := ⟨_, List.getElem?_eq_getElem (by rw [HM.out]; exact hil)⟩
     obtain ⟨ad, hA0, hadb, ⟨m0, m1⟩, hpf1, hpf2⟩ := row_Two (HL.out.below hbz) hp
     have hpe := HE.out p (List.mem_of_getElem? hp)
     have hSM : S < 2 ^ n := by rw [HT.out]; exact stR_lt HSO.out HE.out i
     have HT1 := Lib.hid (rnR_succ (f := f) (S := S0) hp)
     obtain ⟨pa, pb⟩ := p
     dsimp only at hpe m0 m1
     obtain ⟨a, rfl⟩ : ∃ a : Nat, pa = a := ⟨pa.toNat, by omega⟩
     obtain ⟨b, rfl⟩ : ∃ b : Nat, pb = b := ⟨pb.toNat, by omega⟩
     have ha : a < 1000000 := by omega
     have hbb : b < 1000000 := by omega
     have hb60 : b ≤ 60 := by omega
     have HT2 : Hid (rnR E f S0 (i + 1) = stR f S a b) := Lib.hid (by
      rw [HT1.out, ← HT.out]
      unfold pA pB
      rw [Int.toNat_natCast, Int.toNat_natCast])
     have HC1 : Hid (∀ w', Calls Tryz.prog 83 #[.int .i64 S, .int .i64 a] w' fun e w'' => e = .returned (.bool (S.testBit a)) ∧ Below w'.heap.size w' w'') := Lib.hid (fun w' => rhas_any S a hSlt ha w')
     have HC2 : Hid (∀ w', Calls Tryz.prog 83 #[.int .i64 S, .int .i64 b] w' fun e w'' => e = .returned (.bool (S.testBit b)) ∧ Below w'.heap.size w' w'') := Lib.hid (fun w' => rhas_any S b hSlt hbb w')
     have HC3 := Lib.hid (rbit_any b hb60)
     have HSN := Lib.hid (Nat.lt_of_lt_of_le hSM HP.out)
     have HBP : Hid (2 ^ b ≤ 1048576) := Lib.hid (pow_small (by omega))
     obtain ⟨qa, hqa⟩ : ∃ q, S.testBit a = q := ⟨_, rfl⟩
     obtain ⟨qb, hqb⟩ : ∃ q, S.testBit b = q := ⟨_, rfl⟩
     have HQA := Lib.hid hqa
     have HQB := Lib.hid hqb
     rw [hqa] at HC1
     rw [hqb] at HC2
     have hi0 : (0 : Int) ≤ (i : Int) := by omega
     have him : (i : Int) < (m : Int) := by omega
     have hSS : S ≤ 1048576 := by have := HSN.out; omega
     subst hA0
     clear hp hpf1 hpf2 hqa hqb hSM hpe
     go_upto_region 10 with fail
     clear m0 m1
     by_cases haf : a = f
     ·have haf2 : ((a : Int) == (f : Int)) = true := by simp [haf]
      go_wp2_with fail
      refine (HC2.out wr).mono ?_
      rintro e3 w3 ⟨rfl, b3⟩
      have HB3 := Lib.hid (hbz.trans (b3.mono hbz.size))
      clear b3
      cases qb
      ·have HN : Hid (rnR E f S0 (i + 1) = S + 2 ^ b) := Lib.hid (by rw [HT2.out, stR_yes (.inl haf) HQB.out])
       clear haf
       obtain ⟨z, hz⟩ : ∃ z, 2 ^ b = z := ⟨_, rfl⟩
       have h3 := HC3.out
       have hzb := HBP.out
       rw [hz] at h3 HN hzb
       go_wp2_with fail
       refine (h3 w3).mono ?_
       rintro e4 w4 ⟨rfl, b4⟩
       have HB4 := Lib.hid (HB3.out.trans (b4.mono HB3.out.size))
       clear b4 h3
       go_wp2_with fail
       go_roundw
       case rel => exact ⟨i + 1, S + z, by omega, by go_num, by first | rfl | go_num | (simp; omega), Lib.hid HN.out.symm, HB4.out⟩
       case measure => simp [intOf]; omega
      ·have HN : Hid (rnR E f S0 (i + 1) = S) := Lib.hid (by rw [HT2.out, stR_no2 HQB.out])
       clear haf
       go_wp2_with fail
       go_roundw
       case rel => exact ⟨i + 1, S, by omega, by go_num, rfl, Lib.hid HN.out.symm, HB3.out⟩
       case measure => simp [intOf]; omega
     ·have haf2 : ((a : Int) == (f : Int)) = false := by simp; omega
      go_wp2_with fail
      refine (HC1.out wr).mono ?_
      rintro e2 w2 ⟨rfl, b2⟩
      have HB2 := Lib.hid (hbz.trans (b2.mono hbz.size))
      clear b2
      cases qa
      ·have HN : Hid (rnR E f S0 (i + 1) = S) := Lib.hid (by rw [HT2.out, stR_no1 (by rw [HQA.out]; simp [haf])])
       clear haf
       go_wp2_with fail
       go_roundw
       case rel => exact ⟨i + 1, S, by omega, by go_num, rfl, Lib.hid HN.out.symm, HB2.out⟩
       case measure => simp [intOf]; omega
      ·clear haf
       go_wp2_with fail
       refine (HC2.out w2).mono ?_
       rintro e3 w3 ⟨rfl, b3⟩
       have HB3 := Lib.hid (HB2.out.trans (b3.mono HB2.out.size))
       clear b3
       cases qb
       ·have HN : Hid (rnR E f S0 (i + 1) = S + 2 ^ b) := Lib.hid (by rw [HT2.out, stR_yes (.inr HQA.out) HQB.out])
        obtain ⟨z, hz⟩ : ∃ z, 2 ^ b = z := ⟨_, rfl⟩
        have h3 := HC3.out
        have hzb := HBP.out
        rw [hz] at h3 HN hzb
        go_wp2_with fail
        refine (h3 w3).mono ?_
        rintro e4 w4 ⟨rfl, b4⟩
        have HB4 := Lib.hid (HB3.out.trans (b4.mono HB3.out.size))
        clear b4 h3
        go_wp2_with fail
        go_roundw
        case rel => exact ⟨i + 1, S + z, by omega, by go_num, by first | rfl | go_num | (simp; omega), Lib.hid HN.out.symm, HB4.out⟩
        case measure => simp [intOf]; omega
       ·have HN : Hid (rnR E f S0 (i + 1) = S) := Lib.hid (by rw [HT2.out, stR_no2 HQB.out])
        go_wp2_with fail
        go_roundw
        case rel => exact ⟨i + 1, S, by omega, by go_num, rfl, Lib.hid HN.out.symm, HB3.out⟩
        case measure => simp [intOf]; omega
    ·have hie : i = m := by omega
     have him : ¬ (i : Int) < (m : Int) := by omega
     have HN : Hid (S = goR E f (j + 1)) := Lib.hid (by rw [HT.out, hie, goR, ← HS.out, HM.out])
     clear hie
     go_wp2
     go_roundw
     case rel => exact ⟨j + 1, S, by omega, by go_num, rfl, HN, hbz⟩
     case measure => simp [intOf]; omega
  ·have hje : j = n + 1 := by omega
   have hjn : ¬ (j : Int) ≤ (n : Int) := by omega
   have HN : Hid (r = S0) := Lib.hid (by rw [HS.out, hje, HR.out])
   clear hje
   go_wp2
   go_ret
   exact ⟨by rw [HN.out]; rfl, hb⟩
end Go.Proofs.YtofabhenmplkoaaGreatDoor.gon
namespace Go.Proofs.YtofabhenmplkoaaGreatDoor.gon
open Go.RowKit
open lib rd typ app flts eqg note rul gen
def intsN (L : List Nat) : List Value := L.map (fun x : Nat => .int .i64 (x : Int))
def rdL (w : World) (g n : Nat) : List Nat := (List.range n).map fun k => match w.cell? ⟨g, k, none⟩ with
 | some v => (intOf v).toNat
 | none => 0
def msr (n : Nat) (m : Value) (w : World) (g : Nat) : Nat := match m with
 | .bool true => 1 + (n * n - tot n (rdL w g n))
 | _ => 0
theorem intsN_at {L : List Nat} {k : Nat} (h : k < L.length) : (intsN L)[k]? = some (.int .i64 (at0 L k : Int)) := by
 unfold intsN at0
 rw [List.getElem?_map, List.getElem?_eq_getElem h]
 rfl
theorem own_at {w : World} {base n g c k : Nat} {L : List Nat} (h : w.ownsRow base 3 1 (.slice (some ⟨g, 0, none⟩) n c) n (intsN L)) (hl : L.length = n) (hk : k < n) : w.cell? ⟨g, k, none⟩ = some (.int .i64 (at0 L k : Int)) := by
 rw [h.cellAt k (by omega)]
 exact intsN_at (by omega)
theorem rdL_own {w : World} {base n g c : Nat} {L : List Nat} (h : w.ownsRow base 3 1 (.slice (some ⟨g, 0, none⟩) n c) n (intsN L)) (hl : L.length = n) : rdL w g n = L := by
 apply List.ext_getElem
 ·unfold rdL
  rw [List.length_map, List.length_range, hl]
 ·intro k h1 h2
  have hk : k < n := by omega
  have e : (rdL w g n)[k]? = some L[k] := by
   unfold rdL
   rw [List.getElem?_map, List.getElem?_range hk, Option.map_some, own_at h hl hk]
   dsimp only
   unfold at0
   rw [List.getElem?_eq_getElem h2]
   simp [intOf]
  rw [List.getElem?_eq_getElem h1] at e
  exact Option.some.inj e
theorem orN (a b : Nat) (ha : a < 9223372036854775808) (hb : b < 9223372036854775808) : bits .or .i64 (a : Int) (b : Int) = ((a ||| b : Nat) : Int) := by
 have e1 : (BitVec.ofInt 64 (a : Int)).toNat = a := by rw [BitVec.toNat_ofInt]; omega
 have e2 : (BitVec.ofInt 64 (b : Int)).toNat = b := by rw [BitVec.toNat_ofInt]; omega
 have hle : a ||| b < 9223372036854775808 := Nat.or_lt_two_pow (n := 63) ha hb
 show IntKind.i64.wrap ((BitVec.ofInt 64 (a : Int) ||| BitVec.ofInt 64 (b : Int)).toNat : Nat) = _
 rw [BitVec.toNat_or, e1, e2, IntKind.wrap_i64]
 omega
theorem shl_nat {a : Nat} (h : a ≤ 20) : wrap64 (2 ^ a) = ((2 ^ a : Nat) : Int) := by
 have hp := pow_small h
 have e : ((2 : Int) ^ a) = ((2 ^ a : Nat) : Int) := by simp
 rw [e]
 unfold wrap64
 generalize 2 ^ a = z at hp
 omega
theorem lt20 {n z : Nat} (hn : n ≤ 20) (h : z < 2 ^ n) : z < 9223372036854775808 := by have := pow_small hn; omega
set_option maxRecDepth 20000 in
set_option maxHeartbeats 8000000 in
theorem chains_any (n : Nat) (E : List (Int × Int)) (A : Option Addr) (c : Nat) (w : World) (hL : RowAt (rPair rInt rInt) w w.heap.size A E) (hE : InE n E) (hn1 : 1 ≤ n) (hn : n ≤ 20) (hl : E.length ≤ 100000) :
  Calls Tryz.prog 136 #[.int .i64 n, .slice A E.length c] w fun e w' => ∃ g c' L, e = .returned (.slice (some ⟨g, 0, none⟩) n c') ∧ Sound n E L ∧ (rnC E L E.length).2 = false ∧ w'.ownsRow w.heap.size 3 1 (.slice (some ⟨g, 0, none⟩) n c') n (intsN L) ∧ Below w.heap.size w w' := by
 obtain ⟨m, hm⟩ : ∃ m, E.length = m := ⟨_, rfl⟩
 have HM := Lib.hid hm
 rw [hm] at hl ⊢
 have HE := Lib.hid hE
 have HL := Lib.hid hL
 have hn0 : ¬ (n : Int) < 0 := by omega
 have hnp : (0 : Int) ≤ (n : Int) := by omega
 have B0 := Lib.hid (Below.refl w.heap.size w)
 have HSH : Hid (∀ a, a < n → wrap64 (2 ^ a) = ((2 ^ a : Nat) : Int) ∧ 2 ^ a < 9223372036854775808) := Lib.hid (fun a ha => ⟨shl_nat (by omega), by have := pow_small (show a ≤ 20 by omega); omega⟩)
 have HLT : Hid (∀ z, z < 2 ^ n → z < 9223372036854775808) := Lib.hid (fun z hz => lt20 hn hz)
 clear hm hE hL
 go_enter Tryz.func136, Tryz.ntmps136
 go_upto_region 2 with (refine make_ints rfl _ _ rfl w.heap.size n rfl rfl (by omega) (Nat.le_refl _) ?_; intro w1 hown1 b1 z1)
 obtain ⟨g, hg⟩ : ∃ g, w.heap.size = g := ⟨_, rfl⟩
 have HO1 : Hid (w1.ownsRow w.heap.size 3 1 (.slice (some ⟨g, 0, none⟩) n n) n (intsN (List.replicate n 0))) := Lib.hid (by
  rw [← hg]
  have e : (List.replicate n (0 : Int)).map (Value.int .i64) = intsN (List.replicate n 0) := by simp [intsN]
  rw [← e]
  exact hown1)
 have HB1 := Lib.hid b1
 have hgz : w.heap.size ≤ g := by omega
 have HGZ := Lib.hid hg
 rw [hg]
 clear hown1 b1 hg z1
 go_upto_region 3 with fail
 go_loopw [6] (fun mv wr => ∃ (b : Bool) (L : List Nat), mv = .bool b ∧ Hid (Sound n E L) ∧ Hid (b = false → (rnC E L m).2 = false) ∧ Hid (wr.ownsRow w.heap.size 3 1 (.slice (some ⟨g, 0, none⟩) n n) n (intsN L)) ∧ Below w.heap.size w wr) (fun mv wr => msr n mv wr g)
 case atStart => exact ⟨true, _, rfl, Lib.hid (Sound.zero n E), Lib.hid (fun h => by cases h), HO1, HB1.out⟩
 case round =>
  clear HO1
  obtain ⟨b, L, rfl, HS, HC, HO, hb⟩ := hrel
  have HB := Lib.hid hb
  cases b
  ·go_wp2
   go_ret
   first | exact ⟨g, n, rfl, L, HS.out, HC.out (by first | rfl | trivial), HO.out, HB.out⟩ | exact ⟨g, n, L, rfl, HS.out, HC.out (by first | rfl | trivial), HO.out, HB.out⟩
  obtain ⟨Z, hZ⟩ : ∃ Z, msr n (.bool true) wr g = Z := ⟨_, rfl⟩
  have HZ : Hid (Z = 1 + (n * n - tot n L)) := Lib.hid (by rw [← hZ]; unfold msr; dsimp only; rw [rdL_own HO.out HS.out.len])
  have HMS := Lib.hid hZ
  obtain ⟨v1, hv1⟩ : ∃ v, wr = v := ⟨_, rfl⟩
  subst hv1
  clear hb hZ HC
  go_upto_region 6 with fail
  go_loopw [6, 18] (fun mv i wz => ∃ (k : Nat) (b : Bool) (L1 : List Nat), k ≤ m ∧ i = .int .i64 k ∧ mv = .bool b ∧ Hid (rnC E L k = (L1, b)) ∧ Hid (wz.ownsRow w.heap.size 3 1 (.slice (some ⟨g, 0, none⟩) n n) n (intsN L1)) ∧ Below w.heap.size w wz) (fun _ i _ => m - (intOf i).toNat)
  case atStart => exact ⟨0, false, L, by omega, rfl, rfl, Lib.hid rfl, HO, HB.out⟩
  case round =>
   obtain ⟨k, b, L1, hk, rfl, rfl, HT, HO1, hbz⟩ := hrel
   have HBZ := Lib.hid hbz
   have hzz := hbz.size
   have HS1 : Hid (Sound n E L1) := Lib.hid (by have h := rnC_sound HS.out HE.out k; rw [HT.out] at h; exact h)
   by_cases hlt : k < m
   ·obtain ⟨p, hp⟩ : ∃ p, E[k]? = some p := ⟨_, List.getElem?_eq_getElem (by rw [HM.out]; exact hlt)⟩
    obtain ⟨ad, hA0, hadb, ⟨m0, m1⟩, hpf1, hpf2⟩ := row_Two (HL.out.below hbz) hp
    have hpe := HE.out p (List.mem_of_getElem? hp)
    have HT1 := Lib.hid (rnC_succ (L := L) hp)
    obtain ⟨pa, pb⟩ := p
    dsimp only at hpe m0 m1
    obtain ⟨a, rfl⟩ : ∃ a : Nat, pa = a := ⟨pa.toNat, by omega⟩
    obtain ⟨d, rfl⟩ : ∃ d : Nat, pb = d := ⟨pb.toNat, by omega⟩
    have ha : a < n := by omega
    have hd : d < n := by omega
    have HT2 : Hid (rnC E L (k + 1) = (stC L1 a d, b || decide (setC L1 a d ≠ at0 L1 d))) := Lib.hid (by
     rw [HT1.out, HT.out]
     unfold pA pB
     rw [Int.toNat_natCast, Int.toNat_natCast])
    have hk0 : (0 : Int) ≤ (k : Int) := by omega
    have hkm : (k : Int) < (m : Int) := by omega
    have ha0 : ¬ (a : Int) < 0 := by omega
    have hd0 : ¬ (d : Int) < 0 := by omega
    have ha1 : ¬ (n : Int) ≤ (a : Int) := by omega
    have hd1 : ¬ (n : Int) ≤ (d : Int) := by omega
    have ha2 : (a : Int) < (n : Int) := by omega
    have hd2 : (d : Int) < (n : Int) := by omega
    have ha3 : (0 : Int) ≤ (a : Int) := by omega
    have hd3 : (0 : Int) ≤ (d : Int) := by omega
    subst hA0
    clear hp hpf1 hpf2 hpe hbz
    go_upto_region 8 with fail
    obtain ⟨W, hW⟩ : ∃ W, wr.alloc (.cells #[.int .i64 a, .int .i64 d] 116) = W := ⟨_, rfl⟩
    obtain ⟨B1, hB1⟩ : ∃ P, wr.heap.size = P := ⟨_, rfl⟩
    have bW : Below wr.heap.size wr W := by rw [← hW]; exact (Below.refl _ _).alloc (Nat.le_refl _) _
    have hn1' : Blk W B1 116 [.int .i64 a, .int .i64 d] := by rw [← hW, ← hB1]; exact Blk.new wr _ _
    have k0 := hn1'.cell (j := 0) rfl
    have k1 := hn1'.cell (j := 1) rfl
    have HOW : Hid (W.ownsRow w.heap.size 3 1 (.slice (some ⟨g, 0, none⟩) n n) n (intsN L1)) := Lib.hid (own_below HO1.out bW)
    have HBW := Lib.hid (HBZ.out.trans (bW.mono hzz))
    rw [hW, hB1]
    clear hW hB1 bW hn1' m0 m1 HO1 HBZ
    have c1 := own_at HOW.out HS1.out.len hd
    have c2 := own_at HOW.out HS1.out.len ha
    have f1 := HOW.out.frozenAt d
    obtain ⟨la, hla⟩ : ∃ z, at0 L1 a = z := ⟨_, rfl⟩
    obtain ⟨ld, hld⟩ : ∃ z, at0 L1 d = z := ⟨_, rfl⟩
    have hla2 := at0_lt HS1.out.lt a
    have hld2 := at0_lt HS1.out.lt d
    rw [hla] at hla2 c2
    rw [hld] at hld2 c1
    have h63a := HLT.out _ hla2
    have h63d := HLT.out _ hld2
    obtain ⟨z, hz⟩ : ∃ z, 2 ^ a = z := ⟨_, rfl⟩
    obtain ⟨hsh, h63z⟩ := HSH.out a ha
    rw [hz] at hsh h63z
    obtain ⟨o1, ho1⟩ : ∃ o, ld ||| la = o := ⟨_, rfl⟩
    obtain ⟨o2, ho2⟩ : ∃ o, o1 ||| z = o := ⟨_, rfl⟩
    have hor1 := orN ld la h63d h63a
    rw [ho1] at hor1
    have h631 : o1 < 9223372036854775808 := by rw [← ho1]; exact Nat.or_lt_two_pow (n := 63) h63d h63a
    have hor2 := orN o1 z h631 h63z
    rw [ho2] at hor2
    have HSC : Hid (setC L1 a d = o2) := Lib.hid (by unfold setC; rw [hld, hla, hz, ho1, ho2])
    have HLD := Lib.hid hld
    clear hla hld hla2 hld2 h63a h63d hz h63z ho1 ho2 h631
    go_upto_region 9 with (go_quiet (fail))
    clear k0 k1
    go_upto_region 10 with fail
    go_quiet (fail)
    go_upto_if 61 with fail
    have HBD : Hid (Below w.heap.size w W) := HBW
    by_cases hne : o2 = ld
    ·have hne2 : ((o2 : Int) != (ld : Int)) = false := by simp [hne]
     have hne3 : ((o2 : Int) == (ld : Int)) = true := by simp [hne]
     have HN : Hid (rnC E L (k + 1) = (L1, b)) := Lib.hid (by
      have e1 : setC L1 a d = at0 L1 d := by rw [HSC.out, HLD.out, hne]
      rw [HT2.out, e1]
      have e2 : stC L1 a d = L1 := by unfold stC; rw [e1]; exact set_same (by rw [HS1.out.len]; exact hd)
      rw [e2]
      simp)
     clear hne
     go_wp2
     go_roundw
     case rel => exact ⟨k + 1, b, L1, by omega, by go_num, rfl, HN, Lib.hid (own_below HOW.out (zQ (Below.refl _ _) _)), zQ HBW.out _⟩
     case measure => simp [intOf]; omega
    ·have hne2 : ((o2 : Int) != (ld : Int)) = true := by simp; omega
     have hne3 : ((o2 : Int) == (ld : Int)) = false := by simp; omega
     have HN : Hid (rnC E L (k + 1) = (L1.set d o2, true)) := Lib.hid (by
      have e1 : setC L1 a d ≠ at0 L1 d := by rw [HSC.out, HLD.out]; exact hne
      rw [HT2.out, decide_eq_true e1]
      unfold stC
      rw [HSC.out]
      simp)
     clear hne
     go_wp2
     go_roundw
     case rel =>
      refine ⟨k + 1, true, L1.set d o2, by omega, by go_num, rfl, HN, Lib.hid ?_, ?_⟩
      ·rw [show intsN (L1.set d o2) = (intsN L1).set d (.int .i64 o2) from by simp [intsN]]
       exact (World.ownsRow.stored (own_below HOW.out (by first | exact zQ (Below.refl _ _) _ | exact (Below.refl _ _).drew)) d _).1
      ·exact (zQ HBW.out _).setCell (p := ⟨g, d, none⟩) hgz _
     case measure => simp [intOf]; omega
   ·have hkm : k = m := by omega
    have hkm2 : ¬ (k : Int) < (m : Int) := by omega
    have HN : Hid ((b = false → (rnC E L1 m).2 = false) ∧ (b = true → msr n (.bool b) wr g < Z)) := Lib.hid ⟨fun hb => by
     have h1 : (rnC E L m).2 = false := by rw [← hkm, HT.out]; exact hb
     have h2 := (rnC_same HS.out HE.out m h1).1
     have h3 : L1 = L := by rw [← h2, ← hkm, HT.out]
     rw [h3]; exact h1, fun hb => by
     have h1 := (rnC_tot HS.out HE.out m).2 (by rw [← hkm, HT.out]; exact hb)
     rw [← hkm, HT.out] at h1
     have h2 := tot_le HS1.out
     rw [hb, HZ.out]
     unfold msr
     dsimp only
     rw [rdL_own HO1.out HS1.out.len]
     dsimp only at h1
     omega⟩
    have HZP : Hid (0 < Z) := Lib.hid (by rw [HZ.out]; omega)
    clear hkm
    go_wp2
    go_roundw
    case rel => exact ⟨b, L1, rfl, HS1, Lib.hid HN.out.1, HO1, HBZ.out⟩
    case measure =>
     cases b
     ·show msr n (.bool false) _ g < msr n (.bool true) _ g
      rw [HMS.out]
      exact HZP.out
     ·show msr n (.bool true) _ g < msr n (.bool true) _ g
      rw [HMS.out]
      exact HN.out.2 rfl
end Go.Proofs.YtofabhenmplkoaaGreatDoor.gon

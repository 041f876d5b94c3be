/- Plain: numbers and words, read and written. -/
import Derived.Test.YthefooacfcagbaaGreatDoorSpcP
namespace Go.Proofs.YthefooacfcagbaaGreatDoor.spc
open Go Go.RowKit
open Go.Proofs.YthefooacfcagbaaGreatDoor.txt
set_option linter.unusedVariables false
set_option linter.unusedSimpArgs false

/-- Numbers, read. -/
def readF : List By → Option (List Int)
  | [] => some []
  | x :: r => if (numL x).2 = 0 then (match readF r with | none => none | some l => some ((numL x).1 :: l)) else none
theorem numL_in (l : By) : in64 (numL l).1 ∧ 0 ≤ (numL l).2 ∧ (numL l).2 ≤ 4 := by
  unfold numL in64
  simp only []
  split
  · exact ⟨by decide, by decide, by decide⟩
  split
  · exact ⟨by decide, by decide, by decide⟩
  split
  · split
    · exact ⟨⟨by dsimp only; omega, by dsimp only; omega⟩, Int.le_refl 0, (by decide : (0 : Int) ≤ 4)⟩
    · exact ⟨by decide, by decide, by decide⟩
  · split
    · exact ⟨⟨by dsimp only; omega, by dsimp only; omega⟩, Int.le_refl 0, (by decide : (0 : Int) ≤ 4)⟩
    · exact ⟨by decide, by decide, by decide⟩
theorem readF_len : ∀ {L : List By} {l : List Int}, readF L = some l → l.length = L.length ∧ ∀ x ∈ l, in64 x
  | [], l, h => by
    obtain rfl := Option.some.inj h
    exact ⟨rfl, fun x hx => by cases hx⟩
  | x :: r, l, h => by
    unfold readF at h
    split at h
    · split at h
      · cases h
      · rename_i l' hl'
        obtain rfl := Option.some.inj h
        obtain ⟨h1, h2⟩ := readF_len hl'
        refine ⟨by rw [List.length_cons, List.length_cons, h1], fun y hy => ?_⟩
        rcases List.mem_cons.1 hy with rfl | hy
        · exact (numL_in x).1
        · exact h2 y hy
    · cases h
/-- What is written reads again. -/
theorem readF_dec : ∀ {l : List Int}, (∀ x ∈ l, in64 x) → readF (l.map Lib.itoa) = some l
  | [], _ => rfl
  | x :: r, h => by
    have h1 := num_dec (h x (List.mem_cons_self ..))
    have h2 := readF_dec fun y hy => h y (List.mem_cons_of_mem _ hy)
    rw [List.map_cons]
    unfold readF
    rw [h1, h2]
    rfl
/-- What reads is what is written. -/
theorem dec_readF : ∀ {L : List By} {l : List Int}, readF L = some l → L = l.map Lib.itoa
  | [], l, h => by
    obtain rfl := Option.some.inj h
    rfl
  | x :: r, l, h => by
    unfold readF at h
    split at h
    · rename_i h0
      split at h
      · cases h
      · rename_i l' hl'
        obtain rfl := Option.some.inj h
        rw [List.map_cons, ← dec_readF hl', ← (dec_num (l := x) (n := (numL x).1) (by rw [← h0])).1]
    · cases h
theorem isD_isW {c : UInt8} (h : isD c = true) : isW c = true := by
  unfold isD at h
  rw [decide_eq_true_eq] at h
  unfold isW
  rw [decide_eq_true_eq]
  omega
theorem itoa_word (n : Int) : wordB (Lib.itoa n) = true := by
  have hd : ∀ u, (Lib.decDigits u).all isW = true := fun u => all_mono (fun c => isD_isW) (dec_all u)
  unfold wordB Lib.itoa
  rw [Bool.and_eq_true, decide_eq_true_eq]
  split
  · refine ⟨by simp, ?_⟩
    rw [List.all_cons, Bool.and_eq_true]
    exact ⟨by decide, hd _⟩
  · exact ⟨dec_ne _, hd _⟩
theorem joinS_inj : ∀ {M M' : List By}, M ≠ [] → M' ≠ [] → (∀ x ∈ M, wordB x = true) → (∀ x ∈ M', wordB x = true) → joinS M = joinS M' → M = M'
  | [], _, h, _, _, _, _ => absurd rfl h
  | x :: r, [], _, h, _, _, _ => absurd rfl h
  | x :: r, y :: t, _, _, hM, hM', e => by
    have h1 := (fst_join (r := r) (hM x (List.mem_cons_self ..))).1
    have h2 := (fst_join (r := t) (hM' y (List.mem_cons_self ..))).1
    rw [e, h2] at h1
    subst h1
    cases r with
    | nil =>
      cases t with
      | nil => rfl
      | cons z t =>
        rw [joinS_one, joinS_cons] at e
        have := congrArg List.length e
        simp at this
    | cons z r =>
      cases t with
      | nil =>
        rw [joinS_one, joinS_cons] at e
        have := congrArg List.length e
        simp at this
      | cons z' t =>
        rw [joinS_cons, joinS_cons] at e
        have e2 := List.append_cancel_left e
        injection e2 with _ e3
        rw [joinS_inj (by simp) (by simp) (fun x hx => hM x (List.mem_cons_of_mem _ hx)) (fun x hx => hM' x (List.mem_cons_of_mem _ hx)) e3]
theorem nDig_le : ∀ (k u : Nat), u < 10 ^ (k + 1) → Lib.nDigits u ≤ k + 1
  | 0, u, h => by rw [Lib.nDigits_small (by omega)]; omega
  | k + 1, u, h => by
    by_cases hu : u < 10
    · rw [Lib.nDigits_small hu]; omega
    · rw [Lib.nDigits_big hu]
      have := nDig_le k (u / 10) (by rw [Nat.pow_succ] at h; omega)
      omega
theorem itoa_len {n : Int} (h : in64 n) : (Lib.itoa n).length ≤ 20 := by
  obtain ⟨h0, h1⟩ := h
  unfold Lib.itoa
  split
  · rw [List.length_cons, Lib.decDigits_length]
    have := nDig_le 18 n.natAbs (by omega)
    omega
  · rw [Lib.decDigits_length]
    have := nDig_le 18 n.toNat (by omega)
    omega
theorem dig_no {c : UInt8} (hc : isD c = false) (h45 : c ≠ 45) (n : Int) : c ∉ Lib.itoa n := by
  have key : ∀ u, c ∉ Lib.decDigits u := fun u hu => by
    have := List.all_eq_true.1 (dec_all u) c hu
    rw [hc] at this
    cases this
  unfold Lib.itoa
  split
  · rw [List.mem_cons, not_or]; exact ⟨h45, key _⟩
  · exact key _
end Go.Proofs.YthefooacfcagbaaGreatDoor.spc

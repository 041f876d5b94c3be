/- Plain: lines of words. -/
import Derived.Test.YthefooacfcagbaaGreatDoorStrP
namespace Go.Proofs.YthefooacfcagbaaGreatDoor.txt
open Go Go.RowKit
set_option linter.unusedVariables false

/-- A byte of a word. -/
def isW (c : UInt8) : Bool := decide (33 ≤ c.toNat ∧ c.toNat ≤ 126 ∧ c.toNat ≠ 34)
/-- A word. -/
def wordB (l : By) : Bool := decide (l ≠ []) && l.all isW
def notSp (c : UInt8) : Bool := decide (c ≠ 32)
/-- What stands before the first blank. -/
def fstW (l : By) : By := l.takeWhile notSp
/-- Parts joined. -/
def joinS (L : List By) : By := Lib.join L [32]
theorem isW_sp {c : UInt8} (h : isW c = true) : notSp c = true := by
  have h1 : 33 ≤ c.toNat ∧ c.toNat ≤ 126 ∧ c.toNat ≠ 34 := of_decide_eq_true h
  refine decide_eq_true ?_
  rintro rfl
  exact absurd h1.1 (by decide)
theorem joinS_cons (x y : By) (r : List By) : joinS (x :: y :: r) = x ++ 32 :: joinS (y :: r) := by
  unfold joinS Lib.join
  rw [List.intercalate, List.intercalate]
  simp [List.intersperse]
theorem joinS_one (x : By) : joinS [x] = x := Lib.join_one x _
theorem take_all {p : UInt8 → Bool} : ∀ {l : By}, l.all p = true → ∀ r, (r = [] ∨ ∃ c t, r = c :: t ∧ p c = false) → (l ++ r).takeWhile p = l
  | [], _, r, hr => by
    rcases hr with rfl | ⟨c, t, rfl, hc⟩
    · rfl
    · rw [List.nil_append, List.takeWhile_cons, hc]; rfl
  | x :: l, h, r, hr => by
    rw [List.all_cons, Bool.and_eq_true] at h
    rw [List.cons_append, List.takeWhile_cons, h.1]
    simp [take_all h.2 r hr]
theorem all_mono {p q : UInt8 → Bool} (h : ∀ c, p c = true → q c = true) : ∀ {l : By}, l.all p = true → l.all q = true
  | [], _ => rfl
  | x :: l, hl => by
    rw [List.all_cons, Bool.and_eq_true] at hl ⊢
    exact ⟨h x hl.1, all_mono h hl.2⟩
/-- The first word of a line of words. -/
theorem fst_join {x : By} {r : List By} (hx : wordB x = true) : fstW (joinS (x :: r)) = x ∧ (joinS (x :: r)).takeWhile isW = x := by
  have hx2 : x.all isW = true := by unfold wordB at hx; rw [Bool.and_eq_true] at hx; exact hx.2
  have hx3 : x.all notSp = true := all_mono (fun c => isW_sp) hx2
  cases r with
  | nil =>
    rw [joinS_one]
    have h1 := take_all hx3 [] (.inl rfl)
    have h2 := take_all hx2 [] (.inl rfl)
    rw [List.append_nil] at h1 h2
    exact ⟨h1, h2⟩
  | cons y r =>
    rw [joinS_cons]
    exact ⟨take_all hx3 _ (.inr ⟨32, _, rfl, rfl⟩), take_all hx2 _ (.inr ⟨32, _, rfl, rfl⟩)⟩
theorem word_ne {x : By} (h : wordB x = true) : x ≠ [] := by
  unfold wordB at h
  rw [Bool.and_eq_true, decide_eq_true_eq] at h
  exact h.1
theorem word_all {x : By} (h : wordB x = true) : x.all isW = true := by
  unfold wordB at h
  rw [Bool.and_eq_true] at h
  exact h.2
theorem join_head {x : By} {r : List By} (h : wordB x = true) : ∃ c t, joinS (x :: r) = c :: t ∧ isW c = true := by
  have ha := word_all h
  cases x with
  | nil => exact absurd rfl (word_ne h)
  | cons c t =>
    rw [List.all_cons, Bool.and_eq_true] at ha
    cases r with
    | nil => exact ⟨c, t, joinS_one _, ha.1⟩
    | cons y r => exact ⟨c, _, joinS_cons _ _ _, ha.1⟩

/-- How a part of a line is read: n bytes (0: none). -/
def PartOk (s : By) (n : Nat) : Prop := n ≤ s.length ∧ (∀ x r, wordB x = true → s = joinS (x :: r) → n = x.length) ∧ (n ≠ 0 → wordB (s.take n) = true ∨ s.head? = some 34)
/-- A part is a word, or quoted. -/
def partB (x : By) : Prop := wordB x = true ∨ x.head? = some 34
theorem PartOk.part {s : By} {n : Nat} (h : PartOk s n) (h0 : n ≠ 0) : partB (s.take n) := by
  rcases h.2.2 h0 with h | h
  · exact .inl h
  · exact .inr (by rw [List.head?_take, if_neg h0]; exact h)
/-- What has been read of a line: the parts L, and what is left. -/
structure WInv (s : By) (L : List By) (rest : By) : Prop where
  pre : s = (L.map (· ++ [32])).flatten ++ rest
  on : ∀ M : List By, M ≠ [] → (∀ x ∈ M, wordB x = true) → s = joinS M → ∃ N, M = L ++ N ∧ N ≠ [] ∧ rest = joinS N
  parts : ∀ x ∈ L, partB x
theorem WInv.start (s : By) : WInv s [] s := ⟨rfl, fun M h _ e => ⟨M, rfl, h, e⟩, fun x hx => nomatch hx⟩
/-- What a line answers: none: it cannot be read. -/
structure WordsOk (s : By) (r : Option (List By)) : Prop where
  join : ∀ L, r = some L → L ≠ [] ∧ s = joinS L ∨ L = [] ∧ s = []
  words : ∀ M : List By, M ≠ [] → (∀ x ∈ M, wordB x = true) → s = joinS M → r = some M
  parts : ∀ L, r = some L → ∀ x ∈ L, partB x
theorem WordsOk.nil : WordsOk [] (some []) := by
  refine ⟨fun L h => .inr ⟨(Option.some.inj h).symm, rfl⟩, fun M h hw e => ?_, fun L h x hx => ?_⟩
  · cases M with
    | nil => exact absurd rfl h
    | cons x r =>
      obtain ⟨c, t, h1, _⟩ := join_head (r := r) (hw x (List.mem_cons_self ..))
      rw [h1] at e
      cases e
  · obtain rfl := Option.some.inj h
    cases hx
theorem pre_join : ∀ (L : List By) (x : By), (L.map (· ++ [32])).flatten ++ x = joinS (L ++ [x])
  | [], x => by rw [List.nil_append, joinS_one]; rfl
  | [a], x => by
    rw [List.cons_append, List.nil_append, joinS_cons, joinS_one]
    simp
  | a :: b :: L, x => by
    have h := pre_join (b :: L) x
    rw [List.cons_append, List.cons_append, joinS_cons, ← List.cons_append, ← h]
    simp
section
variable {s rest : By} {L : List By} {n : Nat}
/-- The part takes all that is left. -/
theorem WInv.last (h : WInv s L rest) (hp : PartOk rest rest.length) (hn : rest ≠ []) : WordsOk s (some (L ++ [rest])) := by
  refine ⟨fun M e => ?_, fun M hM hw e => ?_, fun M e x hx => ?_⟩
  rotate_left 2
  · obtain rfl := Option.some.inj e
    rcases List.mem_append.1 hx with hx | hx
    · exact h.parts x hx
    · rw [List.mem_singleton] at hx
      subst hx
      have := hp.part (by intro e; exact hn (List.length_eq_zero_iff.1 e))
      rwa [List.take_length] at this
  · obtain rfl := Option.some.inj e
    left
    exact ⟨by simp, by rw [h.pre, pre_join]⟩
  · obtain ⟨N, rfl, hN, hr⟩ := h.on M hM hw e
    cases N with
    | nil => exact absurd rfl hN
    | cons x r =>
      have hx : wordB x = true := hw x (by simp)
      have hl := hp.2.1 x r hx hr
      cases r with
      | nil => rw [hr, joinS_one]
      | cons y r =>
        rw [hr, joinS_cons] at hl
        simp at hl
/-- The part, a blank, and more. -/
theorem WInv.next (h : WInv s L rest) (hp : PartOk rest n) (h0 : n ≠ 0) (hs : rest[n]? = some 32) (hm : n + 1 ≠ rest.length) : WInv s (L ++ [rest.take n]) (rest.drop (n + 1)) := by
  obtain ⟨hn, he⟩ := List.getElem?_eq_some_iff.1 hs
  have hsplit : rest = rest.take n ++ 32 :: rest.drop (n + 1) := by
    conv => lhs; rw [← List.take_append_drop n rest, List.drop_eq_getElem_cons hn, he]
  refine ⟨?_, fun M hM hw e => ?_, fun x hx => ?_⟩
  rotate_left 2
  · rcases List.mem_append.1 hx with hx | hx
    · exact h.parts x hx
    · rw [List.mem_singleton] at hx
      rw [hx]
      exact hp.part h0
  · rw [h.pre]
    conv => lhs; rw [hsplit]
    simp
  · obtain ⟨N, rfl, hN, hr⟩ := h.on M hM hw e
    cases N with
    | nil => exact absurd rfl hN
    | cons x r =>
      have hx : wordB x = true := hw x (by simp)
      have hl := hp.2.1 x r hx hr
      cases r with
      | nil =>
        rw [joinS_one] at hr
        subst hr
        omega
      | cons y r =>
        rw [joinS_cons] at hr
        have e1 : rest.take n = x := by rw [hr, hl]; simp
        have e2 : rest.drop (n + 1) = joinS (y :: r) := by rw [hr, hl]; simp [List.drop_append]
        refine ⟨y :: r, ?_, by simp, e2⟩
        rw [e1, List.append_assoc]; rfl
/-- No line of words: no part begins here. -/
theorem WInv.none_ (h : WInv s L rest) (hp : PartOk rest 0) : WordsOk s none := by
  refine ⟨fun M e => (by cases e), fun M hM hw e => ?_, fun M e => (by cases e)⟩
  obtain ⟨N, rfl, hN, hr⟩ := h.on M hM hw e
  cases N with
  | nil => exact absurd rfl hN
  | cons x r =>
    have hx : wordB x = true := hw x (by simp)
    have hl := hp.2.1 x r hx hr
    exact absurd (List.length_eq_zero_iff.1 hl.symm) (word_ne hx)
/-- No line of words: no blank behind the part. -/
theorem WInv.bad (h : WInv s L rest) (hp : PartOk rest n) {c : UInt8} (hs : rest[n]? = some c) (hc : c ≠ 32) : WordsOk s none := by
  refine ⟨fun M e => (by cases e), fun M hM hw e => ?_, fun M e => (by cases e)⟩
  obtain ⟨N, rfl, hN, hr⟩ := h.on M hM hw e
  cases N with
  | nil => exact absurd rfl hN
  | cons x r =>
    have hx : wordB x = true := hw x (by simp)
    have hl := hp.2.1 x r hx hr
    cases r with
    | nil =>
      rw [joinS_one] at hr
      subst hr
      rw [hl, List.getElem?_eq_none (Nat.le_refl _)] at hs
      cases hs
    | cons y r =>
      rw [hr, joinS_cons, hl] at hs
      rw [List.getElem?_append_right (Nat.le_refl _), Nat.sub_self] at hs
      exact absurd (Option.some.inj hs).symm hc
/-- No line of words: it ends in a blank. -/
theorem WInv.ends (h : WInv s L rest) (hp : PartOk rest n) (hm : n + 1 = rest.length) (h0 : n ≠ 0) (hs : rest[n]? = some 32) : WordsOk s none := by
  refine ⟨fun M e => (by cases e), fun M hM hw e => ?_, fun M e => (by cases e)⟩
  obtain ⟨N, rfl, hN, hr⟩ := h.on M hM hw e
  cases N with
  | nil => exact absurd rfl hN
  | cons x r =>
    have hx : wordB x = true := hw x (by simp)
    have hl := hp.2.1 x r hx hr
    cases r with
    | nil =>
      rw [joinS_one] at hr
      subst hr
      omega
    | cons y r =>
      have hy : wordB y = true := hw y (by simp)
      obtain ⟨c, t, h1, _⟩ := join_head (r := r) hy
      rw [hr, joinS_cons, h1] at hm
      simp at hm
      omega
end
/-- Where the part is read by its bytes. -/
theorem part_word {s : By} (h : s.head? ≠ some 34) : PartOk s (if wordB (fstW s) then (fstW s).length else 0) := by
  refine ⟨?_, ?_, ?_⟩
  rotate_left 2
  · intro h0
    by_cases hw : wordB (fstW s) = true
    · left
      rw [if_pos hw]
      have e : s.take (fstW s).length = fstW s := List.prefix_iff_eq_take.1 (List.takeWhile_prefix _) |>.symm
      rw [e]
      exact hw
    · rw [if_neg hw] at h0
      exact absurd rfl h0
  · split
    · exact (List.takeWhile_prefix _).length_le
    · exact Nat.zero_le _
  · rintro x r hx rfl
    rw [(fst_join hx).1, if_pos hx]
theorem part_quot {s : By} {n : Nat} (h : s.head? = some 34) (hn : n ≤ s.length) : PartOk s n := by
  refine ⟨hn, fun x r hx e => ?_, fun _ => .inr h⟩
  obtain ⟨c, t, h1, h2⟩ := join_head (r := r) hx
  rw [← e] at h1
  rw [h1] at h
  obtain rfl := Option.some.inj h
  exact absurd h2 (by decide)
theorem part_isW {s : By} (hn : s.takeWhile isW ≠ []) : PartOk s (s.takeWhile isW).length := by
  refine ⟨(List.takeWhile_prefix _).length_le, fun x r hx e => ?_, fun _ => .inl ?_⟩
  rotate_left 1
  · have e : s.take (s.takeWhile isW).length = s.takeWhile isW := List.prefix_iff_eq_take.1 (List.takeWhile_prefix _) |>.symm
    rw [e]
    unfold wordB
    rw [Bool.and_eq_true]
    exact ⟨decide_eq_true hn, List.all_takeWhile⟩
  subst e
  rw [(fst_join hx).2]
/-- A part that no word begins. -/
theorem part_no {s : By} (h : s.takeWhile isW = []) {n : Nat} (hn : n ≤ s.length) (hq : n ≠ 0 → s.head? = some 34) : PartOk s n := by
  refine ⟨hn, fun x r hx e => ?_, fun h0 => .inr (hq h0)⟩
  subst e
  rw [(fst_join hx).2] at h
  exact absurd h (word_ne hx)
end Go.Proofs.YthefooacfcagbaaGreatDoor.txt

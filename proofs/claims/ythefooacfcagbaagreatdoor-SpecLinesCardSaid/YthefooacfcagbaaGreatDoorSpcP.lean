/- Texts split at a byte; a byte put in another's place. Plain. -/
import Derived.Test.YthefooacfcagbaaGreatDoorStrW
import Derived.Lib.Replace
import Derived.Lib.SplitLaws
import Derived.Lib.IndexBytes
namespace Go.Proofs.YthefooacfcagbaaGreatDoor.spc
open Go
open Go.Proofs.YthefooacfcagbaaGreatDoor.txt
set_option linter.unusedVariables false
set_option linter.unusedSimpArgs false

/-- The parts of a text, split at a byte. -/
def splt (c : UInt8) : By → List By
  | [] => [[]]
  | x :: l => if x = c then [] :: splt c l else match splt c l with
    | [] => [[x]]
    | p :: ps => (x :: p) :: ps
theorem ix_eq (c : UInt8) (l : By) : Lib.index (c :: l) [c] = 0 := by rw [Lib.index_one]; unfold Lib.indexByte; simp
theorem ix_ne {x c : UInt8} (h : x ≠ c) (l : By) : Lib.index (x :: l) [c] = if Lib.index l [c] = -1 then -1 else Lib.index l [c] + 1 := by
  rw [Lib.index_one, Lib.index_one, Lib.indexByte]
  rw [if_neg (by simpa using h)]
  simp only [beq_iff_eq]
theorem ix_pos {c : UInt8} {l : By} (h : 0 < l.count c) : ∃ i : Nat, Lib.index l [c] = i := Lib.index_of_count (by rw [Lib.count_one]; exact h)
theorem ix_none {c : UInt8} {l : By} (h : l.count c = 0) : Lib.index l [c] = -1 := by
  have hge := Lib.index_ge l [c]
  by_cases hm : Lib.index l [c] = -1
  · exact hm
  · have := Lib.count_hit (s := l) (sub := [c]) (i := (Lib.index l [c]).toNat) (by simp) (by omega)
    rw [Lib.count_one, h] at this
    omega
theorem splitK_splt (c : UInt8) : ∀ s : By, Lib.splitK [c] 0 (s.count c) s = splt c s
  | [] => rfl
  | x :: l => by
    have ih := splitK_splt c l
    by_cases hx : x = c
    · subst hx
      rw [List.count_cons_self, Lib.splitK, ix_eq, if_neg (by decide), splt, if_pos rfl, ← ih]
      rfl
    · rw [List.count_cons_of_ne hx, splt, if_neg hx, ← ih]
      cases hk : l.count c with
      | zero => rfl
      | succ j =>
        obtain ⟨i, hi⟩ := ix_pos (l := l) (c := c) (by omega)
        have h1 : Lib.index (x :: l) [c] = (i + 1 : Nat) := by rw [ix_ne hx, hi, if_neg (by omega)]; omega
        rw [Lib.splitK, Lib.splitK, h1, hi, if_neg (by rw [beq_iff_eq]; omega), if_neg (by rw [beq_iff_eq]; omega)]
        simp
theorem splt_ne (c : UInt8) (s : By) : splt c s ≠ [] := by
  cases s with
  | nil => simp [splt]
  | cons x l =>
    rw [splt]
    split
    · simp
    · split <;> simp
/-- A byte put in another's place. -/
theorem replK_map (c d : UInt8) : ∀ s : By, Lib.replaceK [c] [d] (s.count c) s = s.map fun x => if x = c then d else x
  | [] => rfl
  | x :: l => by
    have ih := replK_map c d l
    by_cases hx : x = c
    · subst hx
      rw [List.count_cons_self, Lib.replaceK, ix_eq, if_neg (by decide), List.map_cons, if_pos rfl, ← ih]
      rfl
    · rw [List.count_cons_of_ne hx, List.map_cons, if_neg hx, ← ih]
      cases hk : l.count c with
      | zero => rfl
      | succ j =>
        obtain ⟨i, hi⟩ := ix_pos (l := l) (c := c) (by omega)
        have h1 : Lib.index (x :: l) [c] = (i + 1 : Nat) := by rw [ix_ne hx, hi, if_neg (by omega)]; omega
        rw [Lib.replaceK, Lib.replaceK, h1, hi, if_neg (by rw [beq_iff_eq]; omega), if_neg (by rw [beq_iff_eq]; omega)]
        simp
theorem replAll_map {c d : UInt8} (h : c ≠ d) (s : By) : Lib.replaceAll s [c] [d] = s.map fun x => if x = c then d else x := by
  unfold Lib.replaceAll Lib.replace Lib.replaceNum
  rw [if_neg (by simpa using h), if_pos (.inl (by decide)), Lib.count_one, replK_map]
theorem map_id {c d : UInt8} : ∀ {s : By}, c ∉ s → (s.map fun x => if x = c then d else x) = s
  | [], _ => rfl
  | x :: l, h => by
    rw [List.mem_cons, not_or] at h
    rw [List.map_cons, if_neg (fun e => h.1 e.symm), map_id h.2]
theorem join2 (x y : By) (r : List By) (c : UInt8) : Lib.join (x :: y :: r) [c] = x ++ c :: Lib.join (y :: r) [c] := by
  rw [Lib.join_cons, Lib.join_cons]
  simp [Lib.joinTail]
/-- The separator of a joined text, put in another's place. -/
theorem repl_join {c d : UInt8} (h : c ≠ d) : ∀ L : List By, (∀ x ∈ L, c ∉ x) → Lib.replaceAll (Lib.join L [c]) [c] [d] = Lib.join L [d] := by
  intro L
  rw [replAll_map h]
  induction L with
  | nil => intro _; rfl
  | cons x r ih =>
    intro hL
    have hx := hL x (List.mem_cons_self ..)
    have hr := ih fun y hy => hL y (List.mem_cons_of_mem _ hy)
    cases r with
    | nil => rw [Lib.join_one, Lib.join_one, map_id hx]
    | cons y r => rw [join2, join2, List.map_append, map_id hx, List.map_cons, if_pos rfl, hr]
/-- What is joined is split again. -/
theorem splt_app {c : UInt8} : ∀ {x : By} (r : By), c ∉ x → splt c (x ++ c :: r) = x :: splt c r
  | [], r, _ => by rw [List.nil_append, splt, if_pos rfl]
  | y :: x, r, h => by
    rw [List.mem_cons, not_or] at h
    rw [List.cons_append, splt, if_neg (fun e => h.1 e.symm), splt_app r h.2]
theorem splt_none {c : UInt8} : ∀ {x : By}, c ∉ x → splt c x = [x]
  | [], _ => rfl
  | y :: x, h => by
    rw [List.mem_cons, not_or] at h
    rw [splt, if_neg (fun e => h.1 e.symm), splt_none h.2]
theorem splt_join {c : UInt8} : ∀ {L : List By}, L ≠ [] → (∀ x ∈ L, c ∉ x) → splt c (Lib.join L [c]) = L
  | [], h, _ => absurd rfl h
  | [x], _, h => by rw [Lib.join_one, splt_none (h x (List.mem_cons_self ..))]
  | x :: y :: r, _, h => by rw [join2, splt_app _ (h x (List.mem_cons_self ..)), splt_join (by simp) fun z hz => h z (List.mem_cons_of_mem _ hz)]
/-- What is split is joined again, and no part has the byte. -/
theorem join_splt (c : UInt8) : ∀ s : By, Lib.join (splt c s) [c] = s ∧ ∀ x ∈ splt c s, c ∉ x
  | [] => ⟨rfl, fun x hx => by simp [splt] at hx; subst hx; simp⟩
  | x :: l => by
    obtain ⟨h1, h2⟩ := join_splt c l
    have hne := splt_ne c l
    by_cases hx : x = c
    · subst hx
      rw [splt, if_pos rfl]
      cases hs : splt x l with
      | nil => exact absurd hs hne
      | cons p ps =>
        rw [hs] at h1 h2
        refine ⟨by rw [join2, h1]; rfl, fun y hy => ?_⟩
        rcases List.mem_cons.1 hy with rfl | hy
        · simp
        · exact h2 y hy
    · rw [splt, if_neg hx]
      cases hs : splt c l with
      | nil => exact absurd hs hne
      | cons p ps =>
        rw [hs] at h1 h2
        dsimp only
        refine ⟨?_, fun y hy => ?_⟩
        · cases ps with
          | nil => rw [Lib.join_one] at h1 ⊢; rw [h1]
          | cons q ps => rw [join2] at h1 ⊢; rw [List.cons_append, h1]
        · rcases List.mem_cons.1 hy with rfl | hy
          · rw [List.mem_cons, not_or]
            exact ⟨fun e => hx e.symm, h2 p (List.mem_cons_self ..)⟩
          · exact h2 y (List.mem_cons_of_mem _ hy)
end Go.Proofs.YthefooacfcagbaaGreatDoor.spc

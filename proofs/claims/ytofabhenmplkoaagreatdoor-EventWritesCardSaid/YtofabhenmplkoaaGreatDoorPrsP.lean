/- Plain: an event, read from the parts of a line. -/
import Derived.Test.YtofabhenmplkoaaGreatDoorPrtC
namespace Go.Proofs.YtofabhenmplkoaaGreatDoor.evt
open Go Go.RowKit
open Go.Proofs.YtofabhenmplkoaaGreatDoor.typ Go.Proofs.YtofabhenmplkoaaGreatDoor.txt
set_option linter.unusedVariables false
set_option linter.unusedSimpArgs false

/-- Numbers, read. -/
def readF : List By → Option (List Int)
  | [] => some []
  | x :: r => if (numL x).2 = 0 then (match readF r with | none => none | some l => some ((numL x).1 :: l)) else none
theorem numL_in (l : By) : in64 (numL l).1 ∧ 0 ≤ (numL l).2 ∧ (numL l).2 ≤ 4 := by
  unfold numL in64
  simp only []
  split
  · exact ⟨by decide, by decide, by decide⟩
  split
  · exact ⟨by decide, by decide, by decide⟩
  split
  · split
    · exact ⟨⟨by dsimp only; omega, by dsimp only; omega⟩, Int.le_refl 0, (by decide : (0 : Int) ≤ 4)⟩
    · exact ⟨by decide, by decide, by decide⟩
  · split
    · exact ⟨⟨by dsimp only; omega, by dsimp only; omega⟩, Int.le_refl 0, (by decide : (0 : Int) ≤ 4)⟩
    · exact ⟨by decide, by decide, by decide⟩
theorem readF_len : ∀ {L : List By} {l : List Int}, readF L = some l → l.length = L.length ∧ ∀ x ∈ l, in64 x
  | [], l, h => by
    obtain rfl := Option.some.inj h
    exact ⟨rfl, fun x hx => by cases hx⟩
  | x :: r, l, h => by
    unfold readF at h
    split at h
    · split at h
      · cases h
      · rename_i l' hl'
        obtain rfl := Option.some.inj h
        obtain ⟨h1, h2⟩ := readF_len hl'
        refine ⟨by rw [List.length_cons, List.length_cons, h1], fun y hy => ?_⟩
        rcases List.mem_cons.1 hy with rfl | hy
        · exact (numL_in x).1
        · exact h2 y hy
    · cases h
/-- What is written reads again. -/
theorem readF_dec : ∀ {l : List Int}, (∀ x ∈ l, in64 x) → readF (l.map Lib.itoa) = some l
  | [], _ => rfl
  | x :: r, h => by
    have h1 := num_dec (h x (List.mem_cons_self ..))
    have h2 := readF_dec fun y hy => h y (List.mem_cons_of_mem _ hy)
    rw [List.map_cons]
    unfold readF
    rw [h1, h2]
    rfl
/-- What reads is what is written. -/
theorem dec_readF : ∀ {L : List By} {l : List Int}, readF L = some l → L = l.map Lib.itoa
  | [], l, h => by
    obtain rfl := Option.some.inj h
    rfl
  | x :: r, l, h => by
    unfold readF at h
    split at h
    · rename_i h0
      split at h
      · cases h
      · rename_i l' hl'
        obtain rfl := Option.some.inj h
        rw [List.map_cons, ← dec_readF hl', ← (dec_num (l := x) (n := (numL x).1) (by rw [← h0])).1]
    · cases h
/-- The kind of a word; 0 for others. -/
def kindF (x : By) : Int := if x = (wordS 5).data.toList then 5 else if x = (wordS 4).data.toList then 4 else if x = (wordS 3).data.toList then 3 else if x = (wordS 2).data.toList then 2 else if x = (wordS 1).data.toList then 1 else 0
/-- How many numbers the line of a kind has. -/
def cntF (k : Int) : Nat := if k = 3 then 4 else if k = 5 then 3 else if k = 4 ∨ k = 2 then 2 else 1
theorem cntF_eq (e : Evt) : (numsF e).length = cntF e.kind := by
  unfold numsF cntF
  rw [List.length_cons]
  by_cases h3 : e.kind = 3
  · rw [if_pos h3, if_pos h3]; rfl
  rw [if_neg h3, if_neg h3]
  by_cases h5 : e.kind = 5
  · rw [if_pos h5, if_pos h5]; rfl
  rw [if_neg h5, if_neg h5]
  by_cases h4 : e.kind = 4 ∨ e.kind = 2
  · rw [if_pos h4, if_pos h4]; rfl
  · rw [if_neg h4, if_neg h4]; rfl
def stpO : Stp := ⟨0, 0, 0, 0⟩
def ordO : Ord := ⟨⟨#[]⟩, [], stpO, stpO, 0, 0, 0, 0, 0, false⟩
/-- An order of its name and numbers. -/
def ordM (nm : By) (k : Nat) (n : List Int) : Ord :=
  let g := fun j => n[k + 1 + j]?.getD 0
  ⟨⟨nm.toArray⟩, (n.drop 1).take k, ⟨g 0, g 1, g 2, g 3⟩, ⟨g 4, g 5, g 6, g 7⟩, g 8, g 9, g 10, g 11, g 12, false⟩
/-- An order of a name and numbers, if they fit. -/
def readN (x : By) (n : List Int) : Option Ord := match n with
  | [] => none
  | c :: _ => if c < 0 ∨ 3 < c ∨ (n.length : Int) ≠ 1 + c + 13 then none else some (ordM x c.toNat n)
/-- An order, read. -/
def readO (l : List By) : Option Ord := match l with
  | [] => none
  | x :: r => if r = [] then none else (readF r).bind (readN x)
theorem readO_cons (x : By) {r : List By} (h : r ≠ []) : readO (x :: r) = (readF r).bind (readN x) := if_neg h
/-- The event of an order. -/
def parse1 (x : By) (o : Ord) : Option Evt := if (numL x).2 = 0 then some ⟨(numL x).1, 1, 0, 0, 0, o⟩ else none
/-- An event of its kind and numbers. -/
def evtM (k : Int) (n : List Int) : Evt :=
  let g := fun j => n[j]?.getD 0
  ⟨g 0, k, g 1, if k = 3 then g 2 else 0, if k = 3 then g 3 else if k = 5 then g 2 else 0, ordO⟩
/-- The event of a kind and numbers, if they fit. -/
def parse2 (k : Int) (n : List Int) : Option Evt := if k = 0 ∨ n.length ≠ cntF k then none else some (evtM k n)
/-- An event, read. -/
def parseF (L : List By) : Option Evt := match L with
  | [] => none
  | x :: r => if r = [] then none
    else if kindF x = 1 then (readO (r.drop 1)).bind (parse1 (r.headD []))
    else (readF r).bind (parse2 (kindF x))
theorem parseF_cons (x : By) {r : List By} (h : r ≠ []) : parseF (x :: r) = if kindF x = 1 then (readO (r.drop 1)).bind (parse1 (r.headD [])) else (readF r).bind (parse2 (kindF x)) := if_neg h
end Go.Proofs.YtofabhenmplkoaaGreatDoor.evt

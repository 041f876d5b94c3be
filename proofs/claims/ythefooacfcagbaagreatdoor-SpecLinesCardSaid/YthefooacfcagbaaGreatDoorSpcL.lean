/- Plain: the texts of lists, stops and points, written and read again. -/
import Derived.Test.YthefooacfcagbaaGreatDoorSpcN
import Derived.Test.YthefooacfcagbaaGreatDoorBase
namespace Go.Proofs.YthefooacfcagbaaGreatDoor.spc
open Go Go.RowKit
open Go.Proofs.YthefooacfcagbaaGreatDoor.txt Go.Proofs.YthefooacfcagbaaGreatDoor.typ Go.Proofs.YthefooacfcagbaaGreatDoor.ord
set_option linter.unusedVariables false
set_option linter.unusedSimpArgs false

def stpN (s : Stp) : List Int := [s.place, s.opn, s.close, s.service]
/-- The text of a list of numbers. -/
def listF (l : List Int) : By := if l = [] then [46] else Lib.join (l.map Lib.itoa) [44]
/-- The text of a stop. -/
def stopF (s : Stp) : By := if s.place = -1 ∧ s.opn = 0 ∧ s.close = 0 ∧ s.service = 0 then [46] else Lib.join ((stpN s).map Lib.itoa) [58]
/-- The text of a point, and of points. -/
def ptF (p : Pt) : By := Lib.itoa p.t ++ 58 :: Lib.itoa p.a
def trvF (l : List Pt) : By := if l = [] then [46] else Lib.join (l.map ptF) [44]
/-- A list, a stop, points, read. -/
def listR (x : By) : Option (List Int) := if x = [46] then some [] else readF (splt 44 x)
def fourR (x : By) : List Int → Option Stp
  | [a, b, c, d] => if stopF ⟨a, b, c, d⟩ = x then some ⟨a, b, c, d⟩ else none
  | _ => none
def stopR (x : By) : Option Stp := if x = [46] then some ⟨-1, 0, 0, 0⟩ else (readF (splt 58 x)).bind (fourR x)
def twoR : List Int → Option Pt
  | [a, b] => some ⟨a, b⟩
  | _ => none
def ptR (x : By) : Option Pt := (readF (splt 58 x)).bind twoR
def ptsL : List By → Option (List Pt)
  | [] => some []
  | x :: r => match ptR x with
    | none => none
    | some p => match ptsL r with
      | none => none
      | some l => some (p :: l)
def trvR (x : By) : Option (List Pt) := if x = [46] then some [] else ptsL (splt 44 x)

theorem mem_join {c y : UInt8} : ∀ {L : List By}, y ∈ Lib.join L [c] → y = c ∨ ∃ x ∈ L, y ∈ x
  | [], h => by simp [Lib.join_nil] at h
  | [x], h => by
    rw [Lib.join_one] at h
    exact .inr ⟨x, List.mem_cons_self .., h⟩
  | x :: z :: r, h => by
    rw [join2, List.mem_append, List.mem_cons] at h
    rcases h with h | rfl | h
    · exact .inr ⟨x, List.mem_cons_self .., h⟩
    · exact .inl rfl
    · rcases mem_join h with h | ⟨u, hu, h⟩
      · exact .inl h
      · exact .inr ⟨u, List.mem_cons_of_mem _ hu, h⟩
theorem join_ne {c : UInt8} {L : List By} (hc : c ≠ 46) (h : ∀ x ∈ L, 46 ∉ x) : Lib.join L [c] ≠ [46] := fun e => by
  rcases mem_join (c := c) (y := 46) (L := L) (by rw [e]; simp) with h1 | ⟨x, hx, h1⟩
  · exact hc h1.symm
  · exact h x hx h1
theorem join_ne_nil {c : UInt8} : ∀ {L : List By}, L ≠ [] → (∀ x ∈ L, x ≠ []) → Lib.join L [c] ≠ []
  | [], h, _ => absurd rfl h
  | [x], _, h => by rw [Lib.join_one]; exact h x (List.mem_cons_self ..)
  | x :: y :: r, _, h => by rw [join2]; simp
theorem dec_no {c : UInt8} (hc : isD c = false) (h45 : c ≠ 45) {l : List Int} : ∀ x ∈ l.map Lib.itoa, c ∉ x := fun x hx => by
  obtain ⟨n, _, rfl⟩ := List.mem_map.1 hx
  exact dig_no hc h45 n
theorem join_word {c : UInt8} (hc : isW c = true) {L : List By} (h0 : L ≠ []) (h : ∀ x ∈ L, wordB x = true) : wordB (Lib.join L [c]) = true := by
  unfold wordB
  rw [Bool.and_eq_true, decide_eq_true_eq]
  refine ⟨join_ne_nil h0 fun x hx => word_ne (h x hx), List.all_eq_true.2 fun y hy => ?_⟩
  rcases mem_join hy with rfl | ⟨x, hx, hy⟩
  · exact hc
  · exact List.all_eq_true.1 (word_all (h x hx)) y hy
theorem decs_word {l : List Int} : ∀ x ∈ l.map Lib.itoa, wordB x = true := fun x hx => by
  obtain ⟨n, _, rfl⟩ := List.mem_map.1 hx
  exact itoa_word n
theorem dot_word : wordB [46] = true := by decide
theorem listF_word (l : List Int) : wordB (listF l) = true := by
  unfold listF
  split
  · exact dot_word
  · exact join_word (by decide) (by simpa using ‹¬ l = []›) decs_word
theorem stopF_word (s : Stp) : wordB (stopF s) = true := by
  unfold stopF
  split
  · exact dot_word
  · exact join_word (by decide) (by simp [stpN]) decs_word
theorem ptF_join (p : Pt) : ptF p = Lib.join ([p.t, p.a].map Lib.itoa) [58] := by
  rw [List.map_cons, List.map_cons, List.map_nil, join2, Lib.join_one]
  rfl
theorem ptF_word (p : Pt) : wordB (ptF p) = true := by
  rw [ptF_join]
  exact join_word (by decide) (by simp) decs_word
theorem trvF_word (l : List Pt) : wordB (trvF l) = true := by
  unfold trvF
  split
  · exact dot_word
  · refine join_word (by decide) (by simpa using ‹¬ l = []›) fun x hx => ?_
    obtain ⟨p, _, rfl⟩ := List.mem_map.1 hx
    exact ptF_word p
theorem ptF_no {c : UInt8} (hc : isD c = false) (h45 : c ≠ 45) (h58 : c ≠ 58) (p : Pt) : c ∉ ptF p := by
  rw [ptF_join]
  intro h
  rcases mem_join h with h | ⟨x, hx, h⟩
  · exact h58 h
  · exact dec_no hc h45 x hx h

theorem listR_listF {l : List Int} (h : ∀ x ∈ l, in64 x) : listR (listF l) = some l := by
  by_cases h0 : l = []
  · subst h0; rfl
  · unfold listR listF
    rw [if_neg h0, if_neg (join_ne (by decide) (dec_no (by decide) (by decide))), splt_join (by simpa using h0) (dec_no (by decide) (by decide)), readF_dec h]
theorem listF_listR {x : By} {l : List Int} (h : listR x = some l) : x = listF l ∧ ∀ y ∈ l, in64 y := by
  unfold listR at h
  split at h
  · rename_i hx
    obtain rfl := Option.some.inj h
    exact ⟨hx, fun y hy => nomatch hy⟩
  · have h1 := dec_readF h
    have h2 := (join_splt 44 x).1
    have h3 := splt_ne 44 x
    rw [h1] at h2 h3
    refine ⟨?_, (readF_len h).2⟩
    unfold listF
    rw [if_neg (by simpa using h3)]
    exact h2.symm
theorem stopR_stopF {s : Stp} (h : StpFits s) : stopR (stopF s) = some s := by
  by_cases h0 : s.place = -1 ∧ s.opn = 0 ∧ s.close = 0 ∧ s.service = 0
  · obtain ⟨a, b, c, d⟩ := s
    obtain ⟨h1, h2, h3, h4⟩ := h0
    dsimp only at h1 h2 h3 h4
    subst h1 h2 h3 h4
    rfl
  · have e : stopF s = Lib.join ((stpN s).map Lib.itoa) [58] := by unfold stopF; rw [if_neg h0]
    have hr : readF (splt 58 (stopF s)) = some (stpN s) := by
      rw [e, splt_join (by simp [stpN]) (dec_no (by decide) (by decide))]
      refine readF_dec fun x hx => ?_
      simp only [stpN, List.mem_cons, List.not_mem_nil, or_false] at hx
      obtain ⟨h1, h2, h3, h4⟩ := h
      rcases hx with rfl | rfl | rfl | rfl <;> assumption
    have hne : stopF s ≠ [46] := by rw [e]; exact join_ne (by decide) (dec_no (by decide) (by decide))
    unfold stopR
    rw [if_neg hne, hr]
    show fourR (stopF s) (stpN s) = some s
    unfold stpN fourR
    exact if_pos rfl
theorem stopF_stopR {x : By} {s : Stp} (h : stopR x = some s) : x = stopF s ∧ StpFits s := by
  unfold stopR at h
  split at h
  · rename_i hx
    obtain rfl := Option.some.inj h
    exact ⟨hx, by unfold StpFits; decide⟩
  · cases hr : readF (splt 58 x) with
    | none => rw [hr] at h; cases h
    | some l =>
      rw [hr] at h
      change fourR x l = some s at h
      have h64 := (readF_len hr).2
      unfold fourR at h
      split at h
      · split at h
        · rename_i he
          obtain rfl := Option.some.inj h
          exact ⟨he.symm, h64 _ (by simp), h64 _ (by simp), h64 _ (by simp), h64 _ (by simp)⟩
        · cases h
      · cases h
theorem ptR_ptF {p : Pt} (h : PtFits p) : ptR (ptF p) = some p := by
  unfold ptR
  rw [ptF_join, splt_join (by simp) (dec_no (by decide) (by decide)), readF_dec (fun x hx => by
    simp only [List.mem_cons, List.not_mem_nil, or_false] at hx
    obtain ⟨h1, h2⟩ := h
    rcases hx with rfl | rfl <;> assumption)]
  rfl
theorem ptF_ptR {x : By} {p : Pt} (h : ptR x = some p) : x = ptF p ∧ PtFits p := by
  unfold ptR at h
  cases hr : readF (splt 58 x) with
  | none => rw [hr] at h; cases h
  | some l =>
    rw [hr] at h
    change twoR l = some p at h
    have h64 := (readF_len hr).2
    have h1 := dec_readF hr
    have h2 := (join_splt 58 x).1
    rw [h1] at h2
    unfold twoR at h
    split at h
    · obtain rfl := Option.some.inj h
      exact ⟨by rw [ptF_join]; exact h2.symm, h64 _ (by simp), h64 _ (by simp)⟩
    · cases h
theorem ptsL_map : ∀ {l : List Pt}, (∀ p ∈ l, PtFits p) → ptsL (l.map ptF) = some l
  | [], _ => rfl
  | p :: r, h => by
    rw [List.map_cons, ptsL, ptR_ptF (h p (List.mem_cons_self ..)), ptsL_map fun q hq => h q (List.mem_cons_of_mem _ hq)]
theorem ptsL_some : ∀ {L : List By} {l : List Pt}, ptsL L = some l → L = l.map ptF ∧ ∀ p ∈ l, PtFits p
  | [], l, h => by
    obtain rfl := Option.some.inj h
    exact ⟨rfl, fun p hp => nomatch hp⟩
  | x :: r, l, h => by
    rw [ptsL] at h
    cases hp : ptR x with
    | none => rw [hp] at h; cases h
    | some p =>
      rw [hp] at h
      cases hr : ptsL r with
      | none => rw [hr] at h; cases h
      | some t =>
        rw [hr] at h
        obtain rfl := Option.some.inj h
        obtain ⟨h1, h2⟩ := ptF_ptR hp
        obtain ⟨h3, h4⟩ := ptsL_some hr
        refine ⟨by rw [List.map_cons, h1, h3], fun q hq => ?_⟩
        rcases List.mem_cons.1 hq with rfl | hq
        · exact h2
        · exact h4 q hq
theorem trvR_trvF {l : List Pt} (h : ∀ p ∈ l, PtFits p) : trvR (trvF l) = some l := by
  by_cases h0 : l = []
  · subst h0; rfl
  · have hm : ∀ (c : UInt8), isD c = false → c ≠ 45 → c ≠ 58 → ∀ x ∈ l.map ptF, c ∉ x := fun c h1 h2 h3 x hx => by
      obtain ⟨p, _, rfl⟩ := List.mem_map.1 hx
      exact ptF_no h1 h2 h3 p
    unfold trvR trvF
    rw [if_neg h0, if_neg (join_ne (by decide) (hm 46 (by decide) (by decide) (by decide))), splt_join (by simpa using h0) (hm 44 (by decide) (by decide) (by decide)), ptsL_map h]
theorem trvF_trvR {x : By} {l : List Pt} (h : trvR x = some l) : x = trvF l ∧ ∀ p ∈ l, PtFits p := by
  unfold trvR at h
  split at h
  · rename_i hx
    obtain rfl := Option.some.inj h
    exact ⟨hx, fun y hy => nomatch hy⟩
  · obtain ⟨h1, h4⟩ := ptsL_some h
    have h2 := (join_splt 44 x).1
    have h3 := splt_ne 44 x
    rw [h1] at h2 h3
    refine ⟨?_, h4⟩
    unfold trvF
    rw [if_neg (by simpa using h3)]
    exact h2.symm
end Go.Proofs.YthefooacfcagbaaGreatDoor.spc

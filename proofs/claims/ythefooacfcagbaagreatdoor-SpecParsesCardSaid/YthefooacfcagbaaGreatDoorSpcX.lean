import Derived.Test.YthefooacfcagbaaGreatDoorStrX
import Derived.Lib.Replace
import Derived.Lib.SplitLaws
import Derived.Lib.IndexBytes
import Derived.Test.YthefooacfcagbaaGreatDoorBase
/- Texts split at a byte; a byte put in another's place. Plain. -/
namespace Go.Proofs.YthefooacfcagbaaGreatDoor.spc
open Go
open txt
set_option linter.unusedVariables false
set_option linter.unusedSimpArgs false
def splt (c : UInt8) : By → List By
 | [] => [[]]
 | x :: l => if x = c then [] :: splt c l else match splt c l with
  | [] => [[x]]
  | p :: ps => (x :: p) :: ps
theorem ix_eq (c : UInt8) (l : By) : Lib.index (c :: l) [c] = 0 := by rw [Lib.index_one]; unfold Lib.indexByte; simp
theorem ix_ne {x c : UInt8} (h : x ≠ c) (l : By) : Lib.index (x :: l) [c] = if Lib.index l [c] = -1 then -1 else Lib.index l [c] + 1 := by
 rw [Lib.index_one, Lib.index_one, Lib.indexByte]
 rw [if_neg (by simpa using h)]
 simp only [beq_iff_eq]
theorem ix_pos {c : UInt8} {l : By} (h : 0 < l.count c) : ∃ i : Nat, Lib.index l [c] = i := Lib.index_of_count (by rw [Lib.count_one]; exact h)
theorem ix_none {c : UInt8} {l : By} (h : l.count c = 0) : Lib.index l [c] = -1 := by
 have hge := Lib.index_ge l [c]
 by_cases hm : Lib.index l [c] = -1
 ·exact hm
 ·have := Lib.count_hit (s := l) (sub := [c]) (i := (Lib.index l [c]).toNat) (by simp) (by omega)
  rw [Lib.count_one, h] at this
  omega
theorem splitK_splt (c : UInt8) : ∀ s : By, Lib.splitK [c] 0 (s.count c) s = splt c s
 | [] => rfl
 | x :: l => by
  have ih := splitK_splt c l
  by_cases hx : x = c
  ·subst hx
   rw [List.count_cons_self, Lib.splitK, ix_eq, if_neg (by decide), splt, if_pos rfl, ← ih]
   rfl
  ·rw [List.count_cons_of_ne hx, splt, if_neg hx, ← ih]
   cases hk : l.count c with
   | zero => rfl
   | succ j =>
    obtain ⟨i, hi⟩ := ix_pos (l := l) (c := c) (by omega)
    have h1 : Lib.index (x :: l) [c] = (i + 1 : Nat) := by rw [ix_ne hx, hi, if_neg (by omega)]; omega
    rw [Lib.splitK, Lib.splitK, h1, hi, if_neg (by rw [beq_iff_eq]; omega), if_neg (by rw [beq_iff_eq]; omega)]
    simp
theorem splt_ne (c : UInt8) (s : By) : splt c s ≠ [] := by
 cases s with
 | nil => simp [splt]
 | cons x l =>
  rw [splt]
  split
  ·simp
  ·split <;> simp
theorem replK_map (c d : UInt8) : ∀ s : By, Lib.replaceK [c] [d] (s.count c) s = s.map fun x => if x = c then d else x
 | [] => rfl
 | x :: l => by
  have ih := replK_map c d l
  by_cases hx : x = c
  ·subst hx
   rw [List.count_cons_self, Lib.replaceK, ix_eq, if_neg (by decide), List.map_cons, if_pos rfl, ← ih]
   rfl
  ·rw [List.count_cons_of_ne hx, List.map_cons, if_neg hx, ← ih]
   cases hk : l.count c with
   | zero => rfl
   | succ j =>
    obtain ⟨i, hi⟩ := ix_pos (l := l) (c := c) (by omega)
    have h1 : Lib.index (x :: l) [c] = (i + 1 : Nat) := by rw [ix_ne hx, hi, if_neg (by omega)]; omega
    rw [Lib.replaceK, Lib.replaceK, h1, hi, if_neg (by rw [beq_iff_eq]; omega), if_neg (by rw [beq_iff_eq]; omega)]
    simp
theorem replAll_map {c d : UInt8} (h : c ≠ d) (s : By) : Lib.replaceAll s [c] [d] = s.map fun x => if x = c then d else x := by
 unfold Lib.replaceAll Lib.replace Lib.replaceNum
 rw [if_neg (by simpa using h), if_pos (.inl (by decide)), Lib.count_one, replK_map]
theorem map_id {c d : UInt8} : ∀ {s : By}, c ∉ s → (s.map fun x => if x = c then d else x) = s
 | [], _ => rfl
 | x :: l, h => by
  rw [List.mem_cons, not_or] at h
  rw [List.map_cons, if_neg (fun e => h.1 e.symm), map_id h.2]
theorem join2 (x y : By) (r : List By) (c : UInt8) : Lib.join (x :: y :: r) [c] = x ++ c :: Lib.join (y :: r) [c] := by
 rw [Lib.join_cons, Lib.join_cons]
 simp [Lib.joinTail]
theorem repl_join {c d : UInt8} (h : c ≠ d) : ∀ L : List By, (∀ x ∈ L, c ∉ x) → Lib.replaceAll (Lib.join L [c]) [c] [d] = Lib.join L [d] := by
 intro L
 rw [replAll_map h]
 induction L with
 | nil => intro _; rfl
 | cons x r ih =>
  intro hL
  have hx := hL x (List.mem_cons_self ..)
  have hr := ih fun y hy => hL y (List.mem_cons_of_mem _ hy)
  cases r with
  | nil => rw [Lib.join_one, Lib.join_one, map_id hx]
  | cons y r => rw [join2, join2, List.map_append, map_id hx, List.map_cons, if_pos rfl, hr]
theorem splt_app {c : UInt8} : ∀ {x : By} (r : By), c ∉ x → splt c (x ++ c :: r) = x :: splt c r
 | [], r, _ => by rw [List.nil_append, splt, if_pos rfl]
 | y :: x, r, h => by
  rw [List.mem_cons, not_or] at h
  rw [List.cons_append, splt, if_neg (fun e => h.1 e.symm), splt_app r h.2]
theorem splt_none {c : UInt8} : ∀ {x : By}, c ∉ x → splt c x = [x]
 | [], _ => rfl
 | y :: x, h => by
  rw [List.mem_cons, not_or] at h
  rw [splt, if_neg (fun e => h.1 e.symm), splt_none h.2]
theorem splt_join {c : UInt8} : ∀ {L : List By}, L ≠ [] → (∀ x ∈ L, c ∉ x) → splt c (Lib.join L [c]) = L
 | [], h, _ => absurd rfl h
 | [x], _, h => by rw [Lib.join_one, splt_none (h x (List.mem_cons_self ..))]
 | x :: y :: r, _, h => by rw [join2, splt_app _ (h x (List.mem_cons_self ..)), splt_join (by simp) fun z hz => h z (List.mem_cons_of_mem _ hz)]
theorem join_splt (c : UInt8) : ∀ s : By, Lib.join (splt c s) [c] = s ∧ ∀ x ∈ splt c s, c ∉ x
 | [] => ⟨rfl, fun x hx => by simp [splt] at hx; subst hx; simp⟩
 | x :: l => by
  obtain ⟨h1, h2⟩ := join_splt c l
  have hne := splt_ne c l
  by_cases hx : x = c
  ·subst hx
   rw [splt, if_pos rfl]
   cases hs : splt x l with
   | nil => exact absurd hs hne
   | cons p ps =>
    rw [hs] at h1 h2
    refine ⟨by rw [join2, h1]; rfl, fun y hy => ?_⟩
    rcases List.mem_cons.1 hy with rfl | hy
    ·simp
    ·exact h2 y hy
  ·rw [splt, if_neg hx]
   cases hs : splt c l with
   | nil => exact absurd hs hne
   | cons p ps =>
    rw [hs] at h1 h2
    dsimp only
    refine ⟨?_, fun y hy => ?_⟩
    ·cases ps with
     | nil => rw [Lib.join_one] at h1 ⊢; rw [h1]
     | cons q ps => rw [join2] at h1 ⊢; rw [List.cons_append, h1]
    ·rcases List.mem_cons.1 hy with rfl | hy
     ·rw [List.mem_cons, not_or]
      exact ⟨fun e => hx e.symm, h2 p (List.mem_cons_self ..)⟩
     ·exact h2 y (List.mem_cons_of_mem _ hy)
end Go.Proofs.YthefooacfcagbaaGreatDoor.spc

/- Plain: numbers and words, read and written. -/
namespace Go.Proofs.YthefooacfcagbaaGreatDoor.spc
open Go Go.RowKit
open txt
set_option linter.unusedVariables false
set_option linter.unusedSimpArgs false
def readF : List By → Option (List Int)
 | [] => some []
 | x :: r => if (numL x).2 = 0 then (match readF r with | none => none | some l => some ((numL x).1 :: l)) else none
theorem numL_in (l : By) : in64 (numL l).1 ∧ 0 ≤ (numL l).2 ∧ (numL l).2 ≤ 4 := by
 unfold numL in64
 simp only []
 split
 ·exact ⟨by decide, by decide, by decide⟩
 split
 ·exact ⟨by decide, by decide, by decide⟩
 split
 ·split
  ·exact ⟨⟨by dsimp only; omega, by dsimp only; omega⟩, Int.le_refl 0, (by decide : (0 : Int) ≤ 4)⟩
  ·exact ⟨by decide, by decide, by decide⟩
 ·split
  ·exact ⟨⟨by dsimp only; omega, by dsimp only; omega⟩, Int.le_refl 0, (by decide : (0 : Int) ≤ 4)⟩
  ·exact ⟨by decide, by decide, by decide⟩
theorem readF_len : ∀ {L : List By} {l : List Int}, readF L = some l → l.length = L.length ∧ ∀ x ∈ l, in64 x
 | [], l, h => by
  obtain rfl := Option.some.inj h
  exact ⟨rfl, fun x hx => by cases hx⟩
 | x :: r, l, h => by
  unfold readF at h
  split at h
  ·split at h
   ·cases h
   ·rename_i l' hl'
    obtain rfl := Option.some.inj h
    obtain ⟨h1, h2⟩ := readF_len hl'
    refine ⟨by rw [List.length_cons, List.length_cons, h1], fun y hy => ?_⟩
    rcases List.mem_cons.1 hy with rfl | hy
    ·exact (numL_in x).1
    ·exact h2 y hy
  ·cases h
theorem readF_dec : ∀ {l : List Int}, (∀ x ∈ l, in64 x) → readF (l.map Lib.itoa) = some l
 | [], _ => rfl
 | x :: r, h => by
  have h1 := num_dec (h x (List.mem_cons_self ..))
  have h2 := readF_dec fun y hy => h y (List.mem_cons_of_mem _ hy)
  rw [List.map_cons]
  unfold readF
  rw [h1, h2]
  rfl
theorem dec_readF : ∀ {L : List By} {l : List Int}, readF L = some l → L = l.map Lib.itoa
 | [], l, h => by
  obtain rfl := Option.some.inj h
  rfl
 | x :: r, l, h => by
  unfold readF at h
  split at h
  ·rename_i h0
   split at h
   ·cases h
   ·rename_i l' hl'
    obtain rfl := Option.some.inj h
    rw [List.map_cons, ← dec_readF hl', ← (dec_num (l := x) (n := (numL x).1) (by rw [← h0])).1]
  ·cases h
theorem isD_isW {c : UInt8} (h : isD c = true) : isW c = true := by
 unfold isD at h
 rw [decide_eq_true_eq] at h
 unfold isW
 rw [decide_eq_true_eq]
 omega
theorem itoa_word (n : Int) : wordB (Lib.itoa n) = true := by
 have hd : ∀ u, (Lib.decDigits u).all isW = true := fun u => all_mono (fun c => isD_isW) (dec_all u)
 unfold wordB Lib.itoa
 rw [Bool.and_eq_true, decide_eq_true_eq]
 split
 ·refine ⟨by simp, ?_⟩
  rw [List.all_cons, Bool.and_eq_true]
  exact ⟨by decide, hd _⟩
 ·exact ⟨dec_ne _, hd _⟩
theorem joinS_inj : ∀ {M M' : List By}, M ≠ [] → M' ≠ [] → (∀ x ∈ M, wordB x = true) → (∀ x ∈ M', wordB x = true) → joinS M = joinS M' → M = M'
 | [], _, h, _, _, _, _ => absurd rfl h
 | x :: r, [], _, h, _, _, _ => absurd rfl h
 | x :: r, y :: t, _, _, hM, hM', e => by
  have h1 := (fst_join (r := r) (hM x (List.mem_cons_self ..))).1
  have h2 := (fst_join (r := t) (hM' y (List.mem_cons_self ..))).1
  rw [e, h2] at h1
  subst h1
  cases r with
  | nil =>
   cases t with
   | nil => rfl
   | cons z t =>
    rw [joinS_one, joinS_cons] at e
    have := congrArg List.length e
    simp at this
  | cons z r =>
   cases t with
   | nil =>
    rw [joinS_one, joinS_cons] at e
    have := congrArg List.length e
    simp at this
   | cons z' t =>
    rw [joinS_cons, joinS_cons] at e
    have e2 := List.append_cancel_left e
    injection e2 with _ e3
    rw [joinS_inj (by simp) (by simp) (fun x hx => hM x (List.mem_cons_of_mem _ hx)) (fun x hx => hM' x (List.mem_cons_of_mem _ hx)) e3]
theorem nDig_le : ∀ (k u : Nat), u < 10 ^ (k + 1) → Lib.nDigits u ≤ k + 1
 | 0, u, h => by rw [Lib.nDigits_small (by omega)]; omega
 | k + 1, u, h => by
  by_cases hu : u < 10
  ·rw [Lib.nDigits_small hu]; omega
  ·rw [Lib.nDigits_big hu]
   have := nDig_le k (u / 10) (by rw [Nat.pow_succ] at h; omega)
   omega
theorem itoa_len {n : Int} (h : in64 n) : (Lib.itoa n).length ≤ 20 := by
 obtain ⟨h0, h1⟩ := h
 unfold Lib.itoa
 split
 ·rw [List.length_cons, Lib.decDigits_length]
  have := nDig_le 18 n.natAbs (by omega)
  omega
 ·rw [Lib.decDigits_length]
  have := nDig_le 18 n.toNat (by omega)
  omega
theorem dig_no {c : UInt8} (hc : isD c = false) (h45 : c ≠ 45) (n : Int) : c ∉ Lib.itoa n := by
 have key : ∀ u, c ∉ Lib.decDigits u := fun u hu => by
  have := List.all_eq_true.1 (dec_all u) c hu
  rw [hc] at this
  cases this
 unfold Lib.itoa
 split
 ·rw [List.mem_cons, not_or]; exact ⟨h45, key _⟩
 ·exact key _
end Go.Proofs.YthefooacfcagbaaGreatDoor.spc

/- Plain: the texts of lists, stops and points, written and read again. -/
namespace Go.Proofs.YthefooacfcagbaaGreatDoor.spc
open Go Go.RowKit
open txt typ ord
set_option linter.unusedVariables false
set_option linter.unusedSimpArgs false
def stpN (s : Stp) : List Int := [s.place, s.opn, s.close, s.service]
def listF (l : List Int) : By := if l = [] then [46] else Lib.join (l.map Lib.itoa) [44]
def stopF (s : Stp) : By := if s.place = -1 ∧ s.opn = 0 ∧ s.close = 0 ∧ s.service = 0 then [46] else Lib.join ((stpN s).map Lib.itoa) [58]
def ptF (p : Pt) : By := Lib.itoa p.t ++ 58 :: Lib.itoa p.a
def trvF (l : List Pt) : By := if l = [] then [46] else Lib.join (l.map ptF) [44]
def listR (x : By) : Option (List Int) := if x = [46] then some [] else readF (splt 44 x)
def fourR (x : By) : List Int → Option Stp
 | [a, b, c, d] => if stopF ⟨a, b, c, d⟩ = x then some ⟨a, b, c, d⟩ else none
 | _ => none
def stopR (x : By) : Option Stp := if x = [46] then some ⟨-1, 0, 0, 0⟩ else (readF (splt 58 x)).bind (fourR x)
def twoR : List Int → Option Pt
 | [a, b] => some ⟨a, b⟩
 | _ => none
def ptR (x : By) : Option Pt := (readF (splt 58 x)).bind twoR
def ptsL : List By → Option (List Pt)
 | [] => some []
 | x :: r => match ptR x with
  | none => none
  | some p => match ptsL r with
   | none => none
   | some l => some (p :: l)
def trvR (x : By) : Option (List Pt) := if x = [46] then some [] else ptsL (splt 44 x)
theorem mem_join {c y : UInt8} : ∀ {L : List By}, y ∈ Lib.join L [c] → y = c ∨ ∃ x ∈ L, y ∈ x
 | [], h => by simp [Lib.join_nil] at h
 | [x], h => by
  rw [Lib.join_one] at h
  exact .inr ⟨x, List.mem_cons_self .., h⟩
 | x :: z :: r, h => by
  rw [join2, List.mem_append, List.mem_cons] at h
  rcases h with h | rfl | h
  ·exact .inr ⟨x, List.mem_cons_self .., h⟩
  ·exact .inl rfl
  ·rcases mem_join h with h | ⟨u, hu, h⟩
   ·exact .inl h
   ·exact .inr ⟨u, List.mem_cons_of_mem _ hu, h⟩
theorem join_ne {c : UInt8} {L : List By} (hc : c ≠ 46) (h : ∀ x ∈ L, 46 ∉ x) : Lib.join L [c] ≠ [46] := fun e => by
 rcases mem_join (c := c) (y := 46) (L := L) (by rw [e]; simp) with h1 | ⟨x, hx, h1⟩
 ·exact hc h1.symm
 ·exact h x hx h1
theorem join_ne_nil {c : UInt8} : ∀ {L : List By}, L ≠ [] → (∀ x ∈ L, x ≠ []) → Lib.join L [c] ≠ []
 | [], h, _ => absurd rfl h
 | [x], _, h => by rw [Lib.join_one]; exact h x (List.mem_cons_self ..)
 | x :: y :: r, _, h => by rw [join2]; simp
theorem dec_no {c : UInt8} (hc : isD c = false) (h45 : c ≠ 45) {l : List Int} : ∀ x ∈ l.map Lib.itoa, c ∉ x := fun x hx => by
 obtain ⟨n, _, rfl⟩ := List.mem_map.1 hx
 exact dig_no hc h45 n
theorem join_word {c : UInt8} (hc : isW c = true) {L : List By} (h0 : L ≠ []) (h : ∀ x ∈ L, wordB x = true) : wordB (Lib.join L [c]) = true := by
 unfold wordB
 rw [Bool.and_eq_true, decide_eq_true_eq]
 refine ⟨join_ne_nil h0 fun x hx => word_ne (h x hx), List.all_eq_true.2 fun y hy => ?_⟩
 rcases mem_join hy with rfl | ⟨x, hx, hy⟩
 ·exact hc
 ·exact List.all_eq_true.1 (word_all (h x hx)) y hy
theorem decs_word {l : List Int} : ∀ x ∈ l.map Lib.itoa, wordB x = true := fun x hx => by
 obtain ⟨n, _, rfl⟩ := List.mem_map.1 hx
 exact itoa_word n
theorem dot_word : wordB [46] = true := by decide
theorem listF_word (l : List Int) : wordB (listF l) = true := by
 unfold listF
 split
 ·exact dot_word
 ·exact join_word (by decide) (by simpa using ‹¬ l = []›) decs_word
theorem stopF_word (s : Stp) : wordB (stopF s) = true := by
 unfold stopF
 split
 ·exact dot_word
 ·exact join_word (by decide) (by simp [stpN]) decs_word
theorem ptF_join (p : Pt) : ptF p = Lib.join ([p.t, p.a].map Lib.itoa) [58] := by
 rw [List.map_cons, List.map_cons, List.map_nil, join2, Lib.join_one]
 rfl
theorem ptF_word (p : Pt) : wordB (ptF p) = true := by
 rw [ptF_join]
 exact join_word (by decide) (by simp) decs_word
theorem trvF_word (l : List Pt) : wordB (trvF l) = true := by
 unfold trvF
 split
 ·exact dot_word
 ·refine join_word (by decide) (by simpa using ‹¬ l = []›) fun x hx => ?_
  obtain ⟨p, _, rfl⟩ := List.mem_map.1 hx
  exact ptF_word p
theorem ptF_no {c : UInt8} (hc : isD c = false) (h45 : c ≠ 45) (h58 : c ≠ 58) (p : Pt) : c ∉ ptF p := by
 rw [ptF_join]
 intro h
 rcases mem_join h with h | ⟨x, hx, h⟩
 ·exact h58 h
 ·exact dec_no hc h45 x hx h
theorem listR_listF {l : List Int} (h : ∀ x ∈ l, in64 x) : listR (listF l) = some l := by
 by_cases h0 : l = []
 ·subst h0; rfl
 ·unfold listR listF
  rw [if_neg h0, if_neg (join_ne (by decide) (dec_no (by decide) (by decide))), splt_join (by simpa using h0) (dec_no (by decide) (by decide)), readF_dec h]
theorem listF_listR {x : By} {l : List Int} (h : listR x = some l) : x = listF l ∧ ∀ y ∈ l, in64 y := by
 unfold listR at h
 split at h
 ·rename_i hx
  obtain rfl := Option.some.inj h
  exact ⟨hx, fun y hy => nomatch hy⟩
 ·have h1 := dec_readF h
  have h2 := (join_splt 44 x).1
  have h3 := splt_ne 44 x
  rw [h1] at h2 h3
  refine ⟨?_, (readF_len h).2⟩
  unfold listF
  rw [if_neg (by simpa using h3)]
  exact h2.symm
theorem stopR_stopF {s : Stp} (h : StpFits s) : stopR (stopF s) = some s := by
 by_cases h0 : s.place = -1 ∧ s.opn = 0 ∧ s.close = 0 ∧ s.service = 0
 ·obtain ⟨a, b, c, d⟩ := s
  obtain ⟨h1, h2, h3, h4⟩ := h0
  dsimp only at h1 h2 h3 h4
  subst h1 h2 h3 h4
  rfl
 ·have e : stopF s = Lib.join ((stpN s).map Lib.itoa) [58] := by unfold stopF; rw [if_neg h0]
  have hr : readF (splt 58 (stopF s)) = some (stpN s) := by
   rw [e, splt_join (by simp [stpN]) (dec_no (by decide) (by decide))]
   refine readF_dec fun x hx => ?_
   simp only [stpN, List.mem_cons, List.not_mem_nil, or_false] at hx
   obtain ⟨h1, h2, h3, h4⟩ := h
   rcases hx with rfl | rfl | rfl | rfl <;> assumption
  have hne : stopF s ≠ [46] := by rw [e]; exact join_ne (by decide) (dec_no (by decide) (by decide))
  unfold stopR
  rw [if_neg hne, hr]
  show fourR (stopF s) (stpN s) = some s
  unfold stpN fourR
  exact if_pos rfl
theorem stopF_stopR {x : By} {s : Stp} (h : stopR x = some s) : x = stopF s ∧ StpFits s := by
 unfold stopR at h
 split at h
 ·rename_i hx
  obtain rfl := Option.some.inj h
  exact ⟨hx, by unfold StpFits; decide⟩
 ·cases hr : readF (splt 58 x) with
  | none => rw [hr] at h; cases h
  | some l =>
   rw [hr] at h
   change fourR x l = some s at h
   have h64 := (readF_len hr).2
   unfold fourR at h
   split at h
   ·split at h
    ·rename_i he
     obtain rfl := Option.some.inj h
     exact ⟨he.symm, h64 _ (by simp), h64 _ (by simp), h64 _ (by simp), h64 _ (by simp)⟩
    ·cases h
   ·cases h
theorem ptR_ptF {p : Pt} (h : PtFits p) : ptR (ptF p) = some p := by
 unfold ptR
 rw [ptF_join, splt_join (by simp) (dec_no (by decide) (by decide)), readF_dec (fun x hx => by
  simp only [List.mem_cons, List.not_mem_nil, or_false] at hx
  obtain ⟨h1, h2⟩ := h
  rcases hx with rfl | rfl <;> assumption)]
 rfl
theorem ptF_ptR {x : By} {p : Pt} (h : ptR x = some p) : x = ptF p ∧ PtFits p := by
 unfold ptR at h
 cases hr : readF (splt 58 x) with
 | none => rw [hr] at h; cases h
 | some l =>
  rw [hr] at h
  change twoR l = some p at h
  have h64 := (readF_len hr).2
  have h1 := dec_readF hr
  have h2 := (join_splt 58 x).1
  rw [h1] at h2
  unfold twoR at h
  split at h
  ·obtain rfl := Option.some.inj h
   exact ⟨by rw [ptF_join]; exact h2.symm, h64 _ (by simp), h64 _ (by simp)⟩
  ·cases h
theorem ptsL_map : ∀ {l : List Pt}, (∀ p ∈ l, PtFits p) → ptsL (l.map ptF) = some l
 | [], _ => rfl
 | p :: r, h => by
  rw [List.map_cons, ptsL, ptR_ptF (h p (List.mem_cons_self ..)), ptsL_map fun q hq => h q (List.mem_cons_of_mem _ hq)]
theorem ptsL_some : ∀ {L : List By} {l : List Pt}, ptsL L = some l → L = l.map ptF ∧ ∀ p ∈ l, PtFits p
 | [], l, h => by
  obtain rfl := Option.some.inj h
  exact ⟨rfl, fun p hp => nomatch hp⟩
 | x :: r, l, h => by
  rw [ptsL] at h
  cases hp : ptR x with
  | none => rw [hp] at h; cases h
  | some p =>
   rw [hp] at h
   cases hr : ptsL r with
   | none => rw [hr] at h; cases h
   | some t =>
    rw [hr] at h
    obtain rfl := Option.some.inj h
    obtain ⟨h1, h2⟩ := ptF_ptR hp
    obtain ⟨h3, h4⟩ := ptsL_some hr
    refine ⟨by rw [List.map_cons, h1, h3], fun q hq => ?_⟩
    rcases List.mem_cons.1 hq with rfl | hq
    ·exact h2
    ·exact h4 q hq
theorem trvR_trvF {l : List Pt} (h : ∀ p ∈ l, PtFits p) : trvR (trvF l) = some l := by
 by_cases h0 : l = []
 ·subst h0; rfl
 ·have hm : ∀ (c : UInt8), isD c = false → c ≠ 45 → c ≠ 58 → ∀ x ∈ l.map ptF, c ∉ x := fun c h1 h2 h3 x hx => by
   obtain ⟨p, _, rfl⟩ := List.mem_map.1 hx
   exact ptF_no h1 h2 h3 p
  unfold trvR trvF
  rw [if_neg h0, if_neg (join_ne (by decide) (hm 46 (by decide) (by decide) (by decide))), splt_join (by simpa using h0) (hm 44 (by decide) (by decide) (by decide)), ptsL_map h]
theorem trvF_trvR {x : By} {l : List Pt} (h : trvR x = some l) : x = trvF l ∧ ∀ p ∈ l, PtFits p := by
 unfold trvR at h
 split at h
 ·rename_i hx
  obtain rfl := Option.some.inj h
  exact ⟨hx, fun y hy => nomatch hy⟩
 ·obtain ⟨h1, h4⟩ := ptsL_some h
  have h2 := (join_splt 44 x).1
  have h3 := splt_ne 44 x
  rw [h1] at h2 h3
  refine ⟨?_, h4⟩
  unfold trvF
  rw [if_neg (by simpa using h3)]
  exact h2.symm
end Go.Proofs.YthefooacfcagbaaGreatDoor.spc

/- Plain: the lines of the text of an instance; texts read, line by line. -/
namespace Go.Proofs.YthefooacfcagbaaGreatDoor.spc
open Go Go.RowKit
open txt typ
set_option linter.unusedVariables false
set_option linter.unusedSimpArgs false
def kwP : By := [112, 108, 97, 99, 101]
def kwA : By := [97, 114, 99]
def kwT : By := [116, 121, 112, 101]
def kwO : By := [111, 114, 100, 101, 114]
def kwX : By := [97, 112, 97, 114, 116]
def kwB : By := [98, 101, 102, 111, 114, 101]
def kwE : By := [101, 110, 100]
def onW : By := [111, 110]
def offW : By := [111, 102, 102]
inductive Lin where
 | place (s : ByteArray)
 | arc (a : Arc)
 | type (t : Ty)
 | order (o : Ord)
 | apart (p : Int × Int)
 | before (p : Int × Int)
 | fin
def arcW (a : Arc) : List By := [Lib.itoa a.frm, Lib.itoa a.to, Lib.itoa a.profile, Lib.itoa a.miles, trvF a.travel, trvF a.slow]
def typeW (t : Ty) : List By := [t.name.data.toList, Lib.itoa t.count, Lib.itoa t.frm, Lib.itoa t.to, listF t.cap, Lib.itoa t.skills, Lib.itoa t.profile, Lib.itoa t.opn, Lib.itoa t.close, Lib.itoa t.drive, Lib.itoa t.rest, Lib.itoa t.fixed, Lib.itoa t.mile, Lib.itoa t.tick]
def stateW (b : Bool) : By := if b = true then offW else onW
def orderW (o : Ord) : List By := [o.name.data.toList, listF o.load, stopF o.pick, stopF o.drop, Lib.itoa o.skills, Lib.itoa o.penalty, Lib.itoa o.split, Lib.itoa o.last, Lib.itoa o.now, stateW o.off]
def pairW (p : Int × Int) : List By := [Lib.itoa p.1, Lib.itoa p.2]
def Lin.words : Lin → List By
 | .place s => [kwP, s.data.toList]
 | .arc a => kwA :: arcW a
 | .type t => kwT :: typeW t
 | .order o => kwO :: orderW o
 | .apart p => kwX :: pairW p
 | .before p => kwB :: pairW p
 | .fin => [kwE]
def Lin.rank : Lin → Nat
 | .place _ => 1
 | .arc _ => 2
 | .type _ => 3
 | .order _ => 4
 | .apart _ => 5
 | .before _ => 6
 | .fin => 7
def pairOk (p : Int × Int) : Prop := in64 p.1 ∧ in64 p.2
def arcOk (a : Arc) : Prop := ArcFits a ∧ (∀ p ∈ a.travel, PtFits p) ∧ ∀ p ∈ a.slow, PtFits p
def nameOk (s : ByteArray) : Prop := wordB s.data.toList = true ∧ s.size ≤ 140737488351232
def tyOk (t : Ty) : Prop := wordB t.name.data.toList = true ∧ TyFits t ∧ ∀ x ∈ t.cap, in64 x
def ordOk (o : Ord) : Prop := wordB o.name.data.toList = true ∧ OrdFits o ∧ ∀ x ∈ o.load, in64 x
def Lin.ok : Lin → Prop
 | .place s => nameOk s
 | .arc a => arcOk a
 | .type t => tyOk t
 | .order o => ordOk o
 | .apart p => pairOk p
 | .before p => pairOk p
 | .fin => True
def Lin.add (x : Ins) : Lin → Ins
 | .place s => { x with net := { x.net with places := x.net.places ++ [s] } }
 | .arc a => { x with net := { x.net with arcs := x.net.arcs ++ [a] } }
 | .type t => { x with types := x.types ++ [t] }
 | .order o => { x with orders := x.orders ++ [o] }
 | .apart p => { x with apart := x.apart ++ [p] }
 | .before p => { x with before := x.before ++ [p] }
 | .fin => x
theorem rank_le (r : Lin) : 1 ≤ r.rank ∧ r.rank ≤ 7 := by cases r <;> (simp only [Lin.rank]; omega)
theorem state_word (b : Bool) : wordB (stateW b) = true := by cases b <;> decide
theorem words_word {r : Lin} (h : r.ok) : ∀ x ∈ r.words, wordB x = true := by
 cases r with
 | place s =>
  intro x hx
  simp only [Lin.words, List.mem_cons, List.not_mem_nil, or_false] at hx
  rcases hx with rfl | rfl
  ·decide
  ·exact h.1
 | arc a =>
  intro x hx
  simp only [Lin.words, arcW, List.mem_cons, List.not_mem_nil, or_false] at hx
  rcases hx with rfl | rfl | rfl | rfl | rfl | rfl | rfl
  ·decide
  all_goals first | exact itoa_word _ | exact trvF_word _
 | type t =>
  intro x hx
  simp only [Lin.words, typeW, List.mem_cons, List.not_mem_nil, or_false] at hx
  rcases hx with rfl | rfl | rfl | rfl | rfl | rfl | rfl | rfl | rfl | rfl | rfl | rfl | rfl | rfl | rfl
  ·decide
  ·exact h.1
  all_goals first | exact itoa_word _ | exact listF_word _
 | order o =>
  intro x hx
  simp only [Lin.words, orderW, List.mem_cons, List.not_mem_nil, or_false] at hx
  rcases hx with rfl | rfl | rfl | rfl | rfl | rfl | rfl | rfl | rfl | rfl | rfl
  ·decide
  ·exact h.1
  all_goals first | exact itoa_word _ | exact listF_word _ | exact stopF_word _ | exact state_word _
 | apart p =>
  intro x hx
  simp only [Lin.words, pairW, List.mem_cons, List.not_mem_nil, or_false] at hx
  rcases hx with rfl | rfl | rfl
  ·decide
  all_goals exact itoa_word _
 | before p =>
  intro x hx
  simp only [Lin.words, pairW, List.mem_cons, List.not_mem_nil, or_false] at hx
  rcases hx with rfl | rfl | rfl
  ·decide
  all_goals exact itoa_word _
 | fin =>
  intro x hx
  simp only [Lin.words, List.mem_cons, List.not_mem_nil, or_false] at hx
  subst hx
  decide
theorem words_ne (r : Lin) : r.words ≠ [] := by cases r <;> simp [Lin.words]
theorem itoa_inj {a b : Int} (ha : in64 a) (hb : in64 b) (h : Lib.itoa a = Lib.itoa b) : a = b := by
 have h1 := num_dec ha
 rw [h, num_dec hb] at h1
 exact (congrArg Prod.fst h1).symm
theorem listF_inj {a b : List Int} (ha : ∀ x ∈ a, in64 x) (hb : ∀ x ∈ b, in64 x) (h : listF a = listF b) : a = b := by
 have h1 := listR_listF ha
 rw [h, listR_listF hb] at h1
 exact (Option.some.inj h1).symm
theorem stopF_inj {a b : Stp} (ha : StpFits a) (hb : StpFits b) (h : stopF a = stopF b) : a = b := by
 have h1 := stopR_stopF ha
 rw [h, stopR_stopF hb] at h1
 exact (Option.some.inj h1).symm
theorem trvF_inj {a b : List Pt} (ha : ∀ x ∈ a, PtFits x) (hb : ∀ x ∈ b, PtFits x) (h : trvF a = trvF b) : a = b := by
 have h1 := trvR_trvF ha
 rw [h, trvR_trvF hb] at h1
 exact (Option.some.inj h1).symm
theorem bytes_inj {a b : ByteArray} (h : a.data.toList = b.data.toList) : a = b := by
 obtain ⟨⟨a⟩⟩ := a
 obtain ⟨⟨b⟩⟩ := b
 cases h
 rfl
theorem state_inj {a b : Bool} (h : stateW a = stateW b) : a = b := by
 cases a <;> cases b
 ·rfl
 ·exact absurd h (by decide)
 ·exact absurd h (by decide)
 ·rfl
theorem arcW_inj {a b : Arc} (ha : arcOk a) (hb : arcOk b) (h : arcW a = arcW b) : a = b := by
 obtain ⟨⟨a1, a2, a3, a4⟩, a5, a6⟩ := ha
 obtain ⟨⟨b1, b2, b3, b4⟩, b5, b6⟩ := hb
 simp only [arcW, List.cons.injEq, and_true] at h
 obtain ⟨h1, h2, h3, h4, h5, h6⟩ := h
 have e1 := itoa_inj a1 b1 h1
 have e2 := itoa_inj a2 b2 h2
 have e3 := itoa_inj a3 b3 h3
 have e4 := itoa_inj a4 b4 h4
 have e5 := trvF_inj a5 b5 h5
 have e6 := trvF_inj a6 b6 h6
 obtain ⟨_, _, _, _, _, _⟩ := a
 obtain ⟨_, _, _, _, _, _⟩ := b
 dsimp only at e1 e2 e3 e4 e5 e6
 subst e1 e2 e3 e4 e5 e6
 rfl
theorem typeW_inj {a b : Ty} (ha : tyOk a) (hb : tyOk b) (h : typeW a = typeW b) : a = b := by
 obtain ⟨_, ⟨_, a2, a3, a4, a6, a7, a8, a9, a10, a11, a12, a13, a14⟩, a5⟩ := ha
 obtain ⟨_, ⟨_, b2, b3, b4, b6, b7, b8, b9, b10, b11, b12, b13, b14⟩, b5⟩ := hb
 simp only [typeW, List.cons.injEq, and_true] at h
 obtain ⟨h1, h2, h3, h4, h5, h6, h7, h8, h9, h10, h11, h12, h13, h14⟩ := h
 have e1 := bytes_inj h1
 have e2 := itoa_inj a2 b2 h2
 have e3 := itoa_inj a3 b3 h3
 have e4 := itoa_inj a4 b4 h4
 have e5 := listF_inj a5 b5 h5
 have e6 := itoa_inj a6 b6 h6
 have e7 := itoa_inj a7 b7 h7
 have e8 := itoa_inj a8 b8 h8
 have e9 := itoa_inj a9 b9 h9
 have e10 := itoa_inj a10 b10 h10
 have e11 := itoa_inj a11 b11 h11
 have e12 := itoa_inj a12 b12 h12
 have e13 := itoa_inj a13 b13 h13
 have e14 := itoa_inj a14 b14 h14
 obtain ⟨_, _, _, _, _, _, _, _, _, _, _, _, _, _⟩ := a
 obtain ⟨_, _, _, _, _, _, _, _, _, _, _, _, _, _⟩ := b
 dsimp only at e1 e2 e3 e4 e5 e6 e7 e8 e9 e10 e11 e12 e13 e14
 subst e1 e2 e3 e4 e5 e6 e7 e8 e9 e10 e11 e12 e13 e14
 rfl
theorem orderW_inj {a b : Ord} (ha : ordOk a) (hb : ordOk b) (h : orderW a = orderW b) : a = b := by
 obtain ⟨_, ⟨_, a3, a4, a5, a6, a7, a8, a9⟩, a2⟩ := ha
 obtain ⟨_, ⟨_, b3, b4, b5, b6, b7, b8, b9⟩, b2⟩ := hb
 simp only [orderW, List.cons.injEq, and_true] at h
 obtain ⟨h1, h2, h3, h4, h5, h6, h7, h8, h9, h10⟩ := h
 have e1 := bytes_inj h1
 have e2 := listF_inj a2 b2 h2
 have e3 := stopF_inj a3 b3 h3
 have e4 := stopF_inj a4 b4 h4
 have e5 := itoa_inj a5 b5 h5
 have e6 := itoa_inj a6 b6 h6
 have e7 := itoa_inj a7 b7 h7
 have e8 := itoa_inj a8 b8 h8
 have e9 := itoa_inj a9 b9 h9
 have e10 := state_inj h10
 obtain ⟨_, _, _, _, _, _, _, _, _, _⟩ := a
 obtain ⟨_, _, _, _, _, _, _, _, _, _⟩ := b
 dsimp only at e1 e2 e3 e4 e5 e6 e7 e8 e9 e10
 subst e1 e2 e3 e4 e5 e6 e7 e8 e9 e10
 rfl
theorem pairW_inj {a b : Int × Int} (ha : pairOk a) (hb : pairOk b) (h : pairW a = pairW b) : a = b := by
 simp only [pairW, List.cons.injEq, and_true] at h
 have e1 := itoa_inj ha.1 hb.1 h.1
 have e2 := itoa_inj ha.2 hb.2 h.2
 obtain ⟨_, _⟩ := a
 obtain ⟨_, _⟩ := b
 dsimp only at e1 e2
 subst e1 e2
 rfl
theorem words_inj {r r' : Lin} (h : r.ok) (h' : r'.ok) (e : r.words = r'.words) : r = r' := by
 cases r <;> cases r' <;> (simp only [Lin.words] at e)
 case place.place s s' =>
  injection e with _ e
  injection e with e _
  rw [bytes_inj e]
 case arc.arc a a' => injection e with _ e; rw [arcW_inj h h' e]
 case type.type a a' => injection e with _ e; rw [typeW_inj h h' e]
 case order.order a a' => injection e with _ e; rw [orderW_inj h h' e]
 case apart.apart a a' => injection e with _ e; rw [pairW_inj h h' e]
 case before.before a a' => injection e with _ e; rw [pairW_inj h h' e]
 case fin.fin => rfl
 all_goals (injection e with e _; exact absurd e (by decide))
def LineOf (s : By) (r : Lin) : Prop := s = joinS r.words ∧ r.ok
theorem LineOf.one {s : By} {r r' : Lin} (h : LineOf s r) (h' : LineOf s r') : r = r' :=
 words_inj h.2 h'.2 (joinS_inj (words_ne r) (words_ne r') (words_word h.2) (words_word h'.2) (h.1.symm.trans h'.1))
open Classical in
noncomputable def rowO (s : By) : Option Lin := if h : ∃ r, LineOf s r then some h.choose else none
theorem rowO_of {s : By} {r : Lin} (h : LineOf s r) : rowO s = some r := by
 have he : ∃ r, LineOf s r := ⟨r, h⟩
 unfold rowO
 rw [dif_pos he, he.choose_spec.one h]
theorem of_rowO {s : By} {r : Lin} (h : rowO s = some r) : LineOf s r := by
 unfold rowO at h
 split at h
 ·rename_i he
  obtain rfl := Option.some.inj h
  exact he.choose_spec
 ·cases h
theorem rowO_none {s : By} (h : ∀ r, ¬ LineOf s r) : rowO s = none := by
 unfold rowO
 rw [dif_neg (fun ⟨r, hr⟩ => h r hr)]
def LineOk (s : By) (r : Option Lin) : Prop := (∀ x, r = some x → LineOf s x) ∧ (r = none → ∀ x, ¬ LineOf s x)
theorem LineOk.row {s : By} {r : Option Lin} (h : LineOk s r) : r = rowO s := by
 cases r with
 | none => exact (rowO_none (h.2 rfl)).symm
 | some x => exact (rowO_of (h.1 x rfl)).symm
theorem LineOk.words {s : By} {r : Option (List By)} (hr : WordsOk s r) {x : Lin} (h : LineOf s x) : r = some x.words := hr.words _ (words_ne x) (words_word h.2) h.1
noncomputable def prsP : List By → Nat → Nat → Ins → Option Ins × Nat
 | [], n, _, _ => (none, n)
 | [_], n, _, _ => (none, n)
 | l :: m :: ls, n, last, x => match rowO l with
  | none => (none, n)
  | some r => if r.rank < last then (none, n) else if r.rank = 7 then (if m :: ls = [[]] then (some x, 0) else (none, n + 1)) else prsP (m :: ls) (n + 1) r.rank (r.add x)
def rowsI (x : Ins) : List Lin := x.net.places.map .place ++ (x.net.arcs.map .arc ++ (x.types.map .type ++ (x.orders.map .order ++ (x.apart.map .apart ++ x.before.map .before))))
def lineB (r : Lin) : By := joinS r.words ++ [10]
def linesB (L : List Lin) : By := (L.map lineB).flatten
def textI (x : Ins) : By := linesB (rowsI x ++ [.fin])
def nilX : Ins := ⟨⟨[], []⟩, [], [], [], []⟩
def insOk (x : Ins) : Prop := ∀ r ∈ rowsI x, r.ok
theorem linesB_cons (r : Lin) (L : List Lin) : linesB (r :: L) = joinS r.words ++ 10 :: linesB L := by
 unfold linesB lineB
 rw [List.map_cons, List.flatten_cons, List.append_assoc]
 rfl
theorem no10 {r : Lin} (h : r.ok) : (10 : UInt8) ∉ joinS r.words := fun hm => by
 rcases mem_join hm with h1 | ⟨x, hx, h1⟩
 ·exact absurd h1 (by decide)
 ·exact absurd (List.all_eq_true.1 (word_all (words_word h x hx)) _ h1) (by decide)
theorem splt_line {r : Lin} (h : r.ok) (L : List Lin) : splt 10 (linesB (r :: L)) = joinS r.words :: splt 10 (linesB L) := by
 rw [linesB_cons, splt_app _ (no10 h)]
def Up : Nat → List Lin → Prop
 | _, [] => True
 | k, r :: L => k ≤ r.rank ∧ r.rank ≠ 7 ∧ Up r.rank L
theorem prsP_lines : ∀ (L : List Lin) (n k : Nat) (x : Ins), (∀ r ∈ L, r.ok) → Up k L → k ≤ 7 → prsP (splt 10 (linesB (L ++ [.fin]))) n k x = (some (L.foldl Lin.add x), 0)
 | [], n, k, x, _, _, hk => by
  have hf : Lin.ok .fin := trivial
  rw [List.nil_append, splt_line hf, show linesB [] = [] from rfl, splt, prsP, rowO_of ⟨rfl, hf⟩]
  dsimp only
  rw [if_neg (by show ¬ 7 < k; omega), if_pos (show Lin.fin.rank = 7 from rfl)]
  rfl
 | r :: L, n, k, x, hL, hu, hk => by
  have hr := hL r (List.mem_cons_self ..)
  obtain ⟨h1, h2, h3⟩ := hu
  have hne := splt_ne 10 (linesB (L ++ [.fin]))
  rw [List.cons_append, splt_line hr]
  cases hs : splt 10 (linesB (L ++ [.fin])) with
  | nil => exact absurd hs hne
  | cons m ls =>
   rw [prsP, rowO_of ⟨rfl, hr⟩]
   dsimp only
   rw [if_neg (by omega), if_neg h2, ← hs, prsP_lines L (n + 1) r.rank (r.add x) (fun y hy => hL y (List.mem_cons_of_mem _ hy)) h3 (rank_le r).2]
   rfl
theorem lines_prsP : ∀ (P : List By) (s : By) (n k : Nat) (x y : Ins) (j : Nat), splt 10 s = P → prsP P n k x = (some y, j) → ∃ L : List Lin, (∀ r ∈ L, r.ok) ∧ Up k L ∧ s = linesB (L ++ [.fin]) ∧ y = L.foldl Lin.add x ∧ j = 0
 | [], s, n, k, x, y, j, hs, h => by cases h
 | [_], s, n, k, x, y, j, hs, h => by cases h
 | l :: m :: ls, s, n, k, x, y, j, hs, h => by
  rw [prsP] at h
  have hj := (join_splt 10 s).1
  rw [hs, join2] at hj
  cases ho : rowO l with
  | none => rw [ho] at h; cases h
  | some r =>
   rw [ho] at h
   dsimp only at h
   have hl := of_rowO ho
   split at h
   ·cases h
   ·rename_i hk
    split at h
    ·rename_i h7
     split at h
     ·rename_i hm
      cases h
      refine ⟨[], (fun r hr => by cases hr), trivial, ?_, rfl, rfl⟩
      have hr : r = .fin := by cases r <;> first | rfl | (simp [Lin.rank] at h7)
      rw [← hj, hm, hl.1, hr, List.nil_append, linesB_cons, Lib.join_one]
      rfl
     ·cases h
    ·rename_i h7
     have hsp : splt 10 (Lib.join (m :: ls) [10]) = m :: ls := splt_join (by simp) fun z hz => (join_splt 10 s).2 z (by rw [hs]; exact List.mem_cons_of_mem _ hz)
     obtain ⟨L, h1, h2, h3, h4, h5⟩ := lines_prsP (m :: ls) _ (n + 1) r.rank (r.add x) y j hsp h
     refine ⟨r :: L, fun z hz => ?_, ⟨by omega, h7, h2⟩, ?_, h4, h5⟩
     ·rcases List.mem_cons.1 hz with rfl | hz
      ·exact hl.2
      ·exact h1 z hz
     ·rw [← hj, h3, hl.1, List.cons_append, linesB_cons]
def Upto (k : Nat) (x : Ins) : Prop := (k < 1 → x.net.places = []) ∧ (k < 2 → x.net.arcs = []) ∧ (k < 3 → x.types = []) ∧ (k < 4 → x.orders = []) ∧ (k < 5 → x.apart = []) ∧ (k < 6 → x.before = [])
theorem rowsI_add {r : Lin} {k : Nat} {x : Ins} (h : Upto k x) (hk : k ≤ r.rank) (h7 : r.rank ≠ 7) : rowsI (r.add x) = rowsI x ++ [r] ∧ Upto r.rank (r.add x) := by
 obtain ⟨h1, h2, h3, h4, h5, h6⟩ := h
 cases r with
 | place s =>
  have hk' : k ≤ 1 := hk
  rw [Lin.add]
  unfold rowsI Upto
  simp [h2 (by omega), h3 (by omega), h4 (by omega), h5 (by omega), h6 (by omega), Lin.rank]
 | arc a =>
  have hk' : k ≤ 2 := hk
  rw [Lin.add]
  unfold rowsI Upto
  simp [h3 (by omega), h4 (by omega), h5 (by omega), h6 (by omega), Lin.rank]
 | type t =>
  have hk' : k ≤ 3 := hk
  rw [Lin.add]
  unfold rowsI Upto
  simp [h4 (by omega), h5 (by omega), h6 (by omega), Lin.rank]
 | order o =>
  have hk' : k ≤ 4 := hk
  rw [Lin.add]
  unfold rowsI Upto
  simp [h5 (by omega), h6 (by omega), Lin.rank]
 | apart p =>
  have hk' : k ≤ 5 := hk
  rw [Lin.add]
  unfold rowsI Upto
  simp [h6 (by omega), Lin.rank]
 | before p =>
  rw [Lin.add]
  unfold rowsI Upto
  simp [Lin.rank]
 | fin => exact absurd rfl h7
theorem rowsI_fold : ∀ (L : List Lin) (k : Nat) (x : Ins), Upto k x → Up k L → rowsI (L.foldl Lin.add x) = rowsI x ++ L
 | [], k, x, _, _ => by simp
 | r :: L, k, x, h, hu => by
  obtain ⟨h1, h2, h3⟩ := hu
  obtain ⟨h4, h5⟩ := rowsI_add h h1 h2
  rw [List.foldl_cons, rowsI_fold L _ _ h5 h3, h4, List.append_assoc]
  rfl
theorem upto_nil : Upto 0 nilX := ⟨fun _ => rfl, fun _ => rfl, fun _ => rfl, fun _ => rfl, fun _ => rfl, fun _ => rfl⟩
theorem fold_app {α : Type} (f : α → Lin) (g : Ins → List α → Ins) (hg : ∀ x l a, (f a).add (g x l) = g x (l ++ [a])) (h0 : ∀ x, g x [] = x) (x : Ins) (l : List α) : (l.map f).foldl Lin.add x = g x l := by
 have key : ∀ (l m : List α), (l.map f).foldl Lin.add (g x m) = g x (m ++ l) := by
  intro l
  induction l with
  | nil => intro m; simp
  | cons a l ih => intro m; rw [List.map_cons, List.foldl_cons, hg, ih]; simp
 have := key l []
 rw [h0, List.nil_append] at this
 exact this
theorem fold_rowsI (x : Ins) : (rowsI x).foldl Lin.add nilX = x := by
 obtain ⟨⟨P, A⟩, T, O, X, B⟩ := x
 unfold rowsI
 simp only [List.foldl_append]
 rw [fold_app .place (fun x l => { x with net := { x.net with places := x.net.places ++ l } }) (by intros; simp [Lin.add]) (by intros; simp)]
 rw [fold_app .arc (fun x l => { x with net := { x.net with arcs := x.net.arcs ++ l } }) (by intros; simp [Lin.add]) (by intros; simp)]
 rw [fold_app .type (fun x l => { x with types := x.types ++ l }) (by intros; simp [Lin.add]) (by intros; simp)]
 rw [fold_app .order (fun x l => { x with orders := x.orders ++ l }) (by intros; simp [Lin.add]) (by intros; simp)]
 rw [fold_app .apart (fun x l => { x with apart := x.apart ++ l }) (by intros; simp [Lin.add]) (by intros; simp)]
 rw [fold_app .before (fun x l => { x with before := x.before ++ l }) (by intros; simp [Lin.add]) (by intros; simp)]
 rfl
theorem up_map {α : Type} (f : α → Lin) (j : Nat) (hj : ∀ a, (f a).rank = j) (h7 : j ≠ 7) : ∀ (l : List α) (k : Nat) (M : List Lin), k ≤ j → (∀ i, i ≤ j → Up i M) → Up k (l.map f ++ M)
 | [], k, M, hk, hM => hM k hk
 | a :: l, k, M, hk, hM => ⟨by rw [hj]; exact hk, by rw [hj]; exact h7, by rw [hj]; exact up_map f j hj h7 l j M (Nat.le_refl _) hM⟩
theorem up_rowsI (x : Ins) : Up 0 (rowsI x) := by
 unfold rowsI
 refine up_map _ 1 (fun _ => rfl) (by decide) _ _ _ (by decide) fun i hi => ?_
 refine up_map _ 2 (fun _ => rfl) (by decide) _ _ _ (by omega) fun i hi => ?_
 refine up_map _ 3 (fun _ => rfl) (by decide) _ _ _ (by omega) fun i hi => ?_
 refine up_map _ 4 (fun _ => rfl) (by decide) _ _ _ (by omega) fun i hi => ?_
 refine up_map _ 5 (fun _ => rfl) (by decide) _ _ _ (by omega) fun i hi => ?_
 have := up_map .before 6 (fun _ => rfl) (by decide) x.before i [] (by omega) (fun _ _ => trivial)
 rwa [List.append_nil] at this
theorem prs_text {x : Ins} (h : insOk x) : prsP (splt 10 (textI x)) 1 0 nilX = (some x, 0) := by
 unfold textI
 rw [prsP_lines (rowsI x) 1 0 nilX h (up_rowsI x) (by decide), fold_rowsI]
theorem text_prs {s : By} {y : Ins} {j : Nat} (h : prsP (splt 10 s) 1 0 nilX = (some y, j)) : s = textI y ∧ insOk y := by
 obtain ⟨L, h1, h2, h3, h4, h5⟩ := lines_prsP _ s 1 0 nilX y j rfl h
 have e : rowsI y = L := by rw [h4, rowsI_fold L 0 nilX upto_nil h2]; rfl
 refine ⟨by unfold textI; rw [e, h3], ?_⟩
 unfold insOk
 rw [e]
 exact h1
end Go.Proofs.YthefooacfcagbaaGreatDoor.spc

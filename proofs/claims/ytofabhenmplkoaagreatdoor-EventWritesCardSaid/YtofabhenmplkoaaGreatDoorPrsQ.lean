/- Plain: lines of events and events: each line is that of one event. -/
import Derived.Test.YtofabhenmplkoaaGreatDoorPrsP
namespace Go.Proofs.YtofabhenmplkoaaGreatDoor.evt
open Go Go.RowKit
open Go.Proofs.YtofabhenmplkoaaGreatDoor.typ Go.Proofs.YtofabhenmplkoaaGreatDoor.txt
set_option linter.unusedVariables false
set_option linter.unusedSimpArgs false

/-- A text is the line of an event. -/
def LineOf (s : By) (e : Evt) : Prop := prtE e = 0 ∧ joinS (partsF e) = s ∧ Evt64 e ∧ e.order.load.length ≤ 1000000
theorem isD_isW {c : UInt8} (h : isD c = true) : isW c = true := by
  unfold isD at h
  rw [decide_eq_true_eq] at h
  unfold isW
  rw [decide_eq_true_eq]
  omega
theorem itoa_word (n : Int) : wordB (Lib.itoa n) = true := by
  have hd : ∀ u, (Lib.decDigits u).all isW = true := fun u => all_mono (fun c => isD_isW) (dec_all u)
  unfold wordB Lib.itoa
  rw [Bool.and_eq_true, decide_eq_true_eq]
  split
  · refine ⟨by simp, ?_⟩
    rw [List.all_cons, Bool.and_eq_true]
    exact ⟨by decide, hd _⟩
  · exact ⟨dec_ne _, hd _⟩
theorem name_word {s : ByteArray} (h : nameB s = true) : wordB s.data.toList = true := by
  unfold nameB at h
  rw [Bool.and_eq_true, Bool.and_eq_true, decide_eq_true_eq] at h
  unfold wordB
  rw [Bool.and_eq_true, decide_eq_true_eq]
  refine ⟨fun e => ?_, all_mono (fun c hc => ?_) h.2⟩
  · have h1 := h.1.1.1
    have h2 : s.size = s.data.toList.length := by simp
    rw [e, show ([] : By).length = 0 from rfl] at h2
    omega
  · unfold chrB letB digB at hc
    unfold isW
    rw [Bool.or_eq_true, decide_eq_true_eq, decide_eq_true_eq] at hc
    rw [decide_eq_true_eq]
    omega
theorem word_word {k : Int} (h : 1 ≤ k ∧ k ≤ 5) : wordB (wordS k).data.toList = true := by
  have hk : k = 1 ∨ k = 2 ∨ k = 3 ∨ k = 4 ∨ k = 5 := by omega
  rcases hk with rfl | rfl | rfl | rfl | rfl <;> decide
theorem kindF_word {k : Int} (h : 1 ≤ k ∧ k ≤ 5) : kindF (wordS k).data.toList = k := by
  have hk : k = 1 ∨ k = 2 ∨ k = 3 ∨ k = 4 ∨ k = 5 := by omega
  rcases hk with rfl | rfl | rfl | rfl | rfl <;> decide
theorem kindF_in (x : By) : 0 ≤ kindF x ∧ kindF x ≤ 5 := by
  unfold kindF
  repeat (first | split | decide)
theorem word_kindF {x : By} (h : kindF x ≠ 0) : x = (wordS (kindF x)).data.toList := by
  unfold kindF at h ⊢
  by_cases h5 : x = (wordS 5).data.toList
  · rw [if_pos h5]; exact h5
  rw [if_neg h5] at h ⊢
  by_cases h4 : x = (wordS 4).data.toList
  · rw [if_pos h4]; exact h4
  rw [if_neg h4] at h ⊢
  by_cases h3 : x = (wordS 3).data.toList
  · rw [if_pos h3]; exact h3
  rw [if_neg h3] at h ⊢
  by_cases h2 : x = (wordS 2).data.toList
  · rw [if_pos h2]; exact h2
  rw [if_neg h2] at h ⊢
  by_cases h1 : x = (wordS 1).data.toList
  · rw [if_pos h1]; exact h1
  rw [if_neg h1] at h
  exact absurd rfl h
theorem prt_kind {e : Evt} (h : prtE e = 0) : 1 ≤ e.kind ∧ e.kind ≤ 5 := by
  unfold prtE at h
  split at h
  · exact absurd h (by decide)
  · rename_i hk; exact Decidable.not_not.1 hk
theorem prt_clean {e : Evt} (h : prtE e = 0) : cleanB e = true := by
  unfold prtE at h
  split at h
  · exact absurd h (by decide)
  split at h
  · exact absurd h (by decide)
  · rename_i hk; exact Decidable.not_not.1 hk
theorem prt_order {e : Evt} (h : prtE e = 0) (hk : e.kind = 1) : e.order.off = false ∧ nameB e.order.name = true ∧ e.order.load.length ≤ 3 := by
  unfold prtE at h
  split at h
  · exact absurd h (by decide)
  split at h
  · exact absurd h (by decide)
  split at h
  · exact absurd h (by decide)
  split at h
  · exact absurd h (by decide)
  split at h
  · exact absurd h (by decide)
  · rename_i h1 h2 h3
    exact ⟨by simpa using h1, Decidable.not_not.1 h2, by omega⟩
theorem parts_words {e : Evt} (h : prtE e = 0) : ∀ x ∈ partsF e, wordB x = true := by
  intro x hx
  unfold partsF at hx
  rw [List.mem_cons, List.mem_append] at hx
  rcases hx with rfl | hx | hx
  · exact word_word (prt_kind h)
  · obtain ⟨y, _, rfl⟩ := List.mem_map.1 hx; exact itoa_word y
  · split at hx
    · rename_i hk
      rw [List.mem_cons] at hx
      rcases hx with rfl | hx
      · exact name_word (prt_order h hk).2.1
      · obtain ⟨y, _, rfl⟩ := List.mem_map.1 hx; exact itoa_word y
    · cases hx
theorem mk_data' (s : ByteArray) : (⟨s.data.toList.toArray⟩ : ByteArray) = s := by rw [Array.toArray_toList]
theorem stp_zero {s : Stp} (h : stpZ s = true) : s = stpO := by
  unfold stpZ at h
  simp only [Bool.and_eq_true, beq_iff_eq] at h
  obtain ⟨h1, h2, h3, h4⟩ := h
  cases s
  simp only at h1 h2 h3 h4
  subst h1; subst h2; subst h3; subst h4
  rfl
theorem blank_ord {o : Ord} (h : blankB o = true) : o = ordO := by
  unfold blankB at h
  simp only [Bool.and_eq_true, beq_iff_eq, decide_eq_true_eq, Bool.not_eq_true'] at h
  obtain ⟨h1, h2, h3, h4, h5, h6, h7, h8, h9, h10⟩ := h
  obtain ⟨nm, ld, pk, dr, sk, pe, sp, la, nw, off⟩ := o
  simp only at h1 h2 h3 h4 h5 h6 h7 h8 h9 h10
  have e1 : nm = ⟨#[]⟩ := by
    have hd : nm.data.toList = [] := by rw [← toList_data]; exact h1
    have := mk_data' nm
    rw [hd] at this
    exact this.symm
  have e2 : ld = [] := List.eq_nil_of_length_eq_zero (by omega)
  subst e1; subst e2; subst h5; subst h6; subst h7; subst h8; subst h9; subst h10
  rw [stp_zero h3, stp_zero h4]
  rfl
theorem get_app {l m : List Int} {j k : Nat} (h : l.length = k) : (l ++ m)[k + j]? = m[j]? := by
  rw [List.getElem?_append_right (by omega), h, Nat.add_sub_cancel_left]
/-- An order is what its name and numbers tell. -/
theorem ordM_ord {o : Ord} (h : o.off = false) : ordM o.name.data.toList o.load.length (ordN o) = o := by
  obtain ⟨nm, ld, ⟨p0, p1, p2, p3⟩, ⟨d0, d1, d2, d3⟩, sk, pe, sp, la, nw, off⟩ := o
  simp only at h
  subst h
  unfold ordM ordN stpN
  have hg : ∀ j : Nat, (((ld.length : Int) :: (ld ++ ([p0, p1, p2, p3] ++ ([d0, d1, d2, d3] ++ [sk, pe, sp, la, nw])))))[ld.length + 1 + j]? = ([p0, p1, p2, p3] ++ ([d0, d1, d2, d3] ++ [sk, pe, sp, la, nw]))[j]? := fun j => by
    rw [show ld.length + 1 + j = (ld.length + j) + 1 by omega, List.getElem?_cons_succ]
    exact get_app rfl
  simp only [hg, List.drop_succ_cons, List.drop_zero, mk_data']
  rw [List.take_left' rfl]
  rfl
theorem readN_ord {o : Ord} (h : o.off = false) (hl : o.load.length ≤ 3) : readN o.name.data.toList (ordN o) = some o := by
  have hlen : (ordN o).length = 1 + o.load.length + 13 := by unfold ordN stpN; simp; omega
  have e : ordN o = (o.load.length : Int) :: (ordN o).drop 1 := rfl
  have e2 : readN o.name.data.toList (ordN o) = if (o.load.length : Int) < 0 ∨ 3 < (o.load.length : Int) ∨ ((ordN o).length : Int) ≠ 1 + (o.load.length : Int) + 13 then none else some (ordM o.name.data.toList (o.load.length : Int).toNat (ordN o)) := rfl
  rw [e2, if_neg (by rw [hlen]; omega), Int.toNat_natCast, ordM_ord h]
/-- What is read of an event's parts is the event. -/
theorem parse_parts {e : Evt} (h : prtE e = 0) (h64 : Evt64 e) (hl : e.order.load.length ≤ 1000000) : parseF (partsF e) = some e := by
  have hk := prt_kind h
  have hc := prt_clean h
  obtain ⟨hf, hld⟩ := h64
  have hn := nums64 hf
  have hrd := readF_dec hn
  unfold partsF
  by_cases h1 : e.kind = 1
  · obtain ⟨ho, hnm, hl3⟩ := prt_order h h1
    have e0 : numsF e = [e.at_] := by unfold numsF; rw [if_neg (by omega), if_neg (by omega), if_neg (by omega)]
    rw [if_pos h1, e0, List.map_cons, List.map_nil, parseF_cons _ (by simp), kindF_word hk, if_pos h1]
    show (readO (e.order.name.data.toList :: (ordN e.order).map Lib.itoa)).bind (parse1 (Lib.itoa e.at_)) = some e
    rw [readO_cons _ (by unfold ordN; simp), readF_dec (ord64 hf.2.2.2.2.2 hld hl)]
    show (readN e.order.name.data.toList (ordN e.order)).bind (parse1 (Lib.itoa e.at_)) = some e
    rw [readN_ord ho hl3]
    show parse1 (Lib.itoa e.at_) e.order = some e
    unfold parse1
    rw [num_dec hf.1]
    unfold cleanB at hc
    rw [if_pos h1] at hc
    simp only [Bool.and_eq_true, beq_iff_eq] at hc
    obtain ⟨at_, kd, a, b, n, o⟩ := e
    simp only at hc h1
    obtain ⟨c1, c2, c3⟩ := hc
    subst c1; subst c2; subst c3; subst h1
    rfl
  · have hcnt := cntF_eq e
    rw [if_neg h1, List.append_nil, parseF_cons _ (by unfold numsF; simp), kindF_word hk, if_neg h1, hrd]
    show parse2 e.kind (numsF e) = some e
    unfold parse2
    rw [if_neg (by rw [hcnt]; omega)]
    unfold cleanB at hc
    rw [if_neg h1] at hc
    obtain ⟨at_, kd, a, b, n, o⟩ := e
    simp only at hc h1 hk
    have hk2 : kd = 2 ∨ kd = 3 ∨ kd = 4 ∨ kd = 5 := by omega
    rcases hk2 with rfl | rfl | rfl | rfl
    · simp at hc
      obtain ⟨c1, c2, c3⟩ := hc
      subst c1; subst c2
      rw [blank_ord c3]
      rfl
    · simp at hc
      rw [blank_ord hc]
      rfl
    · simp at hc
      obtain ⟨c1, c2, c3⟩ := hc
      subst c1; subst c2
      rw [blank_ord c3]
      rfl
    · simp at hc
      obtain ⟨c1, c2⟩ := hc
      subst c1
      rw [blank_ord c2]
      rfl
theorem LineOf.words {s : By} {e : Evt} {r : Option (List By)} (h : LineOf s e) (hr : WordsOk s r) : r = some (partsF e) :=
  hr.words (partsF e) (by unfold partsF; simp) (parts_words h.1) h.2.1.symm
theorem LineOf.parse {s : By} {e : Evt} (h : LineOf s e) : parseF (partsF e) = some e := parse_parts h.1 h.2.2.1 h.2.2.2
theorem joinS_inj : ∀ {M M' : List By}, M ≠ [] → M' ≠ [] → (∀ x ∈ M, wordB x = true) → (∀ x ∈ M', wordB x = true) → joinS M = joinS M' → M = M'
  | [], _, h, _, _, _, _ => absurd rfl h
  | x :: r, [], _, h, _, _, _ => absurd rfl h
  | x :: r, y :: t, _, _, hM, hM', e => by
    have h1 := (fst_join (r := r) (hM x (List.mem_cons_self ..))).1
    have h2 := (fst_join (r := t) (hM' y (List.mem_cons_self ..))).1
    rw [e, h2] at h1
    subst h1
    cases r with
    | nil =>
      cases t with
      | nil => rfl
      | cons z t =>
        rw [joinS_one, joinS_cons] at e
        have := congrArg List.length e
        simp at this
    | cons z r =>
      cases t with
      | nil =>
        rw [joinS_one, joinS_cons] at e
        have := congrArg List.length e
        simp at this
      | cons z' t =>
        rw [joinS_cons, joinS_cons] at e
        have e2 := List.append_cancel_left e
        injection e2 with _ e3
        rw [joinS_inj (by simp) (by simp) (fun x hx => hM x (List.mem_cons_of_mem _ hx)) (fun x hx => hM' x (List.mem_cons_of_mem _ hx)) e3]
theorem LineOf.one {s : By} {e e' : Evt} (h : LineOf s e) (h' : LineOf s e') : e = e' := by
  have hw : partsF e = partsF e' := joinS_inj (by unfold partsF; simp) (by unfold partsF; simp) (parts_words h.1) (parts_words h'.1) (h.2.1.trans h'.2.1.symm)
  have h1 := h.parse
  rw [hw, h'.parse] at h1
  exact (Option.some.inj h1).symm
/-! What is read is small. -/
theorem readN_some {x : By} {n : List Int} {o : Ord} (h : readN x n = some o) (hn : ∀ y ∈ n, in64 y) : ∃ k : Nat, k ≤ 3 ∧ n.length = k + 14 ∧ n.head? = some (k : Int) ∧ o = ordM x k n := by
  cases n with
  | nil => cases h
  | cons c r =>
    unfold readN at h
    dsimp only at h
    split at h
    · cases h
    · rename_i hc
      rw [not_or, not_or] at hc
      obtain ⟨h1, h2, h3⟩ := hc
      refine ⟨c.toNat, by omega, ?_, ?_, (Option.some.inj h).symm⟩
      · have := Decidable.not_not.1 h3
        omega
      · rw [List.head?_cons]
        congr 1
        omega
theorem get_in {n : List Int} (h : ∀ y ∈ n, in64 y) (j : Nat) : in64 (n[j]?.getD 0) := by
  cases hj : n[j]? with
  | none => exact ⟨by decide, by decide⟩
  | some y => exact h y (List.mem_of_getElem? hj)
theorem ordM_64 {x : By} {k : Nat} {n : List Int} (hx : x.length ≤ 100000) (hk : k ≤ 3) (hn : ∀ y ∈ n, in64 y) : OrdFits (ordM x k n) ∧ (∀ y ∈ (ordM x k n).load, in64 y) ∧ (ordM x k n).load.length ≤ 3 := by
  have g := fun j => get_in hn (k + 1 + j)
  refine ⟨⟨?_, ⟨g 0, g 1, g 2, g 3⟩, ⟨g 4, g 5, g 6, g 7⟩, g 8, g 9, g 10, g 11, g 12⟩, fun y hy => ?_, ?_⟩
  · show x.toArray.size ≤ _
    simp
    omega
  · exact hn y (List.mem_of_mem_drop (List.mem_of_mem_take hy))
  · show ((n.drop 1).take k).length ≤ 3
    rw [List.length_take]
    omega
theorem ordO_64 : OrdFits ordO ∧ (∀ y ∈ ordO.load, in64 y) ∧ ordO.load.length ≤ 3 := by
  refine ⟨?_, fun y hy => (by cases hy), (by decide)⟩
  unfold OrdFits StpFits
  decide
theorem evtM_64 {k : Int} {n : List Int} (hk : 0 ≤ k ∧ k ≤ 5) (hn : ∀ y ∈ n, in64 y) : Evt64 (evtM k n) ∧ (evtM k n).order.load.length ≤ 3 := by
  have g := get_in hn
  refine ⟨⟨⟨g 0, ⟨by show _ ≤ k; omega, by show k ≤ _; omega⟩, g 1, ?_, ?_, ordO_64.1⟩, ordO_64.2.1⟩, ordO_64.2.2⟩
  · show in64 (if k = 3 then n[2]?.getD 0 else 0)
    split
    · exact g 2
    · exact ⟨by decide, by decide⟩
  · show in64 (if k = 3 then n[3]?.getD 0 else if k = 5 then n[2]?.getD 0 else 0)
    split
    · exact g 3
    · split
      · exact g 2
      · exact ⟨by decide, by decide⟩
theorem zero64 : -9223372036854775808 ≤ (0 : Int) ∧ (0 : Int) ≤ 9223372036854775807 := by decide
theorem one64 : -9223372036854775808 ≤ (1 : Int) ∧ (1 : Int) ≤ 9223372036854775807 := by decide
theorem blank_O : blankB ordO = true := by unfold blankB stpZ; simp [ordO, stpO, toList_data]
theorem readO_64 {L : List By} {o : Ord} (h : readO L = some o) (hL : ∀ x ∈ L, x.length ≤ 100000) : OrdFits o ∧ (∀ y ∈ o.load, in64 y) ∧ o.load.length ≤ 3 := by
  cases L with
  | nil => cases h
  | cons x r =>
    by_cases hr : r = []
    · rw [show readO (x :: r) = none from if_pos hr] at h
      cases h
    · rw [readO_cons x hr] at h
      obtain ⟨n, h1, h2⟩ := Option.bind_eq_some_iff.1 h
      have hn := (readF_len h1).2
      obtain ⟨k, hk, _, _, rfl⟩ := readN_some h2 hn
      exact ordM_64 (hL x (List.mem_cons_self ..)) hk hn
/-- What is read of a line is small. -/
theorem parseF_64 {L : List By} {e : Evt} (h : parseF L = some e) (hL : ∀ x ∈ L, x.length ≤ 100000) : Evt64 e ∧ e.order.load.length ≤ 3 := by
  cases L with
  | nil => cases h
  | cons x r =>
    by_cases hr : r = []
    · rw [show parseF (x :: r) = none from if_pos hr] at h
      cases h
    · rw [parseF_cons x hr] at h
      split at h
      · obtain ⟨o, h1, h2⟩ := Option.bind_eq_some_iff.1 h
        unfold parse1 at h2
        split at h2
        · obtain rfl := Option.some.inj h2
          obtain ⟨h3, h4, h5⟩ := readO_64 h1 fun y hy => hL y (List.mem_cons_of_mem _ (List.mem_of_mem_drop hy))
          have h6 := (numL_in (r.headD [])).1
          exact ⟨⟨⟨h6, one64, zero64, zero64, zero64, h3⟩, h4⟩, h5⟩
        · cases h2
      · obtain ⟨n, h1, h2⟩ := Option.bind_eq_some_iff.1 h
        unfold parse2 at h2
        split at h2
        · cases h2
        · obtain rfl := Option.some.inj h2
          exact evtM_64 (kindF_in x) (readF_len h1).2
theorem ordN_ordM {x : By} {k : Nat} {n : List Int} (hl : n.length = k + 14) (hh : n.head? = some (k : Int)) : ordN (ordM x k n) = n := by
  cases n with
  | nil => cases hh
  | cons c r =>
    obtain rfl : c = (k : Int) := Option.some.inj hh
    have hr : r.length = k + 13 := by simpa using hl
    have e1 : r = r.take k ++ r.drop k := (List.take_append_drop k r).symm
    have hd : (r.drop k).length = 13 := by rw [List.length_drop]; omega
    have ht : (r.take k).length = k := by rw [List.length_take]; omega
    obtain ⟨a0, a1, a2, a3, a4, a5, a6, a7, a8, a9, a10, a11, a12, hA⟩ : ∃ a0 a1 a2 a3 a4 a5 a6 a7 a8 a9 a10 a11 a12, r.drop k = [a0, a1, a2, a3, a4, a5, a6, a7, a8, a9, a10, a11, a12] := by
      generalize r.drop k = q at hd
      match q, hd with
      | [a0, a1, a2, a3, a4, a5, a6, a7, a8, a9, a10, a11, a12], _ => exact ⟨a0, a1, a2, a3, a4, a5, a6, a7, a8, a9, a10, a11, a12, rfl⟩
    have hg : ∀ j : Nat, ((k : Int) :: r)[k + 1 + j]? = (r.drop k)[j]? := fun j => by
      rw [show k + 1 + j = (k + j) + 1 by omega, List.getElem?_cons_succ, List.getElem?_drop]
    unfold ordN ordM stpN
    simp only [hg, hA, List.drop_succ_cons, List.drop_zero, ht]
    conv => rhs; rw [e1, hA]
    rfl
/-! The reference. -/
def rordF (l : List By) : Option Ord := match l with
  | [] => none
  | x :: r => if r = [] ∨ ¬ nameB ⟨x.toArray⟩ = true then none else (readF r).bind (readN x)
def rfldF (k a : Int) (l : List By) : Option Evt := if k = 1 then (rordF l).map (fun o => ⟨a, 1, 0, 0, 0, o⟩) else (readF l).bind fun n => if n.length + 1 = cntF k then some (evtM k (a :: n)) else none
def rparF (L : List By) : Option Evt := match L with
  | x :: y :: r => if r = [] ∨ kindF x = 0 then none else if ¬ (numL y).2 = 0 then none else rfldF (kindF x) (numL y).1 r
  | _ => none
theorem evtM_parts {k a : Int} {n : List Int} (hk : 1 ≤ k ∧ k ≤ 5) (h1 : k ≠ 1) (hn : n.length + 1 = cntF k) : partsF (evtM k (a :: n)) = (wordS k).data.toList :: Lib.itoa a :: n.map Lib.itoa ∧ prtE (evtM k (a :: n)) = 0 := by
  have hk2 : k = 2 ∨ k = 3 ∨ k = 4 ∨ k = 5 := by omega
  rcases hk2 with rfl | rfl | rfl | rfl
  · obtain ⟨y, rfl⟩ : ∃ y, n = [y] := by
      match n, hn with
      | [y], _ => exact ⟨y, rfl⟩
    exact ⟨rfl, by unfold prtE cleanB; simp [evtM, blank_O]⟩
  · obtain ⟨y, z, v, rfl⟩ : ∃ y z v, n = [y, z, v] := by
      match n, hn with
      | [y, z, v], _ => exact ⟨y, z, v, rfl⟩
    exact ⟨rfl, by unfold prtE cleanB; simp [evtM, blank_O]⟩
  · obtain ⟨y, rfl⟩ : ∃ y, n = [y] := by
      match n, hn with
      | [y], _ => exact ⟨y, rfl⟩
    exact ⟨rfl, by unfold prtE cleanB; simp [evtM, blank_O]⟩
  · obtain ⟨y, z, rfl⟩ : ∃ y z, n = [y, z] := by
      match n, hn with
      | [y, z], _ => exact ⟨y, z, rfl⟩
    exact ⟨rfl, by unfold prtE cleanB; simp [evtM, blank_O]⟩
theorem rpar_line {L : List By} {e : Evt} (h : rparF L = some e) : partsF e = L ∧ LineOf (joinS L) e := by
  have key : partsF e = L ∧ prtE e = 0 ∧ Evt64 e ∧ e.order.load.length ≤ 3 := by
    match L, h with
    | x :: y :: r, h =>
      unfold rparF at h
      dsimp only at h
      split at h
      · cases h
      rename_i h0
      rw [not_or] at h0
      split at h
      · cases h
      rename_i hy
      have hy := Decidable.not_not.1 hy
      have hx := word_kindF h0.2
      have hki := kindF_in x
      have hyd := dec_num (l := y) (n := (numL y).1) (by rw [← hy])
      generalize hK : kindF x = K at h hx hki h0
      generalize hA : (numL y).1 = A at h hyd
      unfold rfldF at h
      split at h
      · rename_i hk1
        obtain ⟨o, h1, h2⟩ := Option.map_eq_some_iff.1 h
        subst h2
        match r, h1 with
        | z :: t, h1 =>
          unfold rordF at h1
          dsimp only at h1
          split at h1
          · cases h1
          rename_i hz
          rw [not_or] at hz
          have hnm := Decidable.not_not.1 hz.2
          obtain ⟨n, h3, h4⟩ := Option.bind_eq_some_iff.1 h1
          have hn := (readF_len h3).2
          obtain ⟨k, hk, hl, hh, rfl⟩ := readN_some h4 hn
          have hzl : z.length ≤ 16 := by
            have h5 := hnm
            unfold nameB at h5
            rw [Bool.and_eq_true, Bool.and_eq_true, decide_eq_true_eq] at h5
            have h6 := h5.1.1.2
            have h7 : (⟨z.toArray⟩ : ByteArray).size = z.length := by show z.toArray.size = _; simp
            omega
          obtain ⟨e1, e2, e3⟩ := ordM_64 (x := z) (k := k) (n := n) (by omega) hk hn
          refine ⟨?_, ?_, ⟨⟨hyd.2, one64, zero64, zero64, zero64, e1⟩, e2⟩, e3⟩
          · unfold partsF numsF
            dsimp only
            rw [if_pos rfl, ordN_ordM hl hh, ← dec_readF h3, hx, hk1, hyd.1]
            simp [ordM]
          · unfold prtE
            rw [if_neg (by show ¬ ¬ ((1 : Int) ≤ 1 ∧ (1 : Int) ≤ 5); decide), if_neg (by show ¬ ¬ (cleanB _ = true); unfold cleanB; simp), if_pos rfl, if_neg (by show ¬ ((ordM z k n).off = true); simp [ordM]), if_neg (by show ¬ ¬ nameB ⟨z.toArray⟩ = true; exact not_not_intro hnm), if_neg (by show ¬ 3 < (ordM z k n).load.length; omega)]
      · rename_i hk1
        obtain ⟨n, h3, h4⟩ := Option.bind_eq_some_iff.1 h
        have hn := (readF_len h3).2
        split at h4
        · rename_i hc
          obtain rfl := Option.some.inj h4
          obtain ⟨e1, e2⟩ := evtM_parts (a := A) (by omega) hk1 hc
          obtain ⟨e3, e4⟩ := evtM_64 (k := K) (n := A :: n) hki (fun y hy => by
            rcases List.mem_cons.1 hy with rfl | hy
            · exact hyd.2
            · exact hn y hy)
          refine ⟨?_, e2, e3, e4⟩
          rw [e1, ← dec_readF h3, ← hx, ← hyd.1]
        · cases h4
  exact ⟨key.1, key.2.1, by rw [key.1], key.2.2.1, by have := key.2.2.2; omega⟩
theorem line_rpar {s : By} {e : Evt} (h : LineOf s e) : rparF (partsF e) = some e := by
  obtain ⟨h0, _, h64, hl⟩ := h
  have hp := parse_parts h0 h64 hl
  have hk := prt_kind h0
  have hkw := kindF_word hk
  unfold partsF at hp ⊢
  have e0 : ∃ t, numsF e = e.at_ :: t := ⟨_, rfl⟩
  obtain ⟨t, ht⟩ := e0
  have hnum : numL (Lib.itoa e.at_) = (e.at_, 0) := num_dec h64.1.1
  by_cases h1 : e.kind = 1
  · have ht0 : t = [] := by
      unfold numsF at ht
      rw [if_neg (by omega), if_neg (by omega), if_neg (by omega)] at ht
      injection ht with _ ht
      exact ht.symm
    subst ht0
    rw [ht, if_pos h1] at hp ⊢
    rw [List.map_cons, List.map_nil, parseF_cons _ (by simp), hkw, if_pos h1] at hp
    have hp2 : (readO (e.order.name.data.toList :: (ordN e.order).map Lib.itoa)).bind (parse1 (Lib.itoa e.at_)) = some e := hp
    obtain ⟨o, h3, h4⟩ := Option.bind_eq_some_iff.1 hp2
    unfold parse1 at h4
    rw [hnum, if_pos rfl] at h4
    have hro : rordF (e.order.name.data.toList :: (ordN e.order).map Lib.itoa) = some o := by
      rw [readO_cons _ (by unfold ordN; simp)] at h3
      unfold rordF
      dsimp only
      rw [if_neg, h3]
      rw [not_or, Decidable.not_not, mk_data']
      exact ⟨by unfold ordN; simp, (prt_order h0 h1).2.1⟩
    show rparF ((wordS e.kind).data.toList :: Lib.itoa e.at_ :: (e.order.name.data.toList :: (ordN e.order).map Lib.itoa)) = some e
    unfold rparF
    dsimp only
    rw [hkw, if_neg (by rw [not_or]; exact ⟨by simp, by omega⟩), hnum, if_neg (by simp)]
    unfold rfldF
    rw [if_pos h1, hro]
    exact h4
  · have hcnt := cntF_eq e
    rw [ht, if_neg h1, List.append_nil] at hp ⊢
    rw [List.map_cons, parseF_cons _ (by simp), hkw, if_neg h1] at hp
    obtain ⟨n, h3, h4⟩ := Option.bind_eq_some_iff.1 hp
    have hall := nums64 h64.1
    rw [ht] at hall
    have hrt := readF_dec (l := t) (fun y hy => hall y (List.mem_cons_of_mem _ hy))
    have hn : n = e.at_ :: t := by
      have h5 := readF_dec (l := e.at_ :: t) hall
      rw [List.map_cons, h3] at h5
      exact Option.some.inj h5
    subst hn
    have htl : t ≠ [] := by
      intro e2
      subst e2
      rw [ht] at hcnt
      have hk2 : e.kind = 2 ∨ e.kind = 3 ∨ e.kind = 4 ∨ e.kind = 5 := by omega
      rcases hk2 with hk2 | hk2 | hk2 | hk2 <;> (rw [hk2] at hcnt; simp [cntF] at hcnt)
    rw [List.map_cons]
    unfold rparF
    dsimp only
    rw [hkw, if_neg (by rw [not_or]; exact ⟨by simpa using htl, by omega⟩), hnum, if_neg (by simp)]
    unfold rfldF
    rw [if_neg h1, hrt]
    show (if t.length + 1 = cntF e.kind then some (evtM e.kind (e.at_ :: t)) else none) = some e
    rw [ht] at hcnt
    rw [if_pos (by rw [← hcnt]; rfl)]
    unfold parse2 at h4
    rw [if_neg (by rw [hcnt]; omega)] at h4
    exact h4
/-- What a line's reader answers: the event of the line, or none. -/
def ParseOk (s : By) (r : Option Evt) : Prop := (∀ e, r = some e → LineOf s e) ∧ (r = none → ∀ e, ¬ LineOf s e)
theorem ParseOk.one {s : By} {r r' : Option Evt} (h : ParseOk s r) (h' : ParseOk s r') : r = r' := by
  cases r with
  | none =>
    cases r' with
    | none => rfl
    | some e => exact absurd (h'.1 e rfl) (h.2 rfl e)
  | some e =>
    cases r' with
    | none => exact absurd (h.1 e rfl) (h'.2 rfl e)
    | some e' => rw [(h.1 e rfl).one (h'.1 e' rfl)]
theorem ParseOk.ref {s : By} {r : Option (List By)} (h : WordsOk s r) : ParseOk s (r.bind rparF) := by
  refine ⟨fun e he => ?_, fun hn e he => ?_⟩
  · obtain ⟨L, h1, h2⟩ := Option.bind_eq_some_iff.1 he
    obtain ⟨h3, h4⟩ := rpar_line h2
    rcases h.join L h1 with ⟨_, rfl⟩ | ⟨rfl, _⟩
    · exact h4
    · cases h2
  · have h1 := he.words h
    rw [h1] at hn
    have h2 := line_rpar he
    rw [show (some (partsF e)).bind rparF = rparF (partsF e) from rfl, h2] at hn
    cases hn
/-- What the program answers of a line. -/
def parseS (s : By) (r : Option (List By)) : Option Evt := (r.bind parseF).bind fun e => if prtE e = 0 ∧ joinS (partsF e) = s then some e else none
theorem ParseOk.prog {s : By} {r : Option (List By)} (h : WordsOk s r) (hl : ∀ L, r = some L → ∀ x ∈ L, x.length ≤ 100000) : ParseOk s (parseS s r) := by
  refine ⟨fun e he => ?_, fun hn e he => ?_⟩
  · unfold parseS at he
    obtain ⟨e', h1, h2⟩ := Option.bind_eq_some_iff.1 he
    obtain ⟨L, h3, h4⟩ := Option.bind_eq_some_iff.1 h1
    split at h2
    · rename_i hc
      obtain rfl := Option.some.inj h2
      obtain ⟨h5, h6⟩ := parseF_64 h4 (hl L h3)
      exact ⟨hc.1, hc.2, h5, by omega⟩
    · cases h2
  · have h1 := he.words h
    unfold parseS at hn
    rw [h1, show (some (partsF e)).bind parseF = parseF (partsF e) from rfl, he.parse] at hn
    have h2 : (if prtE e = 0 ∧ joinS (partsF e) = s then some e else none) = none := hn
    rw [if_pos ⟨he.1, he.2.1⟩] at h2
    cases h2
end Go.Proofs.YtofabhenmplkoaaGreatDoor.evt

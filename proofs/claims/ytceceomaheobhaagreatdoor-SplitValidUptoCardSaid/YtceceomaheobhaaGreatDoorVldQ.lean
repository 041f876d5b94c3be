/- The orders of the expanded instance. -/
import Derived.Test.YtceceomaheobhaaGreatDoorVldP
namespace Go.Proofs.YtceceomaheobhaaGreatDoor.spl
open Go.RowKit
open Go.Proofs.YtceceomaheobhaaGreatDoor.lib Go.Proofs.YtceceomaheobhaaGreatDoor.loads Go.Proofs.YtceceomaheobhaaGreatDoor.typ Go.Proofs.YtceceomaheobhaaGreatDoor.ins Go.Proofs.YtceceomaheobhaaGreatDoor.note Go.Proofs.YtceceomaheobhaaGreatDoor.txt Go.Proofs.YtceceomaheobhaaGreatDoor.ren Go.Proofs.YtceceomaheobhaaGreatDoor.rul Go.Proofs.YtceceomaheobhaaGreatDoor.par Go.Proofs.YtceceomaheobhaaGreatDoor.eqg
set_option linter.unusedVariables false
set_option linter.unusedSimpArgs false

theorem parts_cases {o q : Ord} (h : q ∈ partsO o) : (o.split ≤ 1 ∧ q = o) ∨ (2 ≤ o.split ∧ o.split ≤ 4 ∧ ∃ k : Nat, k < o.split.toNat ∧ q = pieceO o k) := by
  unfold partsO partsF at h
  split at h
  · rename_i h1
    exact Or.inl ⟨h1, by simpa using h⟩
  · rename_i h1
    split at h
    · rename_i hl
      obtain ⟨k, hk, rfl⟩ := List.mem_map.1 (show q ∈ (List.range o.split.toNat).map (pieceO o) from h)
      unfold loadsF at hl
      split at hl
      · rename_i hok
        exact Or.inr ⟨by omega, hok.1.2, k, List.mem_range.1 hk, rfl⟩
      · cases hl
    · cases h
def NmD (a b : Ord) : Prop := sameS a.name b.name = false
theorem NmD.symm {a b : Ord} (h : NmD a b) : NmD b a := by
  unfold NmD sameS at h ⊢
  rw [Bool.eq_false_iff] at h ⊢
  intro e
  apply h
  rw [beq_iff_eq] at e ⊢
  exact e.symm
/-- The names so far: each is an order's own or one that no order has. -/
structure NmOk (os out : List Ord) (i : Nat) : Prop where
  two : out.Pairwise NmD
  src : ∀ q ∈ out, q ∈ os.take i ∨ ((∀ o ∈ os, NmD o q) ∧ q.name.size ≤ 16)
theorem named_zero {os out : List Ord} {nm : ByteArray} (h : namedE os out nm = 0) : nm.size ≤ 16 ∧ (∀ q ∈ out, sameS q.name nm = false) ∧ ∀ o ∈ os, sameS o.name nm = false := by
  unfold namedE at h
  split at h
  · cases h
  · rename_i h1
    split at h
    · cases h
    · rename_i h2
      rw [Bool.not_eq_true, Bool.or_eq_false_iff, List.any_eq_false, List.any_eq_false] at h2
      exact ⟨by omega, fun q hq => by simpa using h2.1 q hq, fun o ho => by simpa using h2.2 o ho⟩
theorem expPs_nm {os : List Ord} {i : Int} {j : Nat} : ∀ {ps out out' : List Ord} {org org' : List Int}, expPs os i true ps out org = .ok (out', org') → NmOk os out j → NmOk os out' j
  | [], out, out', org, org', h, hk => by
    simp [expPs] at h
    rw [← h.1]
    exact hk
  | p :: ps, out, out', org, org', h, hk => by
    rw [expPs] at h
    split at h
    · cases h
    · rename_i hn
      have hz : namedE os out p.name = 0 := by
        by_cases e : namedE os out p.name = 0
        · exact e
        · exact absurd ⟨rfl, e⟩ hn
      obtain ⟨h1, h2, h3⟩ := named_zero hz
      refine expPs_nm h ⟨?_, fun q hq => ?_⟩
      · rw [List.pairwise_append]
        refine ⟨hk.two, List.pairwise_singleton _ _, fun a ha b hb => ?_⟩
        rw [List.mem_singleton] at hb
        subst hb
        exact h2 a ha
      · rcases List.mem_append.1 hq with hq | hq
        · exact hk.src q hq
        · rw [List.mem_singleton] at hq
          subst hq
          exact Or.inr ⟨h3, h1⟩
theorem expOs_nm {os : List Ord} (hos : os.Pairwise NmD) : ∀ {rest : List Ord} {i : Nat} {out out' : List Ord} {org org' : List Int}, rest = os.drop i → expOs os rest i out org = .ok (out', org') → NmOk os out i → NmOk os out' os.length
  | [], i, out, out', org, org', hr, h, hk => by
    simp [expOs] at h
    rw [← h.1]
    have hi : os.length ≤ i := by
      have := congrArg List.length hr
      rw [List.length_drop] at this
      simp at this
      omega
    refine ⟨hk.two, fun q hq => ?_⟩
    have := hk.src q hq
    rw [List.take_of_length_le hi] at this
    rw [List.take_of_length_le (Nat.le_refl _)]
    exact this
  | o :: rest, i, out, out', org, org', hr, h, hk => by
    have hi : i < os.length := by
      rcases Nat.lt_or_ge i os.length with hi | hi
      · exact hi
      · rw [List.drop_of_length_le hi] at hr; cases hr
    have ho : os[i]? = some o := by
      have e := congrArg (·[0]?) hr
      simp only [List.getElem?_cons_zero, List.getElem?_drop, Nat.add_zero] at e
      exact e.symm
    have hr' : rest = os.drop (i + 1) := by
      have e := congrArg List.tail hr
      simpa [List.tail_drop] using e
    have htk : os.take (i + 1) = os.take i ++ [o] := by rw [List.take_add_one, ho]; rfl
    rw [expOs] at h
    split at h
    · cases h
    · rename_i ps hps
      split at h
      · cases h
      · rename_i o2 g2 he
        refine expOs_nm hos hr' h ?_
        by_cases h1 : 1 < o.split
        · rw [decide_eq_true h1] at he
          have hn := expPs_nm he hk
          refine ⟨hn.two, fun q hq => ?_⟩
          rcases hn.src q hq with h' | h'
          · exact Or.inl (by rw [htk]; exact List.mem_append_left _ h')
          · exact Or.inr h'
        · rw [decide_eq_false h1] at he
          unfold partsF at hps
          rw [if_pos (by omega)] at hps
          injection hps with hps
          subst hps
          rw [expPs_one, expPs] at he
          injection he with he
          injection he with he _
          subst he
          refine ⟨?_, fun q hq => ?_⟩
          · rw [List.pairwise_append]
            refine ⟨hk.two, List.pairwise_singleton _ _, fun a ha b hb => ?_⟩
            rw [List.mem_singleton] at hb
            subst hb
            rcases hk.src a ha with h' | h'
            · obtain ⟨j, hj⟩ := List.mem_iff_getElem?.1 h'
              rw [List.getElem?_take] at hj
              split at hj
              · rename_i hji
                obtain ⟨hj1, hj2⟩ := List.getElem?_eq_some_iff.1 hj
                obtain ⟨hi1, hi2⟩ := List.getElem?_eq_some_iff.1 ho
                have := (List.pairwise_iff_getElem.1 hos) j i hj1 hi1 hji
                rw [hj2, hi2] at this
                exact this
              · cases hj
            · exact (h'.1 b (List.mem_of_getElem? ho)).symm
          · rw [htk]
            rcases List.mem_append.1 hq with hq | hq
            · rcases hk.src q hq with h' | h'
              · exact Or.inl (List.mem_append_left _ h')
              · exact Or.inr h'
            · exact Or.inl (List.mem_append_right _ hq)
theorem expF_os {x y : Ins} {want : List Int} (h : expF x = .ok (y, want)) : expOs x.orders x.orders 0 [] [] = .ok (y.orders, want) := by
  unfold expF at h
  split at h
  · cases h
  · unfold expFin at h
    split at h
    · cases h
    · rename_i out org he
      split at h
      · cases h
      · injection h with h
        injection h with h1 h2
        subst h1
        subst h2
        exact he
theorem total_len : ∀ {os : List Ord}, (∀ o ∈ os, ∃ ps, partsF o = some ps) → ((os.flatMap partsO).length : Int) = totalO os
  | [], _ => rfl
  | o :: os, hos => by
    obtain ⟨ps, hps⟩ := hos o (List.mem_cons_self ..)
    have e : partsO o = ps := by unfold partsO; rw [hps]; rfl
    have h1 := parts_len hps
    have h2 := total_len (os := os) (fun a ha => hos a (List.mem_cons_of_mem _ ha))
    unfold totalO at h2 ⊢
    rw [List.flatMap_cons, List.length_append, List.map_cons, List.sum_cons, e]
    push_cast
    omega
theorem piece_name {o : Ord} {k : Nat} (hk : k < 4) (h : nameB o.name = true) (hs : (pieceO o k).name.size ≤ 16) : nameB (pieceO o k).name = true := by
  unfold nameB at h ⊢
  simp only [Bool.and_eq_true, decide_eq_true_eq] at h ⊢
  obtain ⟨⟨⟨h1, h2⟩, h3⟩, h4⟩ := h
  have e : (pieceO o k).name.data.toList = o.name.data.toList ++ [95, UInt8.ofNat (49 + k)] := by
    show (o.name ++ (⟨#[95]⟩ ++ ⟨#[UInt8.ofNat (49 + k)]⟩) : ByteArray).data.toList = _
    rw [ByteArray.data_append, ByteArray.data_append, Array.toList_append, Array.toList_append]
    rfl
  have hl : o.name.size = o.name.data.toList.length := by simp
  have hl2 : (pieceO o k).name.size = (pieceO o k).name.data.toList.length := by simp
  obtain ⟨c, l, hcl⟩ : ∃ c l, o.name.data.toList = c :: l := by
    cases hc : o.name.data.toList with
    | nil => rw [hc] at hl; have hl' : o.name.size = 0 := hl; omega
    | cons c l => exact ⟨c, l, rfl⟩
  refine ⟨⟨⟨by rw [hl2, e]; simp, hs⟩, ?_⟩, ?_⟩
  · rw [e, hcl]
    rw [hcl] at h3
    exact h3
  · rw [e, List.all_append, h4, Bool.true_and]
    have : k = 0 ∨ k = 1 ∨ k = 2 ∨ k = 3 := by omega
    rcases this with rfl | rfl | rfl | rfl <;> decide
/-- What an order that is accepted keeps, whatever stands before it. -/
structure OGood (P dims types : Int) (o : Ord) : Prop where
  name : nameB o.name = true
  load : loads.rightB o.load dims = true
  place : (inB o.pick.place (-1) P && inB o.drop.place (-1) P) = true
  pair : ((o.pick.place != -1) || (o.drop.place != -1)) = true
  win : ord.winB o = true
  skills : inB o.skills 0 1073741823 = true
  num : ord.numB o types = true
theorem errs_good {P dims types : Int} {l : List Ord} {i : Nat} {o : Ord} : ord.errsO P dims types l i o = [] ↔ OGood P dims types o ∧ (l.take i).any (fun x => sameS x.name o.name) = false := by
  unfold ord.errsO
  simp only [pushIf_nil]
  constructor
  · rintro ⟨⟨⟨⟨⟨⟨⟨⟨-, h1⟩, h2⟩, h3⟩, h4⟩, h5⟩, h6⟩, h7⟩, h8⟩
    exact ⟨⟨h1, h3, h4, h5, h6, h7, h8⟩, by simpa using h2⟩
  · rintro ⟨⟨h1, h3, h4, h5, h6, h7, h8⟩, h2⟩
    exact ⟨⟨⟨⟨⟨⟨⟨⟨trivial, h1⟩, by rw [h2]; rfl⟩, h3⟩, h4⟩, h5⟩, h6⟩, h7⟩, h8⟩
theorem oflts_good {P dims types : Int} {l : List Ord} : ord.ofltsTo P dims types l l.length = [] ↔ l.length ≤ 10 ∧ (∀ o ∈ l, OGood P dims types o) ∧ l.Pairwise NmD := by
  rw [ofltsTo_nil l.length]
  constructor
  · rintro ⟨h1, h2⟩
    refine ⟨h1, fun o ho => ?_, ?_⟩
    · obtain ⟨j, hj⟩ := List.mem_iff_getElem?.1 ho
      exact (errs_good.1 (h2 j o (List.getElem?_eq_some_iff.1 hj).1 hj)).1
    · rw [List.pairwise_iff_getElem]
      intro i j hi hj hij
      have h := (errs_good.1 (h2 j _ hj (List.getElem?_eq_getElem hj))).2
      rw [List.any_eq_false] at h
      have := h l[i] (by rw [List.mem_iff_getElem?]; exact ⟨i, by rw [List.getElem?_take, if_pos hij, List.getElem?_eq_getElem hi]⟩)
      simpa [NmD] using this
  · rintro ⟨h1, h2, h3⟩
    refine ⟨h1, fun j o hj ho => errs_good.2 ⟨h2 o (List.mem_of_getElem? ho), ?_⟩⟩
    rw [List.any_eq_false]
    intro q hq
    obtain ⟨i, hi⟩ := List.mem_iff_getElem?.1 hq
    rw [List.getElem?_take] at hi
    split at hi
    · rename_i hij
      obtain ⟨hi1, rfl⟩ := List.getElem?_eq_some_iff.1 hi
      obtain ⟨hj1, rfl⟩ := List.getElem?_eq_some_iff.1 ho
      have := (List.pairwise_iff_getElem.1 h3) i j hi1 hj1 hij
      unfold NmD at this
      rw [this]
      decide
    · cases hi
theorem piece_good {P dims types : Int} {o : Ord} {k : Nat} (h : OGood P dims types o) (h2 : 2 ≤ o.split) (h4 : o.split ≤ 4) (hk : k < o.split.toNat) (hs : (pieceO o k).name.size ≤ 16) : OGood P dims types (pieceO o k) := by
  obtain ⟨g1, g2, g3, g4, g5, g6, g7⟩ := h
  refine ⟨piece_name (by omega) g1 hs, ?_, g3, g4, g5, g6, ?_⟩
  · unfold loads.rightB at g2 ⊢
    simp only [Bool.and_eq_true, decide_eq_true_eq, List.all_eq_true] at g2 ⊢
    refine ⟨fun v hv => ?_, by rw [← g2.2]; show ((ptL o.load o.split k).length : Int) = _; rw [ptL_len]⟩
    have hv' : v ∈ ptL o.load o.split k := hv
    obtain ⟨u, hu, rfl⟩ := List.mem_map.1 hv'
    have hu2 := g2.1 u hu
    refine ⟨(porI_bd hu2.1 (by omega)).1, ?_⟩
    unfold porI
    have : o.split = 2 ∨ o.split = 3 ∨ o.split = 4 := by omega
    rcases this with e | e | e
    all_goals
      rw [e]
      split <;> omega
  · unfold ord.numB inB at g7 ⊢
    simp only [Bool.and_eq_true, decide_eq_true_eq] at g7 ⊢
    obtain ⟨⟨⟨⟨⟨⟨a1, a2⟩, a3⟩, a4⟩, a5⟩, a6⟩, a7⟩ := g7
    refine ⟨⟨⟨⟨⟨⟨?_, ?_⟩, ?_⟩, a4⟩, a5⟩, a6⟩, a7⟩
    · show -1 ≤ (if 0 ≤ o.penalty then porI o.penalty o.split k else o.penalty) ∧ (if 0 ≤ o.penalty then porI o.penalty o.split k else o.penalty) ≤ 1000000
      split
      · rename_i h0
        refine ⟨by have := (porI_bd (k := (k : Int)) h0 (show 1 ≤ o.split by omega)).1; omega, ?_⟩
        unfold porI
        have : o.split = 2 ∨ o.split = 3 ∨ o.split = 4 := by omega
        rcases this with e | e | e
        all_goals
          rw [e]
          split <;> omega
      · omega
    · show 1 ≤ (1 : Int) ∧ (1 : Int) ≤ 4
      omega
    · show ((((1 : Int) == 1) || _) || _) = true
      rfl
theorem exp_orders {x y : Ins} {want : List Int} {P dims types : Int} (h : ord.ofltsTo P dims types x.orders x.orders.length = []) (he : expF x = .ok (y, want)) : ord.ofltsTo P dims types y.orders y.orders.length = [] := by
  rw [oflts_good] at h ⊢
  obtain ⟨h1, h2, h3⟩ := h
  obtain ⟨_, _, e3, _, e5, e6, _⟩ := expF_ok he
  have hn : NmOk x.orders y.orders x.orders.length := expOs_nm h3 (by rw [List.drop_zero]) (expF_os he) ⟨List.Pairwise.nil, fun q hq => by cases hq⟩
  have hl := total_len e5
  refine ⟨by rw [e3]; omega, fun q hq => ?_, hn.two⟩
  have hq' := hq
  rw [e3, List.mem_flatMap] at hq'
  obtain ⟨o, ho, hqo⟩ := hq'
  rcases parts_cases hqo with ⟨_, rfl⟩ | ⟨k2, k4, k, hk, rfl⟩
  · exact h2 q ho
  · refine piece_good (h2 o ho) k2 k4 hk ?_
    rcases hn.src _ hq with hm | hm
    · have := (h2 _ (List.mem_of_mem_take hm)).name
      unfold nameB at this
      simp only [Bool.and_eq_true, decide_eq_true_eq] at this
      exact this.1.1.2
    · exact hm.2
/-- The expanded instance of one that is accepted is accepted. -/
theorem exp_valid {x y : Ins} {want : List Int} (h : insF x = []) (he : expF x = .ok (y, want)) : insF y = [] := by
  rw [insF_nil] at h ⊢
  obtain ⟨hN, hT, hO, hR⟩ := h
  obtain ⟨e1, e2, e3, e4, e5, e6, e7, e8, e9, e10⟩ := expF_ok he
  have hlen : want.length = y.orders.length := by rw [e3, e4]; exact orgO_len _ _
  refine ⟨?_, ?_, ?_, ?_⟩
  · unfold insN at hN ⊢
    rw [e1]
    exact hN
  · unfold insT at hT ⊢
    rw [e1, e2]
    exact hT
  · unfold insO at hO ⊢
    rw [e1, e2]
    exact exp_orders hO he
  · unfold insR rulesF at hR ⊢
    rw [List.append_eq_nil_iff] at hR ⊢
    rw [e7] at e9 ⊢
    rw [e8] at e10 ⊢
    exact ⟨spr_pairs (prel_loose want) (by rw [hlen]) hR.1 e9, spr_pairs (prel_two want) (by rw [hlen]) hR.2 e10⟩
/-- The parts are not to be divided. -/
theorem exp_whole {x y : Ins} {want : List Int} (h : insF x = []) (he : expF x = .ok (y, want)) : ∀ q ∈ y.orders, q.split = 1 := by
  obtain ⟨_, _, e3, _⟩ := expF_ok he
  intro q hq
  rw [e3, List.mem_flatMap] at hq
  obtain ⟨o, ho, hqo⟩ := hq
  rcases parts_cases hqo with ⟨h1, rfl⟩ | ⟨_, _, k, _, rfl⟩
  · have := (acc_of h).split q ho
    omega
  · rfl
end Go.Proofs.YtceceomaheobhaaGreatDoor.spl

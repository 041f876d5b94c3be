/- The shares of a route, told order by order. -/
import Derived.Test.YtceceomaheobhaaSpwQ
namespace Go.Proofs.Ytceceomaheobhaa.spl
open Go.RowKit
open Go.Proofs.Ytceceomaheobhaa.lib Go.Proofs.Ytceceomaheobhaa.loads Go.Proofs.Ytceceomaheobhaa.typ Go.Proofs.Ytceceomaheobhaa.ins
set_option linter.unusedVariables false
set_option linter.unusedSimpArgs false

/-- Whether a route has a part of order i among the parts below k, and the sum of their loads, from z on. -/
def rsAcc (want : List Int) (ps : List Ord) (vs : List Vis) (i : Int) (z : List Int) : Nat → Bool × List Int
  | 0 => (false, z)
  | k + 1 => match want[k]?, ps[k]? with
    | some g, some q => if g = i ∧ seenB vs k = true then (true, addE (rsAcc want ps vs i z k).2 q.load) else rsAcc want ps vs i z k
    | _, _ => rsAcc want ps vs i z k
def rsNext (i : Int) (u : List Sha) (r : Bool × List Int) : List Sha := if r.1 = true then u ++ [⟨i, r.2⟩] else u
/-- The shares of the orders below j. -/
def rsTo (os : List Ord) (want : List Int) (ps : List Ord) (vs : List Vis) : Nat → List Sha
  | 0 => []
  | i + 1 => match os[i]? with
    | some o => rsNext (i : Int) (rsTo os want ps vs i) (rsAcc want ps vs (i : Int) (List.replicate o.load.length 0) want.length)
    | none => rsTo os want ps vs i
section
variable {os : List Ord} {want : List Int} {ps : List Ord} {vs : List Vis} {i : Int} {z : List Int}
theorem rsAcc_yes {k : Nat} {g : Int} {q : Ord} (h : want[k]? = some g) (hq : ps[k]? = some q) (hg : g = i) (hs : seenB vs k = true) : rsAcc want ps vs i z (k + 1) = (true, addE (rsAcc want ps vs i z k).2 q.load) := by
  rw [rsAcc, h, hq]
  exact if_pos ⟨hg, hs⟩
theorem rsAcc_no {k : Nat} {g : Int} (h : want[k]? = some g) (hn : ¬ (g = i ∧ seenB vs k = true)) : rsAcc want ps vs i z (k + 1) = rsAcc want ps vs i z k := by
  rw [rsAcc, h]
  cases ps[k]? with
  | none => rfl
  | some q => exact if_neg hn
theorem rsAcc_skip {a : Nat} : ∀ b, a ≤ b → (∀ k, a ≤ k → k < b → want[k]? ≠ some i) → rsAcc want ps vs i z b = rsAcc want ps vs i z a
  | 0, hab, _ => by rw [show a = 0 by omega]
  | b + 1, hab, h => by
    rcases Nat.lt_or_ge a (b + 1) with hlt | hge
    · have ih := rsAcc_skip b (by omega) (fun k h1 h2 => h k h1 (by omega))
      rw [← ih]
      have hb := h b (by omega) (by omega)
      cases hw : want[b]? with
      | none => rw [rsAcc, hw]
      | some g => exact rsAcc_no hw (fun h' => hb (by rw [hw, h'.1]))
    · rw [show a = b + 1 by omega]
theorem rsTo_lt : ∀ (j : Nat), ∀ s ∈ rsTo os want ps vs j, 0 ≤ s.order ∧ s.order < (j : Int)
  | 0, s, h => by cases h
  | j + 1, s, h => by
    rw [rsTo] at h
    cases ho : os[j]? with
    | none =>
      rw [ho] at h
      have := rsTo_lt j s h
      omega
    | some o =>
      rw [ho] at h
      simp only [rsNext] at h
      split at h
      · rcases List.mem_append.1 h with h | h
        · have := rsTo_lt j s h
          omega
        · rw [List.mem_singleton] at h
          subst h
          show 0 ≤ (j : Int) ∧ (j : Int) < _
          omega
      · have := rsTo_lt j s h
        omega
theorem shHit_lt {u : List Sha} {j : Int} (h : ∀ s ∈ u, s.order < j) : shHit u j = false := by
  unfold shHit
  cases hl : u.getLast? with
  | none => rfl
  | some s =>
    have := h s (List.mem_of_getLast? hl)
    exact decide_eq_false (by omega)
theorem shHit_snoc {u : List Sha} {j : Int} {l : List Int} : shHit (u ++ [⟨j, l⟩]) j = true := by
  unfold shHit
  rw [List.getLast?_concat]
  exact decide_eq_true rfl
theorem addE_zero {n : Nat} {b : List Int} (h : b.length = n) : addE (List.replicate n 0) b = b := by
  unfold addE
  rw [if_pos (by rw [List.length_replicate, h])]
  apply List.ext_getElem?
  intro k
  rw [List.getElem?_zipWith, List.getElem?_replicate]
  by_cases hk : k < n
  · rw [if_pos hk, List.getElem?_eq_getElem (by omega)]
    simp
  · rw [if_neg hk, List.getElem?_eq_none (by omega)]
theorem addE_same {a b : List Int} (h : a.length = b.length) : (addE a b).length = a.length := by
  unfold addE
  rw [if_pos h, List.length_zipWith]
  omega
/-- One order's parts. -/
theorem block_sh {j : Nat} {n base : Nat} {u : List Sha} (hu : shTo ps want vs base = u) (hlt : ∀ s ∈ u, s.order < (j : Int)) (h0 : rsAcc want ps vs (j : Int) (List.replicate n 0) base = (false, List.replicate n 0)) :
    ∀ t, (∀ k, k < t → want[base + k]? = some (j : Int) ∧ ∃ q, ps[base + k]? = some q ∧ q.load.length = n) →
      shTo ps want vs (base + t) = rsNext (j : Int) u (rsAcc want ps vs (j : Int) (List.replicate n 0) (base + t)) ∧ (rsAcc want ps vs (j : Int) (List.replicate n 0) (base + t)).2.length = n ∧ ((rsAcc want ps vs (j : Int) (List.replicate n 0) (base + t)).1 = false → (rsAcc want ps vs (j : Int) (List.replicate n 0) (base + t)).2 = List.replicate n 0)
  | 0, _ => by
    rw [Nat.add_zero, h0, hu]
    exact ⟨rfl, by simp, fun _ => rfl⟩
  | t + 1, h => by
    obtain ⟨i1, i2, i3⟩ := block_sh hu hlt h0 t (fun k hk => h k (by omega))
    obtain ⟨hw, q, hq, hl⟩ := h t (by omega)
    rw [← Nat.add_assoc]
    cases hs : seenB vs (base + t) with
    | false =>
      rw [rsAcc_no hw (by rw [hs]; simp), shTo_no hq hw hs]
      exact ⟨i1, i2, i3⟩
    | true =>
      rw [rsAcc_yes hw hq rfl hs, shTo_yes hq hw hs, i1]
      obtain ⟨r, hr⟩ : ∃ r, rsAcc want ps vs (j : Int) (List.replicate n 0) (base + t) = r := ⟨_, rfl⟩
      rw [hr] at i2 i3 ⊢
      refine ⟨?_, by rw [addE_same (by rw [i2, hl])]; exact i2, fun h => by cases h⟩
      obtain ⟨b, s⟩ := r
      cases b with
      | false =>
        have e := i3 rfl
        simp only at e
        subst e
        show shStep _ _ u = u ++ [⟨(j : Int), addE (List.replicate n 0) q.load⟩]
        rw [addE_zero hl]
        unfold shStep
        rw [if_neg (by rw [shHit_lt hlt]; simp)]
      | true =>
        show shStep _ _ (u ++ [⟨(j : Int), s⟩]) = u ++ [⟨(j : Int), addE s q.load⟩]
        unfold shStep
        rw [if_pos shHit_snoc, List.getLast?_concat]
        simp
end
/-- Where an order's parts begin. -/
def baseO (os : List Ord) (j : Nat) : Nat := ((os.take j).flatMap partsO).length
theorem baseO_succ {os : List Ord} {j : Nat} {o : Ord} (h : os[j]? = some o) : baseO os (j + 1) = baseO os j + (partsO o).length := by
  unfold baseO
  obtain ⟨h1, h2⟩ := List.getElem?_eq_some_iff.1 h
  rw [List.take_succ_eq_append_getElem h1, h2, List.flatMap_append, List.length_append]
  simp
theorem flat_at : ∀ {os : List Ord} {j : Nat} {o : Ord} {t : Nat} (i : Nat), os[j]? = some o → t < (partsO o).length → (os.flatMap partsO)[baseO os j + t]? = (partsO o)[t]? ∧ (orgO os i)[baseO os j + t]? = some ((i + j : Nat) : Int)
  | [], j, o, t, i, h, _ => by simp at h
  | p :: os, 0, o, t, i, h, ht => by
    simp at h
    subst h
    unfold baseO
    simp only [List.take_zero, List.flatMap_nil, List.length_nil, Nat.zero_add, List.flatMap_cons, orgO]
    rw [List.getElem?_append_left ht, List.getElem?_append_left (by rw [List.length_replicate]; exact ht), List.getElem?_replicate, if_pos ht]
    exact ⟨rfl, rfl⟩
  | p :: os, j + 1, o, t, i, h, ht => by
    have ih := flat_at (os := os) (j := j) (o := o) (t := t) (i + 1) (by simpa using h) ht
    have e : baseO (p :: os) (j + 1) = (partsO p).length + baseO os j := by
      unfold baseO
      rw [List.take_succ_cons, List.flatMap_cons, List.length_append]
    rw [e, List.flatMap_cons, orgO, List.getElem?_append_right (by omega), List.getElem?_append_right (by rw [List.length_replicate]; omega), List.length_replicate, show (partsO p).length + baseO os j + t - (partsO p).length = baseO os j + t by omega]
    exact ⟨ih.1, by rw [ih.2]; congr 2; omega⟩
theorem org_before {os : List Ord} {j k : Nat} (hj : j ≤ os.length) (hk : k < baseO os j) : ∃ i : Nat, i < j ∧ (orgO os 0)[k]? = some (i : Int) := by
  have h1 : (orgO os 0).take (baseO os j) = orgO (os.take j) 0 := by
    have key : ∀ (os : List Ord) (j i : Nat), (orgO os i).take (baseO os j) = orgO (os.take j) i := by
      intro os
      induction os with
      | nil => intro j i; simp [orgO]
      | cons p os ih =>
        intro j i
        cases j with
        | zero => simp [baseO, orgO]
        | succ j =>
          have e : baseO (p :: os) (j + 1) = (List.replicate (partsO p).length (i : Int)).length + baseO os j := by
            unfold baseO
            rw [List.take_succ_cons, List.flatMap_cons, List.length_append, List.length_replicate]
          rw [e, orgO, List.take_length_add_append, ih, List.take_succ_cons, orgO]
    exact key os j 0
  have h2 : k < (orgO (os.take j) 0).length := by rw [orgO_len]; exact hk
  have h3 : (orgO os 0)[k]? = (orgO (os.take j) 0)[k]? := by rw [← h1, List.getElem?_take, if_pos hk]
  obtain ⟨g, hg⟩ : ∃ g, (orgO (os.take j) 0)[k]? = some g := ⟨_, List.getElem?_eq_getElem h2⟩
  obtain ⟨i, rfl, _, h5⟩ := orgO_mem (List.mem_of_getElem? hg)
  rw [List.length_take] at h5
  exact ⟨i, by omega, by rw [h3, hg]⟩
theorem org_after : ∀ {os : List Ord} {j k i : Nat} {g : Int}, baseO os j ≤ k → (orgO os i)[k]? = some g → ((i + j : Nat) : Int) ≤ g
  | os, 0, k, i, g, h, hg => by
    obtain ⟨i', rfl, h1, _⟩ := orgO_mem (List.mem_of_getElem? hg)
    omega
  | [], j + 1, k, i, g, h, hg => by simp [orgO] at hg
  | p :: os, j + 1, k, i, g, h, hg => by
    have e : baseO (p :: os) (j + 1) = (partsO p).length + baseO os j := by
      unfold baseO
      rw [List.take_succ_cons, List.flatMap_cons, List.length_append]
    rw [e] at h
    rw [orgO, List.getElem?_append_right (by rw [List.length_replicate]; omega), List.length_replicate] at hg
    have := org_after (os := os) (j := j) (k := k - (partsO p).length) (i := i + 1) (by omega) hg
    omega
/-- The shares of a route of the expanded instance. -/
theorem shTo_rs {x y : Ins} {want : List Int} (ha : Acc x) (he : expF x = .ok (y, want)) (vs : List Vis) : ∀ j, j ≤ x.orders.length → shTo y.orders want vs (baseO x.orders j) = rsTo x.orders want y.orders vs j
  | 0, _ => by
    show shTo y.orders want vs (baseO x.orders 0) = []
    unfold baseO
    simp [shTo]
  | j + 1, hj => by
    obtain ⟨_, _, ho, hw, hp, _⟩ := expF_ok he
    have ih := shTo_rs ha he vs j (by omega)
    obtain ⟨o, hoj⟩ : ∃ o, x.orders[j]? = some o := ⟨_, List.getElem?_eq_getElem (by omega)⟩
    obtain ⟨ps, hps⟩ := hp o (List.mem_of_getElem? hoj)
    have hpo : partsO o = ps := by unfold partsO; rw [hps]; rfl
    have hlt := fun s hs => (rsTo_lt (os := x.orders) (want := want) (ps := y.orders) (vs := vs) j s hs).2
    have h0 : rsAcc want y.orders vs (j : Int) (List.replicate o.load.length 0) (baseO x.orders j) = (false, List.replicate o.load.length 0) := by
      rw [rsAcc_skip (a := 0) _ (Nat.zero_le _) (fun k _ hk e => by
        obtain ⟨i, hi, hg⟩ := org_before (by omega) hk
        rw [hw, hg] at e
        injection e with e
        omega)]
      rfl
    have hb := block_sh ih hlt h0 (partsO o).length (fun k hk => by
      obtain ⟨f1, f2⟩ := flat_at (i := 0) hoj hk
      refine ⟨by rw [hw, f2, Nat.zero_add], ?_⟩
      obtain ⟨q, hq⟩ : ∃ q, (partsO o)[k]? = some q := ⟨_, List.getElem?_eq_getElem hk⟩
      refine ⟨q, by rw [ho, f1, hq], ?_⟩
      exact (parts_load hps (by rw [← hpo]; exact List.mem_of_getElem? hq)).1)
    rw [baseO_succ hoj, hb.1, rsTo, hoj]
    show _ = rsNext _ _ _
    rw [rsAcc_skip (a := baseO x.orders j + (partsO o).length) want.length]
    · rw [hw, orgO_len]
      have e1 : baseO x.orders x.orders.length = (x.orders.flatMap partsO).length := by unfold baseO; rw [List.take_length]
      have e2 : ∀ a b, a ≤ b → baseO x.orders a ≤ baseO x.orders b := by
        intro a b hab
        unfold baseO
        have e3 : x.orders.take a = (x.orders.take b).take a := by rw [List.take_take, show min a b = a by omega]
        rw [e3]
        generalize x.orders.take b = l
        conv => rhs; rw [← List.take_append_drop a l, List.flatMap_append, List.length_append]
        omega
      rw [← e1, ← baseO_succ hoj]
      exact e2 _ _ hj
    · intro k h1 h2 e
      have h3 := org_after (os := x.orders) (j := j + 1) (k := k) (i := 0) (by rw [baseO_succ hoj]; exact h1) (by rw [← hw]; exact e)
      omega
theorem shF_rs {x y : Ins} {want : List Int} (ha : Acc x) (he : expF x = .ok (y, want)) (vs : List Vis) : shF y.orders want vs = if vs.all (visOk y.orders.length) then some (rsTo x.orders want y.orders vs x.orders.length) else none := by
  unfold shF
  have h := shTo_rs ha he vs x.orders.length (Nat.le_refl _)
  obtain ⟨_, _, ho, _⟩ := expF_ok he
  rw [← h]
  have e1 : baseO x.orders x.orders.length = y.orders.length := by unfold baseO; rw [List.take_length, ho]
  rw [e1]
end Go.Proofs.Ytceceomaheobhaa.spl

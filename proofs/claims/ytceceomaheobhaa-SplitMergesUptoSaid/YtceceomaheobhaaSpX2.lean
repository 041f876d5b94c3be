/- Joined texts: SpwR SpwS SpwT SpwU SpvC SpwV SpvD SpvP. -/
import Derived.Test.YtceceomaheobhaaSpwQ
import Derived.Test.YtceceomaheobhaaSplN
import Derived.Deep.DeepCutAuto
import Derived.Deep.QuietTactic
import Derived.BigQuiet
import Derived.Test.YtceceomaheobhaaSpR
import Derived.Test.YtceceomaheobhaaSplX
import Derived.Test.YtceceomaheobhaaSplY
/- The shares of a route, told order by order. -/
namespace Go.Proofs.Ytceceomaheobhaa.spl
open Go.RowKit
open Go.Proofs.Ytceceomaheobhaa.lib Go.Proofs.Ytceceomaheobhaa.loads Go.Proofs.Ytceceomaheobhaa.typ Go.Proofs.Ytceceomaheobhaa.ins
set_option linter.unusedVariables false
set_option linter.unusedSimpArgs false

/-- Whether a route has a part of order i among the parts below k, and the sum of their loads, from z on. -/
def rsAcc (want : List Int) (ps : List Ord) (vs : List Vis) (i : Int) (z : List Int) : Nat → Bool × List Int
  | 0 => (false, z)
  | k + 1 => match want[k]?, ps[k]? with
    | some g, some q => if g = i ∧ seenB vs k = true then (true, addE (rsAcc want ps vs i z k).2 q.load) else rsAcc want ps vs i z k
    | _, _ => rsAcc want ps vs i z k
def rsNext (i : Int) (u : List Sha) (r : Bool × List Int) : List Sha := if r.1 = true then u ++ [⟨i, r.2⟩] else u
/-- The shares of the orders below j. -/
def rsTo (os : List Ord) (want : List Int) (ps : List Ord) (vs : List Vis) : Nat → List Sha
  | 0 => []
  | i + 1 => match os[i]? with
    | some o => rsNext (i : Int) (rsTo os want ps vs i) (rsAcc want ps vs (i : Int) (List.replicate o.load.length 0) want.length)
    | none => rsTo os want ps vs i
section
variable {os : List Ord} {want : List Int} {ps : List Ord} {vs : List Vis} {i : Int} {z : List Int}
theorem rsAcc_yes {k : Nat} {g : Int} {q : Ord} (h : want[k]? = some g) (hq : ps[k]? = some q) (hg : g = i) (hs : seenB vs k = true) : rsAcc want ps vs i z (k + 1) = (true, addE (rsAcc want ps vs i z k).2 q.load) := by
  rw [rsAcc, h, hq]
  exact if_pos ⟨hg, hs⟩
theorem rsAcc_no {k : Nat} {g : Int} (h : want[k]? = some g) (hn : ¬ (g = i ∧ seenB vs k = true)) : rsAcc want ps vs i z (k + 1) = rsAcc want ps vs i z k := by
  rw [rsAcc, h]
  cases ps[k]? with
  | none => rfl
  | some q => exact if_neg hn
theorem rsAcc_skip {a : Nat} : ∀ b, a ≤ b → (∀ k, a ≤ k → k < b → want[k]? ≠ some i) → rsAcc want ps vs i z b = rsAcc want ps vs i z a
  | 0, hab, _ => by rw [show a = 0 by omega]
  | b + 1, hab, h => by
    rcases Nat.lt_or_ge a (b + 1) with hlt | hge
    · have ih := rsAcc_skip b (by omega) (fun k h1 h2 => h k h1 (by omega))
      rw [← ih]
      have hb := h b (by omega) (by omega)
      cases hw : want[b]? with
      | none => rw [rsAcc, hw]
      | some g => exact rsAcc_no hw (fun h' => hb (by rw [hw, h'.1]))
    · rw [show a = b + 1 by omega]
theorem rsTo_lt : ∀ (j : Nat), ∀ s ∈ rsTo os want ps vs j, 0 ≤ s.order ∧ s.order < (j : Int)
  | 0, s, h => by cases h
  | j + 1, s, h => by
    rw [rsTo] at h
    cases ho : os[j]? with
    | none =>
      rw [ho] at h
      have := rsTo_lt j s h
      omega
    | some o =>
      rw [ho] at h
      simp only [rsNext] at h
      split at h
      · rcases List.mem_append.1 h with h | h
        · have := rsTo_lt j s h
          omega
        · rw [List.mem_singleton] at h
          subst h
          show 0 ≤ (j : Int) ∧ (j : Int) < _
          omega
      · have := rsTo_lt j s h
        omega
theorem shHit_lt {u : List Sha} {j : Int} (h : ∀ s ∈ u, s.order < j) : shHit u j = false := by
  unfold shHit
  cases hl : u.getLast? with
  | none => rfl
  | some s =>
    have := h s (List.mem_of_getLast? hl)
    exact decide_eq_false (by omega)
theorem shHit_snoc {u : List Sha} {j : Int} {l : List Int} : shHit (u ++ [⟨j, l⟩]) j = true := by
  unfold shHit
  rw [List.getLast?_concat]
  exact decide_eq_true rfl
theorem addE_zero {n : Nat} {b : List Int} (h : b.length = n) : addE (List.replicate n 0) b = b := by
  unfold addE
  rw [if_pos (by rw [List.length_replicate, h])]
  apply List.ext_getElem?
  intro k
  rw [List.getElem?_zipWith, List.getElem?_replicate]
  by_cases hk : k < n
  · rw [if_pos hk, List.getElem?_eq_getElem (by omega)]
    simp
  · rw [if_neg hk, List.getElem?_eq_none (by omega)]
theorem addE_same {a b : List Int} (h : a.length = b.length) : (addE a b).length = a.length := by
  unfold addE
  rw [if_pos h, List.length_zipWith]
  omega
/-- One order's parts. -/
theorem block_sh {j : Nat} {n base : Nat} {u : List Sha} (hu : shTo ps want vs base = u) (hlt : ∀ s ∈ u, s.order < (j : Int)) (h0 : rsAcc want ps vs (j : Int) (List.replicate n 0) base = (false, List.replicate n 0)) :
    ∀ t, (∀ k, k < t → want[base + k]? = some (j : Int) ∧ ∃ q, ps[base + k]? = some q ∧ q.load.length = n) →
      shTo ps want vs (base + t) = rsNext (j : Int) u (rsAcc want ps vs (j : Int) (List.replicate n 0) (base + t)) ∧ (rsAcc want ps vs (j : Int) (List.replicate n 0) (base + t)).2.length = n ∧ ((rsAcc want ps vs (j : Int) (List.replicate n 0) (base + t)).1 = false → (rsAcc want ps vs (j : Int) (List.replicate n 0) (base + t)).2 = List.replicate n 0)
  | 0, _ => by
    rw [Nat.add_zero, h0, hu]
    exact ⟨rfl, by simp, fun _ => rfl⟩
  | t + 1, h => by
    obtain ⟨i1, i2, i3⟩ := block_sh hu hlt h0 t (fun k hk => h k (by omega))
    obtain ⟨hw, q, hq, hl⟩ := h t (by omega)
    rw [← Nat.add_assoc]
    cases hs : seenB vs (base + t) with
    | false =>
      rw [rsAcc_no hw (by rw [hs]; simp), shTo_no hq hw hs]
      exact ⟨i1, i2, i3⟩
    | true =>
      rw [rsAcc_yes hw hq rfl hs, shTo_yes hq hw hs, i1]
      obtain ⟨r, hr⟩ : ∃ r, rsAcc want ps vs (j : Int) (List.replicate n 0) (base + t) = r := ⟨_, rfl⟩
      rw [hr] at i2 i3 ⊢
      refine ⟨?_, by rw [addE_same (by rw [i2, hl])]; exact i2, fun h => by cases h⟩
      obtain ⟨b, s⟩ := r
      cases b with
      | false =>
        have e := i3 rfl
        simp only at e
        subst e
        show shStep _ _ u = u ++ [⟨(j : Int), addE (List.replicate n 0) q.load⟩]
        rw [addE_zero hl]
        unfold shStep
        rw [if_neg (by rw [shHit_lt hlt]; simp)]
      | true =>
        show shStep _ _ (u ++ [⟨(j : Int), s⟩]) = u ++ [⟨(j : Int), addE s q.load⟩]
        unfold shStep
        rw [if_pos shHit_snoc, List.getLast?_concat]
        simp
end
/-- Where an order's parts begin. -/
def baseO (os : List Ord) (j : Nat) : Nat := ((os.take j).flatMap partsO).length
theorem baseO_succ {os : List Ord} {j : Nat} {o : Ord} (h : os[j]? = some o) : baseO os (j + 1) = baseO os j + (partsO o).length := by
  unfold baseO
  obtain ⟨h1, h2⟩ := List.getElem?_eq_some_iff.1 h
  rw [List.take_succ_eq_append_getElem h1, h2, List.flatMap_append, List.length_append]
  simp
theorem flat_at : ∀ {os : List Ord} {j : Nat} {o : Ord} {t : Nat} (i : Nat), os[j]? = some o → t < (partsO o).length → (os.flatMap partsO)[baseO os j + t]? = (partsO o)[t]? ∧ (orgO os i)[baseO os j + t]? = some ((i + j : Nat) : Int)
  | [], j, o, t, i, h, _ => by simp at h
  | p :: os, 0, o, t, i, h, ht => by
    simp at h
    subst h
    unfold baseO
    simp only [List.take_zero, List.flatMap_nil, List.length_nil, Nat.zero_add, List.flatMap_cons, orgO]
    rw [List.getElem?_append_left ht, List.getElem?_append_left (by rw [List.length_replicate]; exact ht), List.getElem?_replicate, if_pos ht]
    exact ⟨rfl, rfl⟩
  | p :: os, j + 1, o, t, i, h, ht => by
    have ih := flat_at (os := os) (j := j) (o := o) (t := t) (i + 1) (by simpa using h) ht
    have e : baseO (p :: os) (j + 1) = (partsO p).length + baseO os j := by
      unfold baseO
      rw [List.take_succ_cons, List.flatMap_cons, List.length_append]
    rw [e, List.flatMap_cons, orgO, List.getElem?_append_right (by omega), List.getElem?_append_right (by rw [List.length_replicate]; omega), List.length_replicate, show (partsO p).length + baseO os j + t - (partsO p).length = baseO os j + t by omega]
    exact ⟨ih.1, by rw [ih.2]; congr 2; omega⟩
theorem org_before {os : List Ord} {j k : Nat} (hj : j ≤ os.length) (hk : k < baseO os j) : ∃ i : Nat, i < j ∧ (orgO os 0)[k]? = some (i : Int) := by
  have h1 : (orgO os 0).take (baseO os j) = orgO (os.take j) 0 := by
    have key : ∀ (os : List Ord) (j i : Nat), (orgO os i).take (baseO os j) = orgO (os.take j) i := by
      intro os
      induction os with
      | nil => intro j i; simp [orgO]
      | cons p os ih =>
        intro j i
        cases j with
        | zero => simp [baseO, orgO]
        | succ j =>
          have e : baseO (p :: os) (j + 1) = (List.replicate (partsO p).length (i : Int)).length + baseO os j := by
            unfold baseO
            rw [List.take_succ_cons, List.flatMap_cons, List.length_append, List.length_replicate]
          rw [e, orgO, List.take_length_add_append, ih, List.take_succ_cons, orgO]
    exact key os j 0
  have h2 : k < (orgO (os.take j) 0).length := by rw [orgO_len]; exact hk
  have h3 : (orgO os 0)[k]? = (orgO (os.take j) 0)[k]? := by rw [← h1, List.getElem?_take, if_pos hk]
  obtain ⟨g, hg⟩ : ∃ g, (orgO (os.take j) 0)[k]? = some g := ⟨_, List.getElem?_eq_getElem h2⟩
  obtain ⟨i, rfl, _, h5⟩ := orgO_mem (List.mem_of_getElem? hg)
  rw [List.length_take] at h5
  exact ⟨i, by omega, by rw [h3, hg]⟩
theorem org_after : ∀ {os : List Ord} {j k i : Nat} {g : Int}, baseO os j ≤ k → (orgO os i)[k]? = some g → ((i + j : Nat) : Int) ≤ g
  | os, 0, k, i, g, h, hg => by
    obtain ⟨i', rfl, h1, _⟩ := orgO_mem (List.mem_of_getElem? hg)
    omega
  | [], j + 1, k, i, g, h, hg => by simp [orgO] at hg
  | p :: os, j + 1, k, i, g, h, hg => by
    have e : baseO (p :: os) (j + 1) = (partsO p).length + baseO os j := by
      unfold baseO
      rw [List.take_succ_cons, List.flatMap_cons, List.length_append]
    rw [e] at h
    rw [orgO, List.getElem?_append_right (by rw [List.length_replicate]; omega), List.length_replicate] at hg
    have := org_after (os := os) (j := j) (k := k - (partsO p).length) (i := i + 1) (by omega) hg
    omega
/-- The shares of a route of the expanded instance. -/
theorem shTo_rs {x y : Ins} {want : List Int} (ha : Acc x) (he : expF x = .ok (y, want)) (vs : List Vis) : ∀ j, j ≤ x.orders.length → shTo y.orders want vs (baseO x.orders j) = rsTo x.orders want y.orders vs j
  | 0, _ => by
    show shTo y.orders want vs (baseO x.orders 0) = []
    unfold baseO
    simp [shTo]
  | j + 1, hj => by
    obtain ⟨_, _, ho, hw, hp, _⟩ := expF_ok he
    have ih := shTo_rs ha he vs j (by omega)
    obtain ⟨o, hoj⟩ : ∃ o, x.orders[j]? = some o := ⟨_, List.getElem?_eq_getElem (by omega)⟩
    obtain ⟨ps, hps⟩ := hp o (List.mem_of_getElem? hoj)
    have hpo : partsO o = ps := by unfold partsO; rw [hps]; rfl
    have hlt := fun s hs => (rsTo_lt (os := x.orders) (want := want) (ps := y.orders) (vs := vs) j s hs).2
    have h0 : rsAcc want y.orders vs (j : Int) (List.replicate o.load.length 0) (baseO x.orders j) = (false, List.replicate o.load.length 0) := by
      rw [rsAcc_skip (a := 0) _ (Nat.zero_le _) (fun k _ hk e => by
        obtain ⟨i, hi, hg⟩ := org_before (by omega) hk
        rw [hw, hg] at e
        injection e with e
        omega)]
      rfl
    have hb := block_sh ih hlt h0 (partsO o).length (fun k hk => by
      obtain ⟨f1, f2⟩ := flat_at (i := 0) hoj hk
      refine ⟨by rw [hw, f2, Nat.zero_add], ?_⟩
      obtain ⟨q, hq⟩ : ∃ q, (partsO o)[k]? = some q := ⟨_, List.getElem?_eq_getElem hk⟩
      refine ⟨q, by rw [ho, f1, hq], ?_⟩
      exact (parts_load hps (by rw [← hpo]; exact List.mem_of_getElem? hq)).1)
    rw [baseO_succ hoj, hb.1, rsTo, hoj]
    show _ = rsNext _ _ _
    rw [rsAcc_skip (a := baseO x.orders j + (partsO o).length) want.length]
    · rw [hw, orgO_len]
      have e1 : baseO x.orders x.orders.length = (x.orders.flatMap partsO).length := by unfold baseO; rw [List.take_length]
      have e2 : ∀ a b, a ≤ b → baseO x.orders a ≤ baseO x.orders b := by
        intro a b hab
        unfold baseO
        have e3 : x.orders.take a = (x.orders.take b).take a := by rw [List.take_take, show min a b = a by omega]
        rw [e3]
        generalize x.orders.take b = l
        conv => rhs; rw [← List.take_append_drop a l, List.flatMap_append, List.length_append]
        omega
      rw [← e1, ← baseO_succ hoj]
      exact e2 _ _ hj
    · intro k h1 h2 e
      have h3 := org_after (os := x.orders) (j := j + 1) (k := k) (i := 0) (by rw [baseO_succ hoj]; exact h1) (by rw [← hw]; exact e)
      omega
theorem shF_rs {x y : Ins} {want : List Int} (ha : Acc x) (he : expF x = .ok (y, want)) (vs : List Vis) : shF y.orders want vs = if vs.all (visOk y.orders.length) then some (rsTo x.orders want y.orders vs x.orders.length) else none := by
  unfold shF
  have h := shTo_rs ha he vs x.orders.length (Nat.le_refl _)
  obtain ⟨_, _, ho, _⟩ := expF_ok he
  rw [← h]
  have e1 : baseO x.orders x.orders.length = y.orders.length := by unfold baseO; rw [List.take_length, ho]
  rw [e1]
theorem rsTo_len (os : List Ord) (want : List Int) (ps : List Ord) (vs : List Vis) : ∀ j, (rsTo os want ps vs j).length ≤ j
  | 0 => Nat.zero_le _
  | j + 1 => by
    have ih := rsTo_len os want ps vs j
    rw [rsTo]
    cases os[j]? with
    | none => exact Nat.le_succ_of_le ih
    | some o =>
      simp only [rsNext]
      split
      · rw [List.length_append]; simp only [List.length_cons, List.length_nil]; omega
      · omega
end Go.Proofs.Ytceceomaheobhaa.spl

/- The law SplitWhole, plain: the shares of the routes add up. -/
namespace Go.Proofs.Ytceceomaheobhaa.spl
open Go.RowKit
open Go.Proofs.Ytceceomaheobhaa.lib Go.Proofs.Ytceceomaheobhaa.loads Go.Proofs.Ytceceomaheobhaa.typ Go.Proofs.Ytceceomaheobhaa.ins
set_option linter.unusedVariables false
set_option linter.unusedSimpArgs false

def psStep (g : Int) (q : Ord) (j : Int) (d : Nat) (b : Bool) : Int := if g = j ∧ b = true then q.load[d]?.getD 0 else 0
/-- The sum over the parts below k of order j that p takes, in a dimension. -/
def psum (want : List Int) (ps : List Ord) (j : Int) (d : Nat) (p : Nat → Bool) : Nat → Int
  | 0 => 0
  | k + 1 => psum want ps j d p k + match want[k]?, ps[k]? with
    | some g, some q => psStep g q j d (p k)
    | _, _ => 0
/-- What is known of the parts of order j. -/
def POk (want : List Int) (ps : List Ord) (j : Int) (n : Nat) : Prop := ∀ (k : Nat) q, want[k]? = some j → ps[k]? = some q → q.load.length = n ∧ ∀ v ∈ q.load, 0 ≤ v
section
variable {want : List Int} {ps : List Ord} {vs : List Vis} {j : Int} {n d : Nat}
theorem load_nonneg {q : Ord} (h : ∀ v ∈ q.load, 0 ≤ v) (d : Nat) : 0 ≤ q.load[d]?.getD 0 := by
  cases hv : q.load[d]? with
  | none => exact Int.le_refl _
  | some v => exact h v (List.mem_of_getElem? hv)
theorem psum_succ (p : Nat → Bool) {k : Nat} {g : Int} {q : Ord} (hg : want[k]? = some g) (hq : ps[k]? = some q) : psum want ps j d p (k + 1) = psum want ps j d p k + psStep g q j d (p k) := by
  rw [psum, hg, hq]
theorem psum_le (hok : POk want ps j n) {p q : Nat → Bool} (h : ∀ k, want[k]? = some j → p k = true → q k = true) : ∀ k, 0 ≤ psum want ps j d p k ∧ psum want ps j d p k ≤ psum want ps j d q k
  | 0 => ⟨Int.le_refl _, Int.le_refl _⟩
  | k + 1 => by
    obtain ⟨i1, i2⟩ := psum_le hok h k
    rw [psum, psum]
    cases hg : want[k]? with
    | none => simp only; omega
    | some g =>
      cases ho : ps[k]? with
      | none => simp only; omega
      | some o =>
        simp only
        unfold psStep
        by_cases hj : g = j
        · subst hj
          have h0 := load_nonneg (hok k o hg ho).2 d
          have h1 := h k hg
          cases hp : p k
          · rw [if_neg (by simp)]
            split <;> omega
          · rw [if_pos ⟨rfl, rfl⟩, if_pos ⟨rfl, h1 hp⟩]
            omega
        · rw [if_neg (fun h => hj h.1), if_neg (fun h => hj h.1)]
          omega
theorem psum_add {p q r : Nat → Bool} (h : ∀ k, want[k]? = some j → (p k || q k) = r k ∧ (p k && q k) = false) : ∀ k, psum want ps j d p k + psum want ps j d q k = psum want ps j d r k
  | 0 => rfl
  | k + 1 => by
    have ih := psum_add h k
    rw [psum, psum, psum]
    cases hg : want[k]? with
    | none => simp only; omega
    | some g =>
      cases ho : ps[k]? with
      | none => simp only; omega
      | some o =>
        simp only
        unfold psStep
        by_cases hj : g = j
        · subst hj
          obtain ⟨h1, h2⟩ := h k hg
          generalize o.load[d]?.getD 0 = v
          cases hp : p k <;> cases hq : q k <;> cases hr : r k <;> rw [hp, hq, hr] at h1 <;> rw [hp, hq] at h2 <;> simp at h1 h2 <;> simp <;> omega
        · rw [if_neg (fun h => hj h.1), if_neg (fun h => hj h.1), if_neg (fun h => hj h.1)]
          omega
theorem psum_all (hl : want.length = ps.length) : ∀ k, k ≤ want.length → psum want ps j d (fun _ => true) k = zsum j d (want.take k) (ps.take k)
  | 0, _ => by simp [psum, zsum]
  | k + 1, hk => by
    have ih := psum_all hl k (by omega)
    obtain ⟨g, hg⟩ : ∃ g, want[k]? = some g := ⟨_, List.getElem?_eq_getElem (by omega)⟩
    obtain ⟨q, hq⟩ : ∃ q, ps[k]? = some q := ⟨_, List.getElem?_eq_getElem (by omega)⟩
    obtain ⟨h1, h2⟩ := List.getElem?_eq_some_iff.1 hg
    obtain ⟨h3, h4⟩ := List.getElem?_eq_some_iff.1 hq
    rw [psum_succ _ hg hq, List.take_succ_eq_append_getElem h1, List.take_succ_eq_append_getElem h3, h2, h4, zsum_append (by rw [List.length_take, List.length_take]; omega), ih]
    congr 1
    unfold psStep
    simp [zsum]
theorem addE_at {a b : List Int} (ha : a.length = n) (hb : b.length = n) (hd : d < n) : (addE a b)[d]?.getD 0 = a[d]?.getD 0 + b[d]?.getD 0 := by
  unfold addE
  rw [if_pos (by rw [ha, hb]), List.getElem?_zipWith, List.getElem?_eq_getElem (by omega), List.getElem?_eq_getElem (by omega)]
  rfl
theorem rsAcc_len (hok : POk want ps j n) : ∀ k, (rsAcc want ps vs j (List.replicate n 0) k).2.length = n
  | 0 => by simp [rsAcc]
  | k + 1 => by
    have ih := rsAcc_len hok k
    rw [rsAcc]
    cases hg : want[k]? with
    | none => exact ih
    | some g =>
      cases ho : ps[k]? with
      | none => exact ih
      | some o =>
        simp only
        split
        · rename_i h
          obtain ⟨h1, _⟩ := h
          subst h1
          rw [addE_same (by rw [ih, (hok k o hg ho).1])]
          exact ih
        · exact ih
theorem rsAcc_at (hok : POk want ps j n) (hd : d < n) : ∀ k, (rsAcc want ps vs j (List.replicate n 0) k).2[d]?.getD 0 = psum want ps j d (seenB vs) k
  | 0 => by simp [rsAcc, psum, List.getElem?_replicate, hd]
  | k + 1 => by
    have ih := rsAcc_at hok hd k
    have il := rsAcc_len (vs := vs) hok k
    rw [rsAcc, psum]
    cases hg : want[k]? with
    | none => simp only; omega
    | some g =>
      cases ho : ps[k]? with
      | none => simp only; omega
      | some o =>
        simp only
        unfold psStep
        split
        · rename_i h
          obtain ⟨h1, h2⟩ := h
          subst h1
          show (addE _ _)[d]?.getD 0 = _
          rw [addE_at il (hok k o hg ho).1 hd, ih]
        · omega
theorem rsAcc_false (hok : POk want ps j n) : ∀ k, (rsAcc want ps vs j (List.replicate n 0) k).1 = false → (rsAcc want ps vs j (List.replicate n 0) k).2 = List.replicate n 0
  | 0, _ => rfl
  | k + 1, h => by
    have ih := rsAcc_false hok k
    rw [rsAcc] at h ⊢
    cases hg : want[k]? with
    | none => rw [hg] at h; exact ih h
    | some g =>
      cases ho : ps[k]? with
      | none => rw [hg, ho] at h; exact ih h
      | some o =>
        rw [hg, ho] at h
        simp only at h ⊢
        split at h
        · cases h
        · rename_i hn
          rw [if_neg hn]
          exact ih h
end
/-- The sum of the shares of order j, from z on. -/
def sumOf (j : Int) (l : List Sha) (z : List Int) : List Int := l.foldl (fun a s => if s.order = j then addE a s.load else a) z
theorem sumOf_append (j : Int) (l l' : List Sha) (z : List Int) : sumOf j (l ++ l') z = sumOf j l' (sumOf j l z) := by
  unfold sumOf
  rw [List.foldl_append]
theorem sumOf_rs {os : List Ord} {want : List Int} {ps : List Ord} {vs : List Vis} {j : Nat} {o : Ord} (hj : os[j]? = some o) (hok : POk want ps (j : Int) o.load.length) {z : List Int} (hz : z.length = o.load.length) : ∀ m, (sumOf (j : Int) (rsTo os want ps vs m) z).length = o.load.length ∧ ∀ d, d < o.load.length → (sumOf (j : Int) (rsTo os want ps vs m) z)[d]?.getD 0 = z[d]?.getD 0 + (if j < m then psum want ps (j : Int) d (seenB vs) want.length else 0)
  | 0 => ⟨hz, fun d _ => by simp [rsTo, sumOf]⟩
  | m + 1 => by
    obtain ⟨i1, i2⟩ := sumOf_rs hj hok hz m
    rw [rsTo]
    by_cases hm : m = j
    · subst hm
      rw [hj]
      simp only
      unfold rsNext
      have il := rsAcc_len (vs := vs) hok want.length
      split
      · rw [sumOf_append]
        have e3 : ∀ a l : List Int, sumOf (m : Int) [⟨(m : Int), l⟩] a = addE a l := fun a l => by unfold sumOf; simp
        rw [e3]
        refine ⟨by rw [addE_same (by rw [i1, il])]; exact i1, fun d hd => ?_⟩
        rw [addE_at i1 il hd, i2 d hd, if_neg (by omega), if_pos (by omega), rsAcc_at (vs := vs) hok hd, Int.add_zero]
      · rename_i hf
        have hf' := rsAcc_false (vs := vs) hok want.length (by simpa using hf)
        refine ⟨i1, fun d hd => ?_⟩
        rw [i2 d hd, if_neg (by omega), if_pos (by omega), ← rsAcc_at (vs := vs) hok hd, hf']
        simp [List.getElem?_replicate, hd]
    · have e : ∀ d, (if j < m + 1 then psum want ps (j : Int) d (seenB vs) want.length else 0) = if j < m then psum want ps (j : Int) d (seenB vs) want.length else 0 := fun d => by
        by_cases h : j < m
        · rw [if_pos h, if_pos (by omega)]
        · rw [if_neg h, if_neg (by omega)]
      cases ho : os[m]? with
      | none => exact ⟨i1, fun d hd => by rw [e]; exact i2 d hd⟩
      | some o' =>
        simp only
        unfold rsNext
        split
        · rw [sumOf_append]
          have e2 : ∀ l : List Int, sumOf (j : Int) [⟨(m : Int), l⟩] (sumOf (j : Int) (rsTo os want ps vs m) z) = sumOf (j : Int) (rsTo os want ps vs m) z := fun l => by
            show (if (m : Int) = (j : Int) then _ else _) = _
            rw [if_neg (by omega)]
          rw [e2]
          exact ⟨i1, fun d hd => by rw [e]; exact i2 d hd⟩
        · exact ⟨i1, fun d hd => by rw [e]; exact i2 d hd⟩
end Go.Proofs.Ytceceomaheobhaa.spl

/- The law SplitWhole, plain: Whole accepts the shares of Merge. -/
namespace Go.Proofs.Ytceceomaheobhaa.spl
open Go.RowKit
open Go.Proofs.Ytceceomaheobhaa.lib Go.Proofs.Ytceceomaheobhaa.loads Go.Proofs.Ytceceomaheobhaa.typ Go.Proofs.Ytceceomaheobhaa.ins Go.Proofs.Ytceceomaheobhaa.idx
set_option linter.unusedVariables false
set_option linter.unusedSimpArgs false

/-- A share of an order, its load right. -/
def GoodSh (os : List Ord) (s : Sha) : Prop := ∃ (j : Nat) (o : Ord), s.order = (j : Int) ∧ os[j]? = some o ∧ s.load.length = o.load.length ∧ ∀ v ∈ s.load, 0 ≤ v ∧ v ≤ 1000
theorem smGo_ok {os : List Ord} : ∀ {l : List Sha} {acc : List (List Int)}, (∀ s ∈ l, GoodSh os s) → acc.length = os.length → (∀ (j : Nat) o a, os[j]? = some o → acc[j]? = some a → a.length = o.load.length) →
    ∃ acc', smGo l acc = some acc' ∧ acc'.length = os.length ∧ ∀ (j : Nat) a, acc[j]? = some a → acc'[j]? = some (sumOf (j : Int) l a)
  | [], acc, _, hl, _ => ⟨acc, rfl, hl, fun j a h => h⟩
  | s :: l, acc, hg, hl, ha => by
    obtain ⟨k, o, hk, ho, hlen, hv⟩ := hg s (List.mem_cons_self ..)
    have hkl : k < acc.length := by rw [hl]; exact (List.getElem?_eq_some_iff.1 ho).1
    obtain ⟨a, hak⟩ : ∃ a, acc[k]? = some a := ⟨_, List.getElem?_eq_getElem hkl⟩
    have hal := ha k o a ho hak
    have hkn : s.order.toNat = k := by rw [hk]; exact Int.toNat_natCast k
    have hok : smOk acc s = true := by
      unfold smOk rightB
      rw [hkn, hak, hk]
      simp only [Bool.and_eq_true, decide_eq_true_eq, List.all_eq_true]
      refine ⟨⟨by omega, by omega⟩, hv, ?_⟩
      show (s.load.length : Int) = ((a.length : Nat) : Int)
      rw [hal, hlen]
    have hput : smPut acc s = acc.set k (addE a s.load) := by
      unfold smPut
      rw [hkn, hak]
      rfl
    rw [smGo, if_pos hok, hput]
    have hput' : ∀ (j : Nat) b, (acc.set k (addE a s.load))[j]? = some b → (j = k ∧ b = addE a s.load) ∨ (j ≠ k ∧ acc[j]? = some b) := fun j b hb => by
      rw [List.getElem?_set] at hb
      by_cases h : k = j
      · rw [if_pos h, if_pos hkl] at hb
        injection hb with hb
        exact .inl ⟨h.symm, hb.symm⟩
      · rw [if_neg h] at hb
        exact .inr ⟨fun e => h e.symm, hb⟩
    obtain ⟨acc', h1, h2, h3⟩ := smGo_ok (l := l) (acc := acc.set k (addE a s.load)) (fun s' hs' => hg s' (List.mem_cons_of_mem _ hs')) (by rw [List.length_set]; exact hl) (fun j o' b ho' hb => by
      rcases hput' j b hb with ⟨rfl, rfl⟩ | ⟨_, hb⟩
      · rw [ho] at ho'
        injection ho' with ho'
        subst ho'
        rw [addE_same (by rw [hal, hlen])]
        exact hal
      · exact ha j o' b ho' hb)
    refine ⟨acc', h1, h2, fun j b hb => ?_⟩
    show acc'[j]? = some (sumOf (j : Int) l (if s.order = (j : Int) then addE b s.load else b))
    by_cases h : j = k
    · subst h
      rw [hak] at hb
      injection hb with hb
      subst hb
      rw [if_pos hk]
      exact h3 j _ (by rw [List.getElem?_set, if_pos rfl, if_pos hkl])
    · rw [if_neg (by rw [hk]; omega)]
      exact h3 j b (by rw [List.getElem?_set, if_neg (fun e => h e.symm)]; exact hb)
theorem idxI_mem {l : List Int} {n : Int} (h : n ∈ l) : 0 ≤ idxI l n := by
  have key : ∀ (l : List Int) (k : Int), 0 ≤ k → n ∈ l → 0 ≤ idxGo n l k := by
    intro l
    induction l with
    | nil => intro k _ h; cases h
    | cons x l ih =>
      intro k hk h
      rw [idxGo]
      split
      · exact hk
      · rename_i hx
        rcases List.mem_cons.1 h with h | h
        · exact absurd h hx
        · exact ih (k + 1) (by omega) h
  exact key l 0 (Int.le_refl _) h
/-- The visits of route r below i, kf the route of each order (3: none). -/
def rvTo (kf : Nat → Nat) (r : Nat) : Nat → List Vis
  | 0 => []
  | i + 1 => if kf i = r then rvTo kf r i ++ [⟨(i : Int), false⟩, ⟨(i : Int), true⟩] else rvTo kf r i
def unTo (kf : Nat → Nat) : Nat → List Int
  | 0 => []
  | i + 1 => if kf i = 3 then unTo kf i ++ [(i : Int)] else unTo kf i
def lfTo (kf : Nat → Nat) (want : List Int) : Nat → List Int
  | 0 => []
  | i + 1 => if kf i = 3 then lfTo kf want i ++ [want[i]?.getD 0] else lfTo kf want i
theorem rv_len (kf : Nat → Nat) (r : Nat) : ∀ i, (rvTo kf r i).length ≤ 2 * i
  | 0 => Nat.zero_le _
  | i + 1 => by
    have ih := rv_len kf r i
    rw [rvTo]
    split
    · rw [List.length_append]; simp only [List.length_cons, List.length_nil]; omega
    · omega
theorem lf_len (kf : Nat → Nat) (want : List Int) : ∀ i, (lfTo kf want i).length ≤ i
  | 0 => Nat.zero_le _
  | i + 1 => by
    have ih := lf_len kf want i
    rw [lfTo]
    split
    · rw [List.length_append]; simp only [List.length_cons, List.length_nil]; omega
    · omega
theorem rv_seen (kf : Nat → Nat) (r k : Nat) : ∀ i, seenB (rvTo kf r i) k = decide (k < i ∧ kf k = r)
  | 0 => by unfold seenB; simp [rvTo]
  | i + 1 => by
    have ih := rv_seen kf r k i
    unfold seenB at ih ⊢
    rw [rvTo]
    by_cases h : kf i = r
    · rw [if_pos h, List.any_append, ih]
      by_cases hk : k = i
      · subst hk
        simp [h]
      · have e : decide ((i : Int) = (k : Int)) = false := decide_eq_false (by omega)
        simp only [List.any_cons, List.any_nil, e, Bool.or_false]
        have : (k < i ∧ kf k = r) ↔ (k < i + 1 ∧ kf k = r) := ⟨fun h => ⟨by omega, h.2⟩, fun h => ⟨by omega, h.2⟩⟩
        exact decide_eq_decide.2 this
    · rw [if_neg h, ih]
      have : (k < i ∧ kf k = r) ↔ (k < i + 1 ∧ kf k = r) := ⟨fun h => ⟨by omega, h.2⟩, fun h' => ⟨by
        rcases Nat.lt_or_ge k i with hlt | hge
        · exact hlt
        · exact absurd (by rw [← show k = i by omega]; exact h'.2) h, h'.2⟩⟩
      exact decide_eq_decide.2 this
theorem rv_ok (kf : Nat → Nat) (r n : Nat) : ∀ i, i ≤ n → (rvTo kf r i).all (visOk n) = true
  | 0, _ => rfl
  | i + 1, h => by
    have ih := rv_ok kf r n i (by omega)
    rw [rvTo]
    split
    · rw [List.all_append, ih]
      unfold visOk
      simp
      omega
    · exact ih
theorem lf_mem (kf : Nat → Nat) (want : List Int) : ∀ i g, g ∈ lfTo kf want i ↔ ∃ k, k < i ∧ kf k = 3 ∧ want[k]?.getD 0 = g
  | 0, g => ⟨fun h => (by cases h), fun ⟨k, h, _⟩ => (by omega)⟩
  | i + 1, g => by
    have ih := lf_mem kf want i g
    rw [lfTo]
    constructor
    · intro h
      split at h
      · rename_i h3
        rcases List.mem_append.1 h with h | h
        · obtain ⟨k, h1, h2⟩ := ih.1 h
          exact ⟨k, by omega, h2⟩
        · rw [List.mem_singleton] at h
          exact ⟨i, by omega, h3, h.symm⟩
      · obtain ⟨k, h1, h2⟩ := ih.1 h
        exact ⟨k, by omega, h2⟩
    · rintro ⟨k, h1, h2, h3⟩
      by_cases hk : k = i
      · subst hk
        rw [if_pos h2, ← h3]
        exact List.mem_append_right _ (List.mem_singleton.2 rfl)
      · have := ih.2 ⟨k, by omega, h2, h3⟩
        split
        · exact List.mem_append_left _ this
        · exact this
/-- The parts of an accepted instance. -/
theorem pok_of {x y : Ins} {want : List Int} (ha : Acc x) (he : expF x = .ok (y, want)) {j : Nat} {o : Ord} (hj : x.orders[j]? = some o) : POk want y.orders (j : Int) o.load.length ∧ want.length = y.orders.length ∧ ∀ d v, o.load[d]? = some v → psum want y.orders (j : Int) d (fun _ => true) want.length = v := by
  obtain ⟨_, _, ho, hw, hp, _⟩ := expF_ok he
  have hl : want.length = y.orders.length := by rw [hw, ho, orgO_len]
  refine ⟨fun k q hk hq => ?_, hl, fun d v hv => ?_⟩
  · rw [hw] at hk
    rw [ho] at hq
    obtain ⟨j', o', h1, h2, h3⟩ := org_at hq hk
    obtain rfl : j' = j := by omega
    rw [hj] at h2
    injection h2 with h2
    subst h2
    obtain ⟨ps, hps⟩ := hp o (List.mem_of_getElem? hj)
    have hpo : partsO o = ps := by unfold partsO; rw [hps]; rfl
    rw [hpo] at h3
    obtain ⟨h4, h5⟩ := parts_load hps h3
    exact ⟨h4, fun v hv => (h5 v hv).1 (fun u hu => (ha.bd (List.mem_of_getElem? hj) u hu).1)⟩
  · obtain ⟨ps, hps⟩ := hp o (List.mem_of_getElem? hj)
    have hpo : partsO o = ps := by unfold partsO; rw [hps]; rfl
    rw [psum_all hl _ (Nat.le_refl _), List.take_length, hl, List.take_length, hw, ho]
    have h := zsum_org (d := d) (i := 0) hj
    rw [Nat.zero_add] at h
    rw [h, hpo]
    exact parts_sum hps hv
theorem rs_good {x y : Ins} {want : List Int} (ha : Acc x) (he : expF x = .ok (y, want)) (vs : List Vis) : ∀ m, m ≤ x.orders.length → ∀ s ∈ rsTo x.orders want y.orders vs m, GoodSh x.orders s
  | 0, _, s, h => by cases h
  | m + 1, hm, s, h => by
    obtain ⟨o, ho⟩ : ∃ o, x.orders[m]? = some o := ⟨_, List.getElem?_eq_getElem (by omega)⟩
    rw [rsTo, ho] at h
    simp only [rsNext] at h
    split at h
    · rcases List.mem_append.1 h with h | h
      · exact rs_good ha he vs m (by omega) s h
      · rw [List.mem_singleton] at h
        subst h
        obtain ⟨hok, hl, hall⟩ := pok_of ha he ho
        refine ⟨m, o, rfl, ho, rsAcc_len hok _, fun v hv => ?_⟩
        obtain ⟨d, hd⟩ := List.mem_iff_getElem?.1 hv
        have hdn : d < o.load.length := by
          have := (List.getElem?_eq_some_iff.1 hd).1
          have h2 := rsAcc_len (vs := vs) hok want.length
          simp only at this
          omega
        have h1 := rsAcc_at (vs := vs) hok hdn want.length
        simp only at hd
        rw [hd] at h1
        obtain ⟨u, hu⟩ : ∃ u, o.load[d]? = some u := ⟨_, List.getElem?_eq_getElem hdn⟩
        have h3 := psum_le (d := d) hok (p := seenB vs) (q := fun _ => true) (fun _ _ _ => rfl) want.length
        rw [hall d u hu] at h3
        have h4 := ha.bd (List.mem_of_getElem? ho) u (List.mem_of_getElem? hu)
        simp only [Option.getD_some] at h1
        omega
    · exact rs_good ha he vs m (by omega) s h
def rsK (x y : Ins) (want : List Int) (kf : Nat → Nat) (r : Nat) : List Sha := rsTo x.orders want y.orders (rvTo kf r want.length) x.orders.length
theorem fitsB_at {a b : List Int} {n : Nat} (ha : a.length = n) (hb : b.length = n) (h : ∀ d, d < n → a[d]?.getD 0 ≤ b[d]?.getD 0) : fitsB a b = true := by
  have key : ∀ (a b : List Int), a.length = b.length → (∀ d, d < a.length → a[d]?.getD 0 ≤ b[d]?.getD 0) → fitsGo a b = true := by
    intro a
    induction a with
    | nil => intro b _ _; cases b <;> rfl
    | cons p a ih =>
      intro b hl h
      cases b with
      | nil => rfl
      | cons q b =>
        rw [fitsGo, Bool.and_eq_true, decide_eq_true_eq]
        refine ⟨h 0 (by simp), ih b (by simpa using hl) (fun d hd => ?_)⟩
        have := h (d + 1) (by simpa using hd)
        simpa using this
  unfold fitsB
  rw [decide_eq_true (by rw [ha, hb]), key a b (by rw [ha, hb]) (fun d hd => h d (by omega))]
  rfl
theorem whGo_zero {un : List Int} {acc : List (List Int)} : ∀ {os : List Ord} {k : Nat}, (∀ (j : Nat) o, os[j]? = some o → whAt un (k + j) o (acc[k + j]?.getD []) = 0) → whGo un acc os k = 0
  | [], k, _ => rfl
  | o :: os, k, h => by
    have h0 := h 0 o rfl
    rw [Nat.add_zero] at h0
    rw [whGo, if_neg (fun hn => hn h0)]
    exact whGo_zero (fun j o' ho => by
      have := h (j + 1) o' ho
      rw [show k + (j + 1) = k + 1 + j by omega] at this
      exact this)
theorem whole_law {x y : Ins} {want : List Int} (ha : Acc x) (he : expF x = .ok (y, want)) (kf : Nat → Nat) (hkf : ∀ k, kf k ≤ 3) :
    wholeF x.orders [rsK x y want kf 0, rsK x y want kf 1, rsK x y want kf 2].flatten (lfTo kf want want.length) = 0 := by
  obtain ⟨_, _, ho, hw, hp, _⟩ := expF_ok he
  have hbad : (lfTo kf want want.length).any (unBad x.orders.length) = false := by
    rw [List.any_eq_false]
    intro g hg
    obtain ⟨k, hk, _, h3⟩ := (lf_mem kf want _ g).1 hg
    obtain ⟨g', hg'⟩ : ∃ g', want[k]? = some g' := ⟨_, List.getElem?_eq_getElem hk⟩
    rw [hg'] at h3
    simp only [Option.getD_some] at h3
    subst h3
    obtain ⟨j, rfl, h1, h2⟩ := orgO_mem (by rw [hw] at hg'; exact List.mem_of_getElem? hg')
    unfold unBad
    rw [decide_eq_false (by omega)]
    simp
  unfold wholeF sumF
  rw [hbad]
  have hz : ∀ (j : Nat) o a, x.orders[j]? = some o → (smZero x.orders)[j]? = some a → a = List.replicate o.load.length 0 := fun j o a hj hza => by
    unfold smZero at hza
    rw [List.getElem?_map, hj] at hza
    injection hza with hza
    exact hza.symm
  have hgood : ∀ s ∈ [rsK x y want kf 0, rsK x y want kf 1, rsK x y want kf 2].flatten, GoodSh x.orders s := fun s hs => by
    simp only [List.flatten_cons, List.flatten_nil, List.append_nil, List.mem_append] at hs
    rcases hs with h | h | h
    all_goals exact rs_good ha he _ _ (Nat.le_refl _) s h
  obtain ⟨acc', h1, h2, h3⟩ := smGo_ok (acc := smZero x.orders) hgood (by unfold smZero; rw [List.length_map]) (fun j o a hj hza => by rw [hz j o a hj hza]; simp)
  rw [h1]
  show whGo _ acc' x.orders 0 = 0
  refine whGo_zero (fun j o hj => ?_)
  rw [Nat.zero_add]
  obtain ⟨hok, hl, hall⟩ := pok_of ha he hj
  have hzj : (smZero x.orders)[j]? = some (List.replicate o.load.length 0) := by unfold smZero; rw [List.getElem?_map, hj]; rfl
  rw [h3 j _ hzj]
  simp only [List.flatten_cons, List.flatten_nil, List.append_nil, sumOf_append, Option.getD_some]
  have hjn := (List.getElem?_eq_some_iff.1 hj).1
  obtain ⟨a1, a2⟩ := sumOf_rs (vs := rvTo kf 0 want.length) hj hok (z := List.replicate o.load.length 0) (by simp) x.orders.length
  obtain ⟨b1, b2⟩ := sumOf_rs (vs := rvTo kf 1 want.length) hj hok a1 x.orders.length
  obtain ⟨c1, c2⟩ := sumOf_rs (vs := rvTo kf 2 want.length) hj hok b1 x.orders.length
  show whAt _ j o (sumOf (j : Int) (rsTo x.orders want y.orders (rvTo kf 2 want.length) x.orders.length) (sumOf (j : Int) (rsTo x.orders want y.orders (rvTo kf 1 want.length) x.orders.length) (sumOf (j : Int) (rsTo x.orders want y.orders (rvTo kf 0 want.length) x.orders.length) (List.replicate o.load.length 0)))) = 0
  generalize sumOf (j : Int) (rsTo x.orders want y.orders (rvTo kf 2 want.length) x.orders.length) (sumOf (j : Int) (rsTo x.orders want y.orders (rvTo kf 1 want.length) x.orders.length) (sumOf (j : Int) (rsTo x.orders want y.orders (rvTo kf 0 want.length) x.orders.length) (List.replicate o.load.length 0))) = S at c1 c2 ⊢
  have hS : ∀ d, d < o.load.length → S[d]?.getD 0 = psum want y.orders (j : Int) d (fun k => decide (k < want.length ∧ kf k ≠ 3)) want.length := fun d hd => by
    rw [c2 d hd, b2 d hd, a2 d hd, if_pos hjn, if_pos hjn, if_pos hjn]
    have e0 : (List.replicate o.load.length (0 : Int))[d]?.getD 0 = 0 := by simp [List.getElem?_replicate, hd]
    have h01 := psum_add (want := want) (ps := y.orders) (j := (j : Int)) (d := d) (p := seenB (rvTo kf 0 want.length)) (q := seenB (rvTo kf 1 want.length)) (r := fun k => decide (k < want.length ∧ (kf k = 0 ∨ kf k = 1))) (fun k hk => by
      have hkl := (List.getElem?_eq_some_iff.1 hk).1
      rw [rv_seen, rv_seen]
      by_cases h0 : kf k = 0 <;> by_cases h1 : kf k = 1 <;> simp [h0, h1, hkl]) want.length
    have h02 := psum_add (want := want) (ps := y.orders) (j := (j : Int)) (d := d) (p := fun k => decide (k < want.length ∧ (kf k = 0 ∨ kf k = 1))) (q := seenB (rvTo kf 2 want.length)) (r := fun k => decide (k < want.length ∧ kf k ≠ 3)) (fun k hk => by
      have hkl := (List.getElem?_eq_some_iff.1 hk).1
      rw [rv_seen]
      have h4 := hkf k
      have : kf k = 0 ∨ kf k = 1 ∨ kf k = 2 ∨ kf k = 3 := by omega
      rcases this with h | h | h | h <;> simp [h, hkl]) want.length
    omega
  have hle : ∀ d, d < o.load.length → S[d]?.getD 0 ≤ o.load[d]?.getD 0 := fun d hd => by
    obtain ⟨u, hu⟩ : ∃ u, o.load[d]? = some u := ⟨_, List.getElem?_eq_getElem hd⟩
    have h5 := psum_le (d := d) hok (p := fun k => decide (k < want.length ∧ kf k ≠ 3)) (q := fun _ => true) (fun _ _ _ => rfl) want.length
    rw [hall d u hu] at h5
    rw [hS d hd, hu]
    exact h5.2
  unfold whAt
  rw [if_neg (by rw [fitsB_at c1 rfl hle] <;> simp)]
  by_cases hin : inU (lfTo kf want want.length) j = true
  · rw [if_neg (by rw [hin]; simp)]
  · have hge : ∀ d, d < o.load.length → o.load[d]?.getD 0 ≤ S[d]?.getD 0 := fun d hd => by
      obtain ⟨u, hu⟩ : ∃ u, o.load[d]? = some u := ⟨_, List.getElem?_eq_getElem hd⟩
      have h5 := psum_le (d := d) hok (p := fun _ => true) (q := fun k => decide (k < want.length ∧ kf k ≠ 3)) (fun k hk _ => by
        have hkl := (List.getElem?_eq_some_iff.1 hk).1
        rw [decide_eq_true_eq]
        refine ⟨hkl, fun h3 => hin ?_⟩
        unfold inU
        exact decide_eq_true (idxI_mem ((lf_mem kf want _ _).2 ⟨k, hkl, h3, by rw [hk] <;> rfl⟩))) want.length
      rw [hall d u hu] at h5
      rw [hS d hd, hu]
      exact h5.2
    rw [if_neg (by rw [fitsB_at rfl c1 hge] <;> simp)]
end Go.Proofs.Ytceceomaheobhaa.spl

/- Merge, told as the reference tells it. -/
namespace Go.Proofs.Ytceceomaheobhaa.spl
open Go.RowKit
open Go.Proofs.Ytceceomaheobhaa.lib Go.Proofs.Ytceceomaheobhaa.loads Go.Proofs.Ytceceomaheobhaa.typ Go.Proofs.Ytceceomaheobhaa.ins
set_option linter.unusedVariables false
set_option linter.unusedSimpArgs false

def visAll (n : Nat) (rs : List Rou) : Bool := rs.all fun r => r.visits.all (visOk n)
def rmG (os : List Ord) (org : List Int) (rs : List Rou) : Except Int (Ins × List Int) → Except Int (List (List Sha))
  | .error k => .error k
  | .ok (y, want) => if org = want then (if visAll y.orders.length rs = true then .ok (rs.map fun r => rsTo os org y.orders r.visits os.length) else .error 2) else .error 2
/-- What the reference's Merge answers. -/
def rmergeF (x : Ins) (org : List Int) (rs : List Rou) : Except Int (List (List Sha)) := rmG x.orders org rs (expF x)
theorem mgGo_some {f : Rou → Option (List Sha)} {g : Rou → List Sha} : ∀ {rs : List Rou} {acc : List (List Sha)}, (∀ r ∈ rs, f r = some (g r)) → mgGo f rs acc = some (acc ++ rs.map g)
  | [], acc, _ => by simp [mgGo]
  | r :: rs, acc, h => by
    rw [mgGo, h r (List.mem_cons_self ..)]
    simp only
    rw [mgGo_some (fun r' hr => h r' (List.mem_cons_of_mem _ hr))]
    simp
theorem mgGo_none {f : Rou → Option (List Sha)} : ∀ {rs : List Rou} {acc : List (List Sha)}, (∃ r ∈ rs, f r = none) → mgGo f rs acc = none
  | [], acc, ⟨r, h, _⟩ => by cases h
  | r :: rs, acc, ⟨r', hr, h⟩ => by
    rw [mgGo]
    rcases List.mem_cons.1 hr with rfl | hr
    · rw [h]
    · cases f r with
      | none => rfl
      | some l => exact mgGo_none ⟨r', hr, h⟩
theorem merge_same {x : Ins} (ha : Acc x) (org : List Int) (rs : List Rou) : mergeF x org rs = rmergeF x org rs := by
  unfold mergeF rmergeF
  cases he : expF x with
  | error k => rfl
  | ok r =>
    obtain ⟨y, want⟩ := r
    show (if org = want then mgEnd (mgGo (mgF y want) rs []) else .error 2) = (if org = want then (if visAll y.orders.length rs = true then .ok (rs.map fun r => rsTo x.orders org y.orders r.visits x.orders.length) else .error 2) else .error 2)
    by_cases ho : org = want
    · subst ho
      rw [if_pos rfl, if_pos rfl]
      have hf : ∀ r : Rou, mgF y org r = if r.visits.all (visOk y.orders.length) then some (rsTo x.orders org y.orders r.visits x.orders.length) else none := fun r => shF_rs ha he r.visits
      by_cases hv : visAll y.orders.length rs = true
      · rw [if_pos hv, mgGo_some (g := fun r => rsTo x.orders org y.orders r.visits x.orders.length) (fun r hr => by
          rw [hf, if_pos (List.all_eq_true.1 hv r hr)])]
        rfl
      · rw [if_neg hv, mgGo_none]
        · rfl
        · have : ¬ ∀ r ∈ rs, r.visits.all (visOk y.orders.length) = true := fun h => hv (List.all_eq_true.2 h)
          simp only [Classical.not_forall] at this
          obtain ⟨r, hr, hn⟩ := this
          exact ⟨r, hr, by rw [hf, if_neg hn]⟩
    · rw [if_neg ho, if_neg ho]
end Go.Proofs.Ytceceomaheobhaa.spl

/- The reference's visited, listed, Add. -/
namespace Go.Proofs.Ytceceomaheobhaa.spl
open Go.RowKit
open Go.Proofs.Ytceceomaheobhaa.lib Go.Proofs.Ytceceomaheobhaa.rd Go.Proofs.Ytceceomaheobhaa.app Go.Proofs.Ytceceomaheobhaa.els Go.Proofs.Ytceceomaheobhaa.loads Go.Proofs.Ytceceomaheobhaa.typ Go.Proofs.Ytceceomaheobhaa.big Go.Proofs.Ytceceomaheobhaa.ins Go.Proofs.Ytceceomaheobhaa.ord Go.Proofs.Ytceceomaheobhaa.flts
set_option linter.unusedVariables false
set_option linter.unusedSimpArgs false

def listB (l : List Int) (n : Int) : Bool := l.any fun x => decide (x = n)
theorem listB_at {l : List Int} {k : Nat} {x : Int} (h : l[k]? = some x) (n : Int) : listB (l.drop k) n = (decide (x = n) || listB (l.drop (k + 1)) n) := by
  unfold listB
  rw [drop_at' h, List.any_cons]
set_option maxHeartbeats 1000000 in
theorem rlisted_any (A : Option Addr) (c : Nat) (l : List Int) (n : Int) (w : World) (B : Nat) (h : Ints w B A l) :
    Calls Try.prog 46 #[.slice A l.length c, .int .i64 n] w fun e w' => e = .returned (.bool (listB l n)) ∧ w = w' := by
  have hlen := h.len
  obtain ⟨m, hm⟩ : ∃ m, l.length = m := ⟨_, rfl⟩
  have HM := Lib.hid hm
  rw [hm] at hlen ⊢
  obtain ⟨R, hR⟩ : ∃ R, listB l n = R := ⟨_, rfl⟩
  have HR : Hid (listB (l.drop 0) n = R) := Lib.hid hR
  rw [hR]
  clear hR hm
  go_enter Try.func46, Try.ntmps46
  go_wp2_with fail
  go_loopw [5] (fun i wr => ∃ k : Nat, k ≤ m ∧ i = .int .i64 k ∧ Hid (listB (l.drop k) n = R) ∧ w = wr) (fun i _ => m - (intOf i).toNat)
  case atStart => exact ⟨0, by omega, rfl, HR, rfl⟩
  case round =>
    obtain ⟨k, hk, rfl, hr, rfl⟩ := hrel
    by_cases hlt : k < m
    · obtain ⟨ad, x, rfl, hadb, hx, hcx⟩ := h.at_ (k := k) (by rw [HM.out]; exact hlt)
      have HX := Lib.hid (listB_at hx n)
      have hk0 : (0 : Int) ≤ (k : Int) := by omega
      have hkm : (k : Int) < (m : Int) := by omega
      clear hx
      by_cases hxn : x = n
      · subst hxn
        go_wp2
        go_ret
        exact ⟨ret_bool (by rw [← hr.out, HX.out]; simp), rfl⟩
      · have hxb : (x == n) = false := by rw [beq_eq_false_iff_ne]; exact hxn
        have HR2 : Hid (listB (l.drop (k + 1)) n = R) := Lib.hid (by rw [← hr.out, HX.out, decide_eq_false hxn, Bool.false_or])
        go_wp2
        go_roundw
        case rel => exact ⟨k + 1, by omega, by go_num, HR2, trivial⟩
        case measure => simp [intOf]; omega
    · have hkm : k = m := by omega
      subst hkm
      clear hlt
      go_wp2
      go_ret
      exact ⟨ret_bool (by rw [← hr.out, List.drop_of_length_le (by rw [HM.out]; exact Nat.le_refl _)]; rfl), rfl⟩
theorem seen_at {vs : List Vis} {k : Nat} {v : Vis} (h : vs[k]? = some v) (i : Nat) : seenB (vs.drop k) i = (decide (v.order = (i : Int)) || seenB (vs.drop (k + 1)) i) := by
  unfold seenB
  rw [drop_at' h, List.any_cons]
set_option maxHeartbeats 1000000 in
theorem rvisited_any (u0 u1 u2 : Value) (A : Option Addr) (c : Nat) (vs : List Vis) (i : Nat) (w : World) (h : RowAt rVis w w.heap.size A vs) :
    Calls Try.prog 61 #[.agg #[u0, u1, u2, .slice A vs.length c], .int .i64 i] w fun e w' => e = .returned (.bool (seenB vs i)) ∧ Below w.heap.size w w' := by
  have hlen := h.1
  obtain ⟨m, hm⟩ : ∃ m, vs.length = m := ⟨_, rfl⟩
  have HM := Lib.hid hm
  rw [hm] at hlen ⊢
  obtain ⟨R, hR⟩ : ∃ R, seenB vs i = R := ⟨_, rfl⟩
  have HR : Hid (seenB (vs.drop 0) i = R) := Lib.hid hR
  rw [hR]
  obtain ⟨W0, hW0⟩ : ∃ W0, w.alloc (.cells #[u0, u1, u2, .slice A m c] 66) = W0 := ⟨_, rfl⟩
  have hB0 : Below w.heap.size w W0 := by rw [← hW0]; exact (Below.refl _ _).alloc (Nat.le_refl _) _
  have z0 := hB0.size
  have v3 : W0.cell? ⟨w.heap.size, 3, none⟩ = some (.slice A m c) := by
    rw [← hW0]
    have h := World.alloc_heap_new w (.cells #[u0, u1, u2, .slice A m c] 66)
    unfold World.cell?
    rw [h]
    rfl
  have HV := Lib.hid (h.below hB0)
  have HW0 := Lib.hid hW0
  clear hR hm h hW0
  go_enter Try.func61, Try.ntmps61
  go_upto_region 1 with fail
  rw [HW0.out]
  go_wp2_with fail
  go_loopw [5] (fun q wr => ∃ k : Nat, k ≤ m ∧ q = .int .i64 k ∧ Hid (seenB (vs.drop k) i = R) ∧ W0 = wr) (fun q _ => m - (intOf q).toNat)
  case atStart => exact ⟨0, by omega, rfl, HR, rfl⟩
  case round =>
    obtain ⟨k, hk, rfl, hr, rfl⟩ := hrel
    by_cases hlt : k < m
    · obtain ⟨v, hv⟩ : ∃ v, vs[k]? = some v := ⟨_, List.getElem?_eq_getElem (by rw [HM.out]; exact hlt)⟩
      obtain ⟨ad, rfl, hadb, ⟨m0, m1⟩, hf⟩ := row_Vis HV.out hv
      have HX := Lib.hid (seen_at hv i)
      have hk0 : (0 : Int) ≤ (k : Int) := by omega
      have hkm : (k : Int) < (m : Int) := by omega
      clear hv m1 hf
      by_cases hxn : v.order = (i : Int)
      · have HRR : Hid (R = true) := Lib.hid (by rw [← hr.out, HX.out, decide_eq_true hxn]; rfl)
        rw [hxn] at m0
        go_wp2
        go_ret
        exact ⟨ret_bool (by rw [HRR.out]), hB0⟩
      · have hxb : (v.order == (i : Int)) = false := by rw [beq_eq_false_iff_ne]; exact hxn
        have HR2 : Hid (seenB (vs.drop (k + 1)) i = R) := Lib.hid (by rw [← hr.out, HX.out, decide_eq_false hxn, Bool.false_or])
        go_wp2
        go_roundw
        case rel => exact ⟨k + 1, by omega, by go_num, HR2, trivial⟩
        case measure => simp [intOf]; omega
    · have hkm : k = m := by omega
      subst hkm
      clear hlt
      go_wp2
      go_ret
      exact ⟨ret_bool (by rw [← hr.out, List.drop_of_length_le (by rw [HM.out]; exact Nat.le_refl _)]; rfl), hB0⟩
end Go.Proofs.Ytceceomaheobhaa.spl

/- Whole, told as the reference tells it. -/
namespace Go.Proofs.Ytceceomaheobhaa.spl
open Go.RowKit
open Go.Proofs.Ytceceomaheobhaa.lib Go.Proofs.Ytceceomaheobhaa.loads Go.Proofs.Ytceceomaheobhaa.typ Go.Proofs.Ytceceomaheobhaa.ins Go.Proofs.Ytceceomaheobhaa.idx
set_option linter.unusedVariables false
set_option linter.unusedSimpArgs false

def dimO (os : List Ord) (i : Int) : Nat := (os[i.toNat]?.elim 0 (·.load.length))
/-- Whether a share is out of form. -/
def shBad (os : List Ord) (s : Sha) : Bool := !(decide (0 ≤ s.order ∧ s.order < (os.length : Int)) && rightB s.load (dimO os s.order))
def rwAt (un : List Int) (k : Nat) (o : Ord) (s : List Int) : Int := if fitsB s o.load = false then 17 else if (!o.off && (!listB un k && !fitsB o.load s)) = true then 23 else 0
def rwGo (un : List Int) (shs : List Sha) : List Ord → Nat → Int
  | [], _ => 0
  | o :: os, k => if rwAt un k o (sumOf (k : Int) shs (List.replicate o.load.length 0)) ≠ 0 then rwAt un k o (sumOf (k : Int) shs (List.replicate o.load.length 0)) else rwGo un shs os (k + 1)
/-- What the reference's Whole answers. -/
def rwholeF (os : List Ord) (shs : List Sha) (un : List Int) : Int := if un.any (unBad os.length) then 2 else if shs.any (shBad os) then 2 else rwGo un shs os 0
theorem inU_list (un : List Int) (k : Nat) : inU un k = listB un k := by
  unfold inU listB
  cases h : un.any fun x => decide (x = (k : Int)) with
  | true =>
    obtain ⟨x, hx, hk⟩ := List.any_eq_true.1 h
    rw [decide_eq_true_eq] at hk
    subst hk
    exact decide_eq_true (idxI_mem hx)
  | false =>
    rw [List.any_eq_false] at h
    exact decide_eq_false (by rw [par.idxI_none (fun x hx e => h x hx (by rw [decide_eq_true_eq]; exact e))]; omega)
theorem good_of {os : List Ord} {s : Sha} (h : shBad os s = false) : GoodSh os s := by
  unfold shBad at h
  simp only [Bool.not_eq_false', Bool.and_eq_true, decide_eq_true_eq] at h
  obtain ⟨⟨h1, h2⟩, h3⟩ := h
  obtain ⟨j, hj⟩ := Int.eq_ofNat_of_zero_le h1
  obtain ⟨o, ho⟩ : ∃ o, os[j]? = some o := ⟨_, List.getElem?_eq_getElem (by omega)⟩
  unfold rightB dimO at h3
  rw [hj, Int.toNat_natCast, ho] at h3
  simp only [Bool.and_eq_true, decide_eq_true_eq, List.all_eq_true] at h3
  have h4 : (s.load.length : Int) = ((o.load.length : Nat) : Int) := h3.2
  exact ⟨j, o, hj, ho, by omega, h3.1⟩
theorem smOk_bad {os : List Ord} {acc : List (List Int)} (hl : acc.length = os.length) (ha : ∀ (j : Nat) o a, os[j]? = some o → acc[j]? = some a → a.length = o.load.length) (s : Sha) : smOk acc s = !shBad os s := by
  unfold smOk shBad
  rw [Bool.not_not, hl]
  by_cases hr : 0 ≤ s.order ∧ s.order < (os.length : Int)
  · obtain ⟨j, hj⟩ := Int.eq_ofNat_of_zero_le hr.1
    obtain ⟨o, ho⟩ : ∃ o, os[j]? = some o := ⟨_, List.getElem?_eq_getElem (by omega)⟩
    obtain ⟨a, hac⟩ : ∃ a, acc[j]? = some a := ⟨_, List.getElem?_eq_getElem (by rw [hl]; omega)⟩
    unfold dimO
    rw [hj, Int.toNat_natCast, ho, hac]
    show (_ && rightB s.load ((a.length : Nat) : Int)) = (_ && rightB s.load ((o.load.length : Nat) : Int))
    rw [ha j o a ho hac]
  · rw [decide_eq_false hr]
    rfl
theorem smGo_bad {os : List Ord} : ∀ {l : List Sha} {acc : List (List Int)}, acc.length = os.length → (∀ (j : Nat) o a, os[j]? = some o → acc[j]? = some a → a.length = o.load.length) → l.any (shBad os) = true → smGo l acc = none
  | [], acc, _, _, h => by cases h
  | s :: l, acc, hl, ha, h => by
    rw [smGo, smOk_bad hl ha]
    cases hb : shBad os s with
    | true => rfl
    | false =>
      rw [List.any_cons, hb, Bool.false_or] at h
      obtain ⟨k, o, hk, ho, hlen, _⟩ := good_of hb
      have hkn : s.order.toNat = k := by rw [hk]; exact Int.toNat_natCast k
      rw [if_pos (show (!false) = true from rfl)]
      refine smGo_bad (by unfold smPut; rw [List.length_set]; exact hl) (fun j o' a ho' hac => ?_) h
      unfold smPut at hac
      rw [hkn, List.getElem?_set] at hac
      by_cases hkj : k = j
      · subst hkj
        rw [ho] at ho'
        injection ho' with ho'
        subst ho'
        obtain ⟨a0, ha0⟩ : ∃ a0, acc[k]? = some a0 := ⟨_, List.getElem?_eq_getElem (by rw [hl]; exact (List.getElem?_eq_some_iff.1 ho).1)⟩
        have h0 := ha k o a0 ho ha0
        rw [if_pos rfl, if_pos (by rw [hl]; exact (List.getElem?_eq_some_iff.1 ho).1), ha0] at hac
        injection hac with hac
        rw [← hac]
        show (addE a0 s.load).length = _
        rw [addE_same (by rw [h0, hlen])]
        exact h0
      · rw [if_neg hkj] at hac
        exact ha j o' a ho' hac
theorem whGo_rw {un : List Int} {acc : List (List Int)} {shs : List Sha} : ∀ {os : List Ord} {k : Nat}, (∀ (j : Nat) o, os[j]? = some o → acc[k + j]?.getD [] = sumOf ((k + j : Nat) : Int) shs (List.replicate o.load.length 0)) → whGo un acc os k = rwGo un shs os k
  | [], k, _ => rfl
  | o :: os, k, h => by
    have h0 := h 0 o rfl
    rw [Nat.add_zero] at h0
    have ih := whGo_rw (un := un) (os := os) (k := k + 1) (acc := acc) (shs := shs) (fun j o' ho => by
      have := h (j + 1) o' ho
      rw [show k + (j + 1) = k + 1 + j by omega] at this
      exact this)
    rw [whGo, rwGo, h0, ih]
    have e : ∀ s, whAt un k o s = rwAt un k o s := fun s => by unfold whAt rwAt; rw [inU_list]
    rw [e]
theorem whole_same (os : List Ord) (shs : List Sha) (un : List Int) : wholeF os shs un = rwholeF os shs un := by
  unfold wholeF rwholeF
  split
  · rfl
  · have hz : ∀ (j : Nat) o a, os[j]? = some o → (smZero os)[j]? = some a → a.length = o.load.length := fun j o a hj hza => by
      unfold smZero at hza
      rw [List.getElem?_map, hj] at hza
      injection hza with hza
      rw [← hza, List.length_replicate]
    have hzl : (smZero os).length = os.length := by unfold smZero; rw [List.length_map]
    unfold sumF
    cases hb : shs.any (shBad os) with
    | true => rw [smGo_bad hzl hz hb]; rfl
    | false =>
      rw [List.any_eq_false] at hb
      obtain ⟨acc', h1, h2, h3⟩ := smGo_ok (acc := smZero os) (fun s hs => good_of (by simpa using hb s hs)) hzl hz
      rw [h1]
      show whGo un acc' os 0 = rwGo un shs os 0
      refine whGo_rw (fun j o ho => ?_)
      rw [Nat.zero_add, h3 j _ (show (smZero os)[j]? = some (List.replicate o.load.length 0) by unfold smZero; rw [List.getElem?_map, ho]; rfl)]
      rfl
end Go.Proofs.Ytceceomaheobhaa.spl

/- The reference's Add. -/
namespace Go.Proofs.Ytceceomaheobhaa.lod
open Go.RowKit
open Go.Proofs.Ytceceomaheobhaa.lib Go.Proofs.Ytceceomaheobhaa.loads
set_option linter.unusedVariables false
set_option linter.unusedSimpArgs false
attribute [local go_sem ↓] Go.wp_at_zero Go.wp_at_succ

theorem radd_ne (A : Option Addr) (c : Nat) (n : Nat) (A' : Option Addr) (c' : Nat) (m : Nat) (h : ¬ n = m) (w : World) :
    Calls Try.prog 44 #[.slice A n c, .slice A' m c'] w fun e w' => e = .returned (.tuple #[.slice none 0 0, .int .i64 2]) ∧ w = w' := by
  have hd2 : ((n : Int) == (m : Int)) = false := by simp; omega
  have hd3 : ((n : Int) != (m : Int)) = true := by simp; omega
  clear h
  go_enter Try.func44, Try.ntmps44
  go_wp2
  go_ret2
  exact ⟨rfl, rfl⟩
set_option maxHeartbeats 1000000 in
theorem radd_eq (A : Option Addr) (c : Nat) (a : List Int) (n : Nat) (hn : a.length = n) (A' : Option Addr) (c' : Nat) (b : List Int) (hm : b.length = n) (w : World) (B B' : Nat) (hB : B ≤ w.heap.size) (hB' : B' ≤ w.heap.size) (ha : Ints w B A a) (hb : Ints w B' A' b) (ia : InM 1073741824 a) (ib : InM 1073741824 b) :
    Calls Try.prog 44 #[.slice A n c, .slice A' n c'] w (OutE w (List.zipWith (fun x y => x + y) a b) n 0) := by
  have hlen := ha.len
  rw [hn] at hlen
  have HZ : Hid ((List.zipWith (fun x y => x + y) a b).length = n) := Lib.hid (by rw [List.length_zipWith]; omega)
  have HN := Lib.hid hn
  have HM := Lib.hid hm
  have IA := Lib.hid ia
  have IB := Lib.hid ib
  clear hn hm ia ib
  generalize hL : List.zipWith (fun x y => x + y) a b = L at *
  have HL := Lib.hid hL
  clear hL
  go_enter Try.func44, Try.ntmps44
  go_wp2
  go_loopw [6, 7] (fun v i wr => ∃ k : Nat, k ≤ n ∧ i = .int .i64 k ∧ (∃ A c, v = .slice A k c) ∧ wr.ownsRow w.heap.size 3 1 v k ((L.take k).map (.int .i64)) ∧ Below w.heap.size w wr) (fun _ i _ => n - (intOf i).toNat)
  case atStart => exact ⟨0, by omega, rfl, ⟨none, 0, rfl⟩, World.ownsRow_nil _ _ _ _, Below.refl _ _⟩
  case round =>
    obtain ⟨k, hk, rfl, ⟨A1, c1, rfl⟩, hown, hbel⟩ := hrel
    have hz := hbel.size
    by_cases hlt : k < n
    · obtain ⟨ad, x, rfl, hadb, hx, hcx⟩ := (ha.below (hbel.mono hB)).at_ (k := k) (by rw [HN.out]; exact hlt)
      obtain ⟨ad', y, rfl, hadb', hy, hcy⟩ := (hb.below (hbel.mono hB')).at_ (k := k) (by rw [HM.out]; exact hlt)
      have HX : Hid (L.take (k + 1) = L.take k ++ [x + y]) := Lib.hid (by
        have h1 := zip_at (op := fun x y => x + y) hx hy
        rw [HL.out] at h1
        obtain ⟨h2, h3⟩ := List.getElem?_eq_some_iff.1 h1
        rw [List.take_succ_eq_append_getElem h2, h3])
      obtain ⟨x0, x1⟩ := IA.out x (List.mem_of_getElem? hx)
      obtain ⟨y0, y1⟩ := IB.out y (List.mem_of_getElem? hy)
      have hk0 : (0 : Int) ≤ (k : Int) := by omega
      have hkn : (k : Int) < (n : Int) := by omega
      have fa : ad.block < wr.heap.size := by omega
      have fb : ad'.block < wr.heap.size := by omega
      have hsx : ∀ o, (wr.alloc o).cell? (ad.add k) = some (.int .i64 x) := fun o => (World.cell?_alloc_lt wr o _ (by rw [block_of_add]; exact fa)).trans hcx
      have hsy : ∀ o, (wr.alloc o).cell? (ad'.add k) = some (.int .i64 y) := fun o => (World.cell?_alloc_lt wr o _ (by rw [block_of_add]; exact fb)).trans hcy
      have hW : IntKind.i64.wrap (x + y) = x + y := IntWalk.i64_in _ (by omega)
      clear hx hy
      go_wp2
      go_region_held3 (fun w' => w'.cell? (ad.add k) = some (.int .i64 x) ∧ w'.cell? (ad'.add k) = some (.int .i64 y)) (go_keep)
        ((refine step_push_int (by rfl) _ _ (by rfl) w.heap.size _ k (L.take k) (by rfl) (by exact (hown.alloc _)) wr.heap.size (x + y) (by rfl) (by simp) (by omega) (by simp; omega) ?_; intro A2 c2 w2 hown2 hb2; have k1 : w2.cell? (ad.add k) = some (.int .i64 x) := (hb2.cell (by rw [block_of_add]; omega)).trans (hsx _); have k2 : w2.cell? (ad'.add k) = some (.int .i64 y) := (hb2.cell (by rw [block_of_add]; omega)).trans (hsy _)))
      go_wp2
      go_roundw
      case rel => exact ⟨k + 1, by omega, by go_num, ⟨A2, c2, rfl⟩, by rw [HX.out]; exact hown2, ((hbel.alloc hz _).drew).trans hb2⟩
      case measure => simp [intOf]; omega
    · have hkn : k = n := by omega
      subst hkn
      clear hlt
      rw [List.take_of_length_le (by rw [HZ.out]; exact Nat.le_refl _)] at hown
      go_wp2
      go_ret2
      exact ⟨_, _, rfl, hown, hbel⟩
end Go.Proofs.Ytceceomaheobhaa.lod
namespace Go.Proofs.Ytceceomaheobhaa.spl
open Go.RowKit
open Go.Proofs.Ytceceomaheobhaa.lib Go.Proofs.Ytceceomaheobhaa.loads
set_option linter.unusedVariables false
theorem radd_any (A : Option Addr) (c : Nat) (a : List Int) (A' : Option Addr) (c' : Nat) (b : List Int) (w : World) (ha : Ints w w.heap.size A a) (hb : Ints w w.heap.size A' b) (ia : lod.InM 1073741824 a) (ib : lod.InM 1073741824 b) :
    Calls Try.prog 44 #[.slice A a.length c, .slice A' b.length c'] w fun e w' => ∃ A1 c1 er, e = .returned (.tuple #[.slice A1 (addE a b).length c1, .int .i64 er]) ∧ w'.ownsRow w.heap.size 3 1 (.slice A1 (addE a b).length c1) (addE a b).length ((addE a b).map (.int .i64)) ∧ Below w.heap.size w w' := by
  by_cases h : a.length = b.length
  · have e : addE a b = List.zipWith (fun x y => x + y) a b := by unfold addE; rw [if_pos h]
    have el : (addE a b).length = a.length := by rw [e, List.length_zipWith]; omega
    rw [← h]
    refine (lod.radd_eq A c a a.length rfl A' c' b h.symm w w.heap.size w.heap.size (Nat.le_refl _) (Nat.le_refl _) ha hb ia ib).mono ?_
    rintro e' w' ⟨A1, c1, rfl, h2, h3⟩
    exact ⟨A1, c1, 0, by rw [el], by rw [el, e]; exact h2, h3⟩
  · have e : addE a b = [] := by unfold addE; rw [if_neg h]
    refine (lod.radd_ne A c a.length A' c' b.length h w).mono ?_
    rintro e' w' ⟨rfl, rfl⟩
    rw [e]
    exact ⟨none, 0, 2, rfl, World.ownsRow_nil _ _ _ _, Below.refl _ _⟩
end Go.Proofs.Ytceceomaheobhaa.spl

/- The plan that the law SplitWhole builds: where it stands. -/
namespace Go.Proofs.Ytceceomaheobhaa.spl
open Go.RowKit
open Go.Proofs.Ytceceomaheobhaa.lib Go.Proofs.Ytceceomaheobhaa.rd Go.Proofs.Ytceceomaheobhaa.app Go.Proofs.Ytceceomaheobhaa.els Go.Proofs.Ytceceomaheobhaa.loads Go.Proofs.Ytceceomaheobhaa.typ Go.Proofs.Ytceceomaheobhaa.big Go.Proofs.Ytceceomaheobhaa.ins Go.Proofs.Ytceceomaheobhaa.ord Go.Proofs.Ytceceomaheobhaa.flts
set_option linter.unusedVariables false
set_option linter.unusedSimpArgs false

theorem addr_add0 (R n : Nat) : (⟨R, 0, none⟩ : Addr).add n = ⟨R, n, none⟩ := by
  unfold Addr.add
  by_cases h : n = 0
  · subst h; simp
  · simp [h]
def vcs (l : List Vis) : List Value := l.flatMap VisCells
theorem vcs_append (l l' : List Vis) : vcs (l ++ l') = vcs l ++ vcs l' := by unfold vcs; rw [List.flatMap_append]
def rouC (l : List Vis) (B : Option Addr) (d : Nat) : List Value := [.int .i64 0, .int .i64 0, .slice none 0 0, .slice B l.length d]
def rouCs (vs : Nat → List Vis) (B : Nat → Option Addr) (d : Nat → Nat) : List Value := rouC (vs 0) (B 0) (d 0) ++ (rouC (vs 1) (B 1) (d 1) ++ rouC (vs 2) (B 2) (d 2))
def upd {α : Type} (f : Nat → α) (k : Nat) (x : α) : Nat → α := fun i => if i = k then x else f i
theorem upd_same {α : Type} (f : Nat → α) (k : Nat) (x : α) : upd f k x k = x := if_pos rfl
theorem upd_other {α : Type} (f : Nat → α) {k i : Nat} (x : α) (h : i ≠ k) : upd f k x i = f i := if_neg h
/-- Where the plan stands: rows of visits from base on, the routes' row R, the plan's box p. -/
structure PlSt (base R p : Nat) (w0 wr : World) (vs : Nat → List Vis) (un lf : List Int) (B : Nat → Option Addr) (d : Nat → Nat) (BU : Option Addr) (dU : Nat) (BL : Option Addr) (dL : Nat) : Prop where
  rows : ∀ k, k < 3 → wr.ownsRow base 68 2 (.slice (B k) (vs k).length (d k)) (vs k).length (vcs (vs k))
  far : ∀ k k', k < 3 → k' < 3 → k ≠ k' → ∀ q, (Value.slice (B k) (vs k).length (d k)).ownBlock = some q → (Value.slice (B k') (vs k').length (d k')).ownBlock ≠ some q
  unr : wr.ownsRow base 3 1 (.slice BU un.length dU) un.length (un.map (.int .i64))
  lfr : wr.ownsRow base 3 1 (.slice BL lf.length dL) lf.length (lf.map (.int .i64))
  farI : ∀ q, (Value.slice BU un.length dU).ownBlock = some q → (Value.slice BL lf.length dL).ownBlock ≠ some q
  rou : wr.ownsRow R 66 4 (.slice (some ⟨R, 0, none⟩) 3 3) 3 (rouCs vs B d)
  pl : wr.heap[p]? = some (.cells #[.slice (some ⟨R, 0, none⟩) 3 3, .slice BU un.length dU] 46 (0, 0))
  bel : Below w0.heap.size w0 wr
  sz : base ≤ wr.heap.size
  hR : w0.heap.size ≤ R ∧ R < p ∧ p < base
section
variable {base R p : Nat} {w0 wr wx : World} {vs : Nat → List Vis} {un lf : List Int} {B : Nat → Option Addr} {d : Nat → Nat} {BU : Option Addr} {dU : Nat} {BL : Option Addr} {dL : Nat}
theorem PlSt.below (h : PlSt base R p w0 wr vs un lf B d BU dU BL dL) (hb : Below wr.heap.size wr wx) : PlSt base R p w0 wx vs un lf B d BU dU BL dL := by
  have h1 := h.sz
  have h2 := h.hR
  have h3 := h.bel.size
  exact ⟨fun k hk => own_below (h.rows k hk) hb, h.far, own_below h.unr hb, own_below h.lfr hb, h.farI, own_below h.rou hb, (hb.block p (by omega)).trans h.pl, h.bel.trans (hb.mono h3), Nat.le_trans h1 hb.size, h2⟩
theorem PlSt.base_lt (h : PlSt base R p w0 wr vs un lf B d BU dU BL dL) {k : Nat} (hk : k < 3) {q : Nat} (e : (Value.slice (B k) (vs k).length (d k)).ownBlock = some q) : base ≤ q ∧ q < wr.heap.size := World.ownsRow.lt (h.rows k hk) q e
/-- What is left as it was, where one row grows. -/
theorem PlSt.cell (h : PlSt base R p w0 wr vs un lf B d BU dU BL dL) {k : Nat} (hk : k < 3) : wr.cell? ⟨R, k * 4 + 3, none⟩ = some (.slice (B k) (vs k).length (d k)) := by
  rw [h.rou.cellAt (k * 4 + 3) (by omega)]
  have : k = 0 ∨ k = 1 ∨ k = 2 := by omega
  rcases this with rfl | rfl | rfl <;> rfl
theorem PlSt.push (h : PlSt base R p w0 wr vs un lf B d BU dU BL dL) {k : Nat} (hk : k < 3) {v v' : Vis} {g c : Nat}
    (hown : wx.ownsRow base 68 2 (.slice (some ⟨g, 0, none⟩) ((vs k).length + 2) c) ((vs k).length + 2) (vcs (vs k) ++ (VisCells v ++ VisCells v'))) (hg : wr.grownBy wx (Value.slice (B k) (vs k).length (d k)).ownBlock) (hd : (Value.slice (B k) (vs k).length (d k)).ownBlock = some g ∨ wr.heap.size ≤ g) :
    PlSt base R p w0 (wx.setCell ⟨R, k * 4 + 3, none⟩ (.slice (some ⟨g, 0, none⟩) ((vs k).length + 2) c)) (upd vs k (vs k ++ [v, v'])) un lf (upd B k (some ⟨g, 0, none⟩)) (upd d k c) BU dU BL dL := by
  have hb := fun q e => (h.base_lt hk (q := q) e)
  obtain ⟨r1, r2, r3⟩ := h.hR
  have hs := h.sz
  have hlen : (vs k ++ [v, v']).length = (vs k).length + 2 := by simp
  have hgo := h.rou.kept hg (.inr (fun e => by have := hb R e.symm; omega))
  have hwx := hg.size
  refine ⟨fun i hi => ?_, fun i i' hi hi' hne q => ?_, ?_, ?_, h.farI, ?_, ?_, ?_, ?_, h.hR⟩
  · refine ownsRow_setCell_below ?_ (by show R < base; omega) _
    by_cases hik : i = k
    · subst hik
      rw [upd_same, upd_same, upd_same, hlen, vcs_append]
      simpa [vcs] using hown
    · rw [upd_other _ _ hik, upd_other _ _ hik, upd_other _ _ hik]
      refine (h.rows i hi).kept hg ?_
      cases ho : (Value.slice (B i) (vs i).length (d i)).ownBlock with
      | none => exact .inl rfl
      | some q => exact .inr (fun e => h.far i k hi hk hik q ho e.symm)
  · have hgk : ∀ j, j < 3 → j ≠ k → (Value.slice (B j) (vs j).length (d j)).ownBlock ≠ some g := fun j hj hjk e => by
      rcases hd with hd | hd
      · exact h.far k j hk hj (Ne.symm hjk) g hd e
      · have := (h.base_lt hj e).2
        omega
    by_cases hik : i = k
    · subst hik
      rw [upd_same, upd_same, upd_same, upd_other _ _ (Ne.symm hne), upd_other _ _ (Ne.symm hne), upd_other _ _ (Ne.symm hne)]
      intro e
      have e : g = q := by injection e
      subst e
      exact hgk i' hi' (Ne.symm hne)
    · rw [upd_other _ _ hik, upd_other _ _ hik, upd_other _ _ hik]
      by_cases hik' : i' = k
      · subst hik'
        rw [upd_same, upd_same, upd_same]
        intro e e'
        have e' : g = q := by injection e'
        subst e'
        exact hgk i hi hik e
      · rw [upd_other _ _ hik', upd_other _ _ hik', upd_other _ _ hik']
        exact h.far i i' hi hi' hne q
  · exact ownsRow_setCell_below (h.unr.kept hg (own_ne_type h.unr (h.rows k hk) (by decide))) (by show R < base; omega) _
  · exact ownsRow_setCell_below (h.lfr.kept hg (own_ne_type h.lfr (h.rows k hk) (by decide))) (by show R < base; omega) _
  · have hst := (hgo.stored (k * 4 + 3) (.slice (some ⟨g, 0, none⟩) ((vs k).length + 2) c)).1
    have e : (rouCs vs B d).set (k * 4 + 3) (.slice (some ⟨g, 0, none⟩) ((vs k).length + 2) c) = rouCs (upd vs k (vs k ++ [v, v'])) (upd B k (some ⟨g, 0, none⟩)) (upd d k c) := by
      have : k = 0 ∨ k = 1 ∨ k = 2 := by omega
      rcases this with rfl | rfl | rfl <;> simp [rouCs, rouC, upd]
    rw [← e]
    exact hst
  · rw [Below.heap_setCell _ ⟨R, _, none⟩ _ p (show p ≠ R by omega)]
    rw [hg.block p (by omega) (fun e => by have := hb p (by first | exact e | exact e.symm); omega)]
    exact h.pl
  · refine (h.bel.grown hg h.bel.size (fun q e => ?_)).setCell (p := ⟨R, _, none⟩) (by show _ ≤ R; omega) _
    have := hb q e
    omega
  · simp; omega
theorem PlSt.pushU (h : PlSt base R p w0 wr vs un lf B d BU dU BL dL) {u : Int} {g c : Nat}
    (hown : wx.ownsRow base 3 1 (.slice (some ⟨g, 0, none⟩) (un.length + 1) c) (un.length + 1) (un.map (.int .i64) ++ [.int .i64 u])) (hg : wr.grownBy wx (Value.slice BU un.length dU).ownBlock) (hd : (Value.slice BU un.length dU).ownBlock = some g ∨ wr.heap.size ≤ g) :
    PlSt base R p w0 (wx.setCell ⟨p, 1, none⟩ (.slice (some ⟨g, 0, none⟩) (un.length + 1) c)) vs (un ++ [u]) lf B d (some ⟨g, 0, none⟩) c BL dL := by
  have hb := fun q e => World.ownsRow.lt h.unr q e
  obtain ⟨r1, r2, r3⟩ := h.hR
  have hs := h.sz
  have hwx := hg.size
  have hlen : (un ++ [u]).length = un.length + 1 := by simp
  refine ⟨fun i hi => ?_, h.far, ?_, ?_, fun q e e' => ?_, ?_, ?_, ?_, ?_, h.hR⟩
  · exact ownsRow_setCell_below ((h.rows i hi).kept hg (own_ne_type (h.rows i hi) h.unr (by decide))) (by show p < base; omega) _
  · refine ownsRow_setCell_below ?_ (by show p < base; omega) _
    rw [hlen, List.map_append]
    exact hown
  · refine ownsRow_setCell_below (h.lfr.kept hg ?_) (by show p < base; omega) _
    cases ho : (Value.slice BL lf.length dL).ownBlock with
    | none => exact .inl rfl
    | some q => exact .inr (fun e => h.farI q e.symm ho)
  · have e : g = q := by injection e
    subst e
    rcases hd with hd | hd
    · exact h.farI g hd e'
    · have := (World.ownsRow.lt h.lfr g e').2
      omega
  · have hgo := h.rou.kept hg (.inr (fun e => by have := hb R e.symm; omega))
    exact hgo.kept (grownBy_set wx p 1 _) (.inr (fun e => by
      have e : R = p := by injection e
      omega))
  · have h1 : wx.heap[p]? = _ := (hg.block p (by omega) (fun e => by have := hb p (by first | exact e | exact e.symm); omega)).trans h.pl
    rw [hlen]
    exact heap_setCell_same wx p 1 _ _ _ h1
  · refine (h.bel.grown hg h.bel.size (fun q e => ?_)).setCell (p := ⟨p, _, none⟩) (by show _ ≤ p; omega) _
    have := hb q e
    omega
  · simp; omega
theorem PlSt.pushL (h : PlSt base R p w0 wr vs un lf B d BU dU BL dL) {u : Int} {g c : Nat}
    (hown : wx.ownsRow base 3 1 (.slice (some ⟨g, 0, none⟩) (lf.length + 1) c) (lf.length + 1) (lf.map (.int .i64) ++ [.int .i64 u])) (hg : wr.grownBy wx (Value.slice BL lf.length dL).ownBlock) (hd : (Value.slice BL lf.length dL).ownBlock = some g ∨ wr.heap.size ≤ g) :
    PlSt base R p w0 wx vs un (lf ++ [u]) B d BU dU (some ⟨g, 0, none⟩) c := by
  have hb := fun q e => World.ownsRow.lt h.lfr q e
  obtain ⟨r1, r2, r3⟩ := h.hR
  have hs := h.sz
  have hwx := hg.size
  have hlen : (lf ++ [u]).length = lf.length + 1 := by simp
  refine ⟨fun i hi => (h.rows i hi).kept hg (own_ne_type (h.rows i hi) h.lfr (by decide)), h.far, h.unr.kept hg ?_, ?_, fun q e e' => ?_, h.rou.kept hg (.inr (fun e => by have := hb R e.symm; omega)), ?_, h.bel.grown hg h.bel.size (fun q e => by have := hb q e; omega), by omega, h.hR⟩
  · cases ho : (Value.slice BU un.length dU).ownBlock with
    | none => exact .inl rfl
    | some q => exact .inr (fun e => h.farI q ho e.symm)
  · rw [hlen, List.map_append]
    exact hown
  · have e' : g = q := by injection e'
    subst e'
    rcases hd with hd | hd
    · exact h.farI g e hd
    · have := (World.ownsRow.lt h.unr g e).2
      omega
  · exact (hg.block p (by omega) (fun e => by have := hb p (by first | exact e | exact e.symm); omega)).trans h.pl
theorem PlSt.visits (h : PlSt base R p w0 wr vs un lf B d BU dU BL dL) {k : Nat} (hk : k < 3) (hl : (vs k).length ≤ 1000000) (hf : ∀ v ∈ vs k, VisFits v) : RowAt rVis wr wr.heap.size (B k) (vs k) :=
  rowAt_own (cells := VisCells) (fun _ => rfl) (h.rows k hk) (fun v hv => rVis_mk (hf v hv)) (by omega) (by decide)
theorem PlSt.routes (h : PlSt base R p w0 wr vs un lf B d BU dU BL dL) (hl : ∀ k, k < 3 → (vs k).length ≤ 1000000) (hf : ∀ k, k < 3 → ∀ v ∈ vs k, VisFits v) : RowAt rRou wr wr.heap.size (some ⟨R, 0, none⟩) [⟨0, 0, vs 0⟩, ⟨0, 0, vs 1⟩, ⟨0, 0, vs 2⟩] := by
  have h2 := h.hR
  have h1 := h.sz
  refine ⟨by simp, fun i x hi => ?_⟩
  have hi3 : i < 3 := by have := (List.getElem?_eq_some_iff.1 hi).1; simpa using this
  have hat := fun k (hk : k < 3) => rRou_mk (r := ⟨0, 0, vs k⟩) (v := .slice none 0 0) (c := d k) (h.visits hk (hl k hk) (hf k hk)) rfl (by show (-9223372036854775808 : Int) ≤ 0 ∧ (0 : Int) ≤ 9223372036854775807; decide) (by show (-9223372036854775808 : Int) ≤ 0 ∧ (0 : Int) ≤ 9223372036854775807; decide)
  have hc := fun j (hj : j < 12) => h.rou.cellAt j (by omega)
  have : i = 0 ∨ i = 1 ∨ i = 2 := by omega
  rcases this with rfl | rfl | rfl
  all_goals
    simp at hi
    subst hi
  · refine ⟨⟨R, 0, none⟩, _, rfl, by show R < _; omega, hat 0 (by omega), fun j u hu => ?_⟩
    have hj : j < 4 := by have := (List.getElem?_eq_some_iff.1 hu).1; simpa [RouCells] using this
    rw [addr_add0]
    show wr.cell? ⟨R, 0 * 4 + j, none⟩ = some u
    rw [hc _ (by omega)]
    have : j = 0 ∨ j = 1 ∨ j = 2 ∨ j = 3 := by omega
    rcases this with rfl | rfl | rfl | rfl <;> exact hu
  · refine ⟨⟨R, 0, none⟩, _, rfl, by show R < _; omega, hat 1 (by omega), fun j u hu => ?_⟩
    have hj : j < 4 := by have := (List.getElem?_eq_some_iff.1 hu).1; simpa [RouCells] using this
    rw [addr_add0]
    show wr.cell? ⟨R, 1 * 4 + j, none⟩ = some u
    rw [hc _ (by omega)]
    have : j = 0 ∨ j = 1 ∨ j = 2 ∨ j = 3 := by omega
    rcases this with rfl | rfl | rfl | rfl <;> exact hu
  · refine ⟨⟨R, 0, none⟩, _, rfl, by show R < _; omega, hat 2 (by omega), fun j u hu => ?_⟩
    have hj : j < 4 := by have := (List.getElem?_eq_some_iff.1 hu).1; simpa [RouCells] using this
    rw [addr_add0]
    show wr.cell? ⟨R, 2 * 4 + j, none⟩ = some u
    rw [hc _ (by omega)]
    have : j = 0 ∨ j = 1 ∨ j = 2 ∨ j = 3 := by omega
    rcases this with rfl | rfl | rfl | rfl <;> exact hu
theorem PlSt.congr (h : PlSt base R p w0 wr vs un lf B d BU dU BL dL) {vs' : Nat → List Vis} (hv : ∀ k, k < 3 → vs' k = vs k) : PlSt base R p w0 wr vs' un lf B d BU dU BL dL := by
  refine ⟨fun k hk => by rw [hv k hk]; exact h.rows k hk, fun k k' hk hk' => by rw [hv k hk, hv k' hk']; exact h.far k k' hk hk', h.unr, h.lfr, h.farI, ?_, h.pl, h.bel, h.sz, h.hR⟩
  have e : rouCs vs' B d = rouCs vs B d := by unfold rouCs; rw [hv 0 (by omega), hv 1 (by omega), hv 2 (by omega)]
  rw [e]
  exact h.rou
theorem PlSt.plain (h : PlSt base R p w0 wr vs un lf B d BU dU BL dL) {row : Option Nat} (hg : wr.grownBy wx row) (hr : ∀ q, row = some q → base ≤ q) : wx.cell? ⟨p, 0, none⟩ = some (.slice (some ⟨R, 0, none⟩) 3 3) ∧ wx.cell? ⟨p, 1, none⟩ = some (.slice BU un.length dU) ∧ wx.frozen? ⟨p, 1, none⟩ = false := by
  have h1 := h.sz
  have h2 := h.hR
  have hp : wx.heap[p]? = _ := (hg.block p (by omega) (fun e => by have := hr p (by first | exact e | exact e.symm); omega)).trans h.pl
  refine ⟨?_, ?_, ?_⟩
  · unfold World.cell?; rw [hp]; rfl
  · unfold World.cell?; rw [hp]; rfl
  · simp [World.frozen?, hp]
theorem PlSt.here (h : PlSt base R p w0 wr vs un lf B d BU dU BL dL) : wr.cell? ⟨p, 0, none⟩ = some (.slice (some ⟨R, 0, none⟩) 3 3) ∧ wr.cell? ⟨p, 1, none⟩ = some (.slice BU un.length dU) ∧ wr.frozen? ⟨p, 1, none⟩ = false :=
  h.plain (World.grownBy.refl wr none) (fun q e => by cases e)
theorem PlSt.baseU (h : PlSt base R p w0 wr vs un lf B d BU dU BL dL) (q : Nat) (e : (Value.slice BU un.length dU).ownBlock = some q) : base ≤ q := (World.ownsRow.lt h.unr q e).1
end
end Go.Proofs.Ytceceomaheobhaa.spl

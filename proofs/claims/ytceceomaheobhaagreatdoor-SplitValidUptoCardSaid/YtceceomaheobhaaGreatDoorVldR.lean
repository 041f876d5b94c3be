/- An instance that is accepted is small; without orders to be divided it is its own expansion; instances are the same as themselves. -/
import Derived.Test.YtceceomaheobhaaGreatDoorVldQ
namespace Go.Proofs.YtceceomaheobhaaGreatDoor.spl
open Go.RowKit
open Go.Proofs.YtceceomaheobhaaGreatDoor.lib Go.Proofs.YtceceomaheobhaaGreatDoor.loads Go.Proofs.YtceceomaheobhaaGreatDoor.typ Go.Proofs.YtceceomaheobhaaGreatDoor.ins Go.Proofs.YtceceomaheobhaaGreatDoor.note Go.Proofs.YtceceomaheobhaaGreatDoor.txt Go.Proofs.YtceceomaheobhaaGreatDoor.ren Go.Proofs.YtceceomaheobhaaGreatDoor.rul Go.Proofs.YtceceomaheobhaaGreatDoor.par Go.Proofs.YtceceomaheobhaaGreatDoor.eqg Go.Proofs.YtceceomaheobhaaGreatDoor.net Go.Proofs.YtceceomaheobhaaGreatDoor.trv
set_option linter.unusedVariables false
set_option linter.unusedSimpArgs false

theorem netTo_nil {n : Net} : ∀ k, netTo n k = [] → (n.places.length ≤ 24 ∧ n.arcs.length ≤ 1024) ∧ ∀ (j : Nat) a, j < k → n.arcs[j]? = some a → arcE n.places.length ((n.arcs.take j).map wayK) a = []
  | 0, h => by
    rw [netTo, List.append_eq_nil_iff] at h
    refine ⟨⟨?_, ?_⟩, fun j a hj => absurd hj (by omega)⟩
    · have hp : ∀ k, plTo n.places k = [] → n.places.length ≤ 24 := by
        intro k
        induction k with
        | zero =>
          intro h
          unfold plTo at h
          split at h
          · cases h
          · omega
        | succ k ih =>
          intro h
          rw [plTo, List.append_eq_nil_iff] at h
          exact ih h.1
      exact hp _ h.1
    · have h2 := h.2
      split at h2
      · cases h2
      · omega
  | k + 1, h => by
    rw [netTo, List.append_eq_nil_iff] at h
    obtain ⟨h1, h2⟩ := netTo_nil k h.1
    refine ⟨h1, fun j a hj ha => ?_⟩
    rcases Nat.lt_or_ge j k with hlt | hge
    · exact h2 j a hlt ha
    · obtain rfl : j = k := by omega
      have h3 := h.2
      unfold arAt at h3
      rw [ha] at h3
      exact List.map_eq_nil_iff.1 h3
theorem slTo_nil {l : List Pt} : ∀ k, slTo l k = [] → l.length ≤ 16
  | 0, h => by
    unfold slTo at h
    split at h
    · cases h
    · omega
  | k + 1, h => by
    rw [slTo, List.append_eq_nil_iff] at h
    exact slTo_nil k h.1
theorem tvTo_nil {l : List Pt} : ∀ k, tvTo l k = [] → szB l.length = false
  | 0, h => by
    unfold tvTo at h
    split at h
    · cases h
    · rename_i h'
      simpa using h'
  | k + 1, h => by
    rw [tvTo, List.append_eq_nil_iff] at h
    exact tvTo_nil k h.1
theorem arcE_nil {P : Int} {ks : List (Int × Int × Int)} {a : Arc} (h : arcE P ks a = []) : a.travel.length ≤ 100 ∧ a.slow.length ≤ 1000 := by
  unfold arcE at h
  rw [List.append_eq_nil_iff, List.append_eq_nil_iff, List.map_eq_nil_iff] at h
  have h1 := tvTo_nil _ h.1.2
  have h2 := slTo_nil _ h.2
  refine ⟨?_, by omega⟩
  unfold szB at h1
  simp at h1
  omega
/-- An instance that is accepted is small. -/
theorem lim_of {x : Ins} (h : insF x = []) : Lim x := by
  have ha := acc_of h
  rw [insF_nil] at h
  obtain ⟨hN, hT, hO, hR⟩ := h
  unfold insN at hN
  obtain ⟨⟨h1, h2⟩, h3⟩ := netTo_nil _ hN
  have hpt : ∀ a ∈ x.net.arcs, a.travel.length ≤ 100 ∧ a.slow.length ≤ 1000 := fun a ha => by
    obtain ⟨j, hj⟩ := List.mem_iff_getElem?.1 ha
    exact arcE_nil (h3 j a (List.getElem?_eq_some_iff.1 hj).1 hj)
  have ht : ∀ k, flt.fltsTo ((x.net.places.length : Int) - 1) x.types k = [] → x.types.length ≤ 6 := by
    intro k
    induction k with
    | zero =>
      intro h
      unfold flt.fltsTo at h
      split at h
      · rename_i hb
        unfold flt.inB at hb
        simp only [Bool.and_eq_true, decide_eq_true_eq] at hb
        omega
      · cases h
    | succ k ih =>
      intro h
      rw [flt.fltsTo, List.append_eq_nil_iff] at h
      exact ih h.1
  refine ⟨by omega, by omega, hpt, fun j a hj hne => absurd (h3 j a (List.getElem?_eq_some_iff.1 hj).1 hj) hne, ?_, ?_, by have := ha.orders; omega, by have := ha.apart; omega, by have := ha.before; omega⟩
  · unfold insN
    rw [hN]
    simp
  · have := ht _ hT
    omega
/-! Instances without orders to be divided. -/
def idsL (n : Nat) : List Int := (List.range n).map (fun k : Nat => (k : Int))
theorem ids_at {n k : Nat} (h : k < n) : (idsL n)[k]? = some (k : Int) := by
  unfold idsL
  rw [List.getElem?_map, List.getElem?_range h]
  rfl
theorem ids_len (n : Nat) : (idsL n).length = n := by unfold idsL; simp
theorem sprB_ids {p : Int × Int} {a : Nat} {x : Int} {n : Nat} (hp : 0 ≤ p.2) : ∀ b, b ≤ n → sprB p a x (idsL n) b = if x = p.1 ∧ p.2 < (b : Int) then [((a : Int), p.2)] else []
  | 0, _ => by rw [sprB, if_neg (by omega)]
  | b + 1, hb => by
    rw [sprB_succ (ids_at (show b < n by omega)), sprB_ids hp b (by omega)]
    unfold sprAt
    by_cases h1 : x = p.1
    · by_cases h2 : p.2 < (b : Int)
      · rw [if_pos ⟨h1, h2⟩, if_neg (by omega), if_pos ⟨h1, by omega⟩]
        rfl
      · rw [if_neg (fun h => h2 h.2)]
        by_cases h3 : (b : Int) = p.2
        · rw [if_pos ⟨h1, h3⟩, if_pos ⟨h1, by omega⟩, h3]
          rfl
        · rw [if_neg (fun h => h3 h.2), if_neg (by omega)]
          rfl
    · rw [if_neg (fun h => h1 h.1), if_neg (fun h => h1 h.1), if_neg (fun h => h1 h.1)]
      rfl
theorem sprA_ids {p : Int × Int} {n : Nat} (h1 : 0 ≤ p.1) (h2 : 0 ≤ p.2 ∧ p.2 < (n : Int)) : ∀ a, a ≤ n → sprA p (idsL n) a = if p.1 < (a : Int) then [p] else []
  | 0, _ => by rw [sprA, if_neg (by omega)]
  | a + 1, ha => by
    rw [sprA_succ (ids_at (show a < n by omega)), sprA_ids h1 h2 a (by omega), ids_len, sprB_ids h2.1 n (Nat.le_refl _)]
    by_cases h3 : p.1 < (a : Int)
    · rw [if_pos h3, if_neg (by omega), if_pos (by omega)]
      rfl
    · rw [if_neg h3]
      by_cases h4 : (a : Int) = p.1
      · rw [if_pos ⟨h4, h2.2⟩, if_pos (by omega), h4]
        rfl
      · rw [if_neg (fun h => h4 h.1), if_neg (by omega)]
        rfl
theorem sprP_ids {ps : List (Int × Int)} {n : Nat} (h : ∀ p ∈ ps, (0 ≤ p.1 ∧ p.1 < (n : Int)) ∧ (0 ≤ p.2 ∧ p.2 < (n : Int))) : ∀ k, k ≤ ps.length → sprP ps (idsL n) k = ps.take k
  | 0, _ => by rw [sprP, List.take_zero]
  | k + 1, hk => by
    obtain ⟨p, hp⟩ : ∃ p, ps[k]? = some p := ⟨_, List.getElem?_eq_getElem (by omega)⟩
    have hb := h p (List.mem_of_getElem? hp)
    rw [sprP_succ hp, sprP_ids h k (by omega), ids_len, sprA_ids hb.1.1 hb.2 n (Nat.le_refl _), if_pos hb.1.2, List.take_add_one, hp]
    rfl
theorem expOs_whole {os : List Ord} : ∀ {rest : List Ord} {i : Nat} {out : List Ord} {org : List Int}, (∀ o ∈ rest, o.split = 1) → expOs os rest i out org = .ok (out ++ rest, org ++ (List.range' i rest.length).map (fun k : Nat => (k : Int)))
  | [], i, out, org, _ => by simp [expOs]
  | o :: rest, i, out, org, h => by
    have h1 := h o (List.mem_cons_self ..)
    have hp : partsF o = some [o] := by unfold partsF; rw [if_pos (by omega)]
    rw [expOs_cons hp, decide_eq_false (by omega), expPs_one, expPs]
    show expOs os rest (i + 1) (out ++ [o]) (org ++ [(i : Int)]) = _
    rw [expOs_whole (fun q hq => h q (List.mem_cons_of_mem _ hq)), List.length_cons, List.range'_succ, List.map_cons, List.append_assoc, List.append_assoc]
    rfl
theorem total_whole : ∀ {os : List Ord}, (∀ o ∈ os, o.split = 1) → totalO os = os.length
  | [], _ => rfl
  | o :: os, h => by
    have h1 := h o (List.mem_cons_self ..)
    have h2 := total_whole (os := os) (fun q hq => h q (List.mem_cons_of_mem _ hq))
    unfold totalO at h2 ⊢
    rw [List.map_cons, List.sum_cons, h2, List.length_cons]
    unfold maxOne
    rw [h1, if_neg (by omega)]
    push_cast
    omega
/-- An instance without orders to be divided is its own expansion. -/
theorem whole_exp {x : Ins} (h : insF x = []) (hw : ∀ o ∈ x.orders, o.split = 1) : expF x = .ok (x, idsL x.orders.length) := by
  have ha := acc_of h
  rw [insF_nil] at h
  obtain ⟨_, _, _, hR⟩ := h
  unfold insR rulesF at hR
  rw [List.append_eq_nil_iff, pairs_nil, pairs_nil] at hR
  have hb1 : ∀ p ∈ x.apart, (0 ≤ p.1 ∧ p.1 < (x.orders.length : Int)) ∧ (0 ≤ p.2 ∧ p.2 < (x.orders.length : Int)) := fun p hp => ⟨(bad_no (hR.1.2.1 p hp)).1, (bad_no (hR.1.2.1 p hp)).2.1⟩
  have hb2 : ∀ p ∈ x.before, (0 ≤ p.1 ∧ p.1 < (x.orders.length : Int)) ∧ (0 ≤ p.2 ∧ p.2 < (x.orders.length : Int)) := fun p hp => ⟨(bad_no (hR.2.2.1 p hp)).1, (bad_no (hR.2.2.1 p hp)).2.1⟩
  have ho := ha.orders
  have h1 := ha.apart
  have h2 := ha.before
  unfold expF
  rw [total_whole hw, if_neg (by omega), expOs_whole hw]
  have e : ([] : List Int) ++ (List.range' 0 x.orders.length).map (fun k : Nat => (k : Int)) = idsL x.orders.length := by
    rw [List.nil_append, ← List.range_eq_range']
    rfl
  rw [e, List.nil_append]
  show (if _ then _ else _) = _
  rw [sprP_ids hb1 _ (Nat.le_refl _), sprP_ids hb2 _ (Nat.le_refl _), List.take_length, List.take_length, if_neg (by omega)]
end Go.Proofs.YtceceomaheobhaaGreatDoor.spl

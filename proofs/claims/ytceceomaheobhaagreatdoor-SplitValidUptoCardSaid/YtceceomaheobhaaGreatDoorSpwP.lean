/- What Expand answers: the orders are the parts, in order; the parts of an order add up to it. -/
import Derived.Test.YtceceomaheobhaaGreatDoorSpQ
import Derived.Test.YtceceomaheobhaaGreatDoorSpR
namespace Go.Proofs.YtceceomaheobhaaGreatDoor.spl
open Go.RowKit
open Go.Proofs.YtceceomaheobhaaGreatDoor.lib Go.Proofs.YtceceomaheobhaaGreatDoor.loads Go.Proofs.YtceceomaheobhaaGreatDoor.typ Go.Proofs.YtceceomaheobhaaGreatDoor.ins
set_option linter.unusedVariables false
set_option linter.unusedSimpArgs false

theorem expPs_ok {os : List Ord} {i : Int} {sp : Bool} : ∀ {ps out out' : List Ord} {org org' : List Int}, expPs os i sp ps out org = .ok (out', org') → out' = out ++ ps ∧ org' = org ++ List.replicate ps.length i
  | [], out, out', org, org', h => by
    simp [expPs] at h
    simp [h.1, h.2]
  | p :: ps, out, out', org, org', h => by
    rw [expPs] at h
    split at h
    · cases h
    · obtain ⟨h1, h2⟩ := expPs_ok h
      rw [h1, h2]
      simp [List.replicate_succ]
def partsO (o : Ord) : List Ord := (partsF o).getD []
/-- The origins of the parts of the orders, the first of which has number i. -/
def orgO : List Ord → Nat → List Int
  | [], _ => []
  | o :: os, i => List.replicate (partsO o).length (i : Int) ++ orgO os (i + 1)
theorem expOs_ok {os : List Ord} : ∀ {rest : List Ord} {i : Nat} {out out' : List Ord} {org org' : List Int}, expOs os rest i out org = .ok (out', org') → out' = out ++ rest.flatMap partsO ∧ org' = org ++ orgO rest i ∧ ∀ o ∈ rest, ∃ ps, partsF o = some ps
  | [], i, out, out', org, org', h => by
    simp [expOs] at h
    simp [h.1, h.2, orgO]
  | o :: rest, i, out, out', org, org', h => by
    rw [expOs] at h
    split at h
    · cases h
    · rename_i ps hps
      split at h
      · cases h
      · rename_i o2 g2 he
        obtain ⟨h1, h2⟩ := expPs_ok he
        obtain ⟨h3, h4, h5⟩ := expOs_ok h
        have hpo : partsO o = ps := by unfold partsO; rw [hps]; rfl
        refine ⟨by rw [h3, h1, List.flatMap_cons, hpo]; simp, by rw [h4, h2, orgO, hpo]; simp, fun q hq => ?_⟩
        rcases List.mem_cons.1 hq with rfl | hq
        · exact ⟨ps, hps⟩
        · exact h5 q hq
theorem expF_ok {x y : Ins} {want : List Int} (h : expF x = .ok (y, want)) : y.net = x.net ∧ y.types = x.types ∧ y.orders = x.orders.flatMap partsO ∧ want = orgO x.orders 0 ∧ (∀ o ∈ x.orders, ∃ ps, partsF o = some ps) ∧ totalO x.orders ≤ 10 ∧ y.apart = sprP x.apart want x.apart.length ∧ y.before = sprP x.before want x.before.length ∧ y.apart.length ≤ 16 ∧ y.before.length ≤ 16 := by
  unfold expF at h
  split at h
  · cases h
  · rename_i ht
    unfold expFin at h
    split at h
    · cases h
    · rename_i out org he
      split at h
      · cases h
      · rename_i hsz
        injection h with h
        injection h with h1 h2
        subst h1
        subst h2
        obtain ⟨h3, h4, h5⟩ := expOs_ok he
        refine ⟨rfl, rfl, by rw [h3]; rfl, by rw [h4]; rfl, h5, by omega, rfl, rfl, ?_, ?_⟩
        · show (sprP x.apart org x.apart.length).length ≤ 16
          omega
        · show (sprP x.before org x.before.length).length ≤ 16
          omega
theorem orgO_len : ∀ (os : List Ord) (i : Nat), (orgO os i).length = (os.flatMap partsO).length
  | [], i => rfl
  | o :: os, i => by rw [orgO, List.flatMap_cons, List.length_append, List.length_append, List.length_replicate, orgO_len os (i + 1)]
theorem orgO_mem : ∀ {os : List Ord} {i : Nat} {g : Int}, g ∈ orgO os i → ∃ j : Nat, g = (j : Int) ∧ i ≤ j ∧ j < i + os.length
  | [], i, g, h => by cases h
  | o :: os, i, g, h => by
    rw [orgO] at h
    rcases List.mem_append.1 h with h | h
    · rw [List.mem_replicate] at h
      exact ⟨i, h.2, Nat.le_refl _, by simp⟩
    · obtain ⟨j, h1, h2, h3⟩ := orgO_mem h
      exact ⟨j, h1, by omega, by simp at h3 ⊢; omega⟩
/-- The part i belongs to the order that its origin says. -/
theorem org_at : ∀ {os : List Ord} {i k : Nat} {q : Ord} {g : Int}, (os.flatMap partsO)[k]? = some q → (orgO os i)[k]? = some g → ∃ (j : Nat) (o : Ord), g = ((i + j : Nat) : Int) ∧ os[j]? = some o ∧ q ∈ partsO o
  | [], i, k, q, g, h, h' => by simp at h
  | o :: os, i, k, q, g, h, h' => by
    rw [List.flatMap_cons] at h
    rw [orgO] at h'
    rcases Nat.lt_or_ge k (partsO o).length with hk | hk
    · rw [List.getElem?_append_left hk] at h
      rw [List.getElem?_append_left (by rw [List.length_replicate]; exact hk), List.getElem?_replicate, if_pos hk] at h'
      injection h' with h'
      exact ⟨0, o, by rw [← h']; rfl, rfl, List.mem_of_getElem? h⟩
    · rw [List.getElem?_append_right hk] at h
      rw [List.getElem?_append_right (by rw [List.length_replicate]; exact hk), List.length_replicate] at h'
      obtain ⟨j, o', h1, h2, h3⟩ := org_at h h'
      exact ⟨j + 1, o', by rw [h1]; congr 1; omega, h2, h3⟩
/-- The sum over the parts with an origin, in a dimension. -/
def zsum (o : Int) (d : Nat) : List Int → List Ord → Int
  | g :: org, q :: out => (if g = o then q.load[d]?.getD 0 else 0) + zsum o d org out
  | _, _ => 0
theorem zsum_append {o : Int} {d : Nat} : ∀ {org org' : List Int} {out out' : List Ord}, org.length = out.length → zsum o d (org ++ org') (out ++ out') = zsum o d org out + zsum o d org' out'
  | [], org', [], out', h => by simp [zsum]
  | g :: org, org', q :: out, out', h => by
    rw [List.cons_append, List.cons_append, zsum, zsum, zsum_append (by simpa using h)]
    omega
  | [], org', q :: out, out', h => by simp at h
  | g :: org, org', [], out', h => by simp at h
theorem zsum_other {o g : Int} {d : Nat} (h : g ≠ o) : ∀ (out : List Ord), zsum o d (List.replicate out.length g) out = 0
  | [] => by simp [zsum]
  | q :: out => by
    rw [List.length_cons, List.replicate_succ, zsum, if_neg h, zsum_other h out]
    rfl
theorem zsum_same {o : Int} {d : Nat} : ∀ (out : List Ord), zsum o d (List.replicate out.length o) out = (out.map fun q => q.load[d]?.getD 0).sum
  | [] => by simp [zsum]
  | q :: out => by
    rw [List.length_cons, List.replicate_succ, zsum, if_pos rfl, zsum_same out, List.map_cons, List.sum_cons]
theorem zsum_org {d : Nat} : ∀ {os : List Ord} {i j : Nat} {o : Ord}, os[j]? = some o → zsum ((i + j : Nat) : Int) d (orgO os i) (os.flatMap partsO) = ((partsO o).map fun q => q.load[d]?.getD 0).sum
  | [], i, j, o, h => by simp at h
  | p :: os, i, j, o, h => by
    rw [orgO, List.flatMap_cons, zsum_append (by rw [List.length_replicate])]
    rcases j with _ | j
    · simp at h
      subst h
      rw [Nat.add_zero, zsum_same]
      have hz : ∀ (os : List Ord) (k : Nat), i < k → zsum (i : Int) d (orgO os k) (os.flatMap partsO) = 0 := by
        intro os
        induction os with
        | nil => intro k hk; simp [orgO, zsum]
        | cons a os ih =>
          intro k hk
          rw [orgO, List.flatMap_cons, zsum_append (by rw [List.length_replicate]), zsum_other (by omega), ih (k + 1) (by omega)]
          rfl
      rw [hz os (i + 1) (by omega)]
      omega
    · have ih := zsum_org (i := i + 1) (d := d) (os := os) (j := j) (o := o) (by simpa using h)
      rw [zsum_other (by omega)]
      rw [show i + (j + 1) = i + 1 + j by omega, ih]
      omega
/-- The parts of an order whose load is right. -/
theorem parts_sum {o : Ord} {ps : List Ord} (h : partsF o = some ps) {d : Nat} {v : Int} (hv : o.load[d]? = some v) : (ps.map fun q => q.load[d]?.getD 0).sum = v := by
  unfold partsF at h
  split at h
  · injection h with h
    subst h
    simp [hv]
  · split at h
    · rename_i hl
      injection h with h
      subst h
      unfold loadsF at hl
      split at hl
      · rename_i hok
        have hv0 := okLd_at hok.2 (List.mem_of_getElem? hv)
        obtain ⟨n, hn⟩ := Int.eq_ofNat_of_zero_le (show 0 ≤ o.split by omega)
        have hp := por_sum (q := v) (n := n) hv0.1 (by omega) (by omega)
        unfold piecesTo
        rw [hn, Int.toNat_natCast, List.map_map]
        rw [← hp]
        congr 1
        apply List.map_congr_left
        intro k _
        show (ptL o.load o.split k)[d]?.getD 0 = _
        rw [ptL_at hv, hn]
        rfl
      · cases hl
    · cases h
theorem parts_load {o q : Ord} {ps : List Ord} (h : partsF o = some ps) (hq : q ∈ ps) : q.load.length = o.load.length ∧ ∀ v ∈ q.load, ((∀ u ∈ o.load, 0 ≤ u) → 0 ≤ v) ∧ ((∀ u ∈ o.load, 0 ≤ u ∧ u ≤ 1000) → v ≤ 1000) := by
  unfold partsF at h
  split at h
  · injection h with h
    subst h
    rw [List.mem_singleton] at hq
    subst hq
    exact ⟨rfl, fun v hv => ⟨fun h => h v hv, fun h => (h v hv).2⟩⟩
  · split at h
    · rename_i hl
      injection h with h
      subst h
      unfold loadsF at hl
      split at hl
      · rename_i hok
        obtain ⟨k, hk, rfl⟩ := List.mem_map.1 hq
        refine ⟨ptL_len _ _ _, fun v hv => ?_⟩
        have hv' : v ∈ ptL o.load o.split k := hv
        obtain ⟨u, hu, rfl⟩ := List.mem_map.1 hv'
        refine ⟨fun h => (porI_bd (h u hu) hok.1.1).1, fun h => ?_⟩
        have h1 := h u hu
        have hk' := List.mem_range.1 hk
        unfold porI
        obtain ⟨n, hn⟩ := Int.eq_ofNat_of_zero_le (show 0 ≤ o.split by omega)
        rw [hn]
        have : n = 1 ∨ n = 2 ∨ n = 3 ∨ n = 4 := by omega
        rcases this with rfl | rfl | rfl | rfl
        all_goals split <;> omega
      · cases hl
    · cases h
end Go.Proofs.YtceceomaheobhaaGreatDoor.spl

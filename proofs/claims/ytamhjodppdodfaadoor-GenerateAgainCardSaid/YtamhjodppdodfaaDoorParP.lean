/- Parts of instances: plain. A part of a valid instance is valid; a part of a part is a part. -/
import Derived.Test.YtamhjodppdodfaaDoorZ4
import Derived.Test.YtamhjodppdodfaaDoorZ3
namespace Go.Proofs.YtamhjodppdodfaaDoor.par
open Go.RowKit
open Go.Proofs.YtamhjodppdodfaaDoor.lib Go.Proofs.YtamhjodppdodfaaDoor.typ Go.Proofs.YtamhjodppdodfaaDoor.sets Go.Proofs.YtamhjodppdodfaaDoor.idx Go.Proofs.YtamhjodppdodfaaDoor.ren Go.Proofs.YtamhjodppdodfaaDoor.eqg Go.Proofs.YtamhjodppdodfaaDoor.rul Go.Proofs.YtamhjodppdodfaaDoor.ord Go.Proofs.YtamhjodppdodfaaDoor.note Go.Proofs.YtamhjodppdodfaaDoor.flts Go.Proofs.YtamhjodppdodfaaDoor.ins Go.Proofs.YtamhjodppdodfaaDoor.und Go.Proofs.YtamhjodppdodfaaDoor.cat
set_option linter.unusedVariables false
set_option linter.unusedSimpArgs false

/-- The members below k, as natural numbers. -/
def memN (s : Int) (k : Nat) : List Nat := (List.range k).filter (hasN s)
theorem memTo_memN (s : Int) (k : Nat) : memTo s k = (memN s k).map (fun i : Nat => (i : Int)) := rfl
theorem memN_succ (s : Int) (k : Nat) : memN s (k + 1) = memN s k ++ (if hasN s k = true then [k] else []) := by
  unfold memN
  rw [List.range_succ, List.filter_append]
  cases h : hasN s k <;> simp [h]
theorem memN_lt {s : Int} {k i : Nat} (h : i ∈ memN s k) : i < k := by
  unfold memN at h
  rw [List.mem_filter, List.mem_range] at h
  exact h.1
theorem memN_sorted (s : Int) : ∀ k, (memN s k).Pairwise (· < ·)
  | 0 => List.Pairwise.nil
  | k + 1 => by
    rw [memN_succ, List.pairwise_append]
    refine ⟨memN_sorted s k, ?_, fun a ha b hb => ?_⟩
    · split <;> simp
    · split at hb
      · rw [List.mem_singleton] at hb
        subst hb
        exact memN_lt ha
      · cases hb
theorem memN_len (s : Int) (k : Nat) : (memN s k).length ≤ k := by
  have h := List.length_filter_le (hasN s) (List.range k)
  rw [List.length_range] at h
  exact h
/-- What a list of indices selects. -/
def pick {X : Type} (l : List X) (L : List Nat) : List X := L.filterMap (l[·]?)
theorem pick_cons {X : Type} {l : List X} {i : Nat} {L : List Nat} {x : X} (h : l[i]? = some x) : pick l (i :: L) = x :: pick l L := by
  unfold pick
  rw [List.filterMap_cons_some h]
theorem pick_get {X : Type} {l : List X} : ∀ {L : List Nat}, (∀ i ∈ L, i < l.length) → ∀ k : Nat, (pick l L)[k]? = (L[k]?).bind (l[·]?)
  | [], _, k => by simp [pick]
  | i :: L, h, k => by
    have hx := List.getElem?_eq_getElem (h i (List.mem_cons_self))
    rw [pick_cons hx]
    rcases k with _ | k
    · simp [hx]
    · simpa using pick_get (L := L) (fun j hj => h j (List.mem_cons_of_mem _ hj)) k
theorem pick_len {X : Type} {l : List X} : ∀ {L : List Nat}, (∀ i ∈ L, i < l.length) → (pick l L).length = L.length
  | [], _ => rfl
  | i :: L, h => by
    have hx := List.getElem?_eq_getElem (h i (List.mem_cons_self))
    rw [pick_cons hx, List.length_cons, List.length_cons, pick_len fun j hj => h j (List.mem_cons_of_mem _ hj)]
theorem pick_range {X : Type} (l : List X) : pick l (List.range l.length) = l := by
  apply List.ext_getElem?
  intro k
  rw [pick_get (fun i hi => List.mem_range.1 hi)]
  rcases Nat.lt_or_ge k l.length with h | h
  · rw [List.getElem?_range h]; rfl
  · rw [List.getElem?_eq_none (by simpa using h), List.getElem?_eq_none h]; rfl
/-- One list of indices after another. -/
def after (L K : List Nat) : List Nat := K.map fun k => L[k]?.getD 0
theorem pick_after {X : Type} (l : List X) (L : List Nat) (hL : ∀ i ∈ L, i < l.length) : ∀ K : List Nat, (∀ k ∈ K, k < L.length) → pick (pick l L) K = pick l (after L K)
  | [], _ => rfl
  | k :: K, h => by
    have ih := pick_after l L hL K fun j hj => h j (List.mem_cons_of_mem _ hj)
    have hk := h k (List.mem_cons_self)
    have hx := List.getElem?_eq_getElem hk
    have hy := List.getElem?_eq_getElem (hL _ (List.getElem_mem hk))
    have e : (pick l L)[k]? = some (l[L[k]]'(hL _ (List.getElem_mem hk))) := by rw [pick_get hL, hx]; exact hy
    rw [pick_cons e, ih]
    show _ = pick l ((L[k]?.getD 0) :: after L K)
    rw [hx]
    exact (pick_cons hy).symm
theorem after_lt {L K : List Nat} {n : Nat} (hL : ∀ i ∈ L, i < n) (hK : ∀ k ∈ K, k < L.length) : ∀ i ∈ after L K, i < n := fun i hi => by
  unfold after at hi
  obtain ⟨k, hk, rfl⟩ := List.mem_map.1 hi
  rw [List.getElem?_eq_getElem (hK k hk)]
  exact hL _ (List.getElem_mem _)
theorem sorted_get {L : List Nat} (h : L.Pairwise (· < ·)) {i j a b : Nat} (hij : i < j) (hi : L[i]? = some a) (hj : L[j]? = some b) : a < b := by
  rw [List.pairwise_iff_getElem] at h
  obtain ⟨h1, rfl⟩ := List.getElem?_eq_some_iff.1 hi
  obtain ⟨h2, rfl⟩ := List.getElem?_eq_some_iff.1 hj
  exact h i j h1 h2 hij
theorem after_sorted {L K : List Nat} (hL : L.Pairwise (· < ·)) (hKs : K.Pairwise (· < ·)) (hK : ∀ k ∈ K, k < L.length) : (after L K).Pairwise (· < ·) := by
  unfold after
  rw [List.pairwise_map]
  refine List.Pairwise.imp_of_mem (fun {a b} ha hb hab => ?_) hKs
  have h1 := List.getElem?_eq_getElem (hK a ha)
  have h2 := List.getElem?_eq_getElem (hK b hb)
  rw [h1, h2]
  exact sorted_get hL hab h1 h2

/-- The set of a list of indices. -/
def sumP : List Nat → Nat
  | [] => 0
  | m :: M => 2 ^ m + sumP M
theorem sumP_append (M N : List Nat) : sumP (M ++ N) = sumP M + sumP N := by
  induction M with
  | nil => simp [sumP]
  | cons m M ih => simp only [List.cons_append, sumP, ih]; omega
theorem sumP_lt : ∀ (n : Nat) (M : List Nat), M.Pairwise (· < ·) → (∀ i ∈ M, i < n) → sumP M < 2 ^ n ∧ ∀ i, (sumP M).testBit i = decide (i ∈ M)
  | 0, M, _, hM => by
    rcases M with _ | ⟨m, M⟩
    · exact ⟨by decide, fun i => by simp [sumP]⟩
    · exact absurd (hM m (List.mem_cons_self)) (by omega)
  | n + 1, M, hs, hM => by
    rcases List.eq_nil_or_concat M with rfl | ⟨M', m, rfl⟩
    · exact ⟨Nat.two_pow_pos _, fun i => by simp [sumP]⟩
    · rw [List.concat_eq_append] at hs hM ⊢
      rw [List.pairwise_append] at hs
      obtain ⟨h1, _, h3⟩ := hs
      have hlt : ∀ i ∈ M', i < m := fun i hi => h3 i hi m (List.mem_singleton.2 rfl)
      have hm : m < n + 1 := hM m (by simp)
      obtain ⟨e1, e2⟩ := sumP_lt n M' h1 (fun i hi => by have := hlt i hi; omega)
      have e3 : sumP M' < 2 ^ m ∧ True := by
        refine ⟨?_, trivial⟩
        apply Nat.lt_pow_two_of_testBit
        intro i hi
        rw [e2, decide_eq_false]
        intro h
        have := hlt i h
        omega
      rw [sumP_append]
      have e4 : sumP [m] = 2 ^ m := by simp [sumP]
      have hor : sumP M' + 2 ^ m = sumP M' ||| 2 ^ m := by
        have h1 := Nat.two_pow_add_eq_or_of_lt e3.1 1
        rw [Nat.mul_one] at h1
        rw [Nat.or_comm, ← h1, Nat.add_comm]
      have hbits : ∀ i, (sumP M' + sumP [m]).testBit i = decide (i ∈ M' ++ [m]) := fun i => by
        rw [e4, hor, Nat.testBit_or, e2, Nat.testBit_two_pow]
        rw [Bool.eq_iff_iff]
        simp
        constructor
        · rintro (h | h)
          · exact .inl h
          · exact .inr h.symm
        · rintro (h | h)
          · exact .inl h
          · exact .inr h.symm
      refine ⟨?_, hbits⟩
      apply Nat.lt_pow_two_of_testBit
      intro i hi
      rw [hbits, decide_eq_false]
      intro h
      have := hM i h
      omega
theorem sorted_filter : ∀ (n : Nat) (M : List Nat), M.Pairwise (· < ·) → (∀ i ∈ M, i < n) → (List.range n).filter (fun i => decide (i ∈ M)) = M
  | 0, M, _, hM => by
    rcases M with _ | ⟨m, M⟩
    · rfl
    · exact absurd (hM m (List.mem_cons_self)) (by omega)
  | n + 1, M, hs, hM => by
    rw [List.range_succ, List.filter_append]
    by_cases hn : n ∈ M
    · rcases List.eq_nil_or_concat M with rfl | ⟨M', m, rfl⟩
      · cases hn
      · rw [List.concat_eq_append] at hs hM hn ⊢
        have hs' := hs
        rw [List.pairwise_append] at hs
        obtain ⟨h1, _, h3⟩ := hs
        have hlt : ∀ i ∈ M', i < m := fun i hi => h3 i hi m (List.mem_singleton.2 rfl)
        have hm : m = n := by
          rcases List.mem_append.1 hn with h | h
          · have := hlt n h; have := hM m (by simp); omega
          · exact (List.mem_singleton.1 h).symm
        subst hm
        have ih := sorted_filter m M' h1 hlt
        congr 1
        · rw [← ih]
          apply List.filter_congr
          intro i hi
          rw [ih]
          have : i < m := List.mem_range.1 hi
          rw [Bool.eq_iff_iff]
          simp
          omega
        · simp
    · have hlt : ∀ i ∈ M, i < n := fun i hi => by
        have := hM i hi
        have : i ≠ n := fun e => hn (e ▸ hi)
        omega
      rw [sorted_filter n M hs hlt]
      simp [hn]
theorem memN_sum {M : List Nat} {n : Nat} (hs : M.Pairwise (· < ·)) (hM : ∀ i ∈ M, i < n) : memN ((sumP M : Nat) : Int) n = M := by
  obtain ⟨_, h⟩ := sumP_lt n M hs hM
  unfold memN
  rw [← sorted_filter n M hs hM]
  apply List.filter_congr
  intro i hi
  rw [sorted_filter n M hs hM, hasN_nat, h]
theorem memN_full (n : Nat) : memN ((2 ^ n - 1 : Nat) : Int) n = List.range n := by
  unfold memN
  rw [List.filter_eq_self]
  intro i hi
  rw [hasN_nat, Nat.testBit_two_pow_sub_one, decide_eq_true (List.mem_range.1 hi)]
theorem idxGo_pos {n : Int} : ∀ {l : List Int} {k : Int}, 0 ≤ k → idxGo n l k = -1 ∨ ∃ j : Nat, l[j]? = some n ∧ idxGo n l k = k + j
  | [], _, _ => .inl rfl
  | x :: xs, k, hk => by
    by_cases h : n = x
    · subst h
      exact .inr ⟨0, rfl, by simp [idxGo]⟩
    · rcases idxGo_pos (n := n) (l := xs) (k := k + 1) (by omega) with h1 | ⟨j, h1, h2⟩
      · exact .inl (by rw [idxGo, if_neg h, h1])
      · exact .inr ⟨j + 1, by simpa using h1, by rw [idxGo, if_neg h, h2]; omega⟩
theorem idxI_pos (l : List Int) (n : Int) : idxI l n = -1 ∨ ∃ j : Nat, l[j]? = some n ∧ idxI l n = j := by
  rcases idxGo_pos (n := n) (l := l) (k := 0) (by omega) with h | ⟨j, h1, h2⟩
  · exact .inl h
  · exact .inr ⟨j, h1, by unfold idxI; omega⟩
/-- Looked up in a list that is another list's image. -/
theorem idxGo_map {f : Nat → Int} {n : Int} {i : Int} : ∀ {K : List Nat} {k : Int}, (∀ x ∈ K, f x = n ↔ (x : Int) = i) → idxGo n (K.map f) k = idxGo i (K.map fun x : Nat => (x : Int)) k
  | [], _, _ => rfl
  | x :: K, k, h => by
    have ih := idxGo_map (f := f) (n := n) (i := i) (K := K) (k := k + 1) fun y hy => h y (List.mem_cons_of_mem _ hy)
    have h0 := h x (List.mem_cons_self)
    show (if n = f x then k else idxGo n (K.map f) (k + 1)) = (if i = (x : Int) then k else idxGo i (K.map fun x : Nat => (x : Int)) (k + 1))
    rw [ih]
    by_cases hx : n = f x
    · rw [if_pos hx, if_pos ((h0.1 hx.symm).symm)]
    · rw [if_neg hx, if_neg (fun e => hx ((h0.2 e.symm).symm))]
theorem idxI_none {l : List Int} {n : Int} (h : ∀ x ∈ l, x ≠ n) : idxI l n = -1 := by
  rcases idxI_pos l n with h1 | ⟨j, h1, _⟩
  · exact h1
  · exact absurd rfl (h n (List.mem_of_getElem? h1))
abbrev ints (L : List Nat) : List Int := L.map fun i : Nat => (i : Int)
theorem ints_get {L : List Nat} {j : Nat} {a : Int} (h : (ints L)[j]? = some a) : ∃ i : Nat, L[j]? = some i ∧ a = i := by
  rw [List.getElem?_map, Option.map_eq_some_iff] at h
  obtain ⟨i, h1, h2⟩ := h
  exact ⟨i, h1, h2.symm⟩
theorem idx_after {L K : List Nat} (hL : L.Pairwise (· < ·)) (hK : ∀ k ∈ K, k < L.length) (a : Int) : idxI (ints (after L K)) a = (if 0 ≤ idxI (ints L) a then idxI (ints K) (idxI (ints L) a) else -1) := by
  rcases idxI_pos (ints L) a with h | ⟨j, h1, h2⟩
  · rw [h, if_neg (by decide)]
    apply idxI_none
    intro x hx e
    subst e
    obtain ⟨i, hi, rfl⟩ := List.mem_map.1 hx
    unfold after at hi
    obtain ⟨k, hk, rfl⟩ := List.mem_map.1 hi
    have hk' := List.getElem?_eq_getElem (hK k hk)
    have h5 : idxI (ints L) ((L[k]?.getD 0 : Nat) : Int) ≠ -1 := by
      intro h6
      have : ((L[k]?.getD 0 : Nat) : Int) ∈ ints L := by
        rw [hk']
        exact List.mem_map.2 ⟨_, List.getElem_mem (hK k hk), rfl⟩
      clear h
      have key : ∀ (l : List Int) (n : Int) (k : Int), 0 ≤ k → n ∈ l → 0 ≤ idxGo n l k := by
        intro l n
        induction l with
        | nil => intro k _ h; cases h
        | cons x xs ih =>
          intro k hk h
          unfold idxGo
          split
          · exact hk
          · rename_i hne
            rcases List.mem_cons.1 h with h | h
            · exact absurd h hne
            · exact ih (k + 1) (by omega) h
      have := key (ints L) _ 0 (by omega) this
      unfold idxI at h6
      omega
    exact h5 h
  · rw [h2, if_pos (by omega)]
    obtain ⟨i, hi, rfl⟩ := ints_get h1
    unfold idxI ints after
    rw [List.map_map]
    refine idxGo_map (f := fun k : Nat => ((L[k]?.getD 0 : Nat) : Int)) (fun k hk => ?_)
    have hk' := List.getElem?_eq_getElem (hK k hk)
    show ((L[k]?.getD 0 : Nat) : Int) = (i : Int) ↔ (k : Int) = (j : Int)
    rw [hk']
    show ((L[k]'(hK k hk) : Nat) : Int) = (i : Int) ↔ (k : Int) = (j : Int)
    constructor
    · intro e
      rcases Nat.lt_trichotomy k j with h | h | h
      · have := sorted_get hL h hk' hi; omega
      · omega
      · have := sorted_get hL h hi hk'; omega
    · intro e
      have : k = j := by omega
      subst this
      rw [hk'] at hi
      injection hi with hi
      omega
theorem idxI_lt {L : List Int} {a : Int} : idxI L a < L.length := by
  rcases idxI_pos L a with h | ⟨j, h1, h2⟩
  · omega
  · have := (List.getElem?_eq_some_iff.1 h1).1
    omega
theorem ren_after {L K : List Nat} (hL : L.Pairwise (· < ·)) (hK : ∀ k ∈ K, k < L.length) (l : List (Int × Int)) : renL (ints K) (renL (ints L) l) = renL (ints (after L K)) l := by
  unfold renL
  rw [List.flatMap_assoc]
  congr 1
  funext p
  unfold renP
  rw [idx_after hL hK p.1, idx_after hL hK p.2]
  by_cases h1 : 0 ≤ idxI (ints L) p.1
  · by_cases h2 : 0 ≤ idxI (ints L) p.2
    · rw [if_pos ⟨h1, h2⟩, if_pos h1, if_pos h2]
      simp [renP]
    · rw [if_neg (fun h => h2 h.2), if_neg h2, if_neg (fun h => absurd h.2 (by decide))]
      rfl
  · rw [if_neg (fun h => h1 h.1), if_neg h1, if_neg (fun h => absurd h.1 (by decide))]
    rfl
theorem idx_range {n : Nat} {a : Int} (h0 : 0 ≤ a) (h1 : a < n) : idxI (ints (List.range n)) a = a := by
  obtain ⟨k, rfl⟩ := Int.eq_ofNat_of_zero_le h0
  have hk : k < n := by omega
  rcases idxI_pos (ints (List.range n)) (k : Int) with h | ⟨j, h2, h3⟩
  · exfalso
    have key : ∀ (l : List Int) (n : Int) (k : Int), 0 ≤ k → n ∈ l → 0 ≤ idxGo n l k := by
      intro l n
      induction l with
      | nil => intro k _ h; cases h
      | cons x xs ih =>
        intro k hk h
        unfold idxGo
        split
        · exact hk
        · rename_i hne
          rcases List.mem_cons.1 h with h | h
          · exact absurd h hne
          · exact ih (k + 1) (by omega) h
    have := key (ints (List.range n)) (k : Int) 0 (by omega) (List.mem_map.2 ⟨k, List.mem_range.2 hk, rfl⟩)
    unfold idxI at h
    omega
  · rw [h3]
    obtain ⟨i, hi, e⟩ := ints_get h2
    have hj : j < (List.range n).length := (List.getElem?_eq_some_iff.1 hi).1
    rw [List.getElem?_range (by simpa using hj)] at hi
    injection hi with hi
    omega
theorem bad_no {orders : Int} {p : Int × Int} (h : badB orders p = false) : (0 ≤ p.1 ∧ p.1 < orders) ∧ (0 ≤ p.2 ∧ p.2 < orders) ∧ p.1 ≠ p.2 := by
  unfold badB rightB at h
  simp at h
  omega
theorem bad_of {orders : Int} {p : Int × Int} (h1 : 0 ≤ p.1 ∧ p.1 < orders) (h2 : 0 ≤ p.2 ∧ p.2 < orders) (h3 : p.1 ≠ p.2) : badB orders p = false := by
  unfold badB rightB
  simp [h3]
  omega
theorem ren_range {l : List (Int × Int)} {n : Nat} (h : ∀ p ∈ l, badB n p = false) : renL (ints (List.range n)) l = l := by
  unfold renL
  induction l with
  | nil => rfl
  | cons p l ih =>
    obtain ⟨h1, h2, _⟩ := bad_no (h p (List.mem_cons_self))
    rw [List.flatMap_cons, ih fun q hq => h q (List.mem_cons_of_mem _ hq)]
    unfold renP
    rw [idx_range h1.1 h1.2, idx_range h2.1 h2.2, if_pos ⟨h1.1, h2.1⟩]
    rfl

/-- When there are no violations of pairs. -/
theorem pairsTo_nil {orders : Int} {word : ByteArray} {same : Int × Int → Int × Int → Bool} {l : List (Int × Int)} : ∀ k, pairsTo orders word same l k = [] ↔ l.length ≤ 16 ∧ ∀ (j : Nat) p, j < k → l[j]? = some p → badB orders p = false ∧ (l.take j).any (same p) = false
  | 0 => by
    unfold pairsTo
    split
    · rename_i h
      exact ⟨fun _ => ⟨h, fun j p hj => absurd hj (by omega)⟩, fun _ => rfl⟩
    · rename_i h
      exact ⟨fun e => (by cases e), fun e => absurd e.1 h⟩
  | k + 1 => by
    rw [pairsTo, List.append_eq_nil_iff, pairsTo_nil k]
    constructor
    · rintro ⟨⟨h1, h2⟩, h3⟩
      refine ⟨h1, fun j p hj hp => ?_⟩
      rcases Nat.lt_or_ge j k with h | h
      · exact h2 j p h hp
      · obtain rfl : j = k := by omega
        unfold pairAt at h3
        rw [hp] at h3
        unfold pairP at h3
        dsimp only at h3
        split at h3
        · cases h3
        · split at h3
          · cases h3
          · rename_i h4 h5
            exact ⟨by simpa using h4, by simpa using h5⟩
    · rintro ⟨h1, h2⟩
      refine ⟨⟨h1, fun j p hj hp => h2 j p (by omega) hp⟩, ?_⟩
      unfold pairAt
      split
      · rename_i p hp
        obtain ⟨h3, h4⟩ := h2 k p (by omega) hp
        unfold pairP
        rw [if_neg (by rw [h3]; decide), if_neg (by rw [h4]; decide)]
      · rfl
def NoTwice (same : Int × Int → Int × Int → Bool) (l : List (Int × Int)) : Prop := l.Pairwise fun q p => same p q = false
theorem noTwice_iff {same : Int × Int → Int × Int → Bool} {l : List (Int × Int)} : NoTwice same l ↔ ∀ (j : Nat) p, l[j]? = some p → (l.take j).any (same p) = false := by
  unfold NoTwice
  rw [List.pairwise_iff_getElem]
  constructor
  · intro h j p hp
    obtain ⟨hj, rfl⟩ := List.getElem?_eq_some_iff.1 hp
    rw [List.any_eq_false]
    intro q hq
    obtain ⟨i, hi⟩ := List.mem_iff_getElem?.1 hq
    rw [List.getElem?_take] at hi
    split at hi
    · rename_i hij
      obtain ⟨hi2, rfl⟩ := List.getElem?_eq_some_iff.1 hi
      rw [h i j hi2 hj hij]
      decide
    · cases hi
  · intro h i j hi hj hij
    have h1 := h j _ (List.getElem?_eq_getElem hj)
    rw [List.any_eq_false] at h1
    have h2 := h1 l[i] (by
      rw [List.mem_iff_getElem?]
      exact ⟨i, by rw [List.getElem?_take, if_pos hij, List.getElem?_eq_getElem hi]⟩)
    simpa using h2
theorem pairs_nil {orders : Int} {word : ByteArray} {same : Int × Int → Int × Int → Bool} {l : List (Int × Int)} : pairsTo orders word same l l.length = [] ↔ l.length ≤ 16 ∧ (∀ p ∈ l, badB orders p = false) ∧ NoTwice same l := by
  rw [pairsTo_nil, noTwice_iff]
  constructor
  · rintro ⟨h1, h2⟩
    refine ⟨h1, fun p hp => ?_, fun j p hp => (h2 j p (List.getElem?_eq_some_iff.1 hp).1 hp).2⟩
    obtain ⟨i, hi⟩ := List.mem_iff_getElem?.1 hp
    exact (h2 i p (List.getElem?_eq_some_iff.1 hi).1 hi).1
  · rintro ⟨h1, h2, h3⟩
    exact ⟨h1, fun j p _ hp => ⟨h2 p (List.mem_of_getElem? hp), h3 j p hp⟩⟩
/-- A test that indices keep. -/
def Keeps (same : Int × Int → Int × Int → Bool) : Prop := ∀ (L : List Nat) (p q : Int × Int), L.Pairwise (· < ·) → 0 ≤ idxI (ints L) p.1 → 0 ≤ idxI (ints L) p.2 → 0 ≤ idxI (ints L) q.1 → 0 ≤ idxI (ints L) q.2 → same p q = false → same (idxI (ints L) p.1, idxI (ints L) p.2) (idxI (ints L) q.1, idxI (ints L) q.2) = false
theorem idx_inj {L : List Int} {a b : Int} (ha : 0 ≤ idxI L a) (h : idxI L a = idxI L b) : a = b := by
  rcases idxI_pos L a with h1 | ⟨i, h1, h2⟩
  · omega
  · rcases idxI_pos L b with h3 | ⟨j, h3, h4⟩
    · omega
    · have : i = j := by omega
      subst this
      rw [h1] at h3
      exact Option.some.inj h3
theorem twoEq_keeps : Keeps twoEq := fun L p q _ h1 h2 h3 h4 h => by
  unfold twoEq at h ⊢
  simp only [Bool.and_eq_false_iff, beq_eq_false_iff_ne] at h ⊢
  rcases h with h | h
  · exact .inl fun e => h (idx_inj h1 e)
  · exact .inr fun e => h (idx_inj h2 e)
theorem looseB_keeps : Keeps looseB := fun L p q hs h1 h2 h3 h4 h => by
  unfold looseB at h ⊢
  rw [Bool.or_eq_false_iff] at h ⊢
  refine ⟨twoEq_keeps L p q hs h1 h2 h3 h4 h.1, ?_⟩
  have h := h.2
  simp only [Bool.and_eq_false_iff, beq_eq_false_iff_ne] at h ⊢
  rcases h with h | h
  · exact .inl fun e => h (idx_inj h1 e)
  · exact .inr fun e => h (idx_inj h2 e)
theorem renP_mem {old : List Int} {p x : Int × Int} (h : x ∈ renP old p) : 0 ≤ idxI old p.1 ∧ 0 ≤ idxI old p.2 ∧ x = (idxI old p.1, idxI old p.2) := by
  unfold renP at h
  split at h
  · rename_i h1
    exact ⟨h1.1, h1.2, by simpa using h⟩
  · cases h
theorem pairs_part {n : Nat} {word : ByteArray} {same : Int × Int → Int × Int → Bool} {l : List (Int × Int)} {L : List Nat} (hk : Keeps same) (hL : L.Pairwise (· < ·)) (h : pairsTo n word same l l.length = []) : pairsTo L.length word same (renL (ints L) l) (renL (ints L) l).length = [] := by
  rw [pairs_nil] at h ⊢
  obtain ⟨h1, h2, h3⟩ := h
  refine ⟨Nat.le_trans (renL_len _ _) h1, fun x hx => ?_, ?_⟩
  · unfold renL at hx
    obtain ⟨p, hp, hx⟩ := List.mem_flatMap.1 hx
    obtain ⟨e1, e2, rfl⟩ := renP_mem hx
    have e3 := @idxI_lt (ints L) p.1
    have e4 := @idxI_lt (ints L) p.2
    rw [List.length_map] at e3 e4
    exact bad_of ⟨e1, e3⟩ ⟨e2, e4⟩ (fun e => (bad_no (h2 p hp)).2.2 (idx_inj e1 e))
  · unfold NoTwice renL at *
    rw [List.pairwise_flatMap]
    refine ⟨fun p _ => ?_, h3.imp fun {q p} hqp x hx y hy => ?_⟩
    · unfold renP
      split <;> simp
    · obtain ⟨e1, e2, rfl⟩ := renP_mem hx
      obtain ⟨e3, e4, rfl⟩ := renP_mem hy
      exact hk L p q hL e3 e4 e1 e2 hqp
theorem pushIf_nil {xs : List Int} {r : Bool} {u : Int} : pushIf xs r u = [] ↔ xs = [] ∧ r = true := by
  unfold pushIf
  cases r <;> simp
theorem ofltsTo_nil {P dims types : Int} {l : List Ord} : ∀ k, ofltsTo P dims types l k = [] ↔ l.length ≤ 10 ∧ ∀ (j : Nat) o, j < k → l[j]? = some o → errsO P dims types l j o = []
  | 0 => by
    unfold ofltsTo
    split
    · rename_i h
      exact ⟨fun _ => ⟨h, fun j p hj => absurd hj (by omega)⟩, fun _ => rfl⟩
    · rename_i h
      exact ⟨fun e => (by cases e), fun e => absurd e.1 h⟩
  | k + 1 => by
    rw [ofltsTo, List.append_eq_nil_iff, ofltsTo_nil k]
    constructor
    · rintro ⟨⟨h1, h2⟩, h3⟩
      refine ⟨h1, fun j p hj hp => ?_⟩
      rcases Nat.lt_or_ge j k with h | h
      · exact h2 j p h hp
      · obtain rfl : j = k := by omega
        unfold ofltsAt at h3
        rw [hp] at h3
        unfold mkF at h3
        exact List.map_eq_nil_iff.1 h3
    · rintro ⟨h1, h2⟩
      refine ⟨⟨h1, fun j p hj hp => h2 j p (by omega) hp⟩, ?_⟩
      unfold ofltsAt
      split
      · rename_i p hp
        rw [h2 k p (by omega) hp]
        rfl
      · rfl
theorem errsO_part {P dims types : Int} {l l' : List Ord} {i j : Nat} {o : Ord} (h : errsO P dims types l i o = []) (hs : ∀ x ∈ l'.take j, x ∈ l.take i) : errsO P dims types l' j o = [] := by
  unfold errsO at h ⊢
  simp only [pushIf_nil] at h ⊢
  have h2 : ((l.take i).any (fun x => sameS x.name o.name)) = false := by simpa using h.1.1.1.1.1.1.2
  have e : ((l'.take j).any (fun x => sameS x.name o.name)) = false := by
    rw [List.any_eq_false] at h2 ⊢
    exact fun x hx => h2 x (hs x hx)
  rw [h2] at h
  rw [e]
  exact h
theorem orders_part {P dims types : Int} {l : List Ord} {L : List Nat} (hs : L.Pairwise (· < ·)) (hL : ∀ i ∈ L, i < l.length) (h : ofltsTo P dims types l l.length = []) : ofltsTo P dims types (pick l L) (pick l L).length = [] := by
  rw [ofltsTo_nil] at h ⊢
  obtain ⟨h1, h2⟩ := h
  have hle : L.length ≤ l.length := by
    have := sorted_filter l.length L hs hL
    rw [← this]
    refine Nat.le_trans (List.length_filter_le _ _) ?_
    simp
  refine ⟨by rw [pick_len hL]; omega, fun j o _ ho => ?_⟩
  rw [pick_get hL] at ho
  obtain ⟨i, hi, ho⟩ := Option.bind_eq_some_iff.1 ho
  refine errsO_part (h2 i o (List.getElem?_eq_some_iff.1 ho).1 ho) fun x hx => ?_
  obtain ⟨k, hk⟩ := List.mem_iff_getElem?.1 hx
  rw [List.getElem?_take] at hk
  split at hk
  · rename_i hkj
    rw [pick_get hL] at hk
    obtain ⟨i', hi', hx'⟩ := Option.bind_eq_some_iff.1 hk
    have := sorted_get hs hkj hi' hi
    exact List.mem_iff_getElem?.2 ⟨i', by rw [List.getElem?_take, if_pos this]; exact hx'⟩
  · cases hk
theorem selO_pick (s : Int) (l : List Ord) : ∀ k, k ≤ l.length → selO s l k = pick l (memN s k)
  | 0, _ => rfl
  | k + 1, h => by
    have hk := List.getElem?_eq_getElem (show k < l.length by omega)
    rw [memN_succ]
    unfold pick
    rw [List.filterMap_append]
    have ih := selO_pick s l k (by omega)
    unfold pick at ih
    rw [← ih]
    cases hb : hasN s k
    · rw [selO_no hk hb]
      simp
    · rw [selO_yes hk hb]
      simp [hk]
/-- The part of an instance that a list of indices gives. -/
def partI (x : Ins) (L : List Nat) : Ins := ⟨x.net, x.types, pick x.orders L, renL (ints L) x.apart, renL (ints L) x.before⟩
theorem onlyI_part (x : Ins) (s : Int) : onlyI x s = partI x (memN s x.orders.length) := by
  unfold onlyI partI
  rw [selO_pick s _ _ (Nat.le_refl _)]
  rfl
theorem part_part (x : Ins) {L K : List Nat} (hs : L.Pairwise (· < ·)) (hL : ∀ i ∈ L, i < x.orders.length) (hK : ∀ k ∈ K, k < L.length) : partI (partI x L) K = partI x (after L K) := by
  unfold partI
  simp only [Ins.mk.injEq, true_and]
  exact ⟨pick_after _ _ hL _ hK, ren_after hs hK _, ren_after hs hK _⟩
theorem undL_nil {word : ByteArray} {fs : List Flt} : undL word fs = [] ↔ fs = [] := by unfold undL; exact List.map_eq_nil_iff
theorem insF_nil {x : Ins} : insF x = [] ↔ insN x = [] ∧ insT x = [] ∧ insO x = [] ∧ insR x = [] := by
  have e : insF x = undL netS (insN x) ++ (undL typesS (insT x) ++ (undL ordersS (insO x) ++ (undL rulesS (insR x) ++ []))) := rfl
  rw [e]
  simp only [List.append_eq_nil_iff, undL_nil, and_true]
theorem part_ok {x : Ins} {L : List Nat} (hs : L.Pairwise (· < ·)) (hL : ∀ i ∈ L, i < x.orders.length) (h : insF x = []) : insF (partI x L) = [] := by
  rw [insF_nil] at h ⊢
  obtain ⟨h1, h2, h3, h4⟩ := h
  refine ⟨h1, h2, orders_part hs hL h3, ?_⟩
  unfold insR rulesF at h4 ⊢
  rw [List.append_eq_nil_iff] at h4 ⊢
  have e : (partI x L).orders.length = L.length := pick_len hL
  rw [e]
  exact ⟨pairs_part looseB_keeps hs h4.1, pairs_part twoEq_keeps hs h4.2⟩
theorem part_full {x : Ins} (h : insF x = []) : partI x (List.range x.orders.length) = x := by
  rw [insF_nil] at h
  obtain ⟨_, _, _, h4⟩ := h
  unfold insR rulesF at h4
  rw [List.append_eq_nil_iff, pairs_nil, pairs_nil] at h4
  unfold partI
  rw [pick_range, ren_range h4.1.2.1, ren_range h4.2.2.1]
end Go.Proofs.YtamhjodppdodfaaDoor.par

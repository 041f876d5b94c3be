/- The law SplitWhole, plain: Whole accepts the shares of Merge. -/
import Derived.Test.YtceceomaheobhaaSpwS
import Derived.Test.YtceceomaheobhaaSplN
namespace Go.Proofs.Ytceceomaheobhaa.spl
open Go.RowKit
open Go.Proofs.Ytceceomaheobhaa.lib Go.Proofs.Ytceceomaheobhaa.loads Go.Proofs.Ytceceomaheobhaa.typ Go.Proofs.Ytceceomaheobhaa.ins Go.Proofs.Ytceceomaheobhaa.idx
set_option linter.unusedVariables false
set_option linter.unusedSimpArgs false

/-- A share of an order, its load right. -/
def GoodSh (os : List Ord) (s : Sha) : Prop := ∃ (j : Nat) (o : Ord), s.order = (j : Int) ∧ os[j]? = some o ∧ s.load.length = o.load.length ∧ ∀ v ∈ s.load, 0 ≤ v ∧ v ≤ 1000
theorem smGo_ok {os : List Ord} : ∀ {l : List Sha} {acc : List (List Int)}, (∀ s ∈ l, GoodSh os s) → acc.length = os.length → (∀ (j : Nat) o a, os[j]? = some o → acc[j]? = some a → a.length = o.load.length) →
    ∃ acc', smGo l acc = some acc' ∧ acc'.length = os.length ∧ ∀ (j : Nat) a, acc[j]? = some a → acc'[j]? = some (sumOf (j : Int) l a)
  | [], acc, _, hl, _ => ⟨acc, rfl, hl, fun j a h => h⟩
  | s :: l, acc, hg, hl, ha => by
    obtain ⟨k, o, hk, ho, hlen, hv⟩ := hg s (List.mem_cons_self ..)
    have hkl : k < acc.length := by rw [hl]; exact (List.getElem?_eq_some_iff.1 ho).1
    obtain ⟨a, hak⟩ : ∃ a, acc[k]? = some a := ⟨_, List.getElem?_eq_getElem hkl⟩
    have hal := ha k o a ho hak
    have hkn : s.order.toNat = k := by rw [hk]; exact Int.toNat_natCast k
    have hok : smOk acc s = true := by
      unfold smOk rightB
      rw [hkn, hak, hk]
      simp only [Bool.and_eq_true, decide_eq_true_eq, List.all_eq_true]
      refine ⟨⟨by omega, by omega⟩, hv, ?_⟩
      show (s.load.length : Int) = ((a.length : Nat) : Int)
      rw [hal, hlen]
    have hput : smPut acc s = acc.set k (addE a s.load) := by
      unfold smPut
      rw [hkn, hak]
      rfl
    rw [smGo, if_pos hok, hput]
    have hput' : ∀ (j : Nat) b, (acc.set k (addE a s.load))[j]? = some b → (j = k ∧ b = addE a s.load) ∨ (j ≠ k ∧ acc[j]? = some b) := fun j b hb => by
      rw [List.getElem?_set] at hb
      by_cases h : k = j
      · rw [if_pos h, if_pos hkl] at hb
        injection hb with hb
        exact .inl ⟨h.symm, hb.symm⟩
      · rw [if_neg h] at hb
        exact .inr ⟨fun e => h e.symm, hb⟩
    obtain ⟨acc', h1, h2, h3⟩ := smGo_ok (l := l) (acc := acc.set k (addE a s.load)) (fun s' hs' => hg s' (List.mem_cons_of_mem _ hs')) (by rw [List.length_set]; exact hl) (fun j o' b ho' hb => by
      rcases hput' j b hb with ⟨rfl, rfl⟩ | ⟨_, hb⟩
      · rw [ho] at ho'
        injection ho' with ho'
        subst ho'
        rw [addE_same (by rw [hal, hlen])]
        exact hal
      · exact ha j o' b ho' hb)
    refine ⟨acc', h1, h2, fun j b hb => ?_⟩
    show acc'[j]? = some (sumOf (j : Int) l (if s.order = (j : Int) then addE b s.load else b))
    by_cases h : j = k
    · subst h
      rw [hak] at hb
      injection hb with hb
      subst hb
      rw [if_pos hk]
      exact h3 j _ (by rw [List.getElem?_set, if_pos rfl, if_pos hkl])
    · rw [if_neg (by rw [hk]; omega)]
      exact h3 j b (by rw [List.getElem?_set, if_neg (fun e => h e.symm)]; exact hb)
theorem idxI_mem {l : List Int} {n : Int} (h : n ∈ l) : 0 ≤ idxI l n := by
  have key : ∀ (l : List Int) (k : Int), 0 ≤ k → n ∈ l → 0 ≤ idxGo n l k := by
    intro l
    induction l with
    | nil => intro k _ h; cases h
    | cons x l ih =>
      intro k hk h
      rw [idxGo]
      split
      · exact hk
      · rename_i hx
        rcases List.mem_cons.1 h with h | h
        · exact absurd h hx
        · exact ih (k + 1) (by omega) h
  exact key l 0 (Int.le_refl _) h
/-- The visits of route r below i, kf the route of each order (3: none). -/
def rvTo (kf : Nat → Nat) (r : Nat) : Nat → List Vis
  | 0 => []
  | i + 1 => if kf i = r then rvTo kf r i ++ [⟨(i : Int), false⟩, ⟨(i : Int), true⟩] else rvTo kf r i
def unTo (kf : Nat → Nat) : Nat → List Int
  | 0 => []
  | i + 1 => if kf i = 3 then unTo kf i ++ [(i : Int)] else unTo kf i
def lfTo (kf : Nat → Nat) (want : List Int) : Nat → List Int
  | 0 => []
  | i + 1 => if kf i = 3 then lfTo kf want i ++ [want[i]?.getD 0] else lfTo kf want i
theorem rv_len (kf : Nat → Nat) (r : Nat) : ∀ i, (rvTo kf r i).length ≤ 2 * i
  | 0 => Nat.zero_le _
  | i + 1 => by
    have ih := rv_len kf r i
    rw [rvTo]
    split
    · rw [List.length_append]; simp only [List.length_cons, List.length_nil]; omega
    · omega
theorem lf_len (kf : Nat → Nat) (want : List Int) : ∀ i, (lfTo kf want i).length ≤ i
  | 0 => Nat.zero_le _
  | i + 1 => by
    have ih := lf_len kf want i
    rw [lfTo]
    split
    · rw [List.length_append]; simp only [List.length_cons, List.length_nil]; omega
    · omega
theorem rv_seen (kf : Nat → Nat) (r k : Nat) : ∀ i, seenB (rvTo kf r i) k = decide (k < i ∧ kf k = r)
  | 0 => by unfold seenB; simp [rvTo]
  | i + 1 => by
    have ih := rv_seen kf r k i
    unfold seenB at ih ⊢
    rw [rvTo]
    by_cases h : kf i = r
    · rw [if_pos h, List.any_append, ih]
      by_cases hk : k = i
      · subst hk
        simp [h]
      · have e : decide ((i : Int) = (k : Int)) = false := decide_eq_false (by omega)
        simp only [List.any_cons, List.any_nil, e, Bool.or_false]
        have : (k < i ∧ kf k = r) ↔ (k < i + 1 ∧ kf k = r) := ⟨fun h => ⟨by omega, h.2⟩, fun h => ⟨by omega, h.2⟩⟩
        exact decide_eq_decide.2 this
    · rw [if_neg h, ih]
      have : (k < i ∧ kf k = r) ↔ (k < i + 1 ∧ kf k = r) := ⟨fun h => ⟨by omega, h.2⟩, fun h' => ⟨by
        rcases Nat.lt_or_ge k i with hlt | hge
        · exact hlt
        · exact absurd (by rw [← show k = i by omega]; exact h'.2) h, h'.2⟩⟩
      exact decide_eq_decide.2 this
theorem rv_ok (kf : Nat → Nat) (r n : Nat) : ∀ i, i ≤ n → (rvTo kf r i).all (visOk n) = true
  | 0, _ => rfl
  | i + 1, h => by
    have ih := rv_ok kf r n i (by omega)
    rw [rvTo]
    split
    · rw [List.all_append, ih]
      unfold visOk
      simp
      omega
    · exact ih
theorem lf_mem (kf : Nat → Nat) (want : List Int) : ∀ i g, g ∈ lfTo kf want i ↔ ∃ k, k < i ∧ kf k = 3 ∧ want[k]?.getD 0 = g
  | 0, g => ⟨fun h => (by cases h), fun ⟨k, h, _⟩ => (by omega)⟩
  | i + 1, g => by
    have ih := lf_mem kf want i g
    rw [lfTo]
    constructor
    · intro h
      split at h
      · rename_i h3
        rcases List.mem_append.1 h with h | h
        · obtain ⟨k, h1, h2⟩ := ih.1 h
          exact ⟨k, by omega, h2⟩
        · rw [List.mem_singleton] at h
          exact ⟨i, by omega, h3, h.symm⟩
      · obtain ⟨k, h1, h2⟩ := ih.1 h
        exact ⟨k, by omega, h2⟩
    · rintro ⟨k, h1, h2, h3⟩
      by_cases hk : k = i
      · subst hk
        rw [if_pos h2, ← h3]
        exact List.mem_append_right _ (List.mem_singleton.2 rfl)
      · have := ih.2 ⟨k, by omega, h2, h3⟩
        split
        · exact List.mem_append_left _ this
        · exact this
/-- The parts of an accepted instance. -/
theorem pok_of {x y : Ins} {want : List Int} (ha : Acc x) (he : expF x = .ok (y, want)) {j : Nat} {o : Ord} (hj : x.orders[j]? = some o) : POk want y.orders (j : Int) o.load.length ∧ want.length = y.orders.length ∧ ∀ d v, o.load[d]? = some v → psum want y.orders (j : Int) d (fun _ => true) want.length = v := by
  obtain ⟨_, _, ho, hw, hp, _⟩ := expF_ok he
  have hl : want.length = y.orders.length := by rw [hw, ho, orgO_len]
  refine ⟨fun k q hk hq => ?_, hl, fun d v hv => ?_⟩
  · rw [hw] at hk
    rw [ho] at hq
    obtain ⟨j', o', h1, h2, h3⟩ := org_at hq hk
    obtain rfl : j' = j := by omega
    rw [hj] at h2
    injection h2 with h2
    subst h2
    obtain ⟨ps, hps⟩ := hp o (List.mem_of_getElem? hj)
    have hpo : partsO o = ps := by unfold partsO; rw [hps]; rfl
    rw [hpo] at h3
    obtain ⟨h4, h5⟩ := parts_load hps h3
    exact ⟨h4, fun v hv => (h5 v hv).1 (fun u hu => (ha.bd (List.mem_of_getElem? hj) u hu).1)⟩
  · obtain ⟨ps, hps⟩ := hp o (List.mem_of_getElem? hj)
    have hpo : partsO o = ps := by unfold partsO; rw [hps]; rfl
    rw [psum_all hl _ (Nat.le_refl _), List.take_length, hl, List.take_length, hw, ho]
    have h := zsum_org (d := d) (i := 0) hj
    rw [Nat.zero_add] at h
    rw [h, hpo]
    exact parts_sum hps hv
theorem rs_good {x y : Ins} {want : List Int} (ha : Acc x) (he : expF x = .ok (y, want)) (vs : List Vis) : ∀ m, m ≤ x.orders.length → ∀ s ∈ rsTo x.orders want y.orders vs m, GoodSh x.orders s
  | 0, _, s, h => by cases h
  | m + 1, hm, s, h => by
    obtain ⟨o, ho⟩ : ∃ o, x.orders[m]? = some o := ⟨_, List.getElem?_eq_getElem (by omega)⟩
    rw [rsTo, ho] at h
    simp only [rsNext] at h
    split at h
    · rcases List.mem_append.1 h with h | h
      · exact rs_good ha he vs m (by omega) s h
      · rw [List.mem_singleton] at h
        subst h
        obtain ⟨hok, hl, hall⟩ := pok_of ha he ho
        refine ⟨m, o, rfl, ho, rsAcc_len hok _, fun v hv => ?_⟩
        obtain ⟨d, hd⟩ := List.mem_iff_getElem?.1 hv
        have hdn : d < o.load.length := by
          have := (List.getElem?_eq_some_iff.1 hd).1
          have h2 := rsAcc_len (vs := vs) hok want.length
          simp only at this
          omega
        have h1 := rsAcc_at (vs := vs) hok hdn want.length
        simp only at hd
        rw [hd] at h1
        obtain ⟨u, hu⟩ : ∃ u, o.load[d]? = some u := ⟨_, List.getElem?_eq_getElem hdn⟩
        have h3 := psum_le (d := d) hok (p := seenB vs) (q := fun _ => true) (fun _ _ _ => rfl) want.length
        rw [hall d u hu] at h3
        have h4 := ha.bd (List.mem_of_getElem? ho) u (List.mem_of_getElem? hu)
        simp only [Option.getD_some] at h1
        omega
    · exact rs_good ha he vs m (by omega) s h
def rsK (x y : Ins) (want : List Int) (kf : Nat → Nat) (r : Nat) : List Sha := rsTo x.orders want y.orders (rvTo kf r want.length) x.orders.length
theorem fitsB_at {a b : List Int} {n : Nat} (ha : a.length = n) (hb : b.length = n) (h : ∀ d, d < n → a[d]?.getD 0 ≤ b[d]?.getD 0) : fitsB a b = true := by
  have key : ∀ (a b : List Int), a.length = b.length → (∀ d, d < a.length → a[d]?.getD 0 ≤ b[d]?.getD 0) → fitsGo a b = true := by
    intro a
    induction a with
    | nil => intro b _ _; cases b <;> rfl
    | cons p a ih =>
      intro b hl h
      cases b with
      | nil => rfl
      | cons q b =>
        rw [fitsGo, Bool.and_eq_true, decide_eq_true_eq]
        refine ⟨h 0 (by simp), ih b (by simpa using hl) (fun d hd => ?_)⟩
        have := h (d + 1) (by simpa using hd)
        simpa using this
  unfold fitsB
  rw [decide_eq_true (by rw [ha, hb]), key a b (by rw [ha, hb]) (fun d hd => h d (by omega))]
  rfl
theorem whGo_zero {un : List Int} {acc : List (List Int)} : ∀ {os : List Ord} {k : Nat}, (∀ (j : Nat) o, os[j]? = some o → whAt un (k + j) o (acc[k + j]?.getD []) = 0) → whGo un acc os k = 0
  | [], k, _ => rfl
  | o :: os, k, h => by
    have h0 := h 0 o rfl
    rw [Nat.add_zero] at h0
    rw [whGo, if_neg (fun hn => hn h0)]
    exact whGo_zero (fun j o' ho => by
      have := h (j + 1) o' ho
      rw [show k + (j + 1) = k + 1 + j by omega] at this
      exact this)
theorem whole_law {x y : Ins} {want : List Int} (ha : Acc x) (he : expF x = .ok (y, want)) (kf : Nat → Nat) (hkf : ∀ k, kf k ≤ 3) :
    wholeF x.orders [rsK x y want kf 0, rsK x y want kf 1, rsK x y want kf 2].flatten (lfTo kf want want.length) = 0 := by
  obtain ⟨_, _, ho, hw, hp, _⟩ := expF_ok he
  have hbad : (lfTo kf want want.length).any (unBad x.orders.length) = false := by
    rw [List.any_eq_false]
    intro g hg
    obtain ⟨k, hk, _, h3⟩ := (lf_mem kf want _ g).1 hg
    obtain ⟨g', hg'⟩ : ∃ g', want[k]? = some g' := ⟨_, List.getElem?_eq_getElem hk⟩
    rw [hg'] at h3
    simp only [Option.getD_some] at h3
    subst h3
    obtain ⟨j, rfl, h1, h2⟩ := orgO_mem (by rw [hw] at hg'; exact List.mem_of_getElem? hg')
    unfold unBad
    rw [decide_eq_false (by omega)]
    simp
  unfold wholeF sumF
  rw [hbad]
  have hz : ∀ (j : Nat) o a, x.orders[j]? = some o → (smZero x.orders)[j]? = some a → a = List.replicate o.load.length 0 := fun j o a hj hza => by
    unfold smZero at hza
    rw [List.getElem?_map, hj] at hza
    injection hza with hza
    exact hza.symm
  have hgood : ∀ s ∈ [rsK x y want kf 0, rsK x y want kf 1, rsK x y want kf 2].flatten, GoodSh x.orders s := fun s hs => by
    simp only [List.flatten_cons, List.flatten_nil, List.append_nil, List.mem_append] at hs
    rcases hs with h | h | h
    all_goals exact rs_good ha he _ _ (Nat.le_refl _) s h
  obtain ⟨acc', h1, h2, h3⟩ := smGo_ok (acc := smZero x.orders) hgood (by unfold smZero; rw [List.length_map]) (fun j o a hj hza => by rw [hz j o a hj hza]; simp)
  rw [h1]
  show whGo _ acc' x.orders 0 = 0
  refine whGo_zero (fun j o hj => ?_)
  rw [Nat.zero_add]
  obtain ⟨hok, hl, hall⟩ := pok_of ha he hj
  have hzj : (smZero x.orders)[j]? = some (List.replicate o.load.length 0) := by unfold smZero; rw [List.getElem?_map, hj]; rfl
  rw [h3 j _ hzj]
  simp only [List.flatten_cons, List.flatten_nil, List.append_nil, sumOf_append, Option.getD_some]
  have hjn := (List.getElem?_eq_some_iff.1 hj).1
  obtain ⟨a1, a2⟩ := sumOf_rs (vs := rvTo kf 0 want.length) hj hok (z := List.replicate o.load.length 0) (by simp) x.orders.length
  obtain ⟨b1, b2⟩ := sumOf_rs (vs := rvTo kf 1 want.length) hj hok a1 x.orders.length
  obtain ⟨c1, c2⟩ := sumOf_rs (vs := rvTo kf 2 want.length) hj hok b1 x.orders.length
  show whAt _ j o (sumOf (j : Int) (rsTo x.orders want y.orders (rvTo kf 2 want.length) x.orders.length) (sumOf (j : Int) (rsTo x.orders want y.orders (rvTo kf 1 want.length) x.orders.length) (sumOf (j : Int) (rsTo x.orders want y.orders (rvTo kf 0 want.length) x.orders.length) (List.replicate o.load.length 0)))) = 0
  generalize sumOf (j : Int) (rsTo x.orders want y.orders (rvTo kf 2 want.length) x.orders.length) (sumOf (j : Int) (rsTo x.orders want y.orders (rvTo kf 1 want.length) x.orders.length) (sumOf (j : Int) (rsTo x.orders want y.orders (rvTo kf 0 want.length) x.orders.length) (List.replicate o.load.length 0))) = S at c1 c2 ⊢
  have hS : ∀ d, d < o.load.length → S[d]?.getD 0 = psum want y.orders (j : Int) d (fun k => decide (k < want.length ∧ kf k ≠ 3)) want.length := fun d hd => by
    rw [c2 d hd, b2 d hd, a2 d hd, if_pos hjn, if_pos hjn, if_pos hjn]
    have e0 : (List.replicate o.load.length (0 : Int))[d]?.getD 0 = 0 := by simp [List.getElem?_replicate, hd]
    have h01 := psum_add (want := want) (ps := y.orders) (j := (j : Int)) (d := d) (p := seenB (rvTo kf 0 want.length)) (q := seenB (rvTo kf 1 want.length)) (r := fun k => decide (k < want.length ∧ (kf k = 0 ∨ kf k = 1))) (fun k hk => by
      have hkl := (List.getElem?_eq_some_iff.1 hk).1
      rw [rv_seen, rv_seen]
      by_cases h0 : kf k = 0 <;> by_cases h1 : kf k = 1 <;> simp [h0, h1, hkl]) want.length
    have h02 := psum_add (want := want) (ps := y.orders) (j := (j : Int)) (d := d) (p := fun k => decide (k < want.length ∧ (kf k = 0 ∨ kf k = 1))) (q := seenB (rvTo kf 2 want.length)) (r := fun k => decide (k < want.length ∧ kf k ≠ 3)) (fun k hk => by
      have hkl := (List.getElem?_eq_some_iff.1 hk).1
      rw [rv_seen]
      have h4 := hkf k
      have : kf k = 0 ∨ kf k = 1 ∨ kf k = 2 ∨ kf k = 3 := by omega
      rcases this with h | h | h | h <;> simp [h, hkl]) want.length
    omega
  have hle : ∀ d, d < o.load.length → S[d]?.getD 0 ≤ o.load[d]?.getD 0 := fun d hd => by
    obtain ⟨u, hu⟩ : ∃ u, o.load[d]? = some u := ⟨_, List.getElem?_eq_getElem hd⟩
    have h5 := psum_le (d := d) hok (p := fun k => decide (k < want.length ∧ kf k ≠ 3)) (q := fun _ => true) (fun _ _ _ => rfl) want.length
    rw [hall d u hu] at h5
    rw [hS d hd, hu]
    exact h5.2
  unfold whAt
  rw [if_neg (by rw [fitsB_at c1 rfl hle] <;> simp)]
  by_cases hin : inU (lfTo kf want want.length) j = true
  · rw [if_neg (by rw [hin]; simp)]
  · have hge : ∀ d, d < o.load.length → o.load[d]?.getD 0 ≤ S[d]?.getD 0 := fun d hd => by
      obtain ⟨u, hu⟩ : ∃ u, o.load[d]? = some u := ⟨_, List.getElem?_eq_getElem hd⟩
      have h5 := psum_le (d := d) hok (p := fun _ => true) (q := fun k => decide (k < want.length ∧ kf k ≠ 3)) (fun k hk _ => by
        have hkl := (List.getElem?_eq_some_iff.1 hk).1
        rw [decide_eq_true_eq]
        refine ⟨hkl, fun h3 => hin ?_⟩
        unfold inU
        exact decide_eq_true (idxI_mem ((lf_mem kf want _ _).2 ⟨k, hkl, h3, by rw [hk] <;> rfl⟩))) want.length
      rw [hall d u hu] at h5
      rw [hS d hd, hu]
      exact h5.2
    rw [if_neg (by rw [fitsB_at rfl c1 hge] <;> simp)]
end Go.Proofs.Ytceceomaheobhaa.spl

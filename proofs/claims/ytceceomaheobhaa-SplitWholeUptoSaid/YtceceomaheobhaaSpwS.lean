/- The law SplitWhole, plain: the shares of the routes add up. -/
import Derived.Test.YtceceomaheobhaaSpwR
namespace Go.Proofs.Ytceceomaheobhaa.spl
open Go.RowKit
open Go.Proofs.Ytceceomaheobhaa.lib Go.Proofs.Ytceceomaheobhaa.loads Go.Proofs.Ytceceomaheobhaa.typ Go.Proofs.Ytceceomaheobhaa.ins
set_option linter.unusedVariables false
set_option linter.unusedSimpArgs false

def psStep (g : Int) (q : Ord) (j : Int) (d : Nat) (b : Bool) : Int := if g = j ∧ b = true then q.load[d]?.getD 0 else 0
/-- The sum over the parts below k of order j that p takes, in a dimension. -/
def psum (want : List Int) (ps : List Ord) (j : Int) (d : Nat) (p : Nat → Bool) : Nat → Int
  | 0 => 0
  | k + 1 => psum want ps j d p k + match want[k]?, ps[k]? with
    | some g, some q => psStep g q j d (p k)
    | _, _ => 0
/-- What is known of the parts of order j. -/
def POk (want : List Int) (ps : List Ord) (j : Int) (n : Nat) : Prop := ∀ (k : Nat) q, want[k]? = some j → ps[k]? = some q → q.load.length = n ∧ ∀ v ∈ q.load, 0 ≤ v
section
variable {want : List Int} {ps : List Ord} {vs : List Vis} {j : Int} {n d : Nat}
theorem load_nonneg {q : Ord} (h : ∀ v ∈ q.load, 0 ≤ v) (d : Nat) : 0 ≤ q.load[d]?.getD 0 := by
  cases hv : q.load[d]? with
  | none => exact Int.le_refl _
  | some v => exact h v (List.mem_of_getElem? hv)
theorem psum_succ (p : Nat → Bool) {k : Nat} {g : Int} {q : Ord} (hg : want[k]? = some g) (hq : ps[k]? = some q) : psum want ps j d p (k + 1) = psum want ps j d p k + psStep g q j d (p k) := by
  rw [psum, hg, hq]
theorem psum_le (hok : POk want ps j n) {p q : Nat → Bool} (h : ∀ k, want[k]? = some j → p k = true → q k = true) : ∀ k, 0 ≤ psum want ps j d p k ∧ psum want ps j d p k ≤ psum want ps j d q k
  | 0 => ⟨Int.le_refl _, Int.le_refl _⟩
  | k + 1 => by
    obtain ⟨i1, i2⟩ := psum_le hok h k
    rw [psum, psum]
    cases hg : want[k]? with
    | none => simp only; omega
    | some g =>
      cases ho : ps[k]? with
      | none => simp only; omega
      | some o =>
        simp only
        unfold psStep
        by_cases hj : g = j
        · subst hj
          have h0 := load_nonneg (hok k o hg ho).2 d
          have h1 := h k hg
          cases hp : p k
          · rw [if_neg (by simp)]
            split <;> omega
          · rw [if_pos ⟨rfl, rfl⟩, if_pos ⟨rfl, h1 hp⟩]
            omega
        · rw [if_neg (fun h => hj h.1), if_neg (fun h => hj h.1)]
          omega
theorem psum_add {p q r : Nat → Bool} (h : ∀ k, want[k]? = some j → (p k || q k) = r k ∧ (p k && q k) = false) : ∀ k, psum want ps j d p k + psum want ps j d q k = psum want ps j d r k
  | 0 => rfl
  | k + 1 => by
    have ih := psum_add h k
    rw [psum, psum, psum]
    cases hg : want[k]? with
    | none => simp only; omega
    | some g =>
      cases ho : ps[k]? with
      | none => simp only; omega
      | some o =>
        simp only
        unfold psStep
        by_cases hj : g = j
        · subst hj
          obtain ⟨h1, h2⟩ := h k hg
          generalize o.load[d]?.getD 0 = v
          cases hp : p k <;> cases hq : q k <;> cases hr : r k <;> rw [hp, hq, hr] at h1 <;> rw [hp, hq] at h2 <;> simp at h1 h2 <;> simp <;> omega
        · rw [if_neg (fun h => hj h.1), if_neg (fun h => hj h.1), if_neg (fun h => hj h.1)]
          omega
theorem psum_all (hl : want.length = ps.length) : ∀ k, k ≤ want.length → psum want ps j d (fun _ => true) k = zsum j d (want.take k) (ps.take k)
  | 0, _ => by simp [psum, zsum]
  | k + 1, hk => by
    have ih := psum_all hl k (by omega)
    obtain ⟨g, hg⟩ : ∃ g, want[k]? = some g := ⟨_, List.getElem?_eq_getElem (by omega)⟩
    obtain ⟨q, hq⟩ : ∃ q, ps[k]? = some q := ⟨_, List.getElem?_eq_getElem (by omega)⟩
    obtain ⟨h1, h2⟩ := List.getElem?_eq_some_iff.1 hg
    obtain ⟨h3, h4⟩ := List.getElem?_eq_some_iff.1 hq
    rw [psum_succ _ hg hq, List.take_succ_eq_append_getElem h1, List.take_succ_eq_append_getElem h3, h2, h4, zsum_append (by rw [List.length_take, List.length_take]; omega), ih]
    congr 1
    unfold psStep
    simp [zsum]
theorem addE_at {a b : List Int} (ha : a.length = n) (hb : b.length = n) (hd : d < n) : (addE a b)[d]?.getD 0 = a[d]?.getD 0 + b[d]?.getD 0 := by
  unfold addE
  rw [if_pos (by rw [ha, hb]), List.getElem?_zipWith, List.getElem?_eq_getElem (by omega), List.getElem?_eq_getElem (by omega)]
  rfl
theorem rsAcc_len (hok : POk want ps j n) : ∀ k, (rsAcc want ps vs j (List.replicate n 0) k).2.length = n
  | 0 => by simp [rsAcc]
  | k + 1 => by
    have ih := rsAcc_len hok k
    rw [rsAcc]
    cases hg : want[k]? with
    | none => exact ih
    | some g =>
      cases ho : ps[k]? with
      | none => exact ih
      | some o =>
        simp only
        split
        · rename_i h
          obtain ⟨h1, _⟩ := h
          subst h1
          rw [addE_same (by rw [ih, (hok k o hg ho).1])]
          exact ih
        · exact ih
theorem rsAcc_at (hok : POk want ps j n) (hd : d < n) : ∀ k, (rsAcc want ps vs j (List.replicate n 0) k).2[d]?.getD 0 = psum want ps j d (seenB vs) k
  | 0 => by simp [rsAcc, psum, List.getElem?_replicate, hd]
  | k + 1 => by
    have ih := rsAcc_at hok hd k
    have il := rsAcc_len (vs := vs) hok k
    rw [rsAcc, psum]
    cases hg : want[k]? with
    | none => simp only; omega
    | some g =>
      cases ho : ps[k]? with
      | none => simp only; omega
      | some o =>
        simp only
        unfold psStep
        split
        · rename_i h
          obtain ⟨h1, h2⟩ := h
          subst h1
          show (addE _ _)[d]?.getD 0 = _
          rw [addE_at il (hok k o hg ho).1 hd, ih]
        · omega
theorem rsAcc_false (hok : POk want ps j n) : ∀ k, (rsAcc want ps vs j (List.replicate n 0) k).1 = false → (rsAcc want ps vs j (List.replicate n 0) k).2 = List.replicate n 0
  | 0, _ => rfl
  | k + 1, h => by
    have ih := rsAcc_false hok k
    rw [rsAcc] at h ⊢
    cases hg : want[k]? with
    | none => rw [hg] at h; exact ih h
    | some g =>
      cases ho : ps[k]? with
      | none => rw [hg, ho] at h; exact ih h
      | some o =>
        rw [hg, ho] at h
        simp only at h ⊢
        split at h
        · cases h
        · rename_i hn
          rw [if_neg hn]
          exact ih h
end
/-- The sum of the shares of order j, from z on. -/
def sumOf (j : Int) (l : List Sha) (z : List Int) : List Int := l.foldl (fun a s => if s.order = j then addE a s.load else a) z
theorem sumOf_append (j : Int) (l l' : List Sha) (z : List Int) : sumOf j (l ++ l') z = sumOf j l' (sumOf j l z) := by
  unfold sumOf
  rw [List.foldl_append]
theorem sumOf_rs {os : List Ord} {want : List Int} {ps : List Ord} {vs : List Vis} {j : Nat} {o : Ord} (hj : os[j]? = some o) (hok : POk want ps (j : Int) o.load.length) {z : List Int} (hz : z.length = o.load.length) : ∀ m, (sumOf (j : Int) (rsTo os want ps vs m) z).length = o.load.length ∧ ∀ d, d < o.load.length → (sumOf (j : Int) (rsTo os want ps vs m) z)[d]?.getD 0 = z[d]?.getD 0 + (if j < m then psum want ps (j : Int) d (seenB vs) want.length else 0)
  | 0 => ⟨hz, fun d _ => by simp [rsTo, sumOf]⟩
  | m + 1 => by
    obtain ⟨i1, i2⟩ := sumOf_rs hj hok hz m
    rw [rsTo]
    by_cases hm : m = j
    · subst hm
      rw [hj]
      simp only
      unfold rsNext
      have il := rsAcc_len (vs := vs) hok want.length
      split
      · rw [sumOf_append]
        have e3 : ∀ a l : List Int, sumOf (m : Int) [⟨(m : Int), l⟩] a = addE a l := fun a l => by unfold sumOf; simp
        rw [e3]
        refine ⟨by rw [addE_same (by rw [i1, il])]; exact i1, fun d hd => ?_⟩
        rw [addE_at i1 il hd, i2 d hd, if_neg (by omega), if_pos (by omega), rsAcc_at (vs := vs) hok hd, Int.add_zero]
      · rename_i hf
        have hf' := rsAcc_false (vs := vs) hok want.length (by simpa using hf)
        refine ⟨i1, fun d hd => ?_⟩
        rw [i2 d hd, if_neg (by omega), if_pos (by omega), ← rsAcc_at (vs := vs) hok hd, hf']
        simp [List.getElem?_replicate, hd]
    · have e : ∀ d, (if j < m + 1 then psum want ps (j : Int) d (seenB vs) want.length else 0) = if j < m then psum want ps (j : Int) d (seenB vs) want.length else 0 := fun d => by
        by_cases h : j < m
        · rw [if_pos h, if_pos (by omega)]
        · rw [if_neg h, if_neg (by omega)]
      cases ho : os[m]? with
      | none => exact ⟨i1, fun d hd => by rw [e]; exact i2 d hd⟩
      | some o' =>
        simp only
        unfold rsNext
        split
        · rw [sumOf_append]
          have e2 : ∀ l : List Int, sumOf (j : Int) [⟨(m : Int), l⟩] (sumOf (j : Int) (rsTo os want ps vs m) z) = sumOf (j : Int) (rsTo os want ps vs m) z := fun l => by
            show (if (m : Int) = (j : Int) then _ else _) = _
            rw [if_neg (by omega)]
          rw [e2]
          exact ⟨i1, fun d hd => by rw [e]; exact i2 d hd⟩
        · exact ⟨i1, fun d hd => by rw [e]; exact i2 d hd⟩
end Go.Proofs.Ytceceomaheobhaa.spl

/- Plain: the loads of two sets without a common order add up. -/
import Derived.Test.YthkbfmbohoclaaaDoorOrdC
import Derived.Test.YthkbfmbohoclaaaDoorBitP
namespace Go.Proofs.YthkbfmbohoclaaaDoor.ord
open Go.Proofs.YthkbfmbohoclaaaDoor.lib Go.Proofs.YthkbfmbohoclaaaDoor.rd Go.Proofs.YthkbfmbohoclaaaDoor.typ Go.Proofs.YthkbfmbohoclaaaDoor.sumr Go.Proofs.YthkbfmbohoclaaaDoor.loads Go.Proofs.YthkbfmbohoclaaaDoor.sets
set_option linter.unusedVariables false

def okL (l : List Ord) (d : Nat) (ms : List Int) : Prop := ∀ m, m ∈ ms → m < l.length ∧ (loadOf l m).length = d
theorem even_ok {l : List Ord} {d : Nat} {ms : List Int} (h : okL l d ms) : evenB (rowsOf l ms) (zeros d).length = true := by
  unfold evenB rowsOf zeros
  rw [List.length_replicate, List.all_eq_true]
  intro r hr
  obtain ⟨m, hm, rfl⟩ := List.mem_map.1 hr
  exact decide_eq_true (h m hm).2
theorem loadF_some {l : List Ord} {s : Int} {d : Nat} (h0 : 0 ≤ s) (hd : d ≤ 3) (h : okL l d (memL s)) : loadF l s d = some (colL (fun x y => x + y) (rowsOf l (memL s)) (zeros d)) := by
  rw [loadF_in h0 (by unfold inAll; rw [List.all_eq_true]; intro x hx; exact decide_eq_true (h x hx).1), foldR_yes hd, foldGo_eq, if_pos (even_ok h)]
theorem loadF_ok {l : List Ord} {s : Int} {dims : Int} (h : loadF l s dims ≠ none) : ∃ d : Nat, dims = d ∧ d ≤ 3 ∧ 0 ≤ s ∧ okL l d (memL s) := by
  unfold loadF foldR at h
  split at h
  · rename_i h1
    split at h
    · rename_i h2
      obtain ⟨d, rfl⟩ := Int.eq_ofNat_of_zero_le h2.1
      rw [Int.toNat_natCast, foldGo_eq] at h
      split at h
      · rename_i h3
        refine ⟨d, rfl, by omega, h1.1, fun m hm => ⟨?_, ?_⟩⟩
        · have h4 := h1.2
          unfold inAll at h4
          rw [List.all_eq_true] at h4
          exact of_decide_eq_true (h4 m hm)
        · unfold evenB rowsOf zeros at h3
          rw [List.length_replicate, List.all_eq_true] at h3
          exact of_decide_eq_true (h3 _ (List.mem_map.2 ⟨m, hm, rfl⟩))
      · exact absurd rfl h
    · exact absurd rfl h
  · exact absurd rfl h
theorem mem_or (a b : Nat) (x : Int) : x ∈ memL ((a ||| b : Nat) : Int) ↔ x ∈ memL (a : Int) ∨ x ∈ memL (b : Int) := by
  rw [mem_memL, mem_memL, mem_memL]
  unfold hasB
  simp only [decide_eq_true_eq, hasN_nat, Nat.testBit_or, Bool.or_eq_true]
  constructor
  · rintro ⟨h1, h2, h3 | h3⟩
    · exact .inl ⟨h1, h2, h3⟩
    · exact .inr ⟨h1, h2, h3⟩
  · rintro (⟨h1, h2, h3⟩ | ⟨h1, h2, h3⟩)
    · exact ⟨h1, h2, .inl h3⟩
    · exact ⟨h1, h2, .inr h3⟩
theorem okL_or {l : List Ord} {d : Nat} (a b : Nat) : okL l d (memL ((a ||| b : Nat) : Int)) ↔ okL l d (memL (a : Int)) ∧ okL l d (memL (b : Int)) := by
  constructor
  · intro h
    exact ⟨fun m hm => h m ((mem_or a b m).2 (.inl hm)), fun m hm => h m ((mem_or a b m).2 (.inr hm))⟩
  · rintro ⟨h1, h2⟩ m hm
    rcases (mem_or a b m).1 hm with h | h
    · exact h1 m h
    · exact h2 m h
def numAt (l : List Ord) (k : Nat) (m : Int) : Int := (loadOf l m)[k]?.getD 0
def sumOf (f : Int → Int) (ms : List Int) : Int := (ms.map f).sum
theorem colD_sum (l : List Ord) (k : Nat) : ∀ (ms : List Int) (z : Int), colD (fun x y => x + y) (rowsOf l ms) k z = z + sumOf (numAt l k) ms
  | [], z => by simp [colD, rowsOf, sumOf]
  | m :: ms, z => by
    have h := colD_sum l k ms (z + (loadOf l m)[k]?.getD 0)
    unfold colD rowsOf sumOf numAt at h ⊢
    simp only [List.map_cons, List.foldl_cons, List.sum_cons]
    rw [h]
    omega
theorem sum_or (f : Int → Int) (a b : Nat) (h : a &&& b = 0) : ∀ k, sumOf f (memTo ((a ||| b : Nat) : Int) k) = sumOf f (memTo (a : Int) k) + sumOf f (memTo (b : Int) k)
  | 0 => by simp [sumOf, memTo]
  | k + 1 => by
    have ih := sum_or f a b h k
    have hab : (a.testBit k && b.testBit k) = false := by rw [← Nat.testBit_and, h, Nat.zero_testBit]
    cases ha : a.testBit k <;> cases hb : b.testBit k
    · rw [memTo_no (by rw [hasN_nat, Nat.testBit_or, ha, hb]; decide), memTo_no (by rw [hasN_nat, ha]; decide), memTo_no (by rw [hasN_nat, hb]; decide), ih]
    · rw [memTo_yes (by rw [hasN_nat, Nat.testBit_or, ha, hb]; decide), memTo_no (by rw [hasN_nat, ha]; decide), memTo_yes (by rw [hasN_nat, hb])]
      unfold sumOf at ih ⊢
      simp only [List.map_append, List.sum_append, List.map_cons, List.map_nil, List.sum_cons, List.sum_nil]
      omega
    · rw [memTo_yes (by rw [hasN_nat, Nat.testBit_or, ha, hb]; decide), memTo_yes (by rw [hasN_nat, ha]), memTo_no (by rw [hasN_nat, hb]; decide)]
      unfold sumOf at ih ⊢
      simp only [List.map_append, List.sum_append, List.map_cons, List.map_nil, List.sum_cons, List.sum_nil]
      omega
    · rw [ha, hb] at hab; cases hab
theorem sum_bd (f : Int → Int) (M : Int) : ∀ ms : List Int, (∀ m, m ∈ ms → -M ≤ f m ∧ f m ≤ M) → -(ms.length * M) ≤ sumOf f ms ∧ sumOf f ms ≤ ms.length * M
  | [], _ => by simp [sumOf]
  | m :: ms, h => by
    have h1 := sum_bd f M ms fun x hx => h x (List.mem_cons_of_mem _ hx)
    have h2 := h m List.mem_cons_self
    unfold sumOf at h1 ⊢
    rw [List.map_cons, List.sum_cons, List.length_cons, show ((ms.length + 1 : Nat) : Int) * M = ms.length * M + M by rw [Int.natCast_add, Int.add_mul]; omega]
    omega

/-- What the law says of three loads. -/
theorem load_none {l : List Ord} {a b : Nat} {dims : Int} (ha : loadF l a dims ≠ none) (hb : loadF l b dims = none) : loadF l ((a ||| b : Nat) : Int) dims = none := by
  obtain ⟨d, rfl, hd, h0, h1⟩ := loadF_ok ha
  cases hq : loadF l ((a ||| b : Nat) : Int) (d : Int)
  · rfl
  · obtain ⟨d', e, hd', h0', h1'⟩ := loadF_ok (l := l) (s := ((a ||| b : Nat) : Int)) (dims := d) (by rw [hq]; simp)
    obtain rfl : d = d' := by omega
    rw [loadF_some (by omega) hd ((okL_or a b).1 h1').2] at hb
    cases hb
theorem load_adds {l : List Ord} {a b : Nat} {dims : Int} (hab : a &&& b = 0) {s u : List Int} (hs : loadF l a dims = some s) (hu : loadF l b dims = some u) (hi : ∀ o, o ∈ l → InM 1073741824 o.load) :
    ∃ (d : Nat) (v : List Int), dims = d ∧ d ≤ 3 ∧ loadF l ((a ||| b : Nat) : Int) dims = some v ∧ s.length = d ∧ u.length = d ∧ v.length = d ∧
      ∀ (k : Nat), k < d → ∃ x y, s[k]? = some x ∧ u[k]? = some y ∧ v[k]? = some (x + y) ∧ -67645734912 ≤ x ∧ x ≤ 67645734912 ∧ -67645734912 ≤ y ∧ y ≤ 67645734912 := by
  obtain ⟨d, rfl, hd, h0, h1⟩ := loadF_ok (l := l) (s := (a : Int)) (dims := dims) (by rw [hs]; simp)
  obtain ⟨d', e, hd', h0', h1'⟩ := loadF_ok (l := l) (s := (b : Int)) (dims := d) (by rw [hu]; simp)
  obtain rfl : d = d' := by omega
  rw [loadF_some h0 hd h1] at hs
  rw [loadF_some h0' hd h1'] at hu
  cases hs
  cases hu
  have hL : ∀ ms : List Int, (colL (fun x y => x + y) (rowsOf l ms) (zeros d)).length = d := fun ms => by rw [colL_length]; simp [zeros]
  have hA : ∀ (ms : List Int) k, k < d → (colL (fun x y => x + y) (rowsOf l ms) (zeros d))[k]? = some (sumOf (numAt l k) ms) := fun ms k hk => by rw [colL_at hk, colD_sum, Int.zero_add]
  have hB : ∀ (s : Int) k, -67645734912 ≤ sumOf (numAt l k) (memL s) ∧ sumOf (numAt l k) (memL s) ≤ 67645734912 := fun s k => by
    have hm : ∀ m : Int, -1073741824 ≤ numAt l k m ∧ numAt l k m ≤ 1073741824 := fun m => by
      unfold numAt loadOf
      split
      · rename_i o ho
        cases hx : o.load[k]? with
        | none => simp
        | some x => exact hi o (List.mem_of_getElem? ho) x (List.mem_of_getElem? hx)
      · simp
    have h2 := sum_bd (numAt l k) 1073741824 (memL s) fun m _ => hm m
    have h3 := memL_len s
    omega
  refine ⟨d, _, rfl, hd, loadF_some (by omega) hd ((okL_or a b).2 ⟨h1, h1'⟩), hL _, hL _, hL _, fun k hk => ⟨_, _, hA _ k hk, hA _ k hk, ?_, (hB _ k).1, (hB _ k).2, (hB _ k).1, (hB _ k).2⟩⟩
  rw [hA _ k hk]
  unfold memL
  rw [sum_or _ a b hab]
end Go.Proofs.YthkbfmbohoclaaaDoor.ord

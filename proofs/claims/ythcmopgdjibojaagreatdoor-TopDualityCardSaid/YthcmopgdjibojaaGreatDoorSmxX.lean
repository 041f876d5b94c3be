
/- Plain: the simplex method's tableau: sums, pivots, combinations of rows, chains of pivots. -/

namespace Go.Proofs.YthcmopgdjibojaaGreatDoor.smx
set_option linter.unusedVariables false
set_option linter.unusedSimpArgs false

/-! Sums. -/
def sm (f : Nat → Rat) : Nat → Rat
  | 0 => 0
  | n + 1 => sm f n + f n
theorem sm_congr {f g : Nat → Rat} {n : Nat} (h : ∀ i, i < n → f i = g i) : sm f n = sm g n := by
  induction n with
  | zero => rfl
  | succ n ih => rw [sm, sm, ih (fun i hi => h i (by omega)), h n (by omega)]
theorem sm_zero {f : Nat → Rat} {n : Nat} (h : ∀ i, i < n → f i = 0) : sm f n = 0 := by
  induction n with
  | zero => rfl
  | succ n ih => rw [sm, ih (fun i hi => h i (by omega)), h n (by omega)]; grind
theorem sm_add (f g : Nat → Rat) (n : Nat) : sm (fun i => f i + g i) n = sm f n + sm g n := by
  induction n with
  | zero => simp only [sm]; grind
  | succ n ih => rw [sm, sm, sm, ih]; grind
theorem sm_mul (a : Rat) (f : Nat → Rat) (n : Nat) : sm (fun i => a * f i) n = a * sm f n := by
  induction n with
  | zero => simp [sm]
  | succ n ih => rw [sm, sm, ih]; grind
theorem sm_mulr (a : Rat) (f : Nat → Rat) (n : Nat) : sm (fun i => f i * a) n = sm f n * a := by
  induction n with
  | zero => simp [sm]
  | succ n ih => rw [sm, sm, ih]; grind
theorem sm_one {f : Nat → Rat} {n j : Nat} (hj : j < n) (h : ∀ i, i < n → i ≠ j → f i = 0) : sm f n = f j := by
  induction n with
  | zero => omega
  | succ n ih =>
    rw [sm]
    by_cases e : j = n
    · subst e
      rw [sm_zero (fun i hi => h i (by omega) (by omega))]
      grind
    · rw [ih (by omega) (fun i hi hn => h i (by omega) hn), h n (by omega) (by omega)]
      grind
theorem sm_swap (f : Nat → Nat → Rat) (m n : Nat) : sm (fun i => sm (fun j => f i j) n) m = sm (fun j => sm (fun i => f i j) m) n := by
  induction m with
  | zero => simp [sm]; rw [sm_zero (fun _ _ => rfl)]
  | succ m ih =>
    rw [sm, ih]
    rw [← sm_add]
    rfl
theorem sm_nonneg {f : Nat → Rat} {n : Nat} (h : ∀ i, i < n → 0 ≤ f i) : 0 ≤ sm f n := by
  induction n with
  | zero => exact Rat.le_refl
  | succ n ih =>
    have h1 := ih (fun i hi => h i (by omega))
    have h2 := h n (by omega)
    rw [sm]; grind
theorem sm_pos_some {f : Nat → Rat} {n : Nat} (h : 0 < sm f n) : ∃ i, i < n ∧ 0 < f i := by
  induction n with
  | zero => rw [sm] at h; grind
  | succ n ih =>
    rw [sm] at h
    by_cases h1 : 0 < f n
    · exact ⟨n, by omega, h1⟩
    · obtain ⟨i, hi, h2⟩ := ih (by grind)
      exact ⟨i, by omega, h2⟩
theorem sm_zero_of {f : Nat → Rat} {n : Nat} (h : ∀ i, i < n → 0 ≤ f i) (h0 : sm f n = 0) : ∀ i, i < n → f i = 0 := by
  induction n with
  | zero => intro i hi; omega
  | succ n ih =>
    have h1 := sm_nonneg (f := f) (n := n) (fun i hi => h i (by omega))
    have h2 := h n (by omega)
    rw [sm] at h0
    intro i hi
    by_cases e : i = n
    · subst e; grind
    · exact ih (fun i hi => h i (by omega)) (by grind) i (by omega)

/-! The state of the simplex method. -/
structure Tab where
  T : Nat → Nat → Rat
  P : Nat → Rat
  base : Nat → Nat
def pivT (T : Nat → Nat → Rat) (r c : Nat) : Nat → Nat → Rat := fun i k => if i = r then T r k / T r c else T i k - T i c * (T r k / T r c)
def pivP (T : Nat → Nat → Rat) (P : Nat → Rat) (r c : Nat) : Nat → Rat := fun k => P k - P c * (T r k / T r c)
def upd (base : Nat → Nat) (r c : Nat) : Nat → Nat := fun i => if i = r then c else base i
def Tab.pivot (s : Tab) (r c : Nat) : Tab := ⟨pivT s.T r c, pivP s.T s.P r c, upd s.base r c⟩
/-- The basis' columns are those of the identity. -/
def Tab.Unit (m : Nat) (s : Tab) : Prop := ∀ i j, i < m → j < m → s.T i (s.base j) = if i = j then 1 else 0
/-- A row is a combination of the tableau's rows. -/
def Tab.Sp (m : Nat) (s : Tab) (v : Nat → Rat) : Prop := ∀ k, v k = sm (fun q => v (s.base q) * s.T q k) m
theorem pivot_unit {m : Nat} {s : Tab} (h : s.Unit m) {r c : Nat} (hr : r < m) (hc : s.T r c ≠ 0) : (s.pivot r c).Unit m := by
  intro i j hi hj
  have h1 := h i j hi hj
  have h2 := h r j hr hj
  simp only [Tab.pivot, pivT, upd]
  by_cases ej : j = r
  · subst ej
    rw [if_pos rfl]
    by_cases ei : i = j
    · subst ei; rw [if_pos rfl, if_pos rfl]; grind
    · rw [if_neg ei, if_neg ei]; grind
  · rw [if_neg ej]
    by_cases ei : i = r
    · subst ei; rw [if_pos rfl, if_neg (fun e => ej e.symm)]
      rw [if_neg (fun e => ej e.symm)] at h2
      rw [h2]; grind
    · rw [if_neg ei, h1]
      rw [if_neg (fun e => ej e.symm)] at h2
      rw [h2]; grind
theorem Tab.Sp.comb {m : Nat} {s : Tab} {n : Nat} {V : Nat → Nat → Rat} (a : Nat → Rat) (h : ∀ i, i < n → s.Sp m (V i)) : s.Sp m (fun k => sm (fun i => a i * V i k) n) := by
  intro k
  have h1 : sm (fun i => a i * V i k) n = sm (fun i => sm (fun q => a i * (V i (s.base q) * s.T q k)) m) n := sm_congr fun i hi => by
    rw [sm_mul]
    exact congrArg _ (h i hi k)
  refine h1.trans ?_
  rw [sm_swap]
  refine sm_congr fun q hq => ?_
  rw [← sm_mulr]
  refine sm_congr fun i hi => ?_
  grind
theorem Tab.Sp.lin {m : Nat} {s : Tab} {u v : Nat → Rat} (a b : Rat) (h : s.Sp m u) (h' : s.Sp m v) : s.Sp m (fun k => a * u k + b * v k) := by
  intro k
  have e : sm (fun q => (a * u (s.base q) + b * v (s.base q)) * s.T q k) m = sm (fun q => a * (u (s.base q) * s.T q k)) m + sm (fun q => b * (v (s.base q) * s.T q k)) m := by
    rw [← sm_add]
    exact sm_congr fun q hq => by grind
  show a * u k + b * v k = _
  rw [e, sm_mul, sm_mul, ← h k, ← h' k]
theorem Tab.Sp.congr {m : Nat} {s : Tab} {u v : Nat → Rat} (h : s.Sp m u) (e : ∀ k, v k = u k) : s.Sp m v := by
  have : v = u := funext e
  rw [this]; exact h
theorem Tab.Sp.row {m : Nat} {s : Tab} (h : s.Unit m) {i : Nat} (hi : i < m) : s.Sp m (s.T i) := by
  intro k
  rw [sm_one hi]
  · rw [h i i hi hi, if_pos rfl]; grind
  · intro q hq hn
    rw [h i q hi hq, if_neg (fun e => hn e.symm)]; grind
/-- The rows of the tableau before a pivot are combinations of those behind it, and the other way round. -/
theorem row_of_pivot {s : Tab} {r c : Nat} (hc : s.T r c ≠ 0) (i k : Nat) : s.T i k = (if i = r then 0 else 1) * (s.pivot r c).T i k + s.T i c * (s.pivot r c).T r k := by
  simp only [Tab.pivot, pivT]
  by_cases e : i = r
  · subst e; rw [if_pos rfl, if_pos rfl]; grind
  · rw [if_neg e, if_neg e]; simp only [if_true]; grind
theorem pivot_of_row {s : Tab} {r c : Nat} (i k : Nat) : (s.pivot r c).T i k = (if i = r then 0 else 1) * s.T i k + (if i = r then 1 / s.T r c else - (s.T i c / s.T r c)) * s.T r k := by
  simp only [Tab.pivot, pivT]
  by_cases e : i = r
  · subst e; rw [if_pos rfl, if_pos rfl, if_pos rfl]; grind
  · rw [if_neg e, if_neg e, if_neg e]; grind
theorem sp_pivot {m : Nat} {s : Tab} (h : s.Unit m) {r c : Nat} (hr : r < m) (hc : s.T r c ≠ 0) (v : Nat → Rat) : s.Sp m v ↔ (s.pivot r c).Sp m v := by
  have h' := pivot_unit h hr hc
  constructor
  · intro hv
    refine (Tab.Sp.comb (s := s.pivot r c) (fun q => v (s.base q)) (V := s.T) (n := m) fun q hq => ?_).congr hv
    exact ((Tab.Sp.row h' hq).lin (if q = r then 0 else 1) (s.T q c) (Tab.Sp.row h' hr)).congr (row_of_pivot hc q)
  · intro hv
    refine (Tab.Sp.comb (s := s) (fun q => v ((s.pivot r c).base q)) (V := (s.pivot r c).T) (n := m) fun q hq => ?_).congr hv
    exact ((Tab.Sp.row h hq).lin _ _ (Tab.Sp.row h hr)).congr (pivot_of_row q)
theorem sp_price {m : Nat} {s : Tab} (h : s.Unit m) {r c : Nat} (hr : r < m) : s.Sp m (fun k => (s.pivot r c).P k - s.P k) := by
  refine ((Tab.Sp.row h hr).lin (-(s.P c / s.T r c)) 0 (Tab.Sp.row h hr)).congr fun k => ?_
  simp only [Tab.pivot, pivP]
  grind
/-- The prices of the basis are 0. -/
def Tab.Priced (m : Nat) (s : Tab) : Prop := ∀ j, j < m → s.P (s.base j) = 0
theorem pivot_priced {m : Nat} {s : Tab} (h : s.Unit m) (hp : s.Priced m) {r c : Nat} (hr : r < m) (hc : s.T r c ≠ 0) : (s.pivot r c).Priced m := by
  intro j hj
  simp only [Tab.pivot, pivP, upd]
  by_cases ej : j = r
  · subst ej
    rw [if_pos rfl]; grind
  · rw [if_neg ej, hp j hj, h r j hr hj, if_neg (fun e => ej e.symm)]; grind

/-! A chain of pivots. -/
/-- Step j of a chain: the column and the row. -/
structure Step where
  r : Nat
  c : Nat
def Chain (m : Nat) (S : Nat → Tab) (st : Nat → Step) (k : Nat) : Prop :=
  (S 0).Unit m ∧ (S 0).Priced m ∧ ∀ j, j < k → (st j).r < m ∧ (S j).T (st j).r (st j).c ≠ 0 ∧ S (j + 1) = (S j).pivot (st j).r (st j).c
section
variable {m k : Nat} {S : Nat → Tab} {st : Nat → Step}
theorem Chain.unit (h : Chain m S st k) {j : Nat} (hj : j ≤ k) : (S j).Unit m := by
  induction j with
  | zero => exact h.1
  | succ j ih =>
    obtain ⟨h1, h2, h3⟩ := h.2.2 j (by omega)
    rw [h3]
    exact pivot_unit (ih (by omega)) h1 h2
theorem Chain.priced (h : Chain m S st k) {j : Nat} (hj : j ≤ k) : (S j).Priced m := by
  induction j with
  | zero => exact h.2.1
  | succ j ih =>
    obtain ⟨h1, h2, h3⟩ := h.2.2 j (by omega)
    rw [h3]
    exact pivot_priced (h.unit (by omega)) (ih (by omega)) h1 h2
theorem Chain.sp (h : Chain m S st k) {j : Nat} (hj : j ≤ k) (v : Nat → Rat) : (S 0).Sp m v ↔ (S j).Sp m v := by
  induction j with
  | zero => exact Iff.rfl
  | succ j ih =>
    obtain ⟨h1, h2, h3⟩ := h.2.2 j (by omega)
    rw [h3]
    exact (ih (by omega)).trans (sp_pivot (h.unit (by omega)) h1 h2 v)
theorem Chain.price0 (h : Chain m S st k) {j : Nat} (hj : j ≤ k) : (S 0).Sp m (fun q => (S j).P q - (S 0).P q) := by
  induction j with
  | zero =>
    intro q
    rw [sm_zero (fun i hi => by grind)]
    grind
  | succ j ih =>
    obtain ⟨h1, h2, h3⟩ := h.2.2 j (by omega)
    have h4 := (h.sp (show j ≤ k by omega) _).2 (sp_price (h.unit (show j ≤ k by omega)) (c := (st j).c) h1)
    rw [← h3] at h4
    exact ((ih (by omega)).lin 1 1 h4).congr fun q => by grind
theorem Chain.price (h : Chain m S st k) {a b : Nat} (ha : a ≤ k) (hb : b ≤ k) : (S a).Sp m (fun q => (S b).P q - (S a).P q) := by
  refine (h.sp ha _).1 ?_
  exact ((h.price0 hb).lin 1 (-1) (h.price0 ha)).congr fun q => by grind
theorem Chain.rows (h : Chain m S st k) {a b : Nat} (ha : a ≤ k) (hb : b ≤ k) {i : Nat} (hi : i < m) : (S a).Sp m ((S b).T i) :=
  (h.sp ha _).1 ((h.sp hb _).2 (Tab.Sp.row (h.unit hb) hi))
theorem Chain.same_price (h : Chain m S st k) {a b : Nat} (ha : a ≤ k) (hb : b ≤ k) (e : ∀ q, q < m → (S a).base q = (S b).base q) (q : Nat) : (S b).P q = (S a).P q := by
  have h1 := h.price ha hb q
  rw [sm_zero] at h1
  · grind
  · intro j hj
    have h2 := h.priced hb j hj
    have h3 := h.priced ha j hj
    rw [← e j hj] at h2
    show ((S b).P ((S a).base j) - (S a).P ((S a).base j)) * _ = 0
    rw [h2, h3]; grind
end
end Go.Proofs.YthcmopgdjibojaaGreatDoor.smx

/- Plain: under Bland's rule no basis comes again. -/
namespace Go.Proofs.YthcmopgdjibojaaGreatDoor.smx
set_option linter.unusedVariables false
set_option linter.unusedSimpArgs false

/-- Bland's rule: the first column with a price below 0 enters; of the rows with the least quotient the one with the least base leaves. -/
def Bland (m N L : Nat) (s : Tab) (r c : Nat) : Prop :=
  (c < N ∧ s.P c < 0 ∧ ∀ q, q < c → 0 ≤ s.P q) ∧ r < m ∧ 0 < s.T r c ∧
  ∀ i, i < m → 0 < s.T i c → s.T r L / s.T r c < s.T i L / s.T i c ∨ (s.T r L / s.T r c = s.T i L / s.T i c ∧ s.base r ≤ s.base i)
def Tab.Feas (m L : Nat) (s : Tab) : Prop := ∀ i, i < m → 0 ≤ s.T i L
theorem div_nonneg {a b : Rat} (ha : 0 ≤ a) (hb : 0 < b) : 0 ≤ a / b := by
  rw [Rat.div_def]
  exact Rat.mul_nonneg ha (Rat.le_of_lt (Rat.inv_pos.2 hb))
theorem mul_div_self {a b : Rat} (hb : 0 < b) : b * (a / b) = a := by grind
theorem mul_le_left {a b c : Rat} (hc : 0 ≤ c) (h : a ≤ b) : c * a ≤ c * b := Rat.mul_le_mul_of_nonneg_left h hc
theorem bland_feas {m N L : Nat} {s : Tab} {r c : Nat} (h : Bland m N L s r c) (hf : s.Feas m L) : (s.pivot r c).Feas m L := by
  intro i hi
  obtain ⟨_, hr, hpos, hmin⟩ := h
  have h0 := div_nonneg (hf r hr) hpos
  simp only [Tab.pivot, pivT]
  by_cases e : i = r
  · rw [if_pos e]; exact h0
  · rw [if_neg e]
    have h1 := hf i hi
    by_cases hic : 0 < s.T i c
    · have h2 : s.T r L / s.T r c ≤ s.T i L / s.T i c := by
        rcases hmin i hi hic with h | ⟨h, _⟩ <;> grind
      have h3 := mul_le_left (c := s.T i c) (by grind) h2
      rw [mul_div_self hic] at h3
      grind
    · have h3 := mul_le_left (c := - s.T i c) (by grind) h0
      grind
theorem bland_value {m N L : Nat} {s : Tab} {r c : Nat} (h : Bland m N L s r c) (hf : s.Feas m L) : s.P L ≤ (s.pivot r c).P L ∧ ((s.pivot r c).P L = s.P L → s.T r L = 0) := by
  obtain ⟨⟨_, hc, _⟩, hr, hpos, hmin⟩ := h
  have h0 := div_nonneg (hf r hr) hpos
  simp only [Tab.pivot, pivP]
  constructor
  · have h3 := mul_le_left (c := - s.P c) (by grind) h0
    grind
  · intro he
    have h4 : s.P c * (s.T r L / s.T r c) = 0 := by grind
    rcases Rat.mul_eq_zero.1 h4 with h5 | h5
    · grind
    · have h6 := mul_div_self (a := s.T r L) hpos
      rw [h5] at h6
      grind
section
variable {m N L k : Nat} {S : Nat → Tab} {st : Nat → Step}
theorem chain_feas (h : Chain m S st k) (hb : ∀ j, j < k → Bland m N L (S j) (st j).r (st j).c) (hf : (S 0).Feas m L) {j : Nat} (hj : j ≤ k) : (S j).Feas m L := by
  induction j with
  | zero => exact hf
  | succ j ih =>
    rw [(h.2.2 j (by omega)).2.2]
    exact bland_feas (hb j (by omega)) (ih (by omega))
theorem chain_mono (h : Chain m S st k) (hb : ∀ j, j < k → Bland m N L (S j) (st j).r (st j).c) (hf : (S 0).Feas m L) {a : Nat} (d : Nat) (hd : a + d ≤ k) : (S a).P L ≤ (S (a + d)).P L := by
  induction d with
  | zero => exact Rat.le_refl
  | succ d ih =>
    have h1 := (bland_value (hb (a + d) (by omega)) (chain_feas h hb hf (by omega))).1
    rw [← (h.2.2 (a + d) (by omega)).2.2] at h1
    exact Rat.le_trans (ih (by omega)) h1
theorem chain_deg (h : Chain m S st k) (hb : ∀ j, j < k → Bland m N L (S j) (st j).r (st j).c) (hf : (S 0).Feas m L) (e : (S k).P L = (S 0).P L) {j : Nat} (hj : j < k) : (S j).T (st j).r L = 0 := by
  have h1 := chain_mono h hb hf (a := 0) j (by omega)
  have h2 := chain_mono h hb hf (a := j + 1) (k - (j + 1)) (by omega)
  have h3 := bland_value (hb j hj) (chain_feas h hb hf (by omega))
  rw [show j + 1 + (k - (j + 1)) = k by omega, e] at h2
  rw [Nat.zero_add] at h1
  refine h3.2 ?_
  rw [← (h.2.2 j hj).2.2] at h3 ⊢
  have := h3.1
  grind
theorem chain_const (h : Chain m S st k) (hd : ∀ j, j < k → (S j).T (st j).r L = 0) {i : Nat} (hi : i < m) {j : Nat} (hj : j ≤ k) : (S j).T i L = (S 0).T i L := by
  induction j with
  | zero => rfl
  | succ j ih =>
    have h1 := hd j (by omega)
    rw [(h.2.2 j (by omega)).2.2, ← ih (by omega)]
    simp only [Tab.pivot, pivT]
    by_cases e : i = (st j).r
    · rw [if_pos e, e, h1]; grind
    · rw [if_neg e, h1]; grind
theorem chain_base (h : Chain m S st k) (i : Nat) {j : Nat} (hj : j ≤ k) : ((∀ q, q < j → (st q).r ≠ i) ∧ (S j).base i = (S 0).base i) ∨ ∃ q, q < j ∧ (st q).r = i ∧ (S j).base i = (st q).c := by
  induction j with
  | zero => exact .inl ⟨fun q hq => by omega, rfl⟩
  | succ j ih =>
    rw [(h.2.2 j (by omega)).2.2]
    simp only [Tab.pivot, upd]
    by_cases e : i = (st j).r
    · exact .inr ⟨j, by omega, e.symm, by rw [if_pos e]⟩
    · rw [if_neg e]
      rcases ih (by omega) with ⟨h1, h2⟩ | ⟨q, h1, h2, h3⟩
      · refine .inl ⟨fun q hq => ?_, h2⟩
        by_cases eq : q = j
        · subst eq; exact fun e' => e e'.symm
        · exact h1 q (by omega)
      · exact .inr ⟨q, by omega, h2, h3⟩
theorem chain_enter (h : Chain m S st k) (e : ∀ q, q < m → (S 0).base q = (S k).base q) {i : Nat} (hi : i < m) (hx : ∃ q, q < k ∧ (st q).r = i) {j : Nat} (hj : j ≤ k) : ∃ q, q < k ∧ (S j).base i = (st q).c := by
  rcases chain_base h i hj with ⟨_, h2⟩ | ⟨q, h1, _, h3⟩
  · rcases chain_base h i (Nat.le_refl k) with ⟨h4, _⟩ | ⟨q, h1, _, h3⟩
    · obtain ⟨q, hq, hr⟩ := hx
      exact absurd hr (h4 q hq)
    · exact ⟨q, h1, by rw [h2, e i hi, h3]⟩
  · exact ⟨q, by omega, h3⟩
theorem chain_differ (h : Chain m S st k) {i a b : Nat} (ha : a ≤ k) (hb : b ≤ k) (hne : (S a).base i ≠ (S b).base i) : ∃ q, q < k ∧ (st q).r = i := by
  rcases chain_base h i ha with ⟨_, h2⟩ | ⟨q, h1, h2, _⟩
  · rcases chain_base h i hb with ⟨_, h3⟩ | ⟨q, h1, h2, _⟩
    · exact absurd (h2.trans h3.symm) hne
    · exact ⟨q, by omega, h2⟩
  · exact ⟨q, by omega, h2⟩
/-- A base stays till its row is chosen. -/
theorem chain_stay (h : Chain m S st k) {p t a : Nat} (ht : (S a).base p = t) (d : Nat) (hd : a + d ≤ k) (hno : ∀ j, j < k → (st j).r = p → (S j).base p ≠ t) : (S (a + d)).base p = t := by
  induction d with
  | zero => exact ht
  | succ d ih =>
    have h1 := ih (by omega)
    rw [show a + (d + 1) = a + d + 1 by omega, (h.2.2 (a + d) (by omega)).2.2]
    simp only [Tab.pivot, upd]
    by_cases e : p = (st (a + d)).r
    · exact absurd h1 (hno (a + d) (by omega) e.symm)
    · rw [if_neg e]; exact h1
theorem max_step (st : Nat → Step) (k : Nat) (hk : 0 < k) : ∃ l, l < k ∧ ∀ j, j < k → (st j).c ≤ (st l).c := by
  induction k with
  | zero => omega
  | succ k ih =>
    by_cases h0 : k = 0
    · subst h0; exact ⟨0, by omega, fun j hj => by rw [show j = 0 by omega]; exact Nat.le_refl _⟩
    · obtain ⟨l, hl, h⟩ := ih (by omega)
      by_cases h1 : (st l).c ≤ (st k).c
      · refine ⟨k, by omega, fun j hj => ?_⟩
        by_cases e : j = k
        · subst e; exact Nat.le_refl _
        · exact Nat.le_trans (h j (by omega)) h1
      · refine ⟨l, by omega, fun j hj => ?_⟩
        by_cases e : j = k
        · subst e; omega
        · exact h j (by omega)
/-- Under Bland's rule no basis comes again. -/
theorem no_repeat (h : Chain m S st k) (hk : 0 < k) (hb : ∀ j, j < k → Bland m N L (S j) (st j).r (st j).c) (hf : (S 0).Feas m L) (e : ∀ q, q < m → (S 0).base q = (S k).base q) : False := by
  have hval : (S k).P L = (S 0).P L := h.same_price (Nat.zero_le _) (Nat.le_refl _) e L
  have hdeg : ∀ j, j < k → (S j).T (st j).r L = 0 := fun j hj => chain_deg h hb hf hval hj
  have hcon : ∀ i j, i < m → j ≤ k → (S j).T i L = (S 0).T i L := fun i j hi hj => chain_const h hdeg hi hj
  obtain ⟨l, hl, hmax⟩ := max_step st k hk
  obtain ⟨t, ht⟩ : ∃ t, t = (st l).c := ⟨_, rfl⟩
  obtain ⟨p, hp⟩ : ∃ p, p = (st l).r := ⟨_, rfl⟩
  rw [← ht] at hmax
  obtain ⟨⟨htN, hPt, hPlow⟩, hpm, _, _⟩ := hb l hl
  rw [← ht] at htN hPt hPlow
  rw [← hp] at hpm
  -- t leaves
  have hleave : ∃ j, j < k ∧ (st j).r = p ∧ (S j).base p = t := by
    refine Classical.byContradiction fun hno => ?_
    have hno' : ∀ j, j < k → (st j).r = p → (S j).base p ≠ t := fun j hj h1 h2 => hno ⟨j, hj, h1, h2⟩
    have h1 : (S (l + 1)).base p = t := by
      rw [(h.2.2 l hl).2.2]
      simp only [Tab.pivot, upd]
      rw [if_pos hp, ht]
    have h2 := chain_stay h h1 (k - (l + 1)) (by omega) hno'
    rw [show l + 1 + (k - (l + 1)) = k by omega, ← e p hpm] at h2
    have h3 := chain_stay h h2 l (by omega) hno'
    rw [Nat.zero_add] at h3
    have h4 := h.priced (show l ≤ k by omega) p hpm
    rw [h3] at h4
    grind
  obtain ⟨j, hj, hjr, hjt⟩ := hleave
  obtain ⟨⟨hsN, hPs, hslow⟩, _, hTpos, hmin⟩ := hb j hj
  rw [hjr] at hTpos hmin
  obtain ⟨s, hs⟩ : ∃ s, s = (st j).c := ⟨_, rfl⟩
  rw [← hs] at hsN hPs hslow hTpos hmin
  have hst : s ≤ t := by rw [hs]; exact hmax j hj
  have hsne : s ≠ t := by
    intro e1
    have h4 := h.priced (show j ≤ k by omega) p hpm
    rw [hjt, ← e1] at h4
    grind
  have hPls : 0 ≤ (S l).P s := hPlow s (by omega)
  -- the difference of the prices
  have hdiff := h.price (show j ≤ k by omega) (show l ≤ k by omega) s
  have hsum : sm (fun q => ((S l).P ((S j).base q) - (S j).P ((S j).base q)) * (S j).T q s) m = sm (fun q => (S l).P ((S j).base q) * (S j).T q s) m := sm_congr fun q hq => by
    rw [h.priced (show j ≤ k by omega) q hq]; grind
  have hdiff' : (S l).P s - (S j).P s = sm (fun q => (S l).P ((S j).base q) * (S j).T q s) m := hdiff.trans hsum
  obtain ⟨i, hi, hpos⟩ := sm_pos_some (f := fun q => (S l).P ((S j).base q) * (S j).T q s) (n := m) (by rw [← hdiff']; grind)
  have hpos : 0 < (S l).P ((S j).base i) * (S j).T i s := hpos
  by_cases hsame : (S l).base i = (S j).base i
  · have h4 := h.priced (show l ≤ k by omega) i hi
    rw [hsame] at h4
    rw [h4] at hpos
    grind
  · have hx := chain_differ h (show l ≤ k by omega) (show j ≤ k by omega) hsame
    obtain ⟨q, hq, hqc⟩ := chain_enter h e hi hx (show j ≤ k by omega)
    have hvt : (S j).base i ≤ t := by rw [hqc]; exact hmax q hq
    obtain ⟨q', hq', hqr⟩ := hx
    have hbi : (S j).T i L = 0 := by
      rw [hcon i j hi (by omega), ← hcon i q' hi (by omega), ← hqr]
      exact hdeg q' hq'
    have hbp : (S j).T p L = 0 := by
      have := hdeg j hj
      rw [hjr] at this
      exact this
    by_cases hvv : (S j).base i = t
    · have hip : i = p := by
        refine Classical.byContradiction fun hne => ?_
        have h5 := h.unit (show j ≤ k by omega) i p hi hpm
        have h6 := h.unit (show j ≤ k by omega) i i hi hi
        rw [if_neg hne, hjt] at h5
        rw [if_pos rfl, hvv] at h6
        grind
      subst hip
      rw [hvv] at hpos
      have h7 := mul_le_left (c := (S j).T i s) (a := (S l).P t) (b := 0) (by grind) (by grind)
      grind
    · have hPv : 0 ≤ (S l).P ((S j).base i) := hPlow _ (by omega)
      have hTis : 0 < (S j).T i s := by
        refine Classical.byContradiction fun hn => ?_
        have h7 := mul_le_left (c := (S l).P ((S j).base i)) (a := (S j).T i s) (b := 0) hPv (by grind)
        grind
      rcases hmin i hi hTis with h8 | ⟨_, h8⟩
      · rw [hbi, hbp] at h8
        grind
      · rw [hjt] at h8
        omega
end
end Go.Proofs.YthcmopgdjibojaaGreatDoor.smx

/- Plain: determinants, Cramer's rule, and the sizes of a tableau's entries. -/
namespace Go.Proofs.YthcmopgdjibojaaGreatDoor.smx
set_option linter.unusedVariables false
set_option linter.unusedSimpArgs false

/-! Determinants: of n vectors, by the last coordinate. -/
def sg (j : Nat) : Rat := if j % 2 = 0 then 1 else -1
theorem sg_succ (j : Nat) : sg (j + 1) = - sg j := by
  unfold sg
  by_cases h : j % 2 = 0
  · rw [if_pos h, if_neg (by omega)]
  · rw [if_neg h, if_pos (by omega)]; grind
def skip (j : Nat) (v : Nat → Nat → Rat) : Nat → Nat → Rat := fun q => if q < j then v q else v (q + 1)
def det : Nat → (Nat → Nat → Rat) → Rat
  | 0, _ => 1
  | n + 1, v => sm (fun j => sg j * (v j n * det n (skip j v))) (n + 1)
def put (v : Nat → Nat → Rat) (i : Nat) (x : Nat → Rat) : Nat → Nat → Rat := fun q => if q = i then x else v q
theorem put_self (v : Nat → Nat → Rat) (i : Nat) : put v i (v i) = v := by
  funext q
  unfold put
  by_cases h : q = i
  · rw [if_pos h, h]
  · rw [if_neg h]
theorem skip_put_same (v : Nat → Nat → Rat) (i : Nat) (x : Nat → Rat) : skip i (put v i x) = skip i v := by
  funext q
  unfold skip put
  by_cases h : q < i
  · rw [if_pos h, if_pos h, if_neg (by omega)]
  · rw [if_neg h, if_neg h, if_neg (by omega)]
theorem skip_put_lo (v : Nat → Nat → Rat) {i j : Nat} (h : i < j) (x : Nat → Rat) : skip j (put v i x) = put (skip j v) i x := by
  funext q
  unfold skip put
  by_cases hq : q < j
  · simp only [if_pos hq]
  · simp only [if_neg hq]
    rw [if_neg (by omega), if_neg (by omega)]
theorem skip_put_hi (v : Nat → Nat → Rat) {i j : Nat} (h : j < i) (x : Nat → Rat) : skip j (put v i x) = put (skip j v) (i - 1) x := by
  funext q
  unfold skip put
  by_cases hq : q < j
  · simp only [if_pos hq]
    rw [if_neg (by omega), if_neg (by omega)]
  · simp only [if_neg hq]
    by_cases e : q + 1 = i
    · rw [if_pos e, if_pos (by omega)]
    · rw [if_neg e, if_neg (by omega)]
/-- The determinant is linear in each vector. -/
theorem det_lin (n : Nat) : ∀ (v : Nat → Nat → Rat) (i : Nat), i < n → ∀ (a b : Rat) (x y : Nat → Rat), det n (put v i (fun k => a * x k + b * y k)) = a * det n (put v i x) + b * det n (put v i y) := by
  induction n with
  | zero => intro v i hi; omega
  | succ n ih =>
    intro v i hi a b x y
    simp only [det]
    rw [← sm_mul, ← sm_mul, ← sm_add]
    refine sm_congr fun j hj => ?_
    by_cases e : j = i
    · subst e
      rw [skip_put_same, skip_put_same, skip_put_same]
      simp only [put, if_true]
      grind
    · have e1 : ∀ z, put v i z j = v j := fun z => by unfold put; rw [if_neg e]
      rw [e1, e1, e1]
      rcases Nat.lt_or_ge i j with h | h
      · rw [skip_put_lo v h, skip_put_lo v h, skip_put_lo v h, ih (skip j v) i (by omega)]
        grind
      · rw [skip_put_hi v (by omega), skip_put_hi v (by omega), skip_put_hi v (by omega), ih (skip j v) (i - 1) (by omega)]
        grind
theorem det_zero_vec {n : Nat} (v : Nat → Nat → Rat) {i : Nat} (hi : i < n) : det n (put v i (fun _ => 0)) = 0 := by
  have h := det_lin n v i hi 0 0 (fun _ => 0) (fun _ => 0)
  have e : (fun k : Nat => (0 : Rat) * (fun _ => (0 : Rat)) k + 0 * (fun _ => (0 : Rat)) k) = fun _ => 0 := by funext k; grind
  rw [e] at h
  grind
theorem det_sum {n : Nat} (v : Nat → Nat → Rat) {i : Nat} (hi : i < n) (a : Nat → Rat) (u : Nat → Nat → Rat) (m : Nat) : det n (put v i (fun k => sm (fun q => a q * u q k) m)) = sm (fun q => a q * det n (put v i (u q))) m := by
  induction m with
  | zero => exact det_zero_vec v hi
  | succ m ih =>
    rw [sm, ← ih]
    have h := det_lin n v i hi 1 (a m) (fun k => sm (fun q => a q * u q k) m) (u m)
    have e : (fun k => sm (fun q => a q * u q k) (m + 1)) = fun k => 1 * (fun k => sm (fun q => a q * u q k) m) k + a m * u m k := by funext k; rw [sm]; grind
    rw [e, h]; grind
theorem skip_adj (v : Nat → Nat → Rat) (i : Nat) (h : v i = v (i + 1)) : skip i v = skip (i + 1) v := by
  funext q
  unfold skip
  by_cases h1 : q < i
  · rw [if_pos h1, if_pos (by omega)]
  · by_cases e : q = i
    · subst e
      rw [if_neg (by omega), if_pos (by omega), h]
    · rw [if_neg h1, if_neg (by omega)]
theorem sm_two {f : Nat → Rat} {n i : Nat} (hi : i + 1 < n) (h : ∀ j, j < n → j ≠ i → j ≠ i + 1 → f j = 0) : sm f n = f i + f (i + 1) := by
  induction n with
  | zero => omega
  | succ n ih =>
    rw [sm]
    by_cases e : i + 1 = n
    · rw [sm_one (j := i) (by omega) (fun j hj hn => h j (by omega) hn (by omega)), e]
    · rw [ih (by omega) (fun j hj => h j (by omega)), h n (by omega) (by omega) (by omega)]
      grind
theorem det_adj (n : Nat) : ∀ (v : Nat → Nat → Rat) (i : Nat), i + 1 < n → v i = v (i + 1) → det n v = 0 := by
  induction n with
  | zero => intro v i hi; omega
  | succ n ih =>
    intro v i hi h
    simp only [det]
    rw [sm_two hi]
    · rw [skip_adj v i h, sg_succ, h]; grind
    · intro j hj h1 h2
      have hz : det n (skip j v) = 0 := by
        rcases Nat.lt_or_ge j i with h3 | h3
        · refine ih (skip j v) (i - 1) (by omega) ?_
          unfold skip
          rw [if_neg (by omega), if_neg (by omega), show i - 1 + 1 = i by omega, h]
        · refine ih (skip j v) i (by omega) ?_
          unfold skip
          rw [if_pos (by omega), if_pos (by omega), h]
      rw [hz]; grind
theorem put_put (v : Nat → Nat → Rat) {i j : Nat} (h : i ≠ j) (x y : Nat → Rat) : put (put v i x) j y = put (put v j y) i x := by
  funext q
  unfold put
  by_cases e : q = j
  · rw [if_pos e, if_neg (by omega), if_pos e]
  · rw [if_neg e]
    by_cases e' : q = i
    · rw [if_pos e', if_pos e']
    · rw [if_neg e', if_neg e', if_neg e]
theorem det_swap {n : Nat} (v : Nat → Nat → Rat) {i : Nat} (hi : i + 1 < n) (x y : Nat → Rat) : det n (put (put v i x) (i + 1) y) = - det n (put (put v i y) (i + 1) x) := by
  have hne : i ≠ i + 1 := by omega
  have h0 : ∀ z, det n (put (put v i z) (i + 1) z) = 0 := fun z => by
    refine det_adj n _ i hi ?_
    unfold put
    rw [if_neg hne, if_pos rfl, if_pos rfl]
  have hs : ∀ z, det n (put (put v i (fun k => 1 * x k + 1 * y k)) (i + 1) z) = 1 * det n (put (put v i x) (i + 1) z) + 1 * det n (put (put v i y) (i + 1) z) := fun z => by
    rw [put_put v hne, put_put v hne, put_put v hne, det_lin n _ i (by omega)]
  have h1 := h0 (fun k => 1 * x k + 1 * y k)
  rw [det_lin n _ (i + 1) hi, hs, hs, h0, h0] at h1
  grind
theorem det_eq (n : Nat) : ∀ (d : Nat) (v : Nat → Nat → Rat) (i : Nat), i + d + 1 < n → v i = v (i + d + 1) → det n v = 0 := by
  intro d
  induction d with
  | zero => intro v i hi h; exact det_adj n v i hi h
  | succ d ih =>
    intro v i hi h
    have e : put (put v (i + d + 1) (v (i + d + 1))) (i + d + 1 + 1) (v (i + d + 1 + 1)) = v := by rw [put_self, put_self]
    have h1 := det_swap v (i := i + d + 1) (by omega) (v (i + d + 1)) (v (i + d + 1 + 1))
    rw [e] at h1
    rw [h1, ih (put (put v (i + d + 1) (v (i + d + 1 + 1))) (i + d + 1 + 1) (v (i + d + 1))) i (by omega)]
    · grind
    · unfold put
      rw [if_neg (by omega), if_neg (by omega), if_neg (by omega), if_pos rfl, h]
      rfl
theorem det_eq' {n : Nat} (v : Nat → Nat → Rat) {i j : Nat} (hi : i < n) (hj : j < n) (hne : i ≠ j) (h : v i = v j) : det n v = 0 := by
  rcases Nat.lt_or_ge i j with h1 | h1
  · exact det_eq n (j - i - 1) v i (by omega) (by rw [show i + (j - i - 1) + 1 = j by omega]; exact h)
  · exact det_eq n (i - j - 1) v j (by omega) (by rw [show j + (i - j - 1) + 1 = i by omega]; exact h.symm)
/-- Cramer: a vector that is a sum of the basis' vectors. -/
theorem cramer {n : Nat} (B : Nat → Nat → Rat) (t : Nat → Rat) {i : Nat} (hi : i < n) : det n (put B i (fun k => sm (fun q => t q * B q k) n)) = t i * det n B := by
  rw [det_sum B hi, sm_one hi]
  · rw [put_self]
  · intro q hq hne
    rw [det_eq' (put B i (B q)) hi hq (fun e => hne e.symm)]
    · grind
    · unfold put
      rw [if_pos rfl, if_neg hne]

/-! Integers with a bound. -/
def IntB (K : Nat) (q : Rat) : Prop := ∃ z : Int, q = (z : Rat) ∧ z.natAbs ≤ K
theorem IntB.add {K L : Nat} {a b : Rat} (ha : IntB K a) (hb : IntB L b) : IntB (K + L) (a + b) := by
  obtain ⟨x, rfl, hx⟩ := ha
  obtain ⟨y, rfl, hy⟩ := hb
  exact ⟨x + y, by grind, by omega⟩
theorem IntB.mul {K L : Nat} {a b : Rat} (ha : IntB K a) (hb : IntB L b) : IntB (K * L) (a * b) := by
  obtain ⟨x, rfl, hx⟩ := ha
  obtain ⟨y, rfl, hy⟩ := hb
  refine ⟨x * y, by grind, ?_⟩
  rw [Int.natAbs_mul]
  exact Nat.mul_le_mul hx hy
theorem IntB.mono {K L : Nat} {a : Rat} (ha : IntB K a) (h : K ≤ L) : IntB L a := by
  obtain ⟨x, rfl, hx⟩ := ha
  exact ⟨x, rfl, by omega⟩
theorem IntB.sub {K L : Nat} {a b : Rat} (ha : IntB K a) (hb : IntB L b) : IntB (K + L) (a - b) := by
  obtain ⟨x, rfl, hx⟩ := ha
  obtain ⟨y, rfl, hy⟩ := hb
  exact ⟨x - y, by grind, by omega⟩
theorem IntB.sgn {K : Nat} {a : Rat} (j : Nat) (ha : IntB K a) : IntB K (sg j * a) := by
  obtain ⟨x, rfl, hx⟩ := ha
  unfold sg
  by_cases h : j % 2 = 0
  · rw [if_pos h]; exact ⟨x, by grind, hx⟩
  · rw [if_neg h]; exact ⟨-x, by grind, by omega⟩
theorem IntB.sum {K n : Nat} {f : Nat → Rat} (h : ∀ i, i < n → IntB K (f i)) : IntB (n * K) (sm f n) := by
  induction n with
  | zero => exact ⟨0, rfl, by simp⟩
  | succ n ih =>
    rw [sm, Nat.succ_mul]
    exact (ih fun i hi => h i (by omega)).add (h n (by omega))
def dB (K : Nat) : Nat → Nat
  | 0 => 1
  | n + 1 => (n + 1) * (K * dB K n)
theorem det_int {K : Nat} (n : Nat) : ∀ (v : Nat → Nat → Rat), (∀ i k, i < n → k < n → IntB K (v i k)) → IntB (dB K n) (det n v) := by
  induction n with
  | zero => intro v h; exact ⟨1, by simp [det], by simp [dB]⟩
  | succ n ih =>
    intro v h
    refine IntB.sum fun j hj => IntB.sgn j (IntB.mul (h j n hj (by omega)) (ih (skip j v) fun i k hi hk => ?_))
    unfold skip
    by_cases e : i < j
    · rw [if_pos e]; exact h i k (by omega) (by omega)
    · rw [if_neg e]; exact h (i + 1) k (by omega) (by omega)
/-- The bounds of a quotient of integers in lowest terms. -/
theorem quot_size {q N D : Rat} {K L : Nat} (h : q * D = N) (hD : D ≠ 0) (hN : IntB K N) (hDi : IntB L D) : q.num.natAbs ≤ K ∧ q.den ≤ L := by
  obtain ⟨n, rfl, hn⟩ := hN
  obtain ⟨d, rfl, hd⟩ := hDi
  have hd0 : d ≠ 0 := fun e => hD (by rw [e]; rfl)
  have e : q = Rat.divInt n d := by
    rw [Rat.divInt_eq_div, ← h]
    grind
  have hnum : q.num.natAbs ≤ n.natAbs := by
    rw [e, Rat.num_divInt, Int.natAbs_ediv_of_dvd]
    · rw [Int.natAbs_mul, Int.natAbs_sign_of_ne_zero hd0, Nat.one_mul]
      exact Nat.div_le_self _ _
    · exact Int.dvd_mul_of_dvd_right (Int.gcd_dvd_right ..)
  have hden : q.den ≤ d.natAbs := by
    rw [e, Rat.den_divInt, if_neg hd0]
    exact Nat.div_le_self _ _
  exact ⟨by omega, by omega⟩

/-! The basis' determinant. -/
def Dt (m : Nat) (A : Nat → Nat → Rat) (base : Nat → Nat) : Rat := det m (fun q i => A i (base q))
theorem det_congr (n : Nat) : ∀ (v v' : Nat → Nat → Rat), (∀ i k, i < n → k < n → v i k = v' i k) → det n v = det n v' := by
  induction n with
  | zero => intro v v' h; rfl
  | succ n ih =>
    intro v v' h
    simp only [det]
    refine sm_congr fun j hj => ?_
    rw [h j n hj (by omega), ih (skip j v) (skip j v') fun i k hi hk => ?_]
    unfold skip
    by_cases e : i < j
    · rw [if_pos e, if_pos e]; exact h i k (by omega) (by omega)
    · rw [if_neg e, if_neg e]; exact h (i + 1) k (by omega) (by omega)
/-- Each entry of a tableau is a quotient of two determinants. -/
theorem entry_det {m : Nat} {A : Nat → Nat → Rat} {s : Tab} (h : ∀ i, i < m → s.Sp m (A i)) {i : Nat} (hi : i < m) (k : Nat) : s.T i k * Dt m A s.base = det m (put (fun q j => A j (s.base q)) i (fun j => A j k)) := by
  unfold Dt
  rw [← cramer (fun q j => A j (s.base q)) (fun q => s.T q k) hi]
  refine det_congr m _ _ fun a b ha hb => ?_
  unfold put
  by_cases e : a = i
  · rw [if_pos e, if_pos e]
    refine (sm_congr fun q hq => ?_).trans (h b hb k).symm
    grind
  · rw [if_neg e, if_neg e]
theorem Dt_upd {m : Nat} {A : Nat → Nat → Rat} {s : Tab} (h : ∀ i, i < m → s.Sp m (A i)) {r : Nat} (hr : r < m) (c : Nat) : Dt m A (upd s.base r c) = s.T r c * Dt m A s.base := by
  rw [entry_det h hr c]
  unfold Dt
  congr 1
  funext q j
  unfold put upd
  by_cases e : q = r
  · rw [if_pos e, if_pos e]
  · rw [if_neg e, if_neg e]
theorem entry_size {m K : Nat} {A : Nat → Nat → Rat} {s : Tab} (h : ∀ i, i < m → s.Sp m (A i)) (hD : Dt m A s.base ≠ 0) (hA : ∀ i k, i < m → IntB K (A i k)) {i : Nat} (hi : i < m) (k : Nat) : (s.T i k).num.natAbs ≤ dB K m ∧ (s.T i k).den ≤ dB K m := by
  refine quot_size (entry_det h hi k) hD (det_int m _ fun a b ha hb => ?_) (det_int m _ fun a b ha hb => hA b _ hb)
  unfold put
  by_cases e : a = i
  · rw [if_pos e]; exact hA b k hb
  · rw [if_neg e]; exact hA b _ hb
/-- A cost less the basis' costs times a column, summed up to a row. -/
theorem price_size {m K : Nat} {A : Nat → Nat → Rat} {s : Tab} (h : ∀ i, i < m → s.Sp m (A i)) (hD : Dt m A s.base ≠ 0) (hA : ∀ i k, i < m → IntB K (A i k)) {c : Nat → Rat} (hc : ∀ k, IntB K (c k)) {n : Nat} (hn : n ≤ m) (k : Nat) : (c k - sm (fun i => c (s.base i) * s.T i k) n).num.natAbs ≤ K * dB K m + n * (K * dB K m) ∧ (c k - sm (fun i => c (s.base i) * s.T i k) n).den ≤ dB K m := by
  have hDi : IntB (dB K m) (Dt m A s.base) := det_int m _ fun a b ha hb => hA b _ hb
  refine quot_size (N := c k * Dt m A s.base - sm (fun i => c (s.base i) * (s.T i k * Dt m A s.base)) n) (D := Dt m A s.base) ?_ hD ?_ hDi
  · have e : sm (fun i => c (s.base i) * (s.T i k * Dt m A s.base)) n = sm (fun i => c (s.base i) * s.T i k) n * Dt m A s.base := by
      rw [← sm_mulr]
      exact sm_congr fun i hi => by grind
    rw [e]; grind
  · refine IntB.sub (IntB.mul (hc k) hDi) (IntB.sum fun i hi => IntB.mul (hc _) ?_)
    rw [entry_det h (by omega) k]
    refine det_int m _ fun a b ha hb => ?_
    unfold put
    by_cases e : a = i
    · rw [if_pos e]; exact hA b k hb
    · rw [if_neg e]; exact hA b _ hb
end Go.Proofs.YthcmopgdjibojaaGreatDoor.smx

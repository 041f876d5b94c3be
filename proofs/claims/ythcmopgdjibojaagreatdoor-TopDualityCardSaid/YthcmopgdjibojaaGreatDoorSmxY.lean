import Derived.Test.YthcmopgdjibojaaGreatDoorSmxX
/- Plain: how long a run under Bland's rule can be, and what stays through all pivots. -/
namespace Go.Proofs.YthcmopgdjibojaaGreatDoor.smx
set_option linter.unusedVariables false
set_option linter.unusedSimpArgs false

/-! How long a chain can be. -/
theorem pigeon (K : Nat) : ∀ (j : Nat) (f : Nat → Nat), (∀ a b, a < b → b ≤ j → f a ≠ f b) → (∀ i, i ≤ j → f i < K) → j < K := by
  induction K with
  | zero => intro j f _ h; exact absurd (h 0 (Nat.zero_le _)) (by omega)
  | succ K ih =>
    intro j f hi hb
    by_cases h0 : j = 0
    · omega
    · by_cases hx : ∃ i, i ≤ j ∧ f i = K
      · obtain ⟨i, hij, hiK⟩ := hx
        have := ih (j - 1) (fun q => if q < i then f q else f (q + 1)) (fun a b hab hbj => by
          by_cases ha : a < i
          · by_cases hb' : b < i
            · simp only [if_pos ha, if_pos hb']; exact hi a b hab (by omega)
            · simp only [if_pos ha, if_neg hb']; exact hi a (b + 1) (by omega) (by omega)
          · simp only [if_neg ha, if_neg (show ¬ b < i by omega)]; exact hi (a + 1) (b + 1) (by omega) (by omega)) (fun q hq => by
          by_cases ha : q < i
          · simp only [if_pos ha]
            have h1 := hb q (by omega)
            have h2 := hi q i (by omega) hij
            omega
          · simp only [if_neg ha]
            have h1 := hb (q + 1) (by omega)
            have h2 := hi i (q + 1) (by omega) (by omega)
            omega)
        omega
      · have := ih j f hi (fun q hq => by
          have h1 := hb q hq
          have h2 : f q ≠ K := fun e => hx ⟨q, hq, e⟩
          omega)
        omega
def code (W : Nat) (b : Nat → Nat) : Nat → Nat
  | 0 => 0
  | n + 1 => W * code W b n + b n
theorem code_lt {W : Nat} {b : Nat → Nat} {n : Nat} (h : ∀ i, i < n → b i < W) : code W b n < W ^ n := by
  induction n with
  | zero => simp [code]
  | succ n ih =>
    have h1 := ih (fun i hi => h i (by omega))
    have h2 := h n (by omega)
    rw [code, Nat.pow_succ, Nat.mul_comm (W ^ n) W]
    have : W * (code W b n + 1) ≤ W * W ^ n := Nat.mul_le_mul_left _ h1
    rw [Nat.mul_add] at this
    omega
theorem code_inj {W : Nat} {b b' : Nat → Nat} {n : Nat} (h : ∀ i, i < n → b i < W) (h' : ∀ i, i < n → b' i < W) (e : code W b n = code W b' n) : ∀ i, i < n → b i = b' i := by
  induction n with
  | zero => intro i hi; omega
  | succ n ih =>
    have h2 := h n (by omega)
    have h3 := h' n (by omega)
    rw [code, code] at e
    have e1 : code W b n = code W b' n := by
      have h4 : (W * code W b n + b n) / W = code W b n := by
        rw [Nat.mul_add_div (by omega), Nat.div_eq_of_lt h2, Nat.add_zero]
      have h5 : (W * code W b' n + b' n) / W = code W b' n := by
        rw [Nat.mul_add_div (by omega), Nat.div_eq_of_lt h3, Nat.add_zero]
      rw [← h4, e, h5]
    intro i hi
    by_cases ei : i = n
    · subst ei
      rw [e1] at e
      omega
    · exact ih (fun i hi => h i (by omega)) (fun i hi => h' i (by omega)) e1 i (by omega)
/-- A run of the method under Bland's rule: j steps from S 0 on. -/
def Run (m N L W : Nat) (s : Tab) (j : Nat) : Prop :=
  ∃ S st, Chain m S st j ∧ (∀ i, i < j → Bland m N L (S i) (st i).r (st i).c) ∧ (S 0).Feas m L ∧ (∀ i, i ≤ j → ∀ q, q < m → (S i).base q < W) ∧ S j = s
theorem Run.start {m N L W : Nat} {s : Tab} (hu : s.Unit m) (hp : s.Priced m) (hf : s.Feas m L) (hb : ∀ q, q < m → s.base q < W) : Run m N L W s 0 :=
  ⟨fun _ => s, fun _ => ⟨0, 0⟩, ⟨hu, hp, fun j hj => by omega⟩, fun i hi => by omega, hf, fun i _ q hq => hb q hq, rfl⟩
theorem Run.step {m N L W : Nat} {s : Tab} {j : Nat} (h : Run m N L W s j) {r c : Nat} (hb : Bland m N L s r c) (hN : N ≤ W) : Run m N L W (s.pivot r c) (j + 1) := by
  obtain ⟨S, st, hc, hbl, hf, hw, hs⟩ := h
  have hne : s.T r c ≠ 0 := by have := hb.2.2.1; grind
  refine ⟨fun i => if i ≤ j then S i else s.pivot r c, fun i => if i < j then st i else ⟨r, c⟩, ⟨?_, ?_, ?_⟩, ?_, ?_, ?_, ?_⟩
  · simp only [Nat.zero_le, if_true]; exact hc.1
  · simp only [Nat.zero_le, if_true]; exact hc.2.1
  · intro i hi
    by_cases e : i = j
    · subst e
      simp only [Nat.le_refl, if_true, Nat.lt_irrefl, if_false]
      rw [if_neg (by omega), hs]
      exact ⟨hb.2.1, hne, rfl⟩
    · have h1 := hc.2.2 i (by omega)
      simp only [if_pos (show i ≤ j by omega), if_pos (show i < j by omega), if_pos (show i + 1 ≤ j by omega)]
      exact h1
  · intro i hi
    by_cases e : i = j
    · subst e
      simp only [Nat.le_refl, if_true, Nat.lt_irrefl, if_false]
      rw [hs]; exact hb
    · simp only [if_pos (show i ≤ j by omega), if_pos (show i < j by omega)]
      exact hbl i (by omega)
  · simp only [Nat.zero_le, if_true]; exact hf
  · intro i hi q hq
    by_cases e : i ≤ j
    · simp only [if_pos e]; exact hw i e q hq
    · simp only [if_neg e, Tab.pivot, upd]
      by_cases e' : q = r
      · rw [if_pos e']; have := hb.1.1; omega
      · rw [if_neg e', ← hs]; exact hw j (Nat.le_refl _) q hq
  · show (if j + 1 ≤ j then S (j + 1) else s.pivot r c) = s.pivot r c
    rw [if_neg (by omega)]
theorem Run.short {m N L W : Nat} {s : Tab} {j : Nat} (h : Run m N L W s j) : j < W ^ m := by
  obtain ⟨S, st, hc, hbl, hf, hw, hs⟩ := h
  refine pigeon (W ^ m) j (fun i => code W (S i).base m) ?_ (fun i hi => code_lt (hw i hi))
  intro a b hab hbj e
  have h1 := code_inj (hw a (by omega)) (hw b hbj) e
  refine no_repeat (m := m) (N := N) (L := L) (S := fun i => S (a + i)) (st := fun i => st (a + i)) (k := b - a) ⟨hc.unit (by omega), hc.priced (by omega), fun i hi => hc.2.2 (a + i) (by omega)⟩ (by omega) (fun i hi => hbl (a + i) (by omega)) ?_ ?_
  · exact chain_feas hc hbl hf (by omega)
  · intro q hq
    show (S (a + 0)).base q = (S (a + (b - a))).base q
    rw [show a + (b - a) = b by omega]
    exact h1 q hq
theorem Run.unit {m N L W : Nat} {s : Tab} {j : Nat} (h : Run m N L W s j) : s.Unit m := by
  obtain ⟨S, st, hc, hbl, hf, hw, hs⟩ := h
  rw [← hs]; exact hc.unit (Nat.le_refl _)
theorem Run.priced {m N L W : Nat} {s : Tab} {j : Nat} (h : Run m N L W s j) : s.Priced m := by
  obtain ⟨S, st, hc, hbl, hf, hw, hs⟩ := h
  rw [← hs]; exact hc.priced (Nat.le_refl _)
theorem Run.basis {m N L W : Nat} {s : Tab} {j : Nat} (h : Run m N L W s j) {q : Nat} (hq : q < m) : s.base q < W := by
  obtain ⟨S, st, hc, hbl, hf, hw, hs⟩ := h
  rw [← hs]; exact hw j (Nat.le_refl _) q hq

/-! What stays through all pivots. -/
structure Inv (m : Nat) (A : Nat → Nat → Rat) (u : Nat → Nat) (s : Tab) : Prop where
  unit : s.Unit m
  sp : ∀ v, (Tab.mk A (fun _ => 0) u).Sp m v ↔ s.Sp m v
  det : Dt m A s.base ≠ 0
theorem det_id_ne (n : Nat) : ∀ v : Nat → Nat → Rat, (∀ q i, q < n → i < n → v q i = if i = q then 1 else 0) → det n v ≠ 0 := by
  induction n with
  | zero => intro v h; simp [det]
  | succ n ih =>
    intro v h
    simp only [det]
    rw [sm_one (j := n) (by omega)]
    · rw [h n n (by omega) (by omega), if_pos rfl]
      have h1 := ih (skip n v) (fun q i hq hi => by
        unfold skip
        rw [if_pos hq]; exact h q i (by omega) (by omega))
      have h2 : sg n ≠ 0 := by unfold sg; by_cases e : n % 2 = 0 <;> simp only [e, if_true, if_false] <;> grind
      intro e
      rcases Rat.mul_eq_zero.1 e with e | e
      · exact h2 e
      · exact h1 (by grind)
    · intro j hj hne
      rw [h j n hj (by omega), if_neg (fun e => hne e.symm)]; grind
theorem Inv.start {m : Nat} {A : Nat → Nat → Rat} {u : Nat → Nat} (h : ∀ i j, i < m → j < m → A i (u j) = if i = j then 1 else 0) (P : Nat → Rat) : Inv m A u ⟨A, P, u⟩ :=
  ⟨h, fun v => Iff.rfl, det_id_ne m _ fun q i hq hi => h i q hi hq⟩
theorem Inv.rows {m : Nat} {A : Nat → Nat → Rat} {u : Nat → Nat} {s : Tab} (h : Inv m A u s) (hA : ∀ i j, i < m → j < m → A i (u j) = if i = j then 1 else 0) {i : Nat} (hi : i < m) : s.Sp m (A i) :=
  (h.sp _).1 (Tab.Sp.row (s := Tab.mk A (fun _ => 0) u) hA hi)
theorem Inv.pivot {m : Nat} {A : Nat → Nat → Rat} {u : Nat → Nat} {s : Tab} (h : Inv m A u s) (hA : ∀ i j, i < m → j < m → A i (u j) = if i = j then 1 else 0) {r c : Nat} (hr : r < m) (hc : s.T r c ≠ 0) : Inv m A u (s.pivot r c) := by
  refine ⟨pivot_unit h.unit hr hc, fun v => (h.sp v).trans (sp_pivot h.unit hr hc v), ?_⟩
  show Dt m A (upd s.base r c) ≠ 0
  rw [Dt_upd (fun i hi => h.rows hA hi) hr]
  intro e
  rcases Rat.mul_eq_zero.1 e with e | e
  · exact hc e
  · exact h.det e
theorem Inv.price {m : Nat} {A : Nat → Nat → Rat} {u : Nat → Nat} {s : Tab} (h : Inv m A u s) (P : Nat → Rat) : Inv m A u ⟨s.T, P, s.base⟩ := ⟨h.unit, h.sp, h.det⟩
/-- The prices for costs. -/
structure PInv (m : Nat) (A : Nat → Nat → Rat) (u : Nat → Nat) (c : Nat → Rat) (s : Tab) : Prop where
  priced : s.Priced m
  sp : (Tab.mk A (fun _ => 0) u).Sp m (fun k => s.P k - c k)
theorem PInv.pivot {m : Nat} {A : Nat → Nat → Rat} {u : Nat → Nat} {c : Nat → Rat} {s : Tab} (h : Inv m A u s) (hp : PInv m A u c s) {r k : Nat} (hr : r < m) (hc : s.T r k ≠ 0) : PInv m A u c (s.pivot r k) := by
  refine ⟨pivot_priced h.unit hp.priced hr hc, ?_⟩
  have h1 := (h.sp _).2 (sp_price h.unit (c := k) hr)
  exact (hp.sp.lin 1 1 h1).congr fun q => by grind
def chargeP (m : Nat) (c : Nat → Rat) (s : Tab) : Nat → Rat := fun k => c k - sm (fun i => c (s.base i) * s.T i k) m
theorem PInv.charge {m : Nat} {A : Nat → Nat → Rat} {u : Nat → Nat} {s : Tab} (h : Inv m A u s) (c : Nat → Rat) : PInv m A u c ⟨s.T, chargeP m c s, s.base⟩ := by
  constructor
  · intro j hj
    show c (s.base j) - sm (fun i => c (s.base i) * s.T i (s.base j)) m = 0
    rw [sm_one hj]
    · rw [h.unit j j hj hj, if_pos rfl]; grind
    · intro i hi hne
      rw [h.unit i j hi hj, if_neg hne]; grind
  · refine (h.sp _).2 ?_
    refine (Tab.Sp.comb (s := s) (fun i => - c (s.base i)) (V := s.T) (n := m) fun i hi => Tab.Sp.row h.unit hi).congr fun k => ?_
    show c k - sm (fun i => c (s.base i) * s.T i k) m - c k = _
    have e : sm (fun i => - c (s.base i) * s.T i k) m = sm (fun i => (-1) * (c (s.base i) * s.T i k)) m := sm_congr fun i hi => by grind
    rw [e, sm_mul]; grind
/-- The prices by the basis. -/
theorem PInv.by_base {m : Nat} {A : Nat → Nat → Rat} {u : Nat → Nat} {c : Nat → Rat} {s : Tab} (h : Inv m A u s) (hp : PInv m A u c s) (k : Nat) : s.P k = chargeP m c s k := by
  have h1 := ((h.sp _).1 hp.sp) k
  have e : sm (fun q => (s.P (s.base q) - c (s.base q)) * s.T q k) m = sm (fun q => (-1) * (c (s.base q) * s.T q k)) m := sm_congr fun q hq => by
    rw [hp.priced q hq]; grind
  have h2 : s.P k - c k = sm (fun q => (s.P (s.base q) - c (s.base q)) * s.T q k) m := h1
  rw [e, sm_mul] at h2
  unfold chargeP
  grind
/-- The prices by the rows of the program: what the duals are read from. -/
theorem PInv.by_rows {m : Nat} {A : Nat → Nat → Rat} {u : Nat → Nat} {c : Nat → Rat} {s : Tab} (hp : PInv m A u c s) (k : Nat) : s.P k = c k - sm (fun q => (c (u q) - s.P (u q)) * A q k) m := by
  have h1 : s.P k - c k = sm (fun q => (s.P (u q) - c (u q)) * A q k) m := hp.sp k
  have e : sm (fun q => (s.P (u q) - c (u q)) * A q k) m = sm (fun q => (-1) * ((c (u q) - s.P (u q)) * A q k)) m := sm_congr fun q hq => by grind
  rw [e, sm_mul] at h1
  grind
end Go.Proofs.YthcmopgdjibojaaGreatDoor.smx

/- Plain: the tableau of a linear program, its two phases, duals, values and directions. -/
namespace Go.Proofs.YthcmopgdjibojaaGreatDoor.smx
set_option linter.unusedVariables false
set_option linter.unusedSimpArgs false

/-! The linear program, and the tableau that is built of it. -/
structure Lp where
  n : Nat
  m : Nat
  cost : Nat → Int
  coef : Nat → Nat → Int
  kind : Nat → Int
  right : Nat → Int
namespace Lp
variable (p : Lp)
/-- How many slacks the rows before row i have. -/
def sl : Nat → Nat
  | 0 => 0
  | i + 1 => sl i + (if p.kind i = 2 then 0 else 1)
def N : Nat := p.n + p.sl p.m
def L : Nat := p.N + p.m
def sgn (i : Nat) : Int := if p.right i < 0 then -1 else 1
def tau (i : Nat) : Int := if p.kind i = 3 then -1 else 1
def isSlack (i k : Nat) : Bool := decide (p.kind i ≠ 2) && decide (k = p.n + p.sl i)
def A (i k : Nat) : Rat :=
  if k < p.n then ((p.sgn i * p.coef i k : Int) : Rat)
  else if k < p.N then (if p.isSlack i k then ((p.sgn i * p.tau i : Int) : Rat) else 0)
  else if k < p.L then (if k = p.N + i then 1 else 0)
  else if k = p.L then ((p.sgn i * p.right i : Int) : Rat) else 0
def u (i : Nat) : Nat := p.N + i
theorem sl_mono {i j : Nat} (h : i ≤ j) : p.sl i ≤ p.sl j := by
  induction j with
  | zero => rw [show i = 0 by omega]; exact Nat.le_refl _
  | succ j ih =>
    by_cases e : i = j + 1
    · rw [e]; exact Nat.le_refl _
    · have := ih (by omega)
      rw [sl]; omega
theorem sl_lt {i : Nat} (hi : i < p.m) (hk : p.kind i ≠ 2) : p.n + p.sl i < p.N := by
  have := p.sl_mono (show i + 1 ≤ p.m by omega)
  rw [sl, if_neg hk] at this
  unfold N; omega
theorem sl_inj {i j : Nat} (hi : p.kind i ≠ 2) (hj : p.kind j ≠ 2) (h : p.sl i = p.sl j) : i = j := by
  rcases Nat.lt_trichotomy i j with h1 | h1 | h1
  · have := p.sl_mono (show i + 1 ≤ j by omega)
    rw [sl, if_neg hi] at this; omega
  · exact h1
  · have := p.sl_mono (show j + 1 ≤ i by omega)
    rw [sl, if_neg hj] at this; omega
theorem sl_le (i : Nat) : p.sl i ≤ i := by
  induction i with
  | zero => exact Nat.le_refl _
  | succ i ih => rw [sl]; by_cases h : p.kind i = 2 <;> simp only [h, if_true, if_false] <;> omega
theorem A_var {i k : Nat} (h : k < p.n) : p.A i k = ((p.sgn i * p.coef i k : Int) : Rat) := by unfold A; rw [if_pos h]
theorem A_slack {i k : Nat} (h1 : p.n ≤ k) (h2 : k < p.N) : p.A i k = if p.isSlack i k then ((p.sgn i * p.tau i : Int) : Rat) else 0 := by
  unfold A; rw [if_neg (by omega), if_pos h2]
theorem n_le : p.n ≤ p.N := by unfold N; omega
theorem A_unit {i j : Nat} (hj : j < p.m) : p.A i (p.u j) = if i = j then 1 else 0 := by
  have := p.n_le
  unfold A u
  rw [if_neg (by omega), if_neg (by omega), if_pos (by unfold L; omega)]
  by_cases e : i = j
  · rw [if_pos (by omega), if_pos e]
  · rw [if_neg (by omega), if_neg e]
theorem A_right (i : Nat) : p.A i p.L = ((p.sgn i * p.right i : Int) : Rat) := by
  have := p.n_le
  have h : p.N ≤ p.L := by unfold L; omega
  unfold A
  rw [if_neg (by omega), if_neg (by omega), if_neg (by omega), if_pos rfl]
theorem sgn_cases (i : Nat) : p.sgn i = 1 ∨ p.sgn i = -1 := by unfold sgn; by_cases h : p.right i < 0 <;> simp [h]
theorem sgn_sq (i : Nat) : ((p.sgn i : Int) : Rat) * ((p.sgn i : Int) : Rat) = 1 := by
  rcases p.sgn_cases i with h | h <;> rw [h] <;> grind
theorem right_nonneg (i : Nat) : 0 ≤ p.A i p.L := by
  rw [A_right]
  have h : 0 ≤ p.sgn i * p.right i := by
    unfold sgn
    by_cases h : p.right i < 0
    · rw [if_pos h]; omega
    · rw [if_neg h]; omega
  exact Rat.intCast_nonneg.2 h
/-- The numbers of the program in bounds. -/
def In (K : Nat) : Prop := 1 ≤ K ∧ (∀ i k, i < p.m → k < p.n → (p.coef i k).natAbs ≤ K) ∧ (∀ i, i < p.m → (p.right i).natAbs ≤ K) ∧ (∀ k, k < p.n → (p.cost k).natAbs ≤ K)
theorem sgn_abs (i : Nat) (z : Int) : (p.sgn i * z).natAbs = z.natAbs := by
  rcases p.sgn_cases i with h | h <;> rw [h] <;> omega
theorem A_int {K : Nat} (h : p.In K) {i : Nat} (hi : i < p.m) (k : Nat) : IntB K (p.A i k) := by
  obtain ⟨h1, h2, h3, _⟩ := h
  have hz : IntB K 0 := ⟨0, rfl, by simp⟩
  have ho : IntB K 1 := ⟨1, rfl, by simpa using h1⟩
  unfold A
  by_cases e1 : k < p.n
  · rw [if_pos e1]; exact ⟨_, rfl, by rw [sgn_abs]; exact h2 i k hi e1⟩
  · rw [if_neg e1]
    by_cases e2 : k < p.N
    · rw [if_pos e2]
      by_cases e3 : p.isSlack i k
      · rw [if_pos e3]; refine ⟨_, rfl, ?_⟩
        rw [sgn_abs]; unfold tau
        by_cases e4 : p.kind i = 3
        · rw [if_pos e4]; omega
        · rw [if_neg e4]; omega
      · rw [if_neg e3]; exact hz
    · rw [if_neg e2]
      by_cases e3 : k < p.L
      · rw [if_pos e3]
        by_cases e4 : k = p.N + i
        · rw [if_pos e4]; exact ho
        · rw [if_neg e4]; exact hz
      · rw [if_neg e3]
        by_cases e4 : k = p.L
        · rw [if_pos e4]; exact ⟨_, rfl, by rw [sgn_abs]; exact h3 i hi⟩
        · rw [if_neg e4]; exact hz
/-- The costs of the first and of the second phase. -/
def c1 (k : Nat) : Rat := if p.N ≤ k ∧ k < p.L then 1 else 0
def c2 (k : Nat) : Rat := if k < p.n then ((p.cost k : Int) : Rat) else 0
theorem c1_int {K : Nat} (h : p.In K) (k : Nat) : IntB K (p.c1 k) := by
  unfold c1
  by_cases e : p.N ≤ k ∧ k < p.L
  · rw [if_pos e]; exact ⟨1, rfl, h.1⟩
  · rw [if_neg e]; exact ⟨0, rfl, by simp⟩
theorem c2_int {K : Nat} (h : p.In K) (k : Nat) : IntB K (p.c2 k) := by
  unfold c2
  by_cases e : k < p.n
  · rw [if_pos e]; exact ⟨_, rfl, h.2.2.2 k e⟩
  · rw [if_neg e]; exact ⟨0, rfl, by simp⟩

/-- A tableau of the program. -/
structure TabOk (s : Tab) : Prop where
  inv : Inv p.m p.A p.u s
  low : ∀ q, q < p.m → s.base q < p.L
theorem TabOk.start (P : Nat → Rat) : p.TabOk ⟨p.A, P, p.u⟩ :=
  ⟨Inv.start (fun i j _ hj => p.A_unit hj) P, fun q hq => by show p.N + q < p.L; unfold L; omega⟩
variable {p}
theorem TabOk.rows {s : Tab} (h : p.TabOk s) {i : Nat} (hi : i < p.m) : s.Sp p.m (p.A i) := h.inv.rows (fun i j _ hj => p.A_unit hj) hi
theorem TabOk.pivot {s : Tab} (h : p.TabOk s) {r c : Nat} (hr : r < p.m) (hc : s.T r c ≠ 0) (hcN : c < p.N) : p.TabOk (s.pivot r c) := by
  refine ⟨h.inv.pivot (fun i j _ hj => p.A_unit hj) hr hc, fun q hq => ?_⟩
  show upd s.base r c q < p.L
  unfold upd
  by_cases e : q = r
  · rw [if_pos e]; unfold L; omega
  · rw [if_neg e]; exact h.low q hq
theorem TabOk.price {s : Tab} (h : p.TabOk s) (P : Nat → Rat) : p.TabOk ⟨s.T, P, s.base⟩ := ⟨h.inv.price P, h.low⟩
theorem TabOk.size {s : Tab} (h : p.TabOk s) {K : Nat} (hK : p.In K) {i : Nat} (hi : i < p.m) (k : Nat) : (s.T i k).num.natAbs ≤ dB K p.m ∧ (s.T i k).den ≤ dB K p.m :=
  entry_size (fun i hi => h.rows hi) h.inv.det (fun i k hi => p.A_int hK hi k) hi k
theorem TabOk.psize {s : Tab} (h : p.TabOk s) {K : Nat} (hK : p.In K) {c : Nat → Rat} (hc : ∀ k, IntB K (c k)) {n : Nat} (hn : n ≤ p.m) (k : Nat) : (c k - sm (fun i => c (s.base i) * s.T i k) n).num.natAbs ≤ K * dB K p.m + n * (K * dB K p.m) ∧ (c k - sm (fun i => c (s.base i) * s.T i k) n).den ≤ dB K p.m :=
  price_size (fun i hi => h.rows hi) h.inv.det (fun i k hi => p.A_int hK hi k) hc hn k

/-! The first phase. -/
theorem sum_c1_nonneg {s : Tab} (f : Nat → Rat) (hf : ∀ q, q < p.m → 0 ≤ f q) : 0 ≤ sm (fun q => p.c1 (s.base q) * f q) p.m := by
  refine sm_nonneg fun q hq => ?_
  have h1 := hf q hq
  unfold c1
  by_cases e : p.N ≤ s.base q ∧ s.base q < p.L
  · rw [if_pos e]; grind
  · rw [if_neg e]; grind
/-- In the first phase some row can always leave. -/
theorem phase1_leaves {s : Tab} (h : p.TabOk s) (hp : PInv p.m p.A p.u p.c1 s) {c : Nat} (hc : c < p.N) (hneg : s.P c < 0) : ∃ i, i < p.m ∧ 0 < s.T i c := by
  refine Classical.byContradiction fun hno => ?_
  have h1 := hp.by_base h.inv c
  unfold chargeP at h1
  have h2 : p.c1 c = 0 := by unfold c1; rw [if_neg (by omega)]
  have h3 := sum_c1_nonneg (p := p) (s := s) (fun q => - s.T q c) (fun q hq => by
    have : ¬ 0 < s.T q c := fun h => hno ⟨q, hq, h⟩
    grind)
  have e : sm (fun q => p.c1 (s.base q) * - s.T q c) p.m = sm (fun q => (-1) * (p.c1 (s.base q) * s.T q c)) p.m := sm_congr fun q hq => by grind
  rw [e, sm_mul] at h3
  grind
theorem phase1_value {s : Tab} (h : p.TabOk s) (hp : PInv p.m p.A p.u p.c1 s) (hf : s.Feas p.m p.L) : s.P p.L ≤ 0 := by
  have h1 := hp.by_base h.inv p.L
  unfold chargeP at h1
  have h2 : p.c1 p.L = 0 := by unfold c1; rw [if_neg (by omega)]
  have h3 := sum_c1_nonneg (p := p) (s := s) (fun q => s.T q p.L) hf
  grind
/-- Identity columns that are basic are 0. -/
def Zero (p : Lp) (s : Tab) : Prop := ∀ q, q < p.m → p.N ≤ s.base q → s.T q p.L = 0
theorem phase1_zero {s : Tab} (h : p.TabOk s) (hp : PInv p.m p.A p.u p.c1 s) (hf : s.Feas p.m p.L) (h0 : s.P p.L = 0) : p.Zero s := by
  have h1 := hp.by_base h.inv p.L
  unfold chargeP at h1
  have h2 : p.c1 p.L = 0 := by unfold c1; rw [if_neg (by omega)]
  have h3 : sm (fun q => p.c1 (s.base q) * s.T q p.L) p.m = 0 := by grind
  intro q hq hN
  have h4 := sm_zero_of (f := fun q => p.c1 (s.base q) * s.T q p.L) (fun i hi => by
    have := hf i hi
    show 0 ≤ p.c1 (s.base i) * s.T i p.L
    unfold c1
    by_cases e : p.N ≤ s.base i ∧ s.base i < p.L
    · rw [if_pos e]; grind
    · rw [if_neg e]; grind) h3 q hq
  have h5 : p.c1 (s.base q) * s.T q p.L = 0 := h4
  unfold c1 at h5
  rw [if_pos ⟨hN, h.low q hq⟩] at h5
  grind

/-! The duals: for costs c of the rows' columns, less their prices. -/
def y (p : Lp) (c : Nat → Rat) (s : Tab) (i : Nat) : Rat := c (p.u i) - s.P (p.u i)
def dual (p : Lp) (c : Nat → Rat) (s : Tab) (i : Nat) : Rat := ((p.sgn i : Int) : Rat) * p.y c s i
theorem dual_col {c : Nat → Rat} {s : Tab} (hp : PInv p.m p.A p.u c s) {k : Nat} (hk : k < p.n) : sm (fun i => ((p.coef i k : Int) : Rat) * p.dual c s i) p.m = c k - s.P k := by
  have h1 := hp.by_rows k
  have e : sm (fun q => (c (p.u q) - s.P (p.u q)) * p.A q k) p.m = sm (fun i => ((p.coef i k : Int) : Rat) * p.dual c s i) p.m := sm_congr fun q hq => by
    rw [p.A_var hk]; unfold dual y; grind
  rw [← e]; grind
theorem dual_right {c : Nat → Rat} {s : Tab} (hp : PInv p.m p.A p.u c s) : sm (fun i => ((p.right i : Int) : Rat) * p.dual c s i) p.m = c p.L - s.P p.L := by
  have h1 := hp.by_rows p.L
  have e : sm (fun q => (c (p.u q) - s.P (p.u q)) * p.A q p.L) p.m = sm (fun i => ((p.right i : Int) : Rat) * p.dual c s i) p.m := sm_congr fun q hq => by
    rw [p.A_right]; unfold dual y; grind
  rw [← e]; grind
theorem dual_slack {c : Nat → Rat} {s : Tab} (hp : PInv p.m p.A p.u c s) {i : Nat} (hi : i < p.m) (hk : p.kind i ≠ 2) (hc : c (p.n + p.sl i) = 0) : ((p.tau i : Int) : Rat) * p.dual c s i = - s.P (p.n + p.sl i) := by
  have h1 := hp.by_rows (p.n + p.sl i)
  have hlt := p.sl_lt hi hk
  have hs : p.isSlack i (p.n + p.sl i) = true := by unfold isSlack; simp [hk]
  rw [sm_one hi] at h1
  · rw [p.A_slack (by omega) hlt, if_pos hs] at h1
    unfold dual y
    grind
  · intro q hq hne
    rw [p.A_slack (by omega) hlt]
    have : p.isSlack q (p.n + p.sl i) = false := by
      unfold isSlack
      by_cases hq2 : p.kind q = 2
      · simp [hq2]
      · have : p.sl i ≠ p.sl q := fun e => hne (p.sl_inj hk hq2 e).symm
        simp [hq2]; omega
    rw [this]; simp
/-- The duals have the signs of their rows. -/
theorem dual_signs {c : Nat → Rat} {s : Tab} (hp : PInv p.m p.A p.u c s) (hopt : ∀ k, k < p.N → 0 ≤ s.P k) (hc : ∀ k, p.n ≤ k → k < p.N → c k = 0) {i : Nat} (hi : i < p.m) : (p.kind i = 1 → p.dual c s i ≤ 0) ∧ (p.kind i = 3 → 0 ≤ p.dual c s i) := by
  constructor
  · intro hk
    have hlt := p.sl_lt hi (by omega)
    have h1 := dual_slack hp hi (by omega) (hc _ (by omega) hlt)
    have h2 := hopt _ hlt
    have h3 : p.tau i = 1 := by unfold tau; rw [if_neg (by omega)]
    rw [h3] at h1
    grind
  · intro hk
    have hlt := p.sl_lt hi (by omega)
    have h1 := dual_slack hp hi (by omega) (hc _ (by omega) hlt)
    have h2 := hopt _ hlt
    have h3 : p.tau i = -1 := by unfold tau; rw [if_pos hk]
    rw [h3] at h1
    grind

/-! The values of the variables. -/
def xv (s : Tab) (m L : Nat) (k : Nat) : Rat := sm (fun q => if s.base q = k then s.T q L else 0) m
/-- A sum over variables of what stands in the basis. -/
theorem sum_basis (s : Tab) (m n : Nat) (a f : Nat → Rat) : sm (fun k => a k * sm (fun q => if s.base q = k then f q else 0) m) n = sm (fun q => (if s.base q < n then a (s.base q) else 0) * f q) m := by
  have e : sm (fun k => a k * sm (fun q => if s.base q = k then f q else 0) m) n = sm (fun k => sm (fun q => a k * (if s.base q = k then f q else 0)) m) n := sm_congr fun k hk => by rw [sm_mul]
  rw [e, sm_swap]
  refine sm_congr fun q hq => ?_
  by_cases h : s.base q < n
  · rw [if_pos h, sm_one h]
    · rw [if_pos rfl]
    · intro k hk hne
      rw [if_neg (fun e => hne e.symm)]; grind
  · rw [if_neg h, sm_zero]
    · grind
    · intro k hk
      rw [if_neg (by omega)]; grind
/-- How a row's entry in the basis' columns splits. -/
theorem row_split {s : Tab} (h : p.TabOk s) {i : Nat} (hi : i < p.m) (f : Nat → Rat) (hf : ∀ q, q < p.m → p.N ≤ s.base q → f q = 0) :
    sm (fun q => p.A i (s.base q) * f q) p.m = ((p.sgn i : Int) : Rat) * (sm (fun q => (if s.base q < p.n then ((p.coef i (s.base q) : Int) : Rat) else 0) * f q) p.m + ((p.tau i : Int) : Rat) * sm (fun q => if p.isSlack i (s.base q) = true then f q else 0) p.m) := by
  rw [← sm_mul, ← sm_add, ← sm_mul]
  refine sm_congr fun q hq => ?_
  by_cases e1 : s.base q < p.n
  · have hs : p.isSlack i (s.base q) = false := by unfold isSlack; simp; intro _; omega
    rw [p.A_var e1, if_pos e1, hs]
    simp only [Bool.false_eq_true, if_false]
    grind
  · by_cases e2 : s.base q < p.N
    · rw [p.A_slack (by omega) e2, if_neg e1]
      by_cases e3 : p.isSlack i (s.base q) = true
      · rw [if_pos e3, if_pos e3]; grind
      · rw [if_neg e3, if_neg e3]; grind
    · rw [hf q hq (by omega)]
      by_cases e3 : p.isSlack i (s.base q) = true
      · rw [if_pos e3]; grind
      · rw [if_neg e3]; grind
theorem cancel_sgn {i : Nat} {a b : Rat} (h : ((p.sgn i : Int) : Rat) * a = ((p.sgn i : Int) : Rat) * b) : a = b := by
  have := p.sgn_sq i
  grind
/-- A row holds for the values: what stands on its left. -/
def Holds (kind : Int) (a b : Rat) : Prop := (kind = 1 → a ≤ b) ∧ (kind = 2 → a = b) ∧ (kind = 3 → b ≤ a)
theorem fits_row {s : Tab} (h : p.TabOk s) (hf : s.Feas p.m p.L) (hz : p.Zero s) {i : Nat} (hi : i < p.m) : Holds (p.kind i) (sm (fun k => ((p.coef i k : Int) : Rat) * xv s p.m p.L k) p.n) ((p.right i : Int) : Rat) := by
  have h1 := h.rows hi p.L
  rw [row_split h hi (fun q => s.T q p.L) hz, p.A_right] at h1
  have h2 : ((p.sgn i : Int) : Rat) * ((p.right i : Int) : Rat) = ((p.sgn i : Int) : Rat) * (sm (fun q => (if s.base q < p.n then ((p.coef i (s.base q) : Int) : Rat) else 0) * s.T q p.L) p.m + ((p.tau i : Int) : Rat) * sm (fun q => if p.isSlack i (s.base q) = true then s.T q p.L else 0) p.m) := by rw [← h1]; grind
  have h3 := cancel_sgn h2
  have h4 := sum_basis s p.m p.n (fun k => ((p.coef i k : Int) : Rat)) (fun q => s.T q p.L)
  unfold xv
  rw [h4]
  have h5 : 0 ≤ sm (fun q => if p.isSlack i (s.base q) = true then s.T q p.L else 0) p.m := sm_nonneg fun q hq => by
    by_cases e : p.isSlack i (s.base q) = true
    · rw [if_pos e]; exact hf q hq
    · rw [if_neg e]; exact Rat.le_refl
  refine ⟨fun hk => ?_, fun hk => ?_, fun hk => ?_⟩
  · have h6 : p.tau i = 1 := by unfold tau; rw [if_neg (by omega)]
    rw [h6] at h3; grind
  · have h6 : sm (fun q => if p.isSlack i (s.base q) = true then s.T q p.L else 0) p.m = 0 := sm_zero fun q hq => by
      rw [if_neg]; unfold isSlack; simp [hk]
    rw [h6] at h3; grind
  · have h6 : p.tau i = -1 := by unfold tau; rw [if_pos hk]
    rw [h6] at h3; grind
theorem xv_nonneg {s : Tab} (hf : s.Feas p.m p.L) (k : Nat) : 0 ≤ xv s p.m p.L k := sm_nonneg fun q hq => by
  by_cases e : s.base q = k
  · rw [if_pos e]; exact hf q hq
  · rw [if_neg e]; exact Rat.le_refl
theorem value_is {s : Tab} (h : p.TabOk s) (hp : PInv p.m p.A p.u p.c2 s) : sm (fun k => ((p.cost k : Int) : Rat) * xv s p.m p.L k) p.n = - s.P p.L := by
  have h4 := sum_basis s p.m p.n (fun k => ((p.cost k : Int) : Rat)) (fun q => s.T q p.L)
  unfold xv
  rw [h4, hp.by_base h.inv p.L]
  unfold chargeP
  have h2 : p.c2 p.L = 0 := by
    have := p.n_le
    unfold c2; rw [if_neg (by unfold L; omega)]
  rw [h2]
  unfold c2
  grind
/-! The direction in which a column grows. -/
def ray (s : Tab) (m col : Nat) (k : Nat) : Rat := (if k = col then 1 else 0) + sm (fun q => if s.base q = k then - s.T q col else 0) m
theorem sum_ray (s : Tab) (m n col : Nat) (a : Nat → Rat) : sm (fun k => a k * ray s m col k) n = (if col < n then a col else 0) - sm (fun q => (if s.base q < n then a (s.base q) else 0) * s.T q col) m := by
  have h4 := sum_basis s m n a (fun q => - s.T q col)
  have e : sm (fun k => a k * ray s m col k) n = sm (fun k => a k * (if k = col then 1 else 0)) n + sm (fun k => a k * sm (fun q => if s.base q = k then - s.T q col else 0) m) n := by
    rw [← sm_add]
    exact sm_congr fun k hk => by unfold ray; grind
  have e2 : sm (fun q => (if s.base q < n then a (s.base q) else 0) * - s.T q col) m = sm (fun q => (-1) * ((if s.base q < n then a (s.base q) else 0) * s.T q col)) m := sm_congr fun q hq => by grind
  have e3 : sm (fun k => a k * (if k = col then 1 else 0)) n = if col < n then a col else 0 := by
    by_cases h : col < n
    · rw [if_pos h, sm_one h]
      · rw [if_pos rfl]; grind
      · intro k hk hne; rw [if_neg hne]; grind
    · rw [if_neg h]
      exact sm_zero fun k hk => by rw [if_neg (by omega)]; grind
  rw [e, h4, e2, sm_mul, e3]; grind
theorem ray_row {s : Tab} (h : p.TabOk s) {col : Nat} (hc : col < p.N) (hno : ∀ q, q < p.m → s.T q col ≤ 0) (hz : ∀ q, q < p.m → p.N ≤ s.base q → s.T q col = 0) {i : Nat} (hi : i < p.m) : Holds (p.kind i) (sm (fun k => ((p.coef i k : Int) : Rat) * ray s p.m col k) p.n) 0 := by
  have h1 := h.rows hi col
  rw [row_split h hi (fun q => s.T q col) hz] at h1
  have hA : p.A i col = ((p.sgn i : Int) : Rat) * ((if col < p.n then ((p.coef i col : Int) : Rat) else 0) + ((p.tau i : Int) : Rat) * (if p.isSlack i col = true then 1 else 0)) := by
    by_cases e1 : col < p.n
    · have hs : p.isSlack i col = false := by unfold isSlack; simp; intro _; omega
      rw [p.A_var e1, if_pos e1, hs]
      simp only [Bool.false_eq_true, if_false]; grind
    · rw [p.A_slack (by omega) hc, if_neg e1]
      by_cases e3 : p.isSlack i col = true
      · rw [if_pos e3, if_pos e3]; grind
      · rw [if_neg e3, if_neg e3]; grind
  rw [hA] at h1
  have h3 := cancel_sgn h1
  rw [sum_ray]
  have h5 : 0 ≤ sm (fun q => if p.isSlack i (s.base q) = true then - s.T q col else 0) p.m := sm_nonneg fun q hq => by
    have := hno q hq
    by_cases e : p.isSlack i (s.base q) = true
    · rw [if_pos e]; grind
    · rw [if_neg e]; exact Rat.le_refl
  have e5 : sm (fun q => if p.isSlack i (s.base q) = true then - s.T q col else 0) p.m = sm (fun q => (-1) * (if p.isSlack i (s.base q) = true then s.T q col else 0)) p.m := sm_congr fun q hq => by
    by_cases e : p.isSlack i (s.base q) = true
    · rw [if_pos e, if_pos e]; grind
    · rw [if_neg e, if_neg e]; grind
  rw [e5, sm_mul] at h5
  have h7 : (0 : Rat) ≤ (if p.isSlack i col = true then 1 else 0) := by
    by_cases e : p.isSlack i col = true
    · rw [if_pos e]; grind
    · rw [if_neg e]; exact Rat.le_refl
  have h9 : p.kind i = 2 → (if p.isSlack i col = true then (1 : Rat) else 0) = 0 := fun hk => by
    rw [if_neg]; unfold isSlack; simp [hk]
  generalize (if p.isSlack i col = true then (1 : Rat) else 0) = z at h3 h7 h9
  refine ⟨fun hk => ?_, fun hk => ?_, fun hk => ?_⟩
  · have h6 : p.tau i = 1 := by unfold tau; rw [if_neg (by omega)]
    rw [h6] at h3; grind
  · have h6 : sm (fun q => if p.isSlack i (s.base q) = true then s.T q col else 0) p.m = 0 := sm_zero fun q hq => by
      rw [if_neg]; unfold isSlack; simp [hk]
    rw [h6, h9 hk] at h3; grind
  · have h6 : p.tau i = -1 := by unfold tau; rw [if_pos hk]
    rw [h6] at h3; grind
theorem ray_nonneg {s : Tab} {col : Nat} (hno : ∀ q, q < p.m → s.T q col ≤ 0) (k : Nat) : 0 ≤ ray s p.m col k := by
  have h1 : 0 ≤ sm (fun q => if s.base q = k then - s.T q col else 0) p.m := sm_nonneg fun q hq => by
    have := hno q hq
    by_cases e : s.base q = k
    · rw [if_pos e]; grind
    · rw [if_neg e]; exact Rat.le_refl
  unfold ray
  by_cases e : k = col
  · rw [if_pos e]; grind
  · rw [if_neg e]; grind
theorem ray_value {s : Tab} (h : p.TabOk s) (hp : PInv p.m p.A p.u p.c2 s) (col : Nat) : sm (fun k => ((p.cost k : Int) : Rat) * ray s p.m col k) p.n = s.P col := by
  rw [sum_ray, hp.by_base h.inv col]
  unfold chargeP c2
  rfl
end Lp
end Go.Proofs.YthcmopgdjibojaaGreatDoor.smx

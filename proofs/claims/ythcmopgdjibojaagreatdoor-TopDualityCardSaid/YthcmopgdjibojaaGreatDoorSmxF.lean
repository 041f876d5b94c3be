import Derived.Test.YthcmopgdjibojaaGreatDoorSmxY
import Derived.Test.YthcmopgdjibojaaGreatDoorRatF
/- The two phases of the simplex method: what each step keeps, and how large the numbers are. -/
namespace Go.Proofs.YthcmopgdjibojaaGreatDoor.smx
namespace Lp
open Go.Proofs.YthcmopgdjibojaaGreatDoor.rat
open Go.Proofs.YthcmopgdjibojaaGreatDoor.nt (nDigits_le)
variable {p : Lp}
/-- Sizes. -/
def K63 : Nat := 9223372036854775808
theorem dB_small {m : Nat} (hm : m ≤ 6) : dB K63 m < 10 ^ 120 := by
  have h : m = 0 ∨ m = 1 ∨ m = 2 ∨ m = 3 ∨ m = 4 ∨ m = 5 ∨ m = 6 := by omega
  rcases h with rfl | rfl | rfl | rfl | rfl | rfl | rfl <;> decide +kernel
theorem dg_of {q : Rat} {a b : Nat} (h1 : q.num.natAbs ≤ a) (h2 : q.den ≤ b) (ha : a < 10 ^ 200) (hb : b < 10 ^ 200) : Dg 200 q :=
  ⟨nDigits_le (by decide) (Nat.lt_of_le_of_lt h1 ha), nDigits_le (by decide) (Nat.lt_of_le_of_lt h2 hb)⟩
theorem pow_120 : (10 : Nat) ^ 120 < 10 ^ 200 := by decide +kernel
theorem pow_200 {d n : Nat} (hd : d < 10 ^ 120) (hn : n ≤ 6) : K63 * d + n * (K63 * d) < 10 ^ 200 := by
  have h1 : K63 * d ≤ K63 * 10 ^ 120 := Nat.mul_le_mul_left _ (Nat.le_of_lt hd)
  have h2 : n * (K63 * d) ≤ 6 * (K63 * 10 ^ 120) := Nat.mul_le_mul hn h1
  exact Nat.lt_of_le_of_lt (Nat.add_le_add h1 h2) (by decide +kernel)
theorem TabOk.dg {s : Tab} (h : p.TabOk s) (hK : p.In K63) (hm : p.m ≤ 6) {i : Nat} (hi : i < p.m) (k : Nat) : Dg 200 (s.T i k) := by
  obtain ⟨h1, h2⟩ := h.size hK hi k
  have h3 := Nat.lt_trans (dB_small hm) pow_120
  exact dg_of h1 h2 h3 h3
theorem TabOk.pdg {s : Tab} (h : p.TabOk s) (hK : p.In K63) (hm : p.m ≤ 6) {c : Nat → Rat} (hc : ∀ k, IntB K63 (c k)) {n : Nat} (hn : n ≤ p.m) (k : Nat) : Dg 200 (c k - sm (fun i => c (s.base i) * s.T i k) n) := by
  obtain ⟨h1, h2⟩ := h.psize hK hc hn k
  have h3 := dB_small hm
  exact dg_of h1 h2 (pow_200 h3 (Nat.le_trans hn hm)) (Nat.lt_trans h3 pow_120)
/-- The first phase keeps this. -/
structure J1 (p : Lp) (s : Tab) : Prop where
  ok : p.TabOk s
  pr : PInv p.m p.A p.u p.c1 s
  fe : s.Feas p.m p.L
theorem J1.step {s : Tab} (h : J1 p s) {r c : Nat} (hb : Bland p.m p.N p.L s r c) : J1 p (s.pivot r c) := by
  have hne : s.T r c ≠ 0 := by have := hb.2.2.1; grind
  exact ⟨h.ok.pivot hb.2.1 hne hb.1.1, h.pr.pivot h.ok.inv hb.2.1 hne, bland_feas hb h.fe⟩
theorem J1.start : J1 p ⟨p.A, chargeP p.m p.c1 ⟨p.A, fun _ => 0, p.u⟩, p.u⟩ := by
  have h0 := TabOk.start p (fun _ => 0)
  exact ⟨TabOk.start p _, PInv.charge h0.inv p.c1, fun i hi => p.right_nonneg i⟩
/-- The second phase keeps this. -/
structure J2 (p : Lp) (s : Tab) : Prop where
  ok : p.TabOk s
  pr : PInv p.m p.A p.u p.c2 s
  fe : s.Feas p.m p.L
  ze : p.Zero s
  zr : ∀ q, q < p.m → p.N ≤ s.base q → ∀ k, k < p.N → s.T q k = 0
theorem J2.step {s : Tab} (h : J2 p s) {r c : Nat} (hb : Bland p.m p.N p.L s r c) : J2 p (s.pivot r c) := by
  have hne : s.T r c ≠ 0 := by have := hb.2.2.1; grind
  have hlow : ∀ q, p.N ≤ (s.pivot r c).base q → q ≠ r ∧ p.N ≤ s.base q := fun q hq => by
    have hq' : p.N ≤ upd s.base r c q := hq
    unfold upd at hq'
    by_cases e : q = r
    · rw [if_pos e] at hq'; have := hb.1.1; omega
    · rw [if_neg e] at hq'; exact ⟨e, hq'⟩
  refine ⟨h.ok.pivot hb.2.1 hne hb.1.1, h.pr.pivot h.ok.inv hb.2.1 hne, bland_feas hb h.fe, fun q hq hN => ?_, fun q hq hN k hk => ?_⟩
  · obtain ⟨h1, h2⟩ := hlow q hN
    show pivT s.T r c q p.L = 0
    unfold pivT
    rw [if_neg h1, h.ze q hq h2, h.zr q hq h2 c hb.1.1]
    grind
  · obtain ⟨h1, h2⟩ := hlow q hN
    show pivT s.T r c q k = 0
    unfold pivT
    rw [if_neg h1, h.zr q hq h2 k hk, h.zr q hq h2 c hb.1.1]
    grind
/-- What cleaning keeps. -/
structure JC (p : Lp) (s : Tab) : Prop where
  ok : p.TabOk s
  pr : PInv p.m p.A p.u p.c1 s
  fe : s.Feas p.m p.L
  ze : p.Zero s
theorem JC.step {s : Tab} (h : JC p s) {r c : Nat} (hr : r < p.m) (hc : c < p.N) (hb : p.N ≤ s.base r) (hne : s.T r c ≠ 0) : JC p (s.pivot r c) := by
  have h0 := h.ze r hr hb
  have hL : ∀ i, i < p.m → (s.pivot r c).T i p.L = s.T i p.L := fun i hi => by
    show pivT s.T r c i p.L = _
    unfold pivT
    by_cases e : i = r
    · rw [if_pos e, e, h0, Rat.div_def, Rat.zero_mul]
    · rw [if_neg e, h0]; grind
  refine ⟨h.ok.pivot hr hne hc, h.pr.pivot h.ok.inv hr hne, fun i hi => by rw [hL i hi]; exact h.fe i hi, fun q hq hN => ?_⟩
  rw [hL q hq]
  have hq' : p.N ≤ upd s.base r c q := hN
  unfold upd at hq'
  by_cases e : q = r
  · rw [e]; exact h0
  · rw [if_neg e] at hq'; exact h.ze q hq hq'
theorem J1.dg {s : Tab} (h : J1 p s) (hK : p.In K63) (hm : p.m ≤ 6) : (∀ i k, i < p.m → k < p.L + 1 → Dg 200 (s.T i k)) ∧ ∀ k, k < p.L + 1 → Dg 200 (s.P k) :=
  ⟨fun i k hi _ => h.ok.dg hK hm hi k, fun k _ => by rw [h.pr.by_base h.ok.inv k]; exact h.ok.pdg hK hm (p.c1_int hK) (Nat.le_refl _) k⟩
theorem JC.dg {s : Tab} (h : JC p s) (hK : p.In K63) (hm : p.m ≤ 6) : (∀ i k, i < p.m → k < p.L + 1 → Dg 200 (s.T i k)) ∧ ∀ k, k < p.L + 1 → Dg 200 (s.P k) :=
  ⟨fun i k hi _ => h.ok.dg hK hm hi k, fun k _ => by rw [h.pr.by_base h.ok.inv k]; exact h.ok.pdg hK hm (p.c1_int hK) (Nat.le_refl _) k⟩
theorem J2.dg {s : Tab} (h : J2 p s) (hK : p.In K63) (hm : p.m ≤ 6) : (∀ i k, i < p.m → k < p.L + 1 → Dg 200 (s.T i k)) ∧ ∀ k, k < p.L + 1 → Dg 200 (s.P k) :=
  ⟨fun i k hi _ => h.ok.dg hK hm hi k, fun k _ => by rw [h.pr.by_base h.ok.inv k]; exact h.ok.pdg hK hm (p.c2_int hK) (Nat.le_refl _) k⟩
/-- From the first phase to the second. -/
theorem JC.charge {s : Tab} (h : JC p s) (hz : ∀ q, q < p.m → p.N ≤ s.base q → ∀ k, k < p.N → s.T q k = 0) : J2 p ⟨s.T, chargeP p.m p.c2 s, s.base⟩ :=
  ⟨h.ok.price _, PInv.charge h.ok.inv p.c2, h.fe, h.ze, hz⟩
/-- Basic columns differ. -/
theorem unit_inj {m : Nat} {s : Tab} (h : s.Unit m) {q i : Nat} (hi : i < m) (hq : q < i) : s.base q ≠ s.base i := fun e => by
  have h1 := h i i hi hi
  have h2 := h i q hi (by omega)
  rw [e, h1, if_pos rfl, if_neg (by omega)] at h2
  exact absurd h2 (by decide)
theorem basic_price {m : Nat} {s : Tab} (h : s.Priced m) {c : Nat} (hc : s.P c < 0) : ∀ i, i < m → s.base i ≠ c := fun i hi e => by
  have := h i hi
  rw [e] at this
  rw [this] at hc
  exact absurd hc (by decide)
end Lp
end Go.Proofs.YthcmopgdjibojaaGreatDoor.smx

/- simplex: what Solve answers is proved by its numbers. -/
import Derived.Test.YthcmopgdjibojaaGreatDoorSmpU
import Derived.Test.YthcmopgdjibojaaGreatDoorSmpP
import Derived.Test.YthcmopgdjibojaaGreatDoorSmpN
import Derived.Test.YthcmopgdjibojaaGreatDoorSmpO
import Derived.Test.YthcmopgdjibojaaGreatDoorLnrC
import Derived.Test.YthcmopgdjibojaaGreatDoorLnrG
namespace Go.Proofs.YthcmopgdjibojaaGreatDoor.smp
open Go.RowKit
open Go.Lib (nDigits)
open Go.Proofs.YthcmopgdjibojaaGreatDoor.lib Go.Proofs.YthcmopgdjibojaaGreatDoor.app Go.Proofs.YthcmopgdjibojaaGreatDoor.nt Go.Proofs.YthcmopgdjibojaaGreatDoor.rd Go.Proofs.YthcmopgdjibojaaGreatDoor.wh Go.Proofs.YthcmopgdjibojaaGreatDoor.smx Go.Proofs.YthcmopgdjibojaaGreatDoor.rat Go.Proofs.YthcmopgdjibojaaGreatDoor.typ Go.Proofs.YthcmopgdjibojaaGreatDoor.lnr
set_option linter.unusedVariables false
set_option linter.unusedSimpArgs false

theorem Yes.below {f : Nat} {a : Array Value} {v : Value} {w w' : World} (h : Yes f a v w) (hb : Below w.heap.size w w') : Yes f a v w' := fun x hx => h x (hb.trans (hx.mono hb.size))
/-! Sums of the program as the theory has them. -/
theorem dot_row {t : Lnr} {i : Nat} {r : Lrw} (h : t.rows[i]? = some r) (q : Nat → Rat) (n : Nat) : dot r.coef q n = sm (fun k => (((lpOf t).coef i k : Int) : Rat) * q k) n := by
  unfold dot
  exact sm_congr fun k _ => by rw [(lp_row h).2.2 k]
theorem dot_cost (t : Lnr) (q : Nat → Rat) (n : Nat) : dot t.cost q n = sm (fun k => (((lpOf t).cost k : Int) : Rat) * q k) n := rfl
theorem dot_col (t : Lnr) (q : Nat → Rat) (k : Nat) : dot (colL t.rows k) q t.rows.length = sm (fun i => (((lpOf t).coef i k : Int) : Rat) * q i) t.rows.length := by
  unfold dot
  refine sm_congr fun i hi => ?_
  have hr : t.rows[i]? = some t.rows[i] := List.getElem?_eq_getElem hi
  rw [(lp_row hr).2.2 k]
  unfold colL
  rw [List.getElem?_map, hr]; rfl
theorem dot_right (t : Lnr) (q : Nat → Rat) : dot (rightL t.rows) q t.rows.length = sm (fun i => (((lpOf t).right i : Int) : Rat) * q i) t.rows.length := by
  unfold dot
  refine sm_congr fun i hi => ?_
  have hr : t.rows[i]? = some t.rows[i] := List.getElem?_eq_getElem hi
  rw [(lp_row hr).2.1]
  unfold rightL
  rw [List.getElem?_map, hr]; rfl
/-- The duals that are read off are those of the theory. -/
theorem duF_dual {p : Lp} {c : Nat → Rat} {cst : Rat} {s : Tab} {i : Nat} (hc : c (p.u i) = cst) : duF cst p.right p.u s.P i = p.dual c s i := by
  unfold duF Lp.dual Lp.y Lp.sgn
  rw [hc]
  by_cases h : p.right i < 0
  · rw [if_pos h, if_pos h]; grind
  · rw [if_neg h, if_neg h]; grind
theorem pow_150 {d n : Nat} (hd : d < 10 ^ 120) (hn : n ≤ 6) : Lp.K63 * d + n * (Lp.K63 * d) < 10 ^ 150 := by
  have h1 : Lp.K63 * d ≤ Lp.K63 * 10 ^ 120 := Nat.mul_le_mul_left _ (Nat.le_of_lt hd)
  have h2 : n * (Lp.K63 * d) ≤ 6 * (Lp.K63 * 10 ^ 120) := Nat.mul_le_mul hn h1
  exact Nat.lt_of_le_of_lt (Nat.add_le_add h1 h2) (by decide +kernel)
theorem pr_dg {p : Lp} (hB : PBd p) {c : Nat → Rat} (hc : ∀ k, IntB Lp.K63 (c k)) {s : Tab} (h : p.TabOk s) (hp : PInv p.m p.A p.u c s) (k : Nat) : Dg 150 (s.P k) := by
  obtain ⟨h1, h2⟩ := h.psize hB.inK hc (Nat.le_refl p.m) k
  rw [hp.by_base h.inv k]
  have h3 := Lp.dB_small hB.m
  exact ⟨nDigits_le (by decide) (Nat.lt_of_le_of_lt h1 (pow_150 h3 hB.m)), nDigits_le (by decide) (Nat.lt_of_le_of_lt h2 (Nat.lt_trans h3 (by decide +kernel)))⟩
theorem dg_neg {k : Nat} {q : Rat} (h : Dg k q) : Dg k (-q) := ⟨by rw [Rat.neg_num, Int.natAbs_neg]; exact h.1, by rw [Rat.neg_den]; exact h.2⟩
theorem du_dg {p : Lp} (hB : PBd p) {c : Nat → Rat} (hc : ∀ k, IntB Lp.K63 (c k)) {s : Tab} (h : p.TabOk s) (hp : PInv p.m p.A p.u c s) {cst : Rat} (hcst : Dg 1 cst) (i : Nat) : Dg 200 (duF cst p.right p.u s.P i) := by
  have h1 : Dg 152 (cst - s.P (p.u i)) := by
    rw [Rat.sub_eq_add_neg]
    exact (hcst.add (dg_neg (pr_dg hB hc h hp (p.u i)))).mono (by omega)
  unfold duF
  by_cases e : p.right i < 0
  · rw [if_pos e, Rat.sub_eq_add_neg, Rat.zero_add]; exact (dg_neg h1).mono (by omega)
  · rw [if_neg e]; exact h1.mono (by omega)
theorem one_dg : Dg 1 (1 : Rat) := ⟨by show nDigits 1 ≤ 1; rw [Go.Lib.nDigits_small (by decide)]; exact Nat.le_refl _, by show nDigits 1 ≤ 1; rw [Go.Lib.nDigits_small (by decide)]; exact Nat.le_refl _⟩
theorem rats_nil (w : World) (q : Nat → Rat) : Rats w 0 none 0 q := ⟨by simp, fun h => absurd h (by omega)⟩

/-- What is known of a program that the law meets. -/
structure LwIn (t : Lnr) (C0 C1 : Option Addr) (w : World) (B : Nat) : Prop where
  ok : LnOk t
  f : LnrFits t
  fr : ∀ r ∈ t.rows, LrwFits r
  n8 : t.cost.length ≤ 8
  m6 : t.rows.length ≤ 6
  le : B ≤ w.heap.size
  I : Ints w B C0 t.cost
  rows : RowAt rLrw w B C1 t.rows
  tab : TabT w
theorem LwIn.below {t : Lnr} {C0 C1 : Option Addr} {w w' : World} {B : Nat} (h : LwIn t C0 C1 w B) (hb : Below w.heap.size w w') : LwIn t C0 C1 w' B :=
  ⟨h.ok, h.f, h.fr, h.n8, h.m6, Nat.le_trans h.le hb.size, h.I.below (hb.mono h.le), h.rows.below (hb.mono h.le), h.tab.below hb⟩
theorem LwIn.bd {t : Lnr} {C0 C1 : Option Addr} {w : World} {B : Nat} (h : LwIn t C0 C1 w B) : PBd (lpOf t) := bd_of h.ok h.f h.fr h.n8 h.m6
theorem yes_check {t : Lnr} {C0 C1 : Option Addr} {w : World} {B : Nat} (h : LwIn t C0 C1 w B) (c0 c1 : Nat) : Yes 21 #[LnV t.cost.length t.rows.length C0 c0 C1 c1] (.slice none 0 0) w := fun x hx =>
  check_any C0 c0 C1 c1 t h.ok h.n8 h.m6 x B (h.below hx).le (h.below hx).rows
theorem yes_right {t : Lnr} {C0 C1 : Option Addr} {w : World} {B : Nat} (h : LwIn t C0 C1 w B) {A : Option Addr} {n c : Nat} {q : Nat → Rat} {B' : Nat} (hB' : B' ≤ w.heap.size) (hn : n ≤ 20) (hq : ∀ i, i < n → Dg 200 (q i)) (hr : Rats w B' A n q) : Yes 33 #[.slice A n c] (.bool true) w := fun x hx =>
  right_any A c n q hn (fun i hi => (hq i hi).mono (by omega)) x B' (Nat.le_trans hB' hx.size) (hr.below (hx.mono hB')) (h.below hx).tab
/-- The variables fit. -/
theorem yes_fits {t : Lnr} {C0 C1 : Option Addr} {w : World} {B : Nat} (h : LwIn t C0 C1 w B) (c0 c1 : Nat) {s : Tab} (hj : Lp.J2 (lpOf t) s) {A : Option Addr} {cA : Nat} (hr : Rats w w.heap.size A t.cost.length (Lp.xv s (lpOf t).m (lpOf t).L)) : Yes 11 #[LnV t.cost.length t.rows.length C0 c0 C1 c1, .slice A t.cost.length cA] (.bool true) w := fun x hx =>
  fits_any C0 c0 C1 c1 t h.ok h.n8 h.m6 A cA _ (fun i _ => xv_dg h.bd hj.ok i) (fun i _ => Lp.xv_nonneg hj.fe i) (fun r hm => by
    obtain ⟨i, hi, e⟩ := List.getElem_of_mem hm
    have hr : t.rows[i]? = some r := by rw [List.getElem?_eq_getElem hi, e]
    have h1 := Lp.fits_row hj.ok hj.fe hj.ze (i := i) hi
    rw [dot_row hr, ← (lp_row hr).1, ← (lp_row hr).2.1]
    exact h1) x B w.heap.size (h.below hx).le hx.size (h.below hx).rows (hr.below hx) (h.below hx).tab
theorem value_eq {t : Lnr} {s : Tab} (hj : Lp.J2 (lpOf t) s) : dot t.cost (Lp.xv s (lpOf t).m (lpOf t).L) t.cost.length = - s.P (lpOf t).L := by
  rw [dot_cost]; exact Lp.value_is hj.ok hj.pr
theorem bound_eq {t : Lnr} {s : Tab} (hj : Lp.J2 (lpOf t) s) : dot (rightL t.rows) (duF 0 (lpOf t).right (lpOf t).u s.P) t.rows.length = - s.P (lpOf t).L := by
  rw [dot_right]
  have h1 := Lp.dual_right hj.pr
  have h2 : (lpOf t).c2 (lpOf t).L = 0 := by
    have := (lpOf t).n_le
    have := PBd.N (lpOf t)
    unfold Lp.c2; rw [if_neg (by omega)]
  rw [h2] at h1
  have e : sm (fun i => (((lpOf t).right i : Int) : Rat) * duF 0 (lpOf t).right (lpOf t).u s.P i) t.rows.length = sm (fun i => (((lpOf t).right i : Int) : Rat) * (lpOf t).dual (lpOf t).c2 s i) t.rows.length := sm_congr fun i hi => by
    rw [duF_dual (c := (lpOf t).c2)]
    have := (lpOf t).n_le
    unfold Lp.c2 Lp.u; rw [if_neg (by omega)]
  rw [e]
  have h3 : sm (fun i => (((lpOf t).right i : Int) : Rat) * (lpOf t).dual (lpOf t).c2 s i) t.rows.length = 0 - s.P (lpOf t).L := h1
  rw [h3]; grind
/-- The duals prove the value. -/
theorem yes_proves {t : Lnr} {C0 C1 : Option Addr} {w : World} {B : Nat} (h : LwIn t C0 C1 w B) (c0 c1 : Nat) {s : Tab} (hj : Lp.J2 (lpOf t) s) (hopt : ∀ k, k < (lpOf t).N → 0 ≤ s.P k) {D : Option Addr} {cD : Nat} (hr : Rats w w.heap.size D t.rows.length (duF 0 (lpOf t).right (lpOf t).u s.P)) : Yes 10 #[LnV t.cost.length t.rows.length C0 c0 C1 c1, .slice D t.rows.length cD] (.tuple #[.string (ratS (- s.P (lpOf t).L)), .bool true]) w := fun x hx => by
  have hcu : ∀ i, (lpOf t).c2 ((lpOf t).u i) = 0 := fun i => by
    have := (lpOf t).n_le
    unfold Lp.c2 Lp.u; rw [if_neg (by omega)]
  have h1 := proves_any C0 c0 C1 c1 t h.ok h.f h.n8 h.m6 D cD (duF 0 (lpOf t).right (lpOf t).u s.P) (fun i _ => du_dg h.bd ((lpOf t).c2_int h.bd.inK) hj.ok hj.pr (Dg.zero) i) (fun i r hi => by
    have hlt : i < t.rows.length := (List.getElem?_eq_some_iff.1 hi).1
    rw [duF_dual (hcu i), ← (lp_row hi).1]
    exact Lp.dual_signs hj.pr hopt (fun k h1 h2 => by unfold Lp.c2; rw [if_neg (by omega)]) hlt) (fun k hk => by
    rw [dot_col]
    have e : sm (fun i => (((lpOf t).coef i k : Int) : Rat) * duF 0 (lpOf t).right (lpOf t).u s.P i) t.rows.length = sm (fun i => (((lpOf t).coef i k : Int) : Rat) * (lpOf t).dual (lpOf t).c2 s i) t.rows.length := sm_congr fun i hi => by rw [duF_dual (hcu i)]
    rw [e]
    have h1 := Lp.dual_col hj.pr (k := k) hk
    have h2 := hopt k (Nat.lt_of_lt_of_le hk (lpOf t).n_le)
    have h3 : sm (fun i => (((lpOf t).coef i k : Int) : Rat) * (lpOf t).dual (lpOf t).c2 s i) t.rows.length = (lpOf t).c2 k - s.P k := h1
    rw [h3]
    have h4 : (lpOf t).c2 k = ((t.cost[k]?.getD 0 : Int) : Rat) := if_pos hk
    rw [h4]; grind) x B w.heap.size (h.below hx).le hx.size (h.below hx).I (h.below hx).rows (hr.below hx) (h.below hx).tab
  rw [bound_eq hj] at h1
  exact h1
theorem yes_value {t : Lnr} {C0 C1 : Option Addr} {w : World} {B : Nat} (h : LwIn t C0 C1 w B) (c0 c1 : Nat) {s : Tab} (hj : Lp.J2 (lpOf t) s) {A : Option Addr} {cA : Nat} (hr : Rats w w.heap.size A t.cost.length (Lp.xv s (lpOf t).m (lpOf t).L)) : Yes 9 #[LnV t.cost.length t.rows.length C0 c0 C1 c1, .slice A t.cost.length cA] (.tuple #[.string (ratS (- s.P (lpOf t).L)), .int .i64 0]) w := fun x hx => by
  have h1 := value_any C0 c0 C1 c1 t.rows.length t.cost A cA _ h.n8 h.f (fun i _ => xv_dg h.bd hj.ok i) x B w.heap.size (h.below hx).le hx.size (h.below hx).I (hr.below hx) (h.below hx).tab
  rw [value_eq hj] at h1
  exact h1
/-- The duals refute the program. -/
theorem yes_refutes {t : Lnr} {C0 C1 : Option Addr} {w : World} {B : Nat} (h : LwIn t C0 C1 w B) (c0 c1 : Nat) {s : Tab} (hj : Lp.J1 (lpOf t) s) (hopt : ∀ k, k < (lpOf t).N → 0 ≤ s.P k) (hne : s.P (lpOf t).L ≠ 0) {D : Option Addr} {cD : Nat} (hr : Rats w w.heap.size D t.rows.length (duF 1 (lpOf t).right (lpOf t).u s.P)) : Yes 12 #[LnV t.cost.length t.rows.length C0 c0 C1 c1, .slice D t.rows.length cD] (.bool true) w := fun x hx => by
  have hcu : ∀ i, i < t.rows.length → (lpOf t).c1 ((lpOf t).u i) = 1 := fun i hi => by
    unfold Lp.c1 Lp.u; rw [if_pos ⟨by omega, by show (lpOf t).N + i < (lpOf t).N + t.rows.length; omega⟩]
  refine refutes_any C0 c0 C1 c1 t h.ok h.n8 h.m6 D cD (duF 1 (lpOf t).right (lpOf t).u s.P) (fun i _ => du_dg h.bd ((lpOf t).c1_int h.bd.inK) hj.ok hj.pr one_dg i) (fun i r hi => ?_) (fun k hk => ?_) ?_ x B w.heap.size (h.below hx).le hx.size (h.below hx).rows (hr.below hx) (h.below hx).tab
  · have hlt : i < t.rows.length := (List.getElem?_eq_some_iff.1 hi).1
    rw [duF_dual (hcu i hlt), ← (lp_row hi).1]
    exact Lp.dual_signs hj.pr hopt (fun k h1 h2 => by unfold Lp.c1; rw [if_neg (by omega)]) hlt
  · rw [dot_col]
    have e : sm (fun i => (((lpOf t).coef i k : Int) : Rat) * duF 1 (lpOf t).right (lpOf t).u s.P i) t.rows.length = sm (fun i => (((lpOf t).coef i k : Int) : Rat) * (lpOf t).dual (lpOf t).c1 s i) t.rows.length := sm_congr fun i hi => by rw [duF_dual (hcu i hi)]
    rw [e]
    have hkN := Nat.lt_of_lt_of_le hk (lpOf t).n_le
    have h1 := Lp.dual_col hj.pr (k := k) hk
    have h2 := hopt k hkN
    have h3 : sm (fun i => (((lpOf t).coef i k : Int) : Rat) * (lpOf t).dual (lpOf t).c1 s i) t.rows.length = (lpOf t).c1 k - s.P k := h1
    have h4 : (lpOf t).c1 k = 0 := by unfold Lp.c1; rw [if_neg (by omega)]
    rw [h3, h4]; grind
  · rw [dot_right]
    have e : sm (fun i => (((lpOf t).right i : Int) : Rat) * duF 1 (lpOf t).right (lpOf t).u s.P i) t.rows.length = sm (fun i => (((lpOf t).right i : Int) : Rat) * (lpOf t).dual (lpOf t).c1 s i) t.rows.length := sm_congr fun i hi => by rw [duF_dual (hcu i hi)]
    rw [e]
    have h1 := Lp.dual_right hj.pr
    have h3 : sm (fun i => (((lpOf t).right i : Int) : Rat) * (lpOf t).dual (lpOf t).c1 s i) t.rows.length = (lpOf t).c1 (lpOf t).L - s.P (lpOf t).L := h1
    have h4 : (lpOf t).c1 (lpOf t).L = 0 := by unfold Lp.c1; rw [if_neg (by omega)]
    have h5 := Lp.phase1_value hj.ok hj.pr hj.fe
    rw [h3, h4]; grind
/-- The direction falls. -/
theorem yes_falls {t : Lnr} {C0 C1 : Option Addr} {w : World} {B : Nat} (h : LwIn t C0 C1 w B) (c0 c1 : Nat) {s : Tab} (hj : Lp.J2 (lpOf t) s) {col : Nat} (hc : col < (lpOf t).N) (hneg : s.P col < 0) (hno : ∀ i, i < (lpOf t).m → ¬ 0 < s.T i col) {R : Option Addr} {cR : Nat} (hr : Rats w w.heap.size R t.cost.length (Lp.ray s (lpOf t).m col)) : Yes 36 #[LnV t.cost.length t.rows.length C0 c0 C1 c1, .slice R t.cost.length cR] (.bool true) w := fun x hx => by
  have hno' : ∀ q, q < (lpOf t).m → s.T q col ≤ 0 := fun q hq => by have := hno q hq; grind
  refine falls_any C0 c0 C1 c1 t h.ok h.f h.n8 h.m6 R cR _ (fun i _ => ray_dg h.bd hj.ok col (Lp.basic_price hj.pr.priced hneg) i) (fun i _ => Lp.ray_nonneg hno' i) (fun r hm => ?_) ?_ x B w.heap.size (h.below hx).le hx.size (h.below hx).I (h.below hx).rows (hr.below hx) (h.below hx).tab
  · obtain ⟨i, hi, e⟩ := List.getElem_of_mem hm
    have hr : t.rows[i]? = some r := by rw [List.getElem?_eq_getElem hi, e]
    have h1 := Lp.ray_row hj.ok hc hno' (fun q hq hN => hj.zr q hq hN col hc) (i := i) hi
    rw [dot_row hr, ← (lp_row hr).1]
    exact h1
  · rw [dot_cost]
    have h1 : sm (fun k => (((lpOf t).cost k : Int) : Rat) * Lp.ray s (lpOf t).m col k) t.cost.length = s.P col := Lp.ray_value hj.ok hj.pr col
    rw [h1]; exact hneg
/-- Answers are accepted. -/
theorem yes_check2 {t : Lnr} {C0 C1 : Option Addr} {w : World} {B : Nat} (h : LwIn t C0 C1 w B) (c0 c1 : Nat) {s : Tab} (hj : Lp.J1 (lpOf t) s) (hopt : ∀ k, k < (lpOf t).N → 0 ≤ s.P k) (hne : s.P (lpOf t).L ≠ 0) {D : Option Addr} {cD : Nat} (hr : Rats w w.heap.size D t.rows.length (duF 1 (lpOf t).right (lpOf t).u s.P)) : Yes 8 #[LnV t.cost.length t.rows.length C0 c0 C1 c1, AnsV 2 none 0 0 D t.rows.length cD none 0 0 ⟨#[]⟩] (.int .i64 0) w := fun x hx => by
  have hx' := h.below hx
  have hm := h.m6
  exact check2_any _ _ C0 c0 C1 c1 none 0 0 D _ cD none 0 0 ⟨#[]⟩ x (yes_check hx' c0 c1) (fun y _ => sizes2_any _ _ C0 c0 C1 c1 none 0 D cD none 0 ⟨#[]⟩ y) (yes_right hx' (Nat.zero_le _) (by omega) (fun i hi => by omega) (rats_nil x (fun _ => 0))) (yes_right hx' hx.size (by omega) (fun i _ => du_dg h.bd ((lpOf t).c1_int h.bd.inK) hj.ok hj.pr one_dg i) (hr.below hx)) (yes_right hx' (Nat.zero_le _) (by omega) (fun i hi => by omega) (rats_nil x (fun _ => 0))) ((yes_refutes h c0 c1 hj hopt hne hr).below hx)
theorem yes_check3 {t : Lnr} {C0 C1 : Option Addr} {w : World} {B : Nat} (h : LwIn t C0 C1 w B) (c0 c1 : Nat) {s : Tab} (hj : Lp.J2 (lpOf t) s) {col : Nat} (hc : col < (lpOf t).N) (hneg : s.P col < 0) (hno : ∀ i, i < (lpOf t).m → ¬ 0 < s.T i col) {A R : Option Addr} {cA cR : Nat} (ha : Rats w w.heap.size A t.cost.length (Lp.xv s (lpOf t).m (lpOf t).L)) (hr : Rats w w.heap.size R t.cost.length (Lp.ray s (lpOf t).m col)) : Yes 8 #[LnV t.cost.length t.rows.length C0 c0 C1 c1, AnsV 3 A t.cost.length cA none 0 0 R t.cost.length cR ⟨#[]⟩] (.int .i64 0) w := fun x hx => by
  have hx' := h.below hx
  have hn := h.n8
  exact check3_any _ _ C0 c0 C1 c1 A _ cA none 0 0 R _ cR ⟨#[]⟩ x (yes_check hx' c0 c1) (fun y _ => sizes3_any _ _ C0 c0 C1 c1 A cA none 0 R cR ⟨#[]⟩ y) (yes_right hx' hx.size (by omega) (fun i _ => xv_dg h.bd hj.ok i) (ha.below hx)) (yes_right hx' (Nat.zero_le _) (by omega) (fun i hi => by omega) (rats_nil x (fun _ => 0))) (yes_right hx' hx.size (by omega) (fun i _ => ray_dg h.bd hj.ok col (Lp.basic_price hj.pr.priced hneg) i) (hr.below hx)) ((yes_fits h c0 c1 hj ha).below hx) ((yes_falls h c0 c1 hj hc hneg hno hr).below hx)
theorem yes_check1 {t : Lnr} {C0 C1 : Option Addr} {w : World} {B : Nat} (h : LwIn t C0 C1 w B) (c0 c1 : Nat) {s : Tab} (hj : Lp.J2 (lpOf t) s) (hopt : ∀ k, k < (lpOf t).N → 0 ≤ s.P k) {A D : Option Addr} {cA cD : Nat} (ha : Rats w w.heap.size A t.cost.length (Lp.xv s (lpOf t).m (lpOf t).L)) (hd : Rats w w.heap.size D t.rows.length (duF 0 (lpOf t).right (lpOf t).u s.P)) : Yes 8 #[LnV t.cost.length t.rows.length C0 c0 C1 c1, AnsV 1 A t.cost.length cA D t.rows.length cD none 0 0 (ratS (- s.P (lpOf t).L))] (.int .i64 0) w := fun x hx => by
  have hx' := h.below hx
  have hn := h.n8
  have hm := h.m6
  have hv : Dg 4096 (- s.P (lpOf t).L) := (dg_neg (pr_dg h.bd ((lpOf t).c2_int h.bd.inK) hj.ok hj.pr (lpOf t).L)).mono (by omega)
  have hpv := (yes_proves h c0 c1 hj hopt hd (cD := cD)).below hx
  have hva := (yes_value h c0 c1 hj ha (cA := cA)).below hx
  exact check1_any _ _ C0 c0 C1 c1 A _ cA D _ cD none 0 0 (ratS (- s.P (lpOf t).L)) x (yes_check hx' c0 c1) (fun y _ => sizes1_any _ _ C0 c0 C1 c1 A cA D cD none 0 _ y) (yes_right hx' hx.size (by omega) (fun i _ => xv_dg h.bd hj.ok i) (ha.below hx)) (yes_right hx' hx.size (by omega) (fun i _ => du_dg h.bd ((lpOf t).c2_int h.bd.inK) hj.ok hj.pr Dg.zero i) (hd.below hx)) (yes_right hx' (Nat.zero_le _) (by omega) (fun i hi => by omega) (rats_nil x (fun _ => 0)))
    (fun y hy => rright_any _ hv y (hx'.below hy).tab) ((yes_fits h c0 c1 hj ha).below hx) (fun y hy => proved_any _ _ C0 c0 C1 c1 1 A _ cA D _ cD none 0 0 _ y (fun z hz => hpv z (hy.trans (hz.mono hy.size))) (fun z hz => hva z (hy.trans (hz.mono hy.size))))
end Go.Proofs.YthcmopgdjibojaaGreatDoor.smp

/- simplex: a tableau in memory; pivot. -/
import Derived.Test.YthcmopgdjibojaaGreatDoorSmpB
namespace Go.Proofs.YthcmopgdjibojaaGreatDoor.smp
open Go.RowKit
open Go.Lib (decDigits nDigits itoa decDigits_length nDigits_pos)
open Go.Proofs.YthcmopgdjibojaaGreatDoor.lib Go.Proofs.YthcmopgdjibojaaGreatDoor.app Go.Proofs.YthcmopgdjibojaaGreatDoor.nt Go.Proofs.YthcmopgdjibojaaGreatDoor.rd Go.Proofs.YthcmopgdjibojaaGreatDoor.wh Go.Proofs.YthcmopgdjibojaaGreatDoor.smx Go.Proofs.YthcmopgdjibojaaGreatDoor.rat
set_option linter.unusedVariables false
set_option linter.unusedSimpArgs false

theorem dg_inv {k : Nat} {q : Rat} (h : Dg k q) (h0 : q ≠ 0) : Dg k q⁻¹ := by
  refine ⟨?_, ?_⟩
  · rw [Rat.num_inv, Int.natAbs_mul]
    have h1 : (q.num.sign).natAbs = 1 := Int.natAbs_sign_of_ne_zero (fun e => h0 (Rat.num_eq_zero.1 e))
    rw [h1, Nat.one_mul]
    exact h.2
  · rw [Rat.den_inv, if_neg (fun e => h0 (Rat.num_eq_zero.1 e))]
    exact h.1
theorem dg_div {i j : Nat} {a b : Rat} (ha : Dg i a) (hb : Dg j b) (h0 : b ≠ 0) : Dg (i + j) (a / b) := by
  rw [Rat.div_def]
  exact ha.mul (dg_inv hb h0)

/-- Where a tableau lies. -/
structure Geo where
  b : Nat
  R : Nat
  ub : Nat
  tb : Nat
  bb : Nat
  pb : Nat
  rb : Nat → Nat
  tag : Nat → Nat
  AR : Option Addr
  AB : Option Addr
  AU : Option Addr
  AT : Option Addr
  cR : Nat
  cB : Nat
  cU : Nat
  cT : Nat
  cP : Nat
/-- The struct's cells; pv is the slice of reduced costs. -/
def stc (p : Lp) (g : Geo) (pv : Value) : Nat → Value
  | 0 => .slice g.AR p.m g.cR
  | 1 => pv
  | 2 => .slice g.AB p.m g.cB
  | 3 => .slice g.AU p.m g.cU
  | 4 => .slice g.AT p.m g.cT
  | 5 => .int .i64 p.N
  | 6 => .int .i64 p.n
  | _ => .int .i64 0
/-- Every block has a tag of its own; below lo there is none. -/
structure GeoOk (p : Lp) (g : Geo) (lo : Nat) : Prop where
  b : g.tag g.b = 1
  low : ∀ k, k < lo → g.tag k = 0
  rb : ∀ i, i < p.m → g.tag (g.rb i) = 7 + i
  two : 0 < p.m → g.tag g.R = 2 ∧ g.tag g.ub = 3 ∧ g.tag g.tb = 4 ∧ g.tag g.bb = 5 ∧ g.AR = some ⟨g.R, 0, none⟩ ∧ g.AB = some ⟨g.bb, 0, none⟩ ∧ g.AU = some ⟨g.ub, 0, none⟩ ∧ g.AT = some ⟨g.tb, 0, none⟩
/-- A tableau in memory, but for the reduced costs. -/
structure TS (p : Lp) (g : Geo) (pv : Value) (s : Tab) (w : World) : Prop where
  st : Arr w g.b 8 (stc p g pv)
  rows : 0 < p.m → Arr w g.R p.m (fun i => .slice (some ⟨g.rb i, 0, none⟩) (p.L + 1) (p.L + 1))
  unit : 0 < p.m → Arr w g.ub p.m (fun i => .int .i64 (p.u i))
  turn : 0 < p.m → Arr w g.tb p.m (fun i => .bool (decide (p.right i < 0)))
  base : 0 < p.m → Arr w g.bb p.m (fun i => .int .i64 (s.base i))
  row : ∀ i, i < p.m → Arr w (g.rb i) (p.L + 1) (vec (s.T i))
theorem TS.err {p : Lp} {g : Geo} {pv : Value} {s : Tab} {w : World} (h : TS p g pv s w) : ErrAt w g.b := ⟨h.st.cell (i := 7) (by decide), h.st.frozen 7⟩
theorem TS.below {p : Lp} {g : Geo} {pv : Value} {s : Tab} {w w' : World} (h : TS p g pv s w) (hb : Below w.heap.size w w') : TS p g pv s w' :=
  ⟨h.st.below hb, fun hm => (h.rows hm).below hb, fun hm => (h.unit hm).below hb, fun hm => (h.turn hm).below hb, fun hm => (h.base hm).below hb, fun i hi => (h.row i hi).below hb⟩
/-- The slice of reduced costs, when there is one. -/
def prc (p : Lp) (g : Geo) : Value := .slice (some ⟨g.pb, 0, none⟩) (p.L + 1) g.cP

theorem Kp.cell {K : Nat → Prop} {w w' : World} {k i : Nat} {v : Value} (h : Kp K w w') (hc : w.cell? ⟨k, i, none⟩ = some v) (hK : K k) : w'.cell? ⟨k, i, none⟩ = some v :=
  (World.cell?_of_block (h.block k (World.block_lt_of_cell? w ⟨k, i, none⟩ hc) hK)).trans hc
/-- The rows in the midst of a pivot. -/
def mid (T : Nat → Nat → Rat) (r c i j k : Nat) : Rat := if j = r then T r k / T r c else if j < i then T j k - T j c * (T r k / T r c) else T j k
theorem mid_last (T : Nat → Nat → Rat) (r c m : Nat) {j : Nat} (hj : j < m) : mid T r c m j = pivT T r c j := by
  funext k
  unfold mid pivT
  by_cases e : j = r
  · rw [if_pos e, if_pos e]
  · rw [if_neg e, if_neg e, if_pos hj]
theorem mid_skip (T : Nat → Nat → Rat) (r c : Nat) {i j : Nat} (h : j ≠ i ∨ i = r) : mid T r c (i + 1) j = mid T r c i j := by
  funext k
  unfold mid
  by_cases e : j = r
  · rw [if_pos e, if_pos e]
  · rw [if_neg e, if_neg e]
    by_cases h2 : j < i
    · rw [if_pos h2, if_pos (by omega)]
    · rw [if_neg h2, if_neg (by omega)]
theorem mid_next (T : Nat → Nat → Rat) (r c : Nat) {i : Nat} (h : i ≠ r) : mid T r c (i + 1) i = fun k => T i k - T i c * (T r k / T r c) := by
  funext k
  unfold mid
  rw [if_neg h, if_pos (by omega)]
theorem mid_same (T : Nat → Nat → Rat) (r c : Nat) {i : Nat} (h : i ≠ r) : mid T r c i i = T i := by
  funext k
  unfold mid
  rw [if_neg h, if_neg (by omega)]
theorem mid_row (T : Nat → Nat → Rat) (r c i : Nat) : mid T r c i r = fun k => T r k / T r c := by
  funext k
  unfold mid
  rw [if_pos rfl]
theorem mid_zero (T : Nat → Nat → Rat) (r c : Nat) {j : Nat} (h : j ≠ r) : mid T r c 0 j = T j := by
  funext k
  unfold mid
  rw [if_neg h, if_neg (by omega)]
set_option maxRecDepth 20000 in
set_option maxHeartbeats 4000000 in
/-- The first loop of pivot: a row is divided by its entry. -/
theorem pivot_any (p : Lp) (g : Geo) (lo : Nat) (s : Tab) (r c : Nat) (hg : GeoOk p g lo) (hpb : g.tag g.pb = 6) (hr : r < p.m) (hm : p.m ≤ 6) (hc : c < p.L + 1) (hL : p.L ≤ 20) (h0 : s.T r c ≠ 0)
    (hD : ∀ i k, i < p.m → k < p.L + 1 → Dg 200 (s.T i k)) (hP : ∀ k, k < p.L + 1 → Dg 200 (s.P k)) (w : World) (ht : TabL lo w) (hs : TS p g (prc p g) s w) (hp : Arr w g.pb (p.L + 1) (vec s.P)) :
    Calls Tryz.prog 67 #[.pointer (some ⟨g.b, 0, none⟩), .int .i64 r, .int .i64 c] w fun e w' => e = .returned (.tuple #[]) ∧ Kp (fun k => g.tag k < 5) w w' ∧ TS p g (prc p g) (s.pivot r c) w' ∧ Arr w' g.pb (p.L + 1) (vec (s.pivot r c).P) := by
  have hm0 : 0 < p.m := by omega
  obtain ⟨t2, t3, t4, t5, eR, eB, eU, eT⟩ := hg.two hm0
  have tb := hg.b
  have trb := hg.rb
  have tlo := hg.low
  have c0 : w.cell? ⟨g.b, 0, none⟩ = some (.slice (some ⟨g.R, 0, none⟩) p.m g.cR) := by rw [← eR]; exact hs.st.cell (i := 0) (by decide)
  have c1 : w.cell? ⟨g.b, 1, none⟩ = some (.slice (some ⟨g.pb, 0, none⟩) (p.L + 1) g.cP) := hs.st.cell (i := 1) (by decide)
  have c2 : w.cell? ⟨g.b, 2, none⟩ = some (.slice (some ⟨g.bb, 0, none⟩) p.m g.cB) := by rw [← eB]; exact hs.st.cell (i := 2) (by decide)
  have cr : ∀ i, i < p.m → w.cell? ⟨g.R, i, none⟩ = some (.slice (some ⟨g.rb i, 0, none⟩) (p.L + 1) (p.L + 1)) := fun i hi => (hs.rows hm0).cell hi
  have hrow := hs.row
  have hbase := hs.base hm0
  have herr := hs.err
  have hst := hs.st
  have hrows := hs.rows hm0
  have hunit := hs.unit hm0
  have hturn := hs.turn hm0
  obtain ⟨T, P, base⟩ := s
  simp only at h0 hD hP hrow hbase hp
  show Calls _ _ _ _ fun e w' => e = .returned (.tuple #[]) ∧ Kp (fun k => g.tag k < 5) w w' ∧ TS p g (prc p g) ⟨pivT T r c, pivP T P r c, upd base r c⟩ w' ∧ Arr w' g.pb (p.L + 1) (vec (pivP T P r c))
  obtain ⟨m, em⟩ : ∃ m, p.m = m := ⟨_, rfl⟩
  obtain ⟨wd, ew⟩ : ∃ wd, p.L + 1 = wd := ⟨_, rfl⟩
  have hwd : wd ≤ 30 := by omega
  have hCL := Lib.hid (fun (q cq i : Nat) (f : Nat → Rat) (hqb : q ≠ g.b) (hqR : q ≠ g.R) (hqr : q ≠ g.rb r) (hlq : lo ≤ q) (hf : ∀ k, k < wd → Dg 200 (f k)) (x : World) (hx : TabL lo x)
      (hc0 : x.cell? ⟨g.b, 0, none⟩ = some (.slice (some ⟨g.R, 0, none⟩) m g.cR)) (he : ErrAt x g.b) (hcr : x.cell? ⟨g.R, r, none⟩ = some (.slice (some ⟨g.rb r, 0, none⟩) wd wd)) (hAT : Arr x (g.rb r) wd (vec fun k => T r k / T r c)) (hAf : Arr x q wd (vec f)) =>
    clear_any lo g.b g.R (g.rb r) q g.cR m r c wd cq f (fun k => T r k / T r c) (by omega) (by omega) (by omega) hwd hqb hqR hqr hlq hf (fun k hk => (dg_div (hD r k hr (by omega)) (hD r c hr hc) h0).mono (by omega)) x hx hc0 he hcr hAT hAf)
  have HDV : Hid (∀ k, k < wd → ∀ w', TabT w' → ErrAt w' g.b → Calls Tryz.prog 110 #[.pointer (some ⟨g.b, 0, none⟩), .string (ratS (T r k)), .string (ratS (T r c))] w' fun e w2 => e = .returned (.string (ratS (T r k / T r c))) ∧ Below w'.heap.size w' w2) := Lib.hid (fun k hk w' ht he => div_any g.b _ _ w' ((hD r k hr (by omega)).mono (by omega)) ((hD r c hr hc).mono (by omega)) h0 he ht)
  have HZ : Hid (∀ k, ((ratS (T r k)).toList == [48]) = decide (T r k = 0)) := Lib.hid (fun k => ratS_is0 (T r k))
  have HQ0 : Hid (∀ k, T r k = 0 → T r k = (fun k => T r k / T r c) k) := Lib.hid (fun k h => by
    show T r k = T r k / T r c
    rw [h, Rat.div_def, Rat.zero_mul])
  have htab : ∀ x, Kp (fun j => g.tag j < 5) w x → TabL lo x := fun x hx => ht.step (hx.below_of ht.1 (fun k hk => by rw [tlo k hk]; decide))
  have htab7 : ∀ x, Kp (fun j => g.tag j < 7) w x → TabL lo x := fun x hx => ht.step (hx.below_of ht.1 (fun k hk => by rw [tlo k hk]; decide))
  have hlo : ∀ q, g.tag q ≠ 0 → lo ≤ q := fun q hq => Classical.byContradiction fun h => hq (tlo q (by omega))
  have HFIN : Hid (∀ (x y : World), Kp (fun j => g.tag j < 5) w x → (∀ j, j < p.m → Arr x (g.rb j) (p.L + 1) (vec (pivT T r c j))) → Arr x g.pb (p.L + 1) (vec (pivP T P r c)) → Arr x g.bb p.m (fun i => .int .i64 (upd base r c i)) → Kp (fun k => g.tag k < 5) w x ∧ TS p g (prc p g) ⟨pivT T r c, pivP T P r c, upd base r c⟩ x ∧ Arr x g.pb (p.L + 1) (vec (pivP T P r c))) := Lib.hid (fun x y hk h1 h2 h3 => ⟨hk, ⟨hst.kp hk (by rw [tb]; decide), fun _ => hrows.kp hk (by rw [t2]; decide), fun _ => hunit.kp hk (by rw [t3]; decide), fun _ => hturn.kp hk (by rw [t4]; decide), fun _ => h3, h1⟩, h2⟩)
  obtain ⟨q, hq⟩ : ∃ q : Nat → Rat, (fun k => T r k / T r c) = q := ⟨_, rfl⟩
  have hrm : (r : Int) < m := by omega
  have hr0 : (0 : Int) ≤ r := by omega
  have hc0' : (0 : Int) ≤ c := by omega
  have hcw : (c : Int) < wd := by omega
  have crr := cr r hr
  rw [em] at c0 c2
  rw [ew] at c1 crr
  have hrowr : Arr w (g.rb r) wd (vec (T r)) := by rw [← ew]; exact hrow r hr
  have hTc := hrowr.cell (i := c) (by omega)
  have HCR := Lib.hid cr
  have HRW := Lib.hid hrow
  unfold vec at hTc
  generalize ratS (T r c) = TC at hTc HDV
  have HDD := Lib.hid hD
  have HPP := Lib.hid hP
  clear hst hrows hunit hturn cr hrow hD hP
  go_enter Tryz.func67, Tryz.ntmps67
  go_wp2
  go_loopw [28] (fun i wr => ∃ k : Nat, k ≤ wd ∧ i = .int .i64 k ∧ Kp (fun j => j ≠ g.rb r) w wr ∧ Arr wr (g.rb r) wd (fun j => if j < k then vec q j else vec (T r) j)) (fun i _ => wd - (intOf i).toNat)
  case atStart => exact ⟨0, by omega, rfl, Kp.refl _, hrowr.congr fun i hi => by rw [if_neg (by omega)]⟩
  case round =>
    obtain ⟨k, hk, rfl, hkp, harr⟩ := hrel
    by_cases hlt : k < wd
    · have hcv := harr.cell hlt
      rw [if_neg (Nat.lt_irrefl k)] at hcv
      have hk0 : (0 : Int) ≤ k := by omega
      have hkw : (k : Int) < wd := by omega
      have hz := HZ.out k
      have hDk := HDV.out k hlt
      unfold vec at hcv
      have x0 := hkp.cell c0 (show g.b ≠ g.rb r from fun h => by have := trb r hr; rw [← h, tb] at this; omega)
      have xr := hkp.cell crr (show g.R ≠ g.rb r from fun h => by have := trb r hr; rw [← h, t2] at this; omega)
      by_cases hT0 : T r k = 0
      · rw [decide_eq_true hT0] at hz
        have HA : Hid (Arr wr (g.rb r) wd (fun j => if j < k + 1 then vec q j else vec (T r) j)) := Lib.hid (harr.congr fun i hi => vec_skip (by rw [← hq]; exact HQ0.out k hT0) i)
        generalize ratS (T r k) = V at hcv hz
        clear hT0 hDk harr
        go_wp2
        go_roundw
        case rel => exact ⟨k + 1, by omega, by go_num, hkp, HA.out⟩
        case measure => simp [intOf]; omega
      · rw [decide_eq_false hT0] at hz
        have HD := Lib.hid hDk
        have hqk : T r k / T r c = q k := by rw [← hq]
        rw [hqk] at HD
        clear hT0 hDk hqk
        generalize ratS (T r k) = V at hcv hz HD
        go_upto_region 5 with fail
        obtain ⟨W, hW⟩ : ∃ W, wr.drew = W := ⟨_, rfl⟩
        have hkpW : Kp (fun j => j ≠ g.rb r) w W := by rw [← hW]; exact hkp.drew
        have harrW : Arr W (g.rb r) wd (fun j => if j < k then vec q j else vec (T r) j) := by rw [← hW]; exact harr
        have KP := Lib.hid hkpW
        have AR := Lib.hid harrW
        have hnb : g.b ≠ g.rb r := fun h => by have := trb r hr; rw [← h, tb] at this; omega
        have hnR : g.R ≠ g.rb r := fun h => by have := trb r hr; rw [← h, t2] at this; omega
        have hlr : lo ≤ g.rb r := hlo _ (by rw [trb r hr]; omega)
        have HB : Hid (∀ x, Below W.heap.size W x → Kp (fun j => j ≠ g.rb r) w x ∧ Arr x (g.rb r) wd (fun j => if j < k then vec q j else vec (T r) j) ∧ TabT x ∧ ErrAt x g.b ∧ (∃ u, x.cell? ⟨g.rb r, k, none⟩ = some u) ∧ x.frozen? ⟨g.rb r, k, none⟩ = false ∧ x.cell? ⟨g.b, 0, none⟩ = some (.slice (some ⟨g.R, 0, none⟩) m g.cR) ∧ x.cell? ⟨g.R, r, none⟩ = some (.slice (some ⟨g.rb r, 0, none⟩) wd wd)) := Lib.hid (fun x hx => by
          have h1 := KP.out.trans (Kp.below hx)
          have h2 := AR.out.below hx
          exact ⟨h1, h2, ht.2 x (h1.lo hlr ht.1), herr.kp h1 hnb, ⟨_, h2.cell hlt⟩, h2.frozen k, h1.cell c0 hnb, h1.cell crr hnR⟩)
        obtain ⟨_, _, htW, heW, _, hfW, y0, yr⟩ := HB.out W (Below.refl _ _)
        (refine wp_region_held_drew (S := (fun w' => w'.cell? ⟨g.b, 0, none⟩ = some (.slice (some ⟨g.R, 0, none⟩) m g.cR) ∧ w'.cell? ⟨g.R, r, none⟩ = some (.slice (some ⟨g.rb r, 0, none⟩) wd wd))) (by kernel_rfl) ?_ (fun hHeld => ?_))
        · exact ⟨x0, xr⟩
        rw [hW] at hHeld ⊢
        clear hW hkpW harrW hkp harr hcv x0 xr
        (refine wpAnyH_take (i := 0) (v := ?_) rfl (by kernel_rfl) (by kernel_rfl) (by kernel_rfl) (fun _ _ _ h => h) (Or.inl ⟨by kernel_rfl, ?_⟩) (by assumption) ?_; rotate_left; (focus (intro w hSw; (try dsimp only at hSw); go_simp; all_goals with_reducible rfl)); (try simp only [Act.put, List.getElem_toArray, List.getElem_cons_succ, List.getElem_cons_zero, List.setIfInBounds_toArray, List.set_cons_zero, List.set_cons_succ]))
        (refine wpAnyH_take (i := 1) (v := ?_) rfl (by kernel_rfl) (by kernel_rfl) (by kernel_rfl) (fun _ _ _ h => h) (Or.inl ⟨by kernel_rfl, ?_⟩) (by assumption) ?_; rotate_left; (focus (intro w hSw; (try dsimp only at hSw); go_simp; all_goals with_reducible rfl)); (try simp only [Act.put, List.getElem_toArray, List.getElem_cons_succ, List.getElem_cons_zero, List.setIfInBounds_toArray, List.set_cons_zero, List.set_cons_succ]))
        (refine wpAnyH_take (i := 2) (v := ?_) rfl (by kernel_rfl) (by kernel_rfl) (by kernel_rfl) (fun _ _ _ h => h) (Or.inl ⟨by kernel_rfl, ?_⟩) (by assumption) ?_; rotate_left; (focus (intro w hSw; (try dsimp only at hSw); go_simp; all_goals with_reducible rfl)); (try simp only [Act.put, List.getElem_toArray, List.getElem_cons_succ, List.getElem_cons_zero, List.setIfInBounds_toArray, List.set_cons_zero, List.set_cons_succ]))
        (refine wpAnyH_take (i := 3) (v := ?_) rfl (by kernel_rfl) (by kernel_rfl) (by kernel_rfl) (fun _ _ _ h => h) (Or.inl ⟨by kernel_rfl, ?_⟩) (by assumption) ?_; rotate_left; (focus (intro w hSw; (try dsimp only at hSw); go_simp; all_goals with_reducible rfl)); (try simp only [Act.put, List.getElem_toArray, List.getElem_cons_succ, List.getElem_cons_zero, List.setIfInBounds_toArray, List.set_cons_zero, List.set_cons_succ]))
        (refine wpAnyH_take (i := 4) (v := ?_) rfl (by kernel_rfl) (by kernel_rfl) (by kernel_rfl) (fun _ _ _ h => h) (Or.inl ⟨by kernel_rfl, ?_⟩) (by assumption) ?_; rotate_left; (focus (intro w hSw; (try dsimp only at hSw); go_simp; all_goals with_reducible rfl)); (try simp only [Act.put, List.getElem_toArray, List.getElem_cons_succ, List.getElem_cons_zero, List.setIfInBounds_toArray, List.set_cons_zero, List.set_cons_succ]))
        (refine wpAnyH_take (i := 5) (v := ?_) rfl (by kernel_rfl) (by kernel_rfl) (by kernel_rfl) (fun _ _ _ h => h) (Or.inl ⟨by kernel_rfl, ?_⟩) (by assumption) ?_; rotate_left; (focus (intro w hSw; (try dsimp only at hSw); go_simp; all_goals with_reducible rfl)); (try simp only [Act.put, List.getElem_toArray, List.getElem_cons_succ, List.getElem_cons_zero, List.setIfInBounds_toArray, List.set_cons_zero, List.set_cons_succ]))
        (refine wpAnyH_take (i := 6) (v := ?_) rfl (by kernel_rfl) (by kernel_rfl) (by kernel_rfl) (fun _ _ _ h => h) (Or.inl ⟨by kernel_rfl, ?_⟩) (by assumption) ?_; rotate_left; (focus (intro w hSw; (try dsimp only at hSw); go_simp; all_goals with_reducible rfl)); (try simp only [Act.put, List.getElem_toArray, List.getElem_cons_succ, List.getElem_cons_zero, List.setIfInBounds_toArray, List.set_cons_zero, List.set_cons_succ]))
        (refine wpAnyH_take (i := 7) (v := ?_) rfl (by kernel_rfl) (by kernel_rfl) (by kernel_rfl) (fun _ _ _ h => h) (Or.inl ⟨by kernel_rfl, ?_⟩) (by assumption) ?_; rotate_left; (focus (intro w hSw; (try dsimp only at hSw); go_simp; all_goals with_reducible rfl)); (try simp only [Act.put, List.getElem_toArray, List.getElem_cons_succ, List.getElem_cons_zero, List.setIfInBounds_toArray, List.set_cons_zero, List.set_cons_succ]))
        (refine wpAnyH_take (i := 8) (v := ?_) rfl (by kernel_rfl) (by kernel_rfl) (by kernel_rfl) (fun _ _ _ h => h) (Or.inl ⟨by kernel_rfl, ?_⟩) (by assumption) ?_; rotate_left; (focus (intro w hSw; (try dsimp only at hSw); go_simp; all_goals with_reducible rfl)); (try simp only [Act.put, List.getElem_toArray, List.getElem_cons_succ, List.getElem_cons_zero, List.setIfInBounds_toArray, List.set_cons_zero, List.set_cons_succ]))
        (refine wpAnyH_take (i := 9) (v := ?_) rfl (by kernel_rfl) (by kernel_rfl) (by kernel_rfl) (fun _ _ _ h => h) (Or.inl ⟨by kernel_rfl, ?_⟩) (by assumption) ?_; rotate_left; (focus (intro w hSw; (try dsimp only at hSw); go_simp; all_goals with_reducible rfl)); (try simp only [Act.put, List.getElem_toArray, List.getElem_cons_succ, List.getElem_cons_zero, List.setIfInBounds_toArray, List.set_cons_zero, List.set_cons_succ]))
        (refine wpAnyH_take (i := 10) (v := ?_) rfl (by kernel_rfl) (by kernel_rfl) (by kernel_rfl) (fun _ _ _ h => h) (Or.inl ⟨by kernel_rfl, ?_⟩) (by assumption) ?_; rotate_left; (focus (intro w hSw; (try dsimp only at hSw); go_simp; all_goals with_reducible rfl)); (try simp only [Act.put, List.getElem_toArray, List.getElem_cons_succ, List.getElem_cons_zero, List.setIfInBounds_toArray, List.set_cons_zero, List.set_cons_succ]))
        (refine wpAnyH_ready (rs := [11]) (by kernel_rfl) (by simp) ?_; refine AllReadyH.cons rfl (fun K hK => ?_) AllReadyH.nil)
        go_simp
        go_at_call 110
        (with_reducible refine (HD.out W htW heW).mono ?_)
        rintro e V1 ⟨rfl, hb1⟩
        obtain ⟨kp1, ar1, ht1, he1, ⟨u1, hc1⟩, hf1, z0, zr⟩ := HB.out V1 hb1
        (refine hK.out _ _ ⟨z0, zr⟩ (fun hHeld => ?_); clear hK K; (try simp only [Act.put, List.getElem_toArray, List.getElem_cons_succ, List.getElem_cons_zero, List.setIfInBounds_toArray, List.set_cons_zero, List.set_cons_succ]))
        have HF : Hid (Kp (fun j => j ≠ g.rb r) w (V1.setCell ⟨g.rb r, k, none⟩ (.string (ratS (q k)))) ∧ Arr (V1.setCell ⟨g.rb r, k, none⟩ (.string (ratS (q k)))) (g.rb r) wd (fun j => if j < k + 1 then vec q j else vec (T r) j)) := Lib.hid ⟨kp1.set (fun j _ h => h) _, (ar1.set k (vec q k)).congr fun j _ => vec_step j⟩
        have HS : Hid ((V1.setCell ⟨g.rb r, k, none⟩ (.string (ratS (q k)))).cell? ⟨g.b, 0, none⟩ = some (.slice (some ⟨g.R, 0, none⟩) m g.cR) ∧ (V1.setCell ⟨g.rb r, k, none⟩ (.string (ratS (q k)))).cell? ⟨g.R, r, none⟩ = some (.slice (some ⟨g.rb r, 0, none⟩) wd wd)) := Lib.hid ⟨(World.cell?_setCell_far _ _ _ _ (Ne.symm hnb)).trans z0, (World.cell?_setCell_far _ _ _ _ (Ne.symm hnR)).trans zr⟩
        clear kp1 ar1
        (refine wpAnyH_take (i := 12) (v := ?_) rfl (by kernel_rfl) (by kernel_rfl) (by kernel_rfl) (fun _ _ _ h => h) (Or.inl ⟨by kernel_rfl, ?_⟩) (by assumption) ?_; rotate_left; (focus (intro w hSw; (try dsimp only at hSw); go_simp; all_goals with_reducible rfl)); (try simp only [Act.put, List.getElem_toArray, List.getElem_cons_succ, List.getElem_cons_zero, List.setIfInBounds_toArray, List.set_cons_zero, List.set_cons_succ]))
        (refine wpAnyH_ready (rs := [13]) (by kernel_rfl) (by simp) ?_; refine AllReadyH.cons rfl (fun K hK => ?_) AllReadyH.nil)
        go_simp
        (refine hK.out _ _ HS.out (fun hHeld => ?_); clear hK K; (try simp only [Act.put, List.getElem_toArray, List.getElem_cons_succ, List.getElem_cons_zero, List.setIfInBounds_toArray, List.set_cons_zero, List.set_cons_succ]))
        (refine wpAnyH_done (by kernel_rfl) ?_ _)
        clear hHeld
        go_wp2
        go_roundw
        case rel => exact ⟨k + 1, by omega, by go_num, HF.out⟩
        case measure => simp [intOf]; omega
    · obtain rfl : k = wd := by omega
      clear hlt
      have hkp7 : Kp (fun j => g.tag j < 7) w wr := hkp.weak fun j _ hj h => by have := trb r hr; rw [← h] at this; omega
      have ar1 : Arr wr (g.rb r) k (vec q) := harr.congr fun i hi => if_pos hi
      have x0 := hkp7.cell c0 (by rw [tb]; decide)
      have hall : ∀ j, j < m → Arr wr (g.rb j) k (vec (mid T r c 0 j)) := fun j hj => by
        by_cases e : j = r
        · subst e; rw [mid_row, hq]; exact ar1
        · rw [mid_zero T r c e, ← ew]
          exact (HRW.out j (by omega)).kp hkp (fun h => by have h1 := trb j (by omega); have h2 := trb r hr; rw [h] at h1; omega)
      clear hkp harr ar1
      obtain ⟨wo, hwo⟩ : ∃ wo : World, wo = wr := ⟨_, rfl⟩
      subst hwo
      go_wp2
      go_loopw [54] (fun i wr => ∃ j : Nat, j ≤ m ∧ i = .int .i64 j ∧ Kp (fun j => g.tag j < 7) w wr ∧ ∀ l, l < m → Arr wr (g.rb l) k (vec (mid T r c j l))) (fun i _ => m - (intOf i).toNat)
      case atStart => exact ⟨0, by omega, rfl, hkp7, hall⟩
      case round =>
        obtain ⟨i, hi, rfl, hkp, harr⟩ := hrel
        by_cases hlt : i < m
        · have x0 := hkp.cell c0 (by rw [tb]; decide)
          have xi := hkp.cell (HCR.out i (by omega)) (by rw [t2]; decide)
          rw [ew] at xi
          have xr := hkp.cell crr (by rw [t2]; decide)
          have hi0 : (0 : Int) ≤ i := by omega
          have him : (i : Int) < m := by omega
          by_cases hir : i = r
          · have HA : Hid (∀ l, l < m → Arr wr (g.rb l) k (vec (mid T r c (i + 1) l))) := Lib.hid (fun l hl => by rw [mid_skip T r c (.inr hir)]; exact harr l hl)
            have hir2 : (i : Int) = r := by omega
            clear harr
            subst hir
            go_wp2
            go_roundw
            case rel => exact ⟨i + 1, by omega, by go_num, hkp, HA.out⟩
            case measure => simp [intOf]; omega
          · have hne : ¬ (i : Int) = r := by omega
            have ti := trb i (by omega)
            have tr' := trb r hr
            have HC := Lib.hid (hCL.out (g.rb i) k i (T i) (fun h => by rw [h, tb] at ti; omega) (fun h => by rw [h, t2] at ti; omega) (fun h => by rw [h, tr'] at ti; omega) (hlo _ (by rw [ti]; omega)) (fun l hl => HDD.out i l (by omega) (by omega)) wr (htab7 wr hkp) x0 (herr.kp hkp (by rw [tb]; decide)) xr (by rw [← mid_row T r c i]; exact harr r (by omega)) (by have h := harr i hlt; rw [mid_same T r c hir] at h; exact h))
            have HK : Hid (∀ x, Kp (fun j => j ≠ g.rb i) wr x → Arr x (g.rb i) k (vec fun l => T i l - T i c * (T r l / T r c)) → Kp (fun j => g.tag j < 7) w x ∧ ∀ l, l < m → Arr x (g.rb l) k (vec (mid T r c (i + 1) l))) := Lib.hid (fun x h1 h2 => ⟨hkp.trans (h1.weak fun j _ hj h => by rw [h, ti] at hj; omega), fun l hl => by
              by_cases e : l = i
              · subst e; rw [mid_next T r c hir]; exact h2
              · rw [mid_skip T r c (.inl e)]
                exact (harr l hl).kp h1 (fun h => by have := trb l (by omega); rw [h, ti] at this; omega)⟩)
            clear harr
            go_wp2_with (go_at_call 111; (with_reducible refine HC.out.mono ?_); rintro e w2 ⟨rfl, h1, h2⟩; have HA := Lib.hid (HK.out w2 h1 h2); clear h1 h2)
            go_roundw
            case rel => exact ⟨i + 1, by omega, by go_num, HA.out⟩
            case measure => simp [intOf]; omega
        · obtain rfl : i = m := by omega
          clear hlt
          have x0 := hkp.cell c0 (by rw [tb]; decide)
          have x1 := hkp.cell c1 (by rw [tb]; decide)
          have x2 := hkp.cell c2 (by rw [tb]; decide)
          have xr := hkp.cell crr (by rw [t2]; decide)
          have tr' := trb r hr
          have HC := Lib.hid (hCL.out g.pb g.cP r P (fun h => by rw [h, tb] at hpb; omega) (fun h => by rw [h, t2] at hpb; omega) (fun h => by rw [h, tr'] at hpb; omega) (hlo _ (by rw [hpb]; omega)) (fun l hl => HPP.out l (by omega)) wr (htab7 wr hkp) x0 (herr.kp hkp (by rw [tb]; decide)) xr (by rw [← mid_row T r c i]; exact harr r (by omega)) (by rw [← ew]; exact hp.kp hkp (by rw [hpb]; decide)))
          have HK : Hid (∀ x, Kp (fun j => j ≠ g.pb) wr x → Arr x g.pb k (vec fun l => P l - P c * (T r l / T r c)) → Kp (fun k => g.tag k < 5) w (x.setCell ⟨g.bb, r, none⟩ (.int .i64 c)) ∧ TS p g (prc p g) ⟨pivT T r c, pivP T P r c, upd base r c⟩ (x.setCell ⟨g.bb, r, none⟩ (.int .i64 c)) ∧ Arr (x.setCell ⟨g.bb, r, none⟩ (.int .i64 c)) g.pb (p.L + 1) (vec (pivP T P r c))) := Lib.hid (fun x h1 h2 => by
            have hb := (hbase.kp hkp (by rw [t5]; decide)).kp h1 (fun h => by rw [h, hpb] at t5; omega)
            have kx : Kp (fun k => g.tag k < 5) w x := (hkp.weak fun j _ hj => by omega).trans (h1.weak fun j _ hj h => by rw [h, hpb] at hj; omega)
            refine HFIN.out _ x (kx.set (fun j _ hj h => by rw [h, t5] at hj; omega) _) (fun j hj => ?_) ?_ ?_
            · have tj := trb j hj
              rw [← mid_last T r c p.m hj, ew, em]
              exact ((harr j (by omega)).kp h1 (fun h => by rw [h, hpb] at tj; omega)).far (fun h => by rw [h, t5] at tj; omega) _
            · rw [ew]
              exact h2.far (fun h => by rw [h, t5] at hpb; omega) _
            · refine (hb.set r _).congr fun j hj => ?_
              show (if j = r then Value.int .i64 c else .int .i64 (base j)) = .int .i64 ((upd base r c j : Nat) : Int)
              unfold upd
              by_cases e : j = r
              · rw [if_pos e, if_pos e]
              · rw [if_neg e, if_neg e])
          have hy : ∀ x, Kp (fun j => j ≠ g.pb) wr x → x.cell? ⟨g.b, 2, none⟩ = some (.slice (some ⟨g.bb, 0, none⟩) i g.cB) ∧ x.cell? ⟨g.bb, r, none⟩ = some (.int .i64 (base r)) ∧ x.frozen? ⟨g.bb, r, none⟩ = false := fun x h1 => by
            have hb := (hbase.kp hkp (by rw [t5]; decide)).kp h1 (fun h => by rw [h, hpb] at t5; omega)
            exact ⟨h1.cell x2 (fun h => by rw [h, hpb] at tb; omega), hb.cell hr, hb.frozen r⟩
          have HY := Lib.hid hy
          clear harr hy
          go_wp2_with (go_at_call 111; (with_reducible refine HC.out.mono ?_); rintro e w2 ⟨rfl, h1, h2⟩; have HA := Lib.hid (HK.out w2 h1 h2); obtain ⟨y2, yb, yf⟩ := HY.out w2 h1; clear h1 h2)
          go_end0
          exact ⟨rfl, HA.out⟩
end Go.Proofs.YthcmopgdjibojaaGreatDoor.smp

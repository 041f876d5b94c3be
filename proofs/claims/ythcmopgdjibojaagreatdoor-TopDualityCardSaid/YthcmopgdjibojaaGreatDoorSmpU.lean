import Derived.Test.YthcmopgdjibojaaGreatDoorSmpR
import Derived.Test.YthcmopgdjibojaaGreatDoorSmpE
import Derived.Test.YthcmopgdjibojaaGreatDoorSmpF
import Derived.Test.YthcmopgdjibojaaGreatDoorSmpH
import Derived.Test.YthcmopgdjibojaaGreatDoorSmpI
import Derived.Test.YthcmopgdjibojaaGreatDoorSmpK
import Derived.Test.YthcmopgdjibojaaGreatDoorSmpM
import Derived.Test.YthcmopgdjibojaaGreatDoorLnrX
/- simplex: the stages of Solve. -/
namespace Go.Proofs.YthcmopgdjibojaaGreatDoor.smp
open Go.RowKit
open Go.Proofs.YthcmopgdjibojaaGreatDoor.lib Go.Proofs.YthcmopgdjibojaaGreatDoor.app Go.Proofs.YthcmopgdjibojaaGreatDoor.nt Go.Proofs.YthcmopgdjibojaaGreatDoor.rd Go.Proofs.YthcmopgdjibojaaGreatDoor.wh Go.Proofs.YthcmopgdjibojaaGreatDoor.smx Go.Proofs.YthcmopgdjibojaaGreatDoor.rat Go.Proofs.YthcmopgdjibojaaGreatDoor.typ Go.Proofs.YthcmopgdjibojaaGreatDoor.lnr
set_option linter.unusedVariables false
set_option linter.unusedSimpArgs false

/-- The program is small. -/
structure PBd (p : Lp) : Prop where
  inK : p.In Lp.K63
  m : p.m ≤ 6
  n : p.n ≤ 8
theorem PBd.L {p : Lp} (h : PBd p) : p.L ≤ 20 := by
  have h1 := h.m
  have h2 := h.n
  have h3 := p.sl_le p.m
  unfold Lp.L Lp.N; omega
theorem PBd.N (p : Lp) : p.N ≤ p.L := by unfold Lp.L; omega
theorem dg_int {q : Rat} (h : IntB Lp.K63 q) : Dg 200 q := by
  obtain ⟨z, rfl, hz⟩ := h
  exact Lp.dg_of (a := Lp.K63) (b := 1) (by rw [Rat.num_intCast]; exact hz) (by rw [Rat.den_intCast]; exact Nat.le_refl _) (by decide +kernel) (by decide +kernel)
/-- A tableau with reduced costs. -/
structure Stg (p : Lp) (lo : Nat) (g : Geo) (s : Tab) (w1 w : World) : Prop where
  geo : GeoOk p g lo
  pb : g.tag g.pb = 6
  ts : TS p g (prc p g) s w
  pr : Arr w g.pb (p.L + 1) (vec s.P)
  bel : Below lo w1 w
theorem GeoOk.blo {p : Lp} {g : Geo} {lo : Nat} (h : GeoOk p g lo) : lo ≤ g.b := Classical.byContradiction fun e => by
  have h1 := h.low g.b (by omega)
  have h2 := h.b
  omega
theorem charge_stg (p : Lp) (g : Geo) (b : Nat) (hgb : g.b = b) (lo : Nat) (pv : Value) (s : Tab) (c : Nat → Rat) (ck cc : Nat) (hB : PBd p) (hg : GeoOk p g lo) (hok : p.TabOk s) (hci : ∀ k, IntB Lp.K63 (c k)) (hcL : c p.L = 0)
    (w1 w : World) (ht : TabL lo w1) (hb : Below lo w1 w) (hs : TS p g pv s w) (hck : Arr w ck p.L (vec c)) (hcb : ck ≠ b) :
    Calls Tryz.prog 23 #[.pointer (some ⟨b, 0, none⟩), .slice (some ⟨ck, 0, none⟩) p.L cc] w fun e w' => e = .returned (.tuple #[]) ∧ ∃ g' : Geo, g'.b = b ∧ Stg p lo g' ⟨s.T, chargeP p.m c s, s.base⟩ w1 w' := by
  subst hgb
  have htw := ht.step hb
  refine (charge_any p g lo pv s c ck cc hg hB.m hB.L hok.low hcL (fun i k hi _ => hok.dg hB.inK hB.m hi k) (fun k _ => dg_int (hci k)) (fun i k hi _ => hok.pdg hB.inK hB.m hci hi k) w htw hs hck hcb).mono ?_
  rintro e w' ⟨rfl, nb, hnb, hk, h1, h2⟩
  obtain ⟨h3, h4⟩ := hs.withP (nb := nb) (c := p.L + 1) hg (Nat.le_trans htw.1 hnb) hnb
  exact ⟨rfl, g.withP nb (p.L + 1), rfl, ⟨h3, h4, ⟨h1.st, h1.rows, h1.unit, h1.turn, h1.base, h1.row⟩, h2, hb.trans (hk.lo hg.blo htw.1)⟩⟩
theorem Stg.kp {p : Lp} {lo : Nat} {g : Geo} {s s' : Tab} {w1 w w' : World} (h : Stg p lo g s w1 w) (ht : TabL lo w1) (hk : Kp (fun k => g.tag k < 5) w w') (h1 : TS p g (prc p g) s' w') (h2 : Arr w' g.pb (p.L + 1) (vec s'.P)) : Stg p lo g s' w1 w' :=
  ⟨h.geo, h.pb, h1, h2, h.bel.trans (hk.below_of (ht.step h.bel).1 fun k hk => by rw [h.geo.low k hk]; decide)⟩
theorem Stg.below {p : Lp} {lo : Nat} {g : Geo} {s : Tab} {w1 w w' : World} (h : Stg p lo g s w1 w) (ht : TabL lo w1) (hb : Below w.heap.size w w') : Stg p lo g s w1 w' :=
  ⟨h.geo, h.pb, h.ts.below hb, h.pr.below hb, h.bel.trans (hb.mono (ht.step h.bel).1)⟩
theorem Stg.err {p : Lp} {lo : Nat} {g : Geo} {s : Tab} {w1 w : World} (h : Stg p lo g s w1 w) : ErrAt w g.b := h.ts.err
/-- The first phase ends. -/
theorem improve1 (p : Lp) (g : Geo) (b : Nat) (hgb : g.b = b) (lo : Nat) (s0 : Tab) (hB : PBd p) (w1 w : World) (ht : TabL lo w1) (hs : Stg p lo g s0 w1 w) (hJ : Lp.J1 p s0) :
    Calls Tryz.prog 25 #[.pointer (some ⟨b, 0, none⟩)] w fun e w' => e = .returned (.int .i64 (-1)) ∧ ∃ s, Lp.J1 p s ∧ (∀ k, k < p.N → 0 ≤ s.P k) ∧ Stg p lo g s w1 w' := by
  subst hgb
  refine (improve_any p g lo p.L s0 (Lp.J1 p) hs.geo hs.pb hB.m hB.L (PBd.N p) (PBd.N p) hJ (fun s r c h hb => h.step hb) (fun s h => h.dg hB.inK hB.m) (Run.start hJ.ok.inv.unit hJ.pr.priced hJ.fe hJ.ok.low) w (ht.step hs.bel) hs.ts hs.pr).mono ?_
  rintro e w' ⟨s, hj, hk, h1, h2, h3⟩
  rcases h3 with ⟨rfl, h3⟩ | ⟨c, hc, rfl, hneg, hno⟩
  · exact ⟨rfl, s, hj, h3, hs.kp ht hk h1 h2⟩
  · obtain ⟨i, hi, hpos⟩ := Lp.phase1_leaves hj.ok hj.pr hc hneg
    exact absurd hpos (hno i hi)
theorem clean1 (p : Lp) (g : Geo) (b : Nat) (hgb : g.b = b) (lo : Nat) (s0 : Tab) (hB : PBd p) (w1 w : World) (ht : TabL lo w1) (hs : Stg p lo g s0 w1 w) (hJ : Lp.JC p s0) :
    Calls Tryz.prog 28 #[.pointer (some ⟨b, 0, none⟩)] w fun e w' => e = .returned (.tuple #[]) ∧ ∃ s, Lp.J2 p ⟨s.T, chargeP p.m p.c2 s, s.base⟩ ∧ p.TabOk s ∧ Stg p lo g s w1 w' := by
  subst hgb
  refine (clean_any p g lo s0 (Lp.JC p) hs.geo hs.pb hB.m hB.L (PBd.N p) hJ (fun s r c h hr hc hb hne => h.step hr hc hb hne) (fun s h => h.dg hB.inK hB.m) w (ht.step hs.bel) hs.ts hs.pr).mono ?_
  rintro e w' ⟨s, rfl, hj, hk, h1, h2, h3⟩
  exact ⟨rfl, s, hj.charge (fun q hq hN k hkN => h3 q hq hN k hkN), hj.ok, hs.kp ht hk h1 h2⟩
/-- The second phase ends. -/
theorem improve2 (p : Lp) (g : Geo) (b : Nat) (hgb : g.b = b) (lo : Nat) (s0 : Tab) (hB : PBd p) (w1 w : World) (ht : TabL lo w1) (hs : Stg p lo g s0 w1 w) (hJ : Lp.J2 p s0) :
    Calls Tryz.prog 25 #[.pointer (some ⟨b, 0, none⟩)] w fun e w' => ∃ z : Int, e = .returned (.int .i64 z) ∧ ∃ s, Lp.J2 p s ∧ Stg p lo g s w1 w' ∧ ((z = -1 ∧ ∀ k, k < p.N → 0 ≤ s.P k) ∨ ∃ c : Nat, c < p.N ∧ z = c ∧ s.P c < 0 ∧ ∀ i, i < p.m → ¬ 0 < s.T i c) := by
  subst hgb
  refine (improve_any p g lo p.L s0 (Lp.J2 p) hs.geo hs.pb hB.m hB.L (PBd.N p) (PBd.N p) hJ (fun s r c h hb => h.step hb) (fun s h => h.dg hB.inK hB.m) (Run.start hJ.ok.inv.unit hJ.pr.priced hJ.fe hJ.ok.low) w (ht.step hs.bel) hs.ts hs.pr).mono ?_
  rintro e w' ⟨s, hj, hk, h1, h2, h3⟩
  rcases h3 with ⟨rfl, h3⟩ | ⟨c, hc, rfl, h3⟩
  · exact ⟨-1, rfl, s, hj, hs.kp ht hk h1 h2, .inl ⟨rfl, h3⟩⟩
  · exact ⟨c, rfl, s, hj, hs.kp ht hk h1 h2, .inr ⟨c, hc, rfl, h3⟩⟩
/-- Costs of the first and of the second phase. -/
theorem costs1 (t : Lnr) (p : Lp) (hp : lpOf t = p) (n m : Nat) (hn : t.cost.length = n) (hm : t.rows.length = m) (g : Geo) (b : Nat) (hgb : g.b = b) (lo : Nat) (pv : Value) (s : Tab) (hB : PBd p) (h64 : LnrFits t) (C0 : Option Addr) (c0 : Nat) (C1 : Option Addr) (c1 : Nat) (w1 w : World) (ht : TabL lo w1) (hb : Below lo w1 w) (B : Nat) (hBw : B ≤ lo) (hI : Ints w1 B C0 t.cost) (hs : TS p g pv s w) :
    Calls Tryz.prog 24 #[.pointer (some ⟨b, 0, none⟩), LnV n m C0 c0 C1 c1, .string ⟨#[49]⟩, .bool false] w fun e w' => ∃ ck, ck ≠ b ∧ e = .returned (.slice (some ⟨ck, 0, none⟩) p.L p.L) ∧ Arr w' ck p.L (vec p.c1) ∧ TS p g pv s w' ∧ Below lo w1 w' := by
  subst hp hn hm hgb
  have htw := ht.step hb
  have h := costs_any (lpOf t) g pv s 1 false t.cost C0 c0 C1 c1 rfl (fun k hk => rfl) h64 hB.L rfl (lpOf t).n_le w B (Nat.le_trans hBw htw.1) (hI.below (hb.mono hBw)) htw.tab hs
  rw [one_S] at h
  refine h.mono ?_
  rintro e w' ⟨ck, h1, rfl, h2, h3⟩
  refine ⟨ck, fun e => ?_, rfl, h2.congr fun k hk => ?_, hs.below h3, hb.trans (h3.mono htw.1)⟩
  · have := hs.st.lt; omega
  · unfold vec cG Lp.c1
    rw [if_neg (fun h => by cases h.2)]
    by_cases h : (lpOf t).N ≤ k
    · rw [if_pos h, if_pos ⟨h, hk⟩]
    · rw [if_neg h, if_neg (fun h' => h h'.1)]
theorem costs2 (t : Lnr) (p : Lp) (hp : lpOf t = p) (n m : Nat) (hn : t.cost.length = n) (hm : t.rows.length = m) (g : Geo) (b : Nat) (hgb : g.b = b) (lo : Nat) (pv : Value) (s : Tab) (hB : PBd p) (h64 : LnrFits t) (C0 : Option Addr) (c0 : Nat) (C1 : Option Addr) (c1 : Nat) (w1 w : World) (ht : TabL lo w1) (hb : Below lo w1 w) (B : Nat) (hBw : B ≤ lo) (hI : Ints w1 B C0 t.cost) (hs : TS p g pv s w) :
    Calls Tryz.prog 24 #[.pointer (some ⟨b, 0, none⟩), LnV n m C0 c0 C1 c1, .string ⟨#[48]⟩, .bool true] w fun e w' => ∃ ck, ck ≠ b ∧ e = .returned (.slice (some ⟨ck, 0, none⟩) p.L p.L) ∧ Arr w' ck p.L (vec p.c2) ∧ TS p g pv s w' ∧ Below lo w1 w' := by
  subst hp hn hm hgb
  have htw := ht.step hb
  have h := costs_any (lpOf t) g pv s 0 true t.cost C0 c0 C1 c1 rfl (fun k hk => rfl) h64 hB.L rfl (lpOf t).n_le w B (Nat.le_trans hBw htw.1) (hI.below (hb.mono hBw)) htw.tab hs
  rw [rat_zero] at h
  refine h.mono ?_
  rintro e w' ⟨ck, h1, rfl, h2, h3⟩
  refine ⟨ck, fun e => ?_, rfl, h2.congr fun k hk => ?_, hs.below h3, hb.trans (h3.mono htw.1)⟩
  · have := hs.st.lt; omega
  · unfold vec cG Lp.c2
    by_cases h : k < (lpOf t).n
    · rw [if_pos ⟨h, rfl⟩, if_pos h]
    · rw [if_neg (fun h' => h h'.1), if_neg h]
      by_cases h : (lpOf t).N ≤ k
      · rw [if_pos h]
      · rw [if_neg h]
theorem bd_of {t : Lnr} (h0 : LnOk t) (h64 : LnrFits t) (hr64 : ∀ r ∈ t.rows, LrwFits r) (hn8 : t.cost.length ≤ 8) (hm6 : t.rows.length ≤ 6) : PBd (lpOf t) := by
  have hz : (0 : Int).natAbs ≤ Lp.K63 := by decide
  have h9 : ∀ z : Int, i64Q z → z.natAbs ≤ Lp.K63 := fun z h => by unfold i64Q at h; unfold Lp.K63; omega
  refine ⟨⟨by decide, fun i k hi hk => ?_, fun i hi => ?_, fun k hk => ?_⟩, hm6, hn8⟩
  · obtain ⟨r, hr⟩ : ∃ r, t.rows[i]? = some r := ⟨t.rows[i], List.getElem?_eq_getElem hi⟩
    rw [(lp_row hr).2.2 k]
    cases e : r.coef[k]? with
    | none => exact hz
    | some x => exact h9 x ((hr64 r (List.mem_of_getElem? hr)).1 x (List.mem_of_getElem? e))
  · obtain ⟨r, hr⟩ : ∃ r, t.rows[i]? = some r := ⟨t.rows[i], List.getElem?_eq_getElem hi⟩
    rw [(lp_row hr).2.1]
    exact h9 _ (hr64 r (List.mem_of_getElem? hr)).2.2
  · show ((t.cost[k]?.getD 0 : Int)).natAbs ≤ _
    cases e : t.cost[k]? with
    | none => exact hz
    | some x => exact h9 x (h64 x (List.mem_of_getElem? e))
/-! What Solve reads off. -/
theorem xv_dg {p : Lp} {s : Tab} (hB : PBd p) (h : p.TabOk s) (k : Nat) : Dg 200 (Lp.xv s p.m p.L k) := by
  unfold Lp.xv
  by_cases e : ∃ q, q < p.m ∧ s.base q = k
  · obtain ⟨q, hq, e⟩ := e
    rw [sm_one hq]
    · rw [if_pos e]; exact h.dg hB.inK hB.m hq _
    · intro i hi hne
      rw [if_neg]
      intro e2
      have hc := e2.trans e.symm
      rcases Nat.lt_or_ge i q with h1 | h1
      · exact Lp.unit_inj h.inv.unit hq h1 hc
      · exact Lp.unit_inj h.inv.unit hi (show q < i by omega) hc.symm
  · rw [sm_zero]
    · exact Dg.zero.mono (by omega)
    · intro q hq
      rw [if_neg (fun e2 => e ⟨q, hq, e2⟩)]
theorem ray_dg {p : Lp} {s : Tab} (hB : PBd p) (h : p.TabOk s) (col : Nat) (hb : ∀ i, i < p.m → s.base i ≠ col) (k : Nat) : Dg 200 (Lp.ray s p.m col k) := by
  unfold Lp.ray
  by_cases e : ∃ q, q < p.m ∧ s.base q = k
  · obtain ⟨q, hq, e⟩ := e
    rw [sm_one hq]
    · rw [if_pos e, if_neg (by rw [← e]; exact hb q hq), Rat.zero_add]
      have h1 := h.dg hB.inK hB.m hq col
      exact ⟨by rw [Rat.neg_num, Int.natAbs_neg]; exact h1.1, by rw [Rat.neg_den]; exact h1.2⟩
    · intro i hi hne
      rw [if_neg]
      intro e2
      have hc := e2.trans e.symm
      rcases Nat.lt_or_ge i q with h1 | h1
      · exact Lp.unit_inj h.inv.unit hq h1 hc
      · exact Lp.unit_inj h.inv.unit hi (show q < i by omega) hc.symm
  · rw [sm_zero]
    · rw [Rat.add_zero]
      by_cases ek : k = col
      · rw [if_pos ek]; exact dg_int ⟨1, rfl, by decide⟩
      · rw [if_neg ek]; exact Dg.zero.mono (by omega)
    · intro q hq
      rw [if_neg (fun e2 => e ⟨q, hq, e2⟩)]
theorem values1 (p : Lp) (g : Geo) (b : Nat) (hgb : g.b = b) (lo : Nat) (s : Tab) (hB : PBd p) (hok : p.TabOk s) (n : Nat) (hn : p.n = n) (w1 w : World) (hs : Stg p lo g s w1 w) :
    Calls Tryz.prog 29 #[.pointer (some ⟨b, 0, none⟩)] w (RatsRes n (Lp.xv s p.m p.L) w) := by
  subst hgb hn
  refine (values_any p g (prc p g) lo s hs.geo hB.m hB.L (Nat.le_trans hB.n (by omega)) (fun q i hi hq => Lp.unit_inj hok.inv.unit hi hq) w hs.ts).mono ?_
  intro e w' h
  obtain ⟨A, c, h1, h2, h3⟩ := RatsRes.of_out h
  refine ⟨A, c, h1, h2.congr fun k _ => ?_, h3⟩
  unfold scF Lp.xv
  rw [Rat.zero_add]
theorem ray1 (p : Lp) (g : Geo) (b : Nat) (hgb : g.b = b) (lo : Nat) (s : Tab) (hB : PBd p) (hJ : Lp.J2 p s) (n : Nat) (hn : p.n = n) (col : Nat) (hc : col < p.N) (hneg : s.P col < 0) (w1 w : World) (ht : TabL lo w1) (hs : Stg p lo g s w1 w) :
    Calls Tryz.prog 30 #[.pointer (some ⟨b, 0, none⟩), .int .i64 col] w (RatsRes n (Lp.ray s p.m col) w) := by
  subst hgb hn
  refine (ray_any p g (prc p g) lo s hs.geo hB.m hB.L (Nat.le_trans hB.n (by omega)) (fun q i hi hq => Lp.unit_inj hJ.ok.inv.unit hi hq) col (by have := PBd.N p; omega) (Lp.basic_price hJ.pr.priced hneg) (fun i hi => hJ.ok.dg hB.inK hB.m hi col) w (ht.step hs.bel).tab hs.ts).mono ?_
  intro e w' h
  obtain ⟨A, c, h1, h2, h3⟩ := RatsRes.of_out h
  refine ⟨A, c, h1, h2.congr fun k _ => ?_, h3⟩
  unfold scF Lp.ray
  simp only [Rat.sub_eq_add_neg, Rat.zero_add]
theorem duals1 (p : Lp) (g : Geo) (b : Nat) (hgb : g.b = b) (lo : Nat) (s : Tab) (hB : PBd p) (hP : ∀ k, k < p.L + 1 → Dg 200 (s.P k)) (m : Nat) (hm : p.m = m) (cst : Rat) (hc : Dg 200 cst) (w1 w : World) (ht : TabL lo w1) (hs : Stg p lo g s w1 w) :
    Calls Tryz.prog 27 #[.pointer (some ⟨b, 0, none⟩), .string (ratS cst)] w (RatsRes m (duF cst p.right p.u s.P) w) := by
  subst hgb hm
  exact duals_any p g lo s cst hs.geo hB.m hB.L (fun i hi => by unfold Lp.u Lp.L; omega) hc hP w (ht.step hs.bel).tab hs.ts hs.pr
/-- What Solve answers. -/
def SolOut (p : Lp) (n m : Nat) (cost : List Int) (w : World) (e : Ending) (w' : World) : Prop :=
  Below w.heap.size w w' ∧ ∃ s : Tab,
    (Lp.J1 p s ∧ (∀ k, k < p.N → 0 ≤ s.P k) ∧ s.P p.L ≠ 0 ∧ ∃ D cD, e = .returned (.tuple #[AnsV 2 none 0 0 D m cD none 0 0 ⟨#[]⟩, .int .i64 0]) ∧ Rats w' w'.heap.size D m (duF 1 p.right p.u s.P)) ∨
    (Lp.J2 p s ∧ ∃ c : Nat, c < p.N ∧ s.P c < 0 ∧ (∀ i, i < p.m → ¬ 0 < s.T i c) ∧ ∃ A cA R cR, e = .returned (.tuple #[AnsV 3 A n cA none 0 0 R n cR ⟨#[]⟩, .int .i64 0]) ∧ Rats w' w'.heap.size A n (Lp.xv s p.m p.L) ∧ Rats w' w'.heap.size R n (Lp.ray s p.m c)) ∨
    (Lp.J2 p s ∧ (∀ k, k < p.N → 0 ≤ s.P k) ∧ ∃ A cA D cD, e = .returned (.tuple #[AnsV 1 A n cA D m cD none 0 0 (ratS (dot cost (Lp.xv s p.m p.L) n)), .int .i64 0]) ∧ Rats w' w'.heap.size A n (Lp.xv s p.m p.L) ∧ Rats w' w'.heap.size D m (duF 0 p.right p.u s.P))
end Go.Proofs.YthcmopgdjibojaaGreatDoor.smp

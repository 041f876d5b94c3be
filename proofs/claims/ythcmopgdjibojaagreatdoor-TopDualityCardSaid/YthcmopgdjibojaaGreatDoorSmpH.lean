/- simplex: charge. -/
import Derived.Test.YthcmopgdjibojaaGreatDoorSmpG
namespace Go.Proofs.YthcmopgdjibojaaGreatDoor.smp
open Go.RowKit
open Go.Proofs.YthcmopgdjibojaaGreatDoor.lib Go.Proofs.YthcmopgdjibojaaGreatDoor.app Go.Proofs.YthcmopgdjibojaaGreatDoor.nt Go.Proofs.YthcmopgdjibojaaGreatDoor.rd Go.Proofs.YthcmopgdjibojaaGreatDoor.wh Go.Proofs.YthcmopgdjibojaaGreatDoor.smx Go.Proofs.YthcmopgdjibojaaGreatDoor.rat
set_option linter.unusedVariables false
set_option linter.unusedSimpArgs false

/-- The same tableau with new reduced costs. -/
def Geo.withP (g : Geo) (nb c : Nat) : Geo := { g with pb := nb, cP := c, tag := fun k => if k = nb then 6 else g.tag k }
theorem TS.withP {p : Lp} {g : Geo} {pv : Value} {s : Tab} {w : World} {lo nb c : Nat} (h : TS p g pv s w) (hg : GeoOk p g lo) (hlo : lo ≤ nb) (hn : w.heap.size ≤ nb) : GeoOk p (g.withP nb c) lo ∧ (g.withP nb c).tag (g.withP nb c).pb = 6 := by
  have e : ∀ k, k < w.heap.size → (g.withP nb c).tag k = g.tag k := fun k hk => if_neg (by omega)
  refine ⟨⟨(e _ h.st.lt).trans hg.b, fun k hk => (if_neg (by omega)).trans (hg.low k hk), fun i hi => (e _ (h.row i hi).lt).trans (hg.rb i hi), fun hm => ?_⟩, if_pos rfl⟩
  obtain ⟨h1, h2, h3, h4, h5⟩ := hg.two hm
  exact ⟨(e _ (h.rows hm).lt).trans h1, (e _ (h.unit hm).lt).trans h2, (e _ (h.turn hm).lt).trans h3, (e _ (h.base hm).lt).trans h4, h5⟩
theorem TS.kp6 {p : Lp} {g : Geo} {pv : Value} {s : Tab} {w w' : World} {lo nb : Nat} (h : TS p g pv s w) (hg : GeoOk p g lo) (ht : g.tag nb = 6) (hk : Kp (fun j => j ≠ nb) w w') : TS p g pv s w' := by
  refine ⟨h.st.kp hk (fun e => ?_), fun hm => (h.rows hm).kp hk (fun e => ?_), fun hm => (h.unit hm).kp hk (fun e => ?_), fun hm => (h.turn hm).kp hk (fun e => ?_), fun hm => (h.base hm).kp hk (fun e => ?_), fun i hi => (h.row i hi).kp hk (fun e => ?_)⟩
  · have := hg.b; rw [e] at this; omega
  · have := (hg.two hm).1; rw [e] at this; omega
  · have := (hg.two hm).2.1; rw [e] at this; omega
  · have := (hg.two hm).2.2.1; rw [e] at this; omega
  · have := (hg.two hm).2.2.2.1; rw [e] at this; omega
  · have := hg.rb i hi; rw [e] at this; omega
theorem Kp.trans2 {K K2 : Nat → Prop} {a w w' : World} (h : Kp K a w) (k : Kp K2 w w') (e : ∀ j, j < a.heap.size → K j → K2 j) : Kp K a w' :=
  ⟨k.os.trans h.os, k.tape.trans h.tape, k.output.trans h.output, Nat.le_trans h.size k.size, fun i hi hK => (k.block i (Nat.lt_of_lt_of_le hi h.size) (e i hi hK)).trans (h.block i hi hK)⟩
/-- The reduced costs behind the first rows. -/
def prF (c : Nat → Rat) (s : Tab) (i k : Nat) : Rat := c k - sm (fun q => c (s.base q) * s.T q k) i
theorem prF_zero (c : Nat → Rat) (s : Tab) (k : Nat) : prF c s 0 k = c k := by unfold prF; rw [sm, Rat.sub_eq_add_neg, Rat.neg_zero, Rat.add_zero]
theorem prF_next (c : Nat → Rat) (s : Tab) (i k : Nat) : prF c s (i + 1) k = prF c s i k - c (s.base i) * s.T i k := by unfold prF; rw [sm]; grind
theorem prF_skip (c : Nat → Rat) (s : Tab) (i k : Nat) (h : c (s.base i) = 0) : prF c s (i + 1) k = prF c s i k := by rw [prF_next, h, Rat.zero_mul, Rat.sub_eq_add_neg, Rat.neg_zero, Rat.add_zero]
def ChOut (p : Lp) (g : Geo) (c : Nat → Rat) (s : Tab) (w : World) (e : Ending) (w' : World) : Prop :=
  e = .returned (.tuple #[]) ∧ ∃ nb, w.heap.size ≤ nb ∧ Kp (fun k => k ≠ g.b) w w' ∧ TS p (g.withP nb (p.L + 1)) (prc p (g.withP nb (p.L + 1))) s w' ∧ Arr w' nb (p.L + 1) (vec (prF c s p.m))
set_option maxRecDepth 20000 in
set_option maxHeartbeats 4000000 in
theorem charge_any (p : Lp) (g : Geo) (lo : Nat) (pv : Value) (s : Tab) (c : Nat → Rat) (ck cc : Nat) (hg : GeoOk p g lo) (hm : p.m ≤ 6) (hL : p.L ≤ 20) (hbase : ∀ i, i < p.m → s.base i < p.L) (hcL : c p.L = 0)
    (hD : ∀ i k, i < p.m → k < p.L + 1 → Dg 200 (s.T i k)) (hc : ∀ k, k < p.L → Dg 200 (c k)) (hpr : ∀ i k, i ≤ p.m → k < p.L + 1 → Dg 200 (prF c s i k))
    (w : World) (ht : TabL lo w) (hs : TS p g pv s w) (hck : Arr w ck p.L (vec c)) (hcb : ck ≠ g.b) :
    Calls Tryz.prog 23 #[.pointer (some ⟨g.b, 0, none⟩), .slice (some ⟨ck, 0, none⟩) p.L cc] w (ChOut p g c s w) := by
  have x1 : w.cell? ⟨g.b, 1, none⟩ = some pv := hs.st.cell (i := 1) (by decide)
  have f1 := hs.st.frozen 1
  have hbl := hs.st.lt
  have hckl := hck.lt
  have HGW := Lib.hid (hs.withP (c := p.L + 1) hg ht.1 (Nat.le_refl _))
  obtain ⟨g', hg'⟩ : ∃ g', g.withP w.heap.size (p.L + 1) = g' := ⟨_, rfl⟩
  have HEQ : Hid (g'.b = g.b ∧ g'.R = g.R ∧ g'.bb = g.bb ∧ g'.rb = g.rb ∧ g'.pb = w.heap.size ∧ g'.cP = p.L + 1 ∧ g'.AR = g.AR ∧ g'.AB = g.AB ∧ g'.cR = g.cR ∧ g'.cB = g.cB) := Lib.hid (by rw [← hg']; exact ⟨rfl, rfl, rfl, rfl, rfl, rfl, rfl, rfl, rfl, rfl⟩)
  rw [hg'] at HGW
  have HTW : Hid (0 < p.m → g.AR = some ⟨g.R, 0, none⟩ ∧ g.AB = some ⟨g.bb, 0, none⟩) := Lib.hid (fun h => ⟨(hg.two h).2.2.2.2.1, (hg.two h).2.2.2.2.2.1⟩)
  have HW2 : Hid (∀ w1, Below w.heap.size w w1 → Kp (fun k => k ≠ g.b) w (w1.setCell ⟨g.b, 1, none⟩ (prc p g')) ∧ TS p g' (prc p g') s (w1.setCell ⟨g.b, 1, none⟩ (prc p g')) ∧ TabL lo (w1.setCell ⟨g.b, 1, none⟩ (prc p g')) ∧ Arr (w1.setCell ⟨g.b, 1, none⟩ (prc p g')) ck p.L (vec c)) := Lib.hid (fun w1 hb => by
    have h1 := hs.below hb
    have hbb : lo ≤ g.b := Classical.byContradiction fun h => by have := hg.low g.b (by omega); have := hg.b; omega
    have ne : ∀ k, g.tag k ≠ 1 → k ≠ g.b := fun k hk e => hk (by rw [e]; exact hg.b)
    refine ⟨(Kp.below hb).set (fun k _ h => h) _, ?_, ht.step ((hb.mono ht.1).setCell hbb _), (hck.below hb).far hcb _⟩
    rw [← hg']
    refine ⟨(h1.st.set 1 _).congr fun i hi => ?_, fun hm => (h1.rows hm).far (ne _ (by rw [(hg.two hm).1]; decide)) _, fun hm => (h1.unit hm).far (ne _ (by rw [(hg.two hm).2.1]; decide)) _, fun hm => (h1.turn hm).far (ne _ (by rw [(hg.two hm).2.2.1]; decide)) _, fun hm => (h1.base hm).far (ne _ (by rw [(hg.two hm).2.2.2.1]; decide)) _, fun i hi => (h1.row i hi).far (ne _ (by rw [hg.rb i hi]; omega)) _⟩
    rcases i with _ | _ | _ | _ | _ | _ | _ | _ | i <;> first | rfl | omega)
  have hpv : prc p g' = .slice (some ⟨w.heap.size, 0, none⟩) (p.L + 1) (p.L + 1) := by rw [← hg']; rfl
  have HOUT : Hid (∀ w2 x, Kp (fun k => k ≠ g.b) w w2 → TS p g' (prc p g') s w2 → Kp (fun k => k ≠ w.heap.size) w2 x → Arr x w.heap.size (p.L + 1) (vec (prF c s p.m)) → ChOut p g c s w (.returned (.tuple #[])) x) := Lib.hid (fun w2 x h1 h2 h3 h4 => by
    refine ⟨rfl, w.heap.size, Nat.le_refl _, h1.trans2 h3 (fun k hk _ => by omega), ?_, h4⟩
    rw [hg']
    exact h2.kp6 HGW.out.1 (by rw [← HEQ.out.2.2.2.2.1]; exact HGW.out.2) h3)
  have HMU : Hid (∀ i k, i < p.m → k < p.L + 1 → ∀ w', TabT w' → ErrAt w' g.b → Calls Tryz.prog 65 #[.pointer (some ⟨g.b, 0, none⟩), .string (ratS (c (s.base i))), .string (ratS (s.T i k))] w' fun e w2 => e = .returned (.string (ratS (c (s.base i) * s.T i k))) ∧ Below w'.heap.size w' w2) := Lib.hid (fun i k hi hk w' ht he => mul_any g.b _ _ w' ((hc _ (hbase i hi)).mono (by omega)) ((hD i k hi hk).mono (by omega)) he ht)
  have HSU : Hid (∀ i k, i < p.m → k < p.L + 1 → ∀ w', TabT w' → ErrAt w' g.b → Calls Tryz.prog 64 #[.pointer (some ⟨g.b, 0, none⟩), .string (ratS (prF c s i k)), .string (ratS (c (s.base i) * s.T i k))] w' fun e w2 => e = .returned (.string (ratS (prF c s (i + 1) k))) ∧ Below w'.heap.size w' w2) := Lib.hid (fun i k hi hk w' ht he => by
    rw [prF_next]
    exact sub_any g.b _ _ w' ((hpr i k (by omega) hk).mono (by omega)) (((hc _ (hbase i hi)).mul (hD i k hi hk)).mono (by omega)) he ht)
  have HBS := Lib.hid hbase
  have HTG : Hid (g'.tag w.heap.size = 6) := Lib.hid (by rw [← HEQ.out.2.2.2.2.1]; exact HGW.out.2)
  have HCL := Lib.hid hcL
  obtain ⟨b, eb⟩ : ∃ b, g.b = b := ⟨_, rfl⟩
  obtain ⟨L, eL⟩ : ∃ L, p.L = L := ⟨_, rfl⟩
  obtain ⟨m, em⟩ : ∃ m, p.m = m := ⟨_, rfl⟩
  rw [eL, hpv, eb] at HW2
  rw [eL] at HOUT HMU HSU
  rw [em] at HMU HSU HTW hm
  rw [eb] at HMU HSU x1 f1 hbl hcb
  rw [eL] at hL hck hpv
  rw [eb, eL]
  have EQ := Lib.hid (And.intro em (And.intro eL eb))
  clear hg hbase hcL hD hc hpr ht hs hpv hg' eL em eb
  go_enter Tryz.func23, Tryz.ntmps23
  rw [EQ.out.2.1] at HW2
  go_upto_region 1 with (at_make; refine make_rats rfl _ _ rfl (L + 1) rfl rfl (by omega) ?_; intro w1 hA1 hb1; have y1 := (hb1.cell (p := ⟨b, 1, none⟩) hbl).trans x1; have yf := (hb1.frozen (p := ⟨b, 1, none⟩) hbl).trans f1; have hw2 := Lib.hid (HW2.out w1 hb1))
  obtain ⟨w2, hw2e⟩ : ∃ x, w1.setCell ⟨b, 1, none⟩ (.slice (some ⟨w.heap.size, 0, none⟩) (L + 1) (L + 1)) = x := ⟨_, rfl⟩
  have hA2 : Arr w2 w.heap.size (L + 1) (fun _ => .string ⟨#[]⟩) := by rw [← hw2e]; exact hA1.far (by omega) _
  rw [hw2e] at hw2 ⊢
  have z1 : w2.cell? ⟨b, 1, none⟩ = some (.slice (some ⟨w.heap.size, 0, none⟩) (L + 1) (L + 1)) := by rw [← EQ.out.2.2, ← HEQ.out.1]; exact hw2.out.2.1.st.cell (i := 1) (by decide)
  clear hw2e hA1 hb1 y1 yf HW2
  obtain ⟨w3, hrun, hA3, hk3⟩ := copy_rats w2 3 w.heap.size ck L (L + 1) cc _ c hA2 hw2.out.2.2.2
  have hnbb : w.heap.size ≠ b := by omega
  have z3 := hk3.cell z1 (Ne.symm hnbb)
  have zL := hA3.cell (i := L) (by omega)
  rw [if_neg (Nat.lt_irrefl L)] at zL
  have fL := hA3.frozen L
  go_upto_region 3 with fail
  obtain ⟨w4, hw4⟩ : ∃ x, w3.setCell ⟨w.heap.size, L, none⟩ (.string ⟨#[48]⟩) = x := ⟨_, rfl⟩
  have hk4 : Kp (fun k => k ≠ w.heap.size) w2 w4 := by rw [← hw4]; exact hk3.set (fun j _ h => h) _
  have hA4 : Arr w4 w.heap.size (L + 1) (vec (prF c s 0)) := by
    rw [← hw4]
    refine (hA3.set L _).congr fun i hi => ?_
    show (if i = L then Value.string ⟨#[48]⟩ else if i < L then vec c i else _) = .string (ratS (prF c s 0 i))
    rw [prF_zero]
    by_cases e : i = L
    · rw [if_pos e, e, ← EQ.out.2.1, HCL.out, rat_zero]
    · rw [if_neg e, if_pos (by omega)]; rfl
  rw [hw4]
  clear hw4 z3 zL fL hrun hk3 hA3 hA2
  have HI : Hid (Kp (fun k => k ≠ b) w w2 ∧ TS p g' (.slice (some ⟨w.heap.size, 0, none⟩) (L + 1) (L + 1)) s w2 ∧ TabL lo w2 ∧ Arr w2 ck L (vec c)) := hw2
  have HK4 := Lib.hid hk4
  have HA4 := Lib.hid hA4
  have hlo : lo ≤ w.heap.size := HGW.out.1.low |> fun _ => Classical.byContradiction fun h => by have h1 := HGW.out.1.low w.heap.size (by omega); rw [HTG.out] at h1; omega
  have HTS : Hid (∀ x, Kp (fun k => k ≠ w.heap.size) w2 x → TS p g' (.slice (some ⟨w.heap.size, 0, none⟩) (L + 1) (L + 1)) s x ∧ TabT x ∧ ErrAt x b ∧ Arr x ck L (vec c) ∧ x.cell? ⟨b, 1, none⟩ = some (.slice (some ⟨w.heap.size, 0, none⟩) (L + 1) (L + 1))) := Lib.hid (fun x hx => by
    have h1 := hw2.out.2.1.kp6 HGW.out.1 HTG.out hx
    have h2 := h1.err
    rw [HEQ.out.1, EQ.out.2.2] at h2
    exact ⟨h1, (hw2.out.2.2.1.step (hx.lo hlo hw2.out.2.2.1.1)).tab, h2, hw2.out.2.2.2.kp hx (by omega), hx.cell z1 (Ne.symm hnbb)⟩)
  have c2 : w4.cell? ⟨b, 2, none⟩ = some (.slice g.AB m g.cB) := by rw [← EQ.out.2.2, ← HEQ.out.1, ← EQ.out.1, ← HEQ.out.2.2.2.2.2.2.2.1, ← HEQ.out.2.2.2.2.2.2.2.2.2]; exact (HTS.out w4 hk4).1.st.cell (i := 2) (by decide)
  clear hk4 hA4 hw2 z1
  have hm0 := EQ.out.1
  obtain ⟨AR, eAR⟩ : ∃ A, g.AR = A := ⟨_, rfl⟩
  obtain ⟨AB, eAB⟩ : ∃ A, g.AB = A := ⟨_, rfl⟩
  have EA := Lib.hid (And.intro eAR eAB)
  rw [eAR, eAB] at HTW
  rw [eAB] at c2
  clear eAR eAB hm0
  go_wp2
  go_loopw [34] (fun iv wr => ∃ i : Nat, i ≤ m ∧ iv = .int .i64 i ∧ Hid (Kp (fun k => k ≠ w.heap.size) w2 wr) ∧ Hid (Arr wr w.heap.size (L + 1) (vec (prF c s i)))) (fun iv _ => m - (intOf iv).toNat)
  case atStart => exact ⟨0, by omega, rfl, HK4, HA4⟩
  case round =>
    obtain ⟨i, hi, rfl, hkp, har⟩ := hrel
    by_cases hlti : i < m
    · obtain ⟨eAR, eAB⟩ := HTW.out (by omega)
      subst eAR
      subst eAB
      have him : i < p.m := by rw [EQ.out.1]; exact hlti
      have hm0 : 0 < p.m := by omega
      obtain ⟨hts, htt, herr, hck', z1⟩ := HTS.out wr hkp.out
      have cb : wr.cell? ⟨g.bb, i, none⟩ = some (.int .i64 (s.base i)) := by rw [← HEQ.out.2.2.1]; exact (hts.base hm0).cell him
      have hbi : s.base i < L := by rw [← EQ.out.2.1]; exact HBS.out i him
      have cc' := hck'.cell hbi
      have z0 := ratS_is0 (c (s.base i))
      have hi0 : (0 : Int) ≤ i := by omega
      have him' : (i : Int) < m := by omega
      have hb0 : (0 : Int) ≤ s.base i := by omega
      have hbl' : (s.base i : Int) < L := by omega
      unfold vec at cc'
      by_cases hz : c (s.base i) = 0
      · rw [decide_eq_true hz] at z0
        have HA : Hid (Arr wr w.heap.size (L + 1) (vec (prF c s (i + 1)))) := Lib.hid (har.out.congr fun k hk => by unfold vec; rw [prF_skip c s i k hz])
        generalize ratS (c (s.base i)) = C at cc' z0
        clear hz hts htt herr hck' har
        go_wp2
        go_roundw
        case rel => exact ⟨i + 1, by omega, by go_num, hkp, HA⟩
        case measure => simp [intOf]; omega
      · rw [decide_eq_false hz] at z0
        have HMi := Lib.hid (fun (k : Nat) (hk : k < L + 1) (w' : World) (h1 : TabT w') (h2 : ErrAt w' b) => HMU.out i k hlti hk w' h1 h2)
        have HSi := Lib.hid (fun (k : Nat) (hk : k < L + 1) (w' : World) (h1 : TabT w') (h2 : ErrAt w' b) => HSU.out i k hlti hk w' h1 h2)
        have x0 : wr.cell? ⟨b, 0, none⟩ = some (.slice (some ⟨g.R, 0, none⟩) m g.cR) := by
          have h := hts.st.cell (i := 0) (by decide)
          rw [HEQ.out.1, EQ.out.2.2] at h
          rw [h]
          show some (Value.slice g'.AR p.m g'.cR) = _
          rw [HEQ.out.2.2.2.2.2.2.1, EA.out.1, EQ.out.1, HEQ.out.2.2.2.2.2.2.2.2.1]
        have xr : wr.cell? ⟨g.R, i, none⟩ = some (.slice (some ⟨g.rb i, 0, none⟩) (L + 1) (L + 1)) := by
          have h := (hts.rows hm0).cell him
          rw [HEQ.out.2.1, HEQ.out.2.2.2.1, EQ.out.2.1] at h
          exact h
        have HROW : Hid (∀ x, Kp (fun k => k ≠ w.heap.size) w2 x → Arr x (g.rb i) (L + 1) (vec (s.T i))) := Lib.hid (fun x hx => by
          have h := (HTS.out x hx).1.row i him
          rw [HEQ.out.2.2.2.1, EQ.out.2.1] at h
          exact h)
        generalize ratS (c (s.base i)) = C at cc' z0 HMi
        clear hz hts htt herr hck'
        obtain ⟨wo, hwo⟩ : ∃ wo : World, wo = wr := ⟨_, rfl⟩
        subst hwo
        have hkpo := hkp
        go_wp2
        go_loopw [53] (fun kv wr => ∃ k : Nat, k ≤ L + 1 ∧ kv = .int .i64 k ∧ Hid (Kp (fun k => k ≠ w.heap.size) w2 wr ∧ Arr wr w.heap.size (L + 1) (fun j => if j < k then vec (prF c s (i + 1)) j else vec (prF c s i) j))) (fun kv _ => L + 1 - (intOf kv).toNat)
        case atStart => exact ⟨0, by omega, rfl, Lib.hid ⟨hkp.out, har.out.congr fun j hj => by rw [if_neg (by omega)]⟩⟩
        case round =>
          obtain ⟨k, hk, rfl, hin⟩ := hrel
          by_cases hlt : k < L + 1
          · have hvc := (HROW.out wr hin.out.1).cell hlt
            have hk0 : (0 : Int) ≤ k := by omega
            have hkw : (k : Int) < L + 1 := by omega
            have HM := Lib.hid (HMi.out k hlt)
            have HS := Lib.hid (HSi.out k hlt)
            have z1' := (HTS.out wr hin.out.1).2.2.2.2
            unfold vec at hvc
            generalize ratS (s.T i k) = V at hvc HM
            generalize ratS (c (s.base i) * s.T i k) = X at HM HS
            generalize hNW : ratS (prF c s (i + 1) k) = NW at HS
            have HNW := Lib.hid hNW
            clear hNW
            go_upto_region 11 with fail
            obtain ⟨W, hW⟩ : ∃ W, wr.drew = W := ⟨_, rfl⟩
            have KPW : Hid (Kp (fun k => k ≠ w.heap.size) w2 W) := Lib.hid (by rw [← hW]; exact hin.out.1.drew)
            have ARW : Hid (Arr W w.heap.size (L + 1) (fun j => if j < k then vec (prF c s (i + 1)) j else vec (prF c s i) j)) := Lib.hid (by rw [← hW]; exact hin.out.2)
            have HB : Hid (∀ x, Below W.heap.size W x → Kp (fun k => k ≠ w.heap.size) w2 x ∧ Arr x w.heap.size (L + 1) (fun j => if j < k then vec (prF c s (i + 1)) j else vec (prF c s i) j) ∧ TabT x ∧ ErrAt x b ∧ x.cell? ⟨w.heap.size, k, none⟩ = some (.string (ratS (prF c s i k))) ∧ x.frozen? ⟨w.heap.size, k, none⟩ = false ∧ x.cell? ⟨b, 1, none⟩ = some (.slice (some ⟨w.heap.size, 0, none⟩) (L + 1) (L + 1))) := Lib.hid (fun x hx => by
              have h1 := KPW.out.trans (Kp.below hx)
              have h2 := ARW.out.below hx
              have h3 := h2.cell hlt
              rw [if_neg (Nat.lt_irrefl k)] at h3
              obtain ⟨_, g2, g3, _, g5⟩ := HTS.out x h1
              exact ⟨h1, h2, g2, g3, h3, h2.frozen k, g5⟩)
            obtain ⟨_, _, htW, heW, hcW, hfW, zW⟩ := HB.out W (Below.refl _ _)
            (refine wp_region_held_drew (S := (fun w' => w'.cell? ⟨b, 1, none⟩ = some (.slice (some ⟨w.heap.size, 0, none⟩) (L + 1) (L + 1)))) (by kernel_rfl) ?_ (fun hHeld => ?_))
            · exact z1'
            rw [hW] at hHeld ⊢
            clear hW KPW ARW hvc z1'
            (refine wpAnyH_take (i := 0) (v := ?_) rfl (by kernel_rfl) (by kernel_rfl) (by kernel_rfl) (fun _ _ _ h => h) (Or.inl ⟨by kernel_rfl, ?_⟩) (by assumption) ?_; rotate_left; (focus (intro w hSw; (try dsimp only at hSw); go_simp; all_goals with_reducible rfl)); (try simp only [Act.put, List.getElem_toArray, List.getElem_cons_succ, List.getElem_cons_zero, List.setIfInBounds_toArray, List.set_cons_zero, List.set_cons_succ]))
            (refine wpAnyH_take (i := 1) (v := ?_) rfl (by kernel_rfl) (by kernel_rfl) (by kernel_rfl) (fun _ _ _ h => h) (Or.inl ⟨by kernel_rfl, ?_⟩) (by assumption) ?_; rotate_left; (focus (intro w hSw; (try dsimp only at hSw); go_simp; all_goals with_reducible rfl)); (try simp only [Act.put, List.getElem_toArray, List.getElem_cons_succ, List.getElem_cons_zero, List.setIfInBounds_toArray, List.set_cons_zero, List.set_cons_succ]))
            (refine wpAnyH_take (i := 2) (v := ?_) rfl (by kernel_rfl) (by kernel_rfl) (by kernel_rfl) (fun _ _ _ h => h) (Or.inl ⟨by kernel_rfl, ?_⟩) (by assumption) ?_; rotate_left; (focus (intro w hSw; (try dsimp only at hSw); go_simp; all_goals with_reducible rfl)); (try simp only [Act.put, List.getElem_toArray, List.getElem_cons_succ, List.getElem_cons_zero, List.setIfInBounds_toArray, List.set_cons_zero, List.set_cons_succ]))
            (refine wpAnyH_take (i := 3) (v := ?_) rfl (by kernel_rfl) (by kernel_rfl) (by kernel_rfl) (fun _ _ _ h => h) (Or.inl ⟨by kernel_rfl, ?_⟩) (by assumption) ?_; rotate_left; (focus (intro w hSw; (try dsimp only at hSw); go_simp; all_goals with_reducible rfl)); (try simp only [Act.put, List.getElem_toArray, List.getElem_cons_succ, List.getElem_cons_zero, List.setIfInBounds_toArray, List.set_cons_zero, List.set_cons_succ]))
            (refine wpAnyH_take (i := 4) (v := ?_) rfl (by kernel_rfl) (by kernel_rfl) (by kernel_rfl) (fun _ _ _ h => h) (Or.inl ⟨by kernel_rfl, ?_⟩) (by assumption) ?_; rotate_left; (focus (intro w hSw; (try dsimp only at hSw); go_simp; all_goals with_reducible rfl)); (try simp only [Act.put, List.getElem_toArray, List.getElem_cons_succ, List.getElem_cons_zero, List.setIfInBounds_toArray, List.set_cons_zero, List.set_cons_succ]))
            (refine wpAnyH_take (i := 5) (v := ?_) rfl (by kernel_rfl) (by kernel_rfl) (by kernel_rfl) (fun _ _ _ h => h) (Or.inl ⟨by kernel_rfl, ?_⟩) (by assumption) ?_; rotate_left; (focus (intro w hSw; (try dsimp only at hSw); go_simp; all_goals with_reducible rfl)); (try simp only [Act.put, List.getElem_toArray, List.getElem_cons_succ, List.getElem_cons_zero, List.setIfInBounds_toArray, List.set_cons_zero, List.set_cons_succ]))
            (refine wpAnyH_take (i := 6) (v := ?_) rfl (by kernel_rfl) (by kernel_rfl) (by kernel_rfl) (fun _ _ _ h => h) (Or.inl ⟨by kernel_rfl, ?_⟩) (by assumption) ?_; rotate_left; (focus (intro w hSw; (try dsimp only at hSw); go_simp; all_goals with_reducible rfl)); (try simp only [Act.put, List.getElem_toArray, List.getElem_cons_succ, List.getElem_cons_zero, List.setIfInBounds_toArray, List.set_cons_zero, List.set_cons_succ]))
            (refine wpAnyH_take (i := 7) (v := ?_) rfl (by kernel_rfl) (by kernel_rfl) (by kernel_rfl) (fun _ _ _ h => h) (Or.inl ⟨by kernel_rfl, ?_⟩) (by assumption) ?_; rotate_left; (focus (intro w hSw; (try dsimp only at hSw); go_simp; all_goals with_reducible rfl)); (try simp only [Act.put, List.getElem_toArray, List.getElem_cons_succ, List.getElem_cons_zero, List.setIfInBounds_toArray, List.set_cons_zero, List.set_cons_succ]))
            (refine wpAnyH_take (i := 8) (v := ?_) rfl (by kernel_rfl) (by kernel_rfl) (by kernel_rfl) (fun _ _ _ h => h) (Or.inl ⟨by kernel_rfl, ?_⟩) (by assumption) ?_; rotate_left; (focus (intro w hSw; (try dsimp only at hSw); go_simp; all_goals with_reducible rfl)); (try simp only [Act.put, List.getElem_toArray, List.getElem_cons_succ, List.getElem_cons_zero, List.setIfInBounds_toArray, List.set_cons_zero, List.set_cons_succ]))
            (refine wpAnyH_take (i := 9) (v := ?_) rfl (by kernel_rfl) (by kernel_rfl) (by kernel_rfl) (fun _ _ _ h => h) (Or.inl ⟨by kernel_rfl, ?_⟩) (by assumption) ?_; rotate_left; (focus (intro w hSw; (try dsimp only at hSw); go_simp; all_goals with_reducible rfl)); (try simp only [Act.put, List.getElem_toArray, List.getElem_cons_succ, List.getElem_cons_zero, List.setIfInBounds_toArray, List.set_cons_zero, List.set_cons_succ]))
            (refine wpAnyH_take (i := 10) (v := ?_) rfl (by kernel_rfl) (by kernel_rfl) (by kernel_rfl) (fun _ _ _ h => h) (Or.inl ⟨by kernel_rfl, ?_⟩) (by assumption) ?_; rotate_left; (focus (intro w hSw; (try dsimp only at hSw); go_simp; all_goals with_reducible rfl)); (try simp only [Act.put, List.getElem_toArray, List.getElem_cons_succ, List.getElem_cons_zero, List.setIfInBounds_toArray, List.set_cons_zero, List.set_cons_succ]))
            (refine wpAnyH_take (i := 11) (v := ?_) rfl (by kernel_rfl) (by kernel_rfl) (by kernel_rfl) (fun _ _ _ h => h) (Or.inl ⟨by kernel_rfl, ?_⟩) (by assumption) ?_; rotate_left; (focus (intro w hSw; (try dsimp only at hSw); go_simp; all_goals with_reducible rfl)); (try simp only [Act.put, List.getElem_toArray, List.getElem_cons_succ, List.getElem_cons_zero, List.setIfInBounds_toArray, List.set_cons_zero, List.set_cons_succ]))
            (refine wpAnyH_take (i := 13) (v := ?_) rfl (by kernel_rfl) (by kernel_rfl) (by kernel_rfl) (fun _ _ _ h => h) (Or.inl ⟨by kernel_rfl, ?_⟩) (by assumption) ?_; rotate_left; (focus (intro w hSw; (try dsimp only at hSw); go_simp; all_goals with_reducible rfl)); (try simp only [Act.put, List.getElem_toArray, List.getElem_cons_succ, List.getElem_cons_zero, List.setIfInBounds_toArray, List.set_cons_zero, List.set_cons_succ]))
            (refine wpAnyH_take (i := 14) (v := ?_) rfl (by kernel_rfl) (by kernel_rfl) (by kernel_rfl) (fun _ _ _ h => h) (Or.inl ⟨by kernel_rfl, ?_⟩) (by assumption) ?_; rotate_left; (focus (intro w hSw; (try dsimp only at hSw); go_simp; all_goals with_reducible rfl)); (try simp only [Act.put, List.getElem_toArray, List.getElem_cons_succ, List.getElem_cons_zero, List.setIfInBounds_toArray, List.set_cons_zero, List.set_cons_succ]))
            (refine wpAnyH_take (i := 15) (v := ?_) rfl (by kernel_rfl) (by kernel_rfl) (by kernel_rfl) (fun _ _ _ h => h) (Or.inl ⟨by kernel_rfl, ?_⟩) (by assumption) ?_; rotate_left; (focus (intro w hSw; (try dsimp only at hSw); go_simp; all_goals with_reducible rfl)); (try simp only [Act.put, List.getElem_toArray, List.getElem_cons_succ, List.getElem_cons_zero, List.setIfInBounds_toArray, List.set_cons_zero, List.set_cons_succ]))
            (refine wpAnyH_ready (rs := [12, 16]) (by kernel_rfl) (by simp) ?_; refine AllReadyH.cons rfl (fun K hK => ?_) (AllReadyH.cons rfl (fun K hK => ?_) AllReadyH.nil))
            · go_simp
              (refine hK.out _ _ zW (fun hHeld => ?_); clear hK K; (try simp only [Act.put, List.getElem_toArray, List.getElem_cons_succ, List.getElem_cons_zero, List.setIfInBounds_toArray, List.set_cons_zero, List.set_cons_succ]))
              (refine wpAnyH_ready (rs := [16]) (by kernel_rfl) (by simp) ?_; refine AllReadyH.cons rfl (fun K hK => ?_) AllReadyH.nil)
              go_simp
              go_at_call 65
              (with_reducible refine (HM.out W htW heW).mono ?_)
              rintro e V1 ⟨rfl, hb1⟩
              obtain ⟨_, _, ht1, he1, hc1, hf1, z1⟩ := HB.out V1 hb1
              (refine hK.out _ _ z1 (fun hHeld => ?_); clear hK K; (try simp only [Act.put, List.getElem_toArray, List.getElem_cons_succ, List.getElem_cons_zero, List.setIfInBounds_toArray, List.set_cons_zero, List.set_cons_succ]))
              (refine wpAnyH_ready (rs := [17]) (by kernel_rfl) (by simp) ?_; refine AllReadyH.cons rfl (fun K hK => ?_) AllReadyH.nil)
              go_simp
              go_at_call 64
              (with_reducible refine (HS.out V1 ht1 he1).mono ?_)
              rintro e V2 ⟨rfl, hb2⟩
              obtain ⟨kp2, ar2, ht2, he2, hc2, hf2, z2⟩ := HB.out V2 (hb1.trans (hb2.mono hb1.size))
              (refine hK.out _ _ z2 (fun hHeld => ?_); clear hK K; (try simp only [Act.put, List.getElem_toArray, List.getElem_cons_succ, List.getElem_cons_zero, List.setIfInBounds_toArray, List.set_cons_zero, List.set_cons_succ]))
              have HF : Hid (Kp (fun j => j ≠ w.heap.size) w2 (V2.setCell ⟨w.heap.size, k, none⟩ (.string NW)) ∧ Arr (V2.setCell ⟨w.heap.size, k, none⟩ (.string NW)) w.heap.size (L + 1) (fun j => if j < k + 1 then vec (prF c s (i + 1)) j else vec (prF c s i) j)) := Lib.hid ⟨kp2.set (fun j _ h => h) _, (ar2.set k (.string NW)).congr fun j _ => by rw [← HNW.out]; exact vec_step j⟩
              have HZ2 : Hid ((V2.setCell ⟨w.heap.size, k, none⟩ (.string NW)).cell? ⟨b, 1, none⟩ = some (.slice (some ⟨w.heap.size, 0, none⟩) (L + 1) (L + 1))) := Lib.hid ((World.cell?_setCell_far _ _ _ _ hnbb).trans z2)
              clear kp2 ar2
              (refine wpAnyH_take (i := 18) (v := ?_) rfl (by kernel_rfl) (by kernel_rfl) (by kernel_rfl) (fun _ _ _ h => h) (Or.inl ⟨by kernel_rfl, ?_⟩) (by assumption) ?_; rotate_left; (focus (intro w hSw; (try dsimp only at hSw); go_simp; all_goals with_reducible rfl)); (try simp only [Act.put, List.getElem_toArray, List.getElem_cons_succ, List.getElem_cons_zero, List.setIfInBounds_toArray, List.set_cons_zero, List.set_cons_succ]))
              (refine wpAnyH_ready (rs := [19]) (by kernel_rfl) (by simp) ?_; refine AllReadyH.cons rfl (fun K hK => ?_) AllReadyH.nil)
              go_simp
              (refine hK.out _ _ (HZ2.out) (fun hHeld => ?_); clear hK K; (try simp only [Act.put, List.getElem_toArray, List.getElem_cons_succ, List.getElem_cons_zero, List.setIfInBounds_toArray, List.set_cons_zero, List.set_cons_succ]))
              (refine wpAnyH_done (by kernel_rfl) ?_ _)
              clear hHeld
              go_wp2
              go_roundw
              case rel => exact ⟨k + 1, by omega, by go_num, HF⟩
              case measure => simp [intOf]; omega
            · go_simp
              go_at_call 65
              (with_reducible refine (HM.out W htW heW).mono ?_)
              rintro e V1 ⟨rfl, hb1⟩
              obtain ⟨_, _, ht1, he1, hc1, hf1, z1⟩ := HB.out V1 hb1
              (refine hK.out _ _ z1 (fun hHeld => ?_); clear hK K; (try simp only [Act.put, List.getElem_toArray, List.getElem_cons_succ, List.getElem_cons_zero, List.setIfInBounds_toArray, List.set_cons_zero, List.set_cons_succ]))
              (refine wpAnyH_ready (rs := [12]) (by kernel_rfl) (by simp) ?_; refine AllReadyH.cons rfl (fun K hK => ?_) AllReadyH.nil)
              go_simp
              (refine hK.out _ _ z1 (fun hHeld => ?_); clear hK K; (try simp only [Act.put, List.getElem_toArray, List.getElem_cons_succ, List.getElem_cons_zero, List.setIfInBounds_toArray, List.set_cons_zero, List.set_cons_succ]))
              (refine wpAnyH_ready (rs := [17]) (by kernel_rfl) (by simp) ?_; refine AllReadyH.cons rfl (fun K hK => ?_) AllReadyH.nil)
              go_simp
              go_at_call 64
              (with_reducible refine (HS.out V1 ht1 he1).mono ?_)
              rintro e V2 ⟨rfl, hb2⟩
              obtain ⟨kp2, ar2, ht2, he2, hc2, hf2, z2⟩ := HB.out V2 (hb1.trans (hb2.mono hb1.size))
              (refine hK.out _ _ z2 (fun hHeld => ?_); clear hK K; (try simp only [Act.put, List.getElem_toArray, List.getElem_cons_succ, List.getElem_cons_zero, List.setIfInBounds_toArray, List.set_cons_zero, List.set_cons_succ]))
              have HF : Hid (Kp (fun j => j ≠ w.heap.size) w2 (V2.setCell ⟨w.heap.size, k, none⟩ (.string NW)) ∧ Arr (V2.setCell ⟨w.heap.size, k, none⟩ (.string NW)) w.heap.size (L + 1) (fun j => if j < k + 1 then vec (prF c s (i + 1)) j else vec (prF c s i) j)) := Lib.hid ⟨kp2.set (fun j _ h => h) _, (ar2.set k (.string NW)).congr fun j _ => by rw [← HNW.out]; exact vec_step j⟩
              have HZ2 : Hid ((V2.setCell ⟨w.heap.size, k, none⟩ (.string NW)).cell? ⟨b, 1, none⟩ = some (.slice (some ⟨w.heap.size, 0, none⟩) (L + 1) (L + 1))) := Lib.hid ((World.cell?_setCell_far _ _ _ _ hnbb).trans z2)
              clear kp2 ar2
              (refine wpAnyH_take (i := 18) (v := ?_) rfl (by kernel_rfl) (by kernel_rfl) (by kernel_rfl) (fun _ _ _ h => h) (Or.inl ⟨by kernel_rfl, ?_⟩) (by assumption) ?_; rotate_left; (focus (intro w hSw; (try dsimp only at hSw); go_simp; all_goals with_reducible rfl)); (try simp only [Act.put, List.getElem_toArray, List.getElem_cons_succ, List.getElem_cons_zero, List.setIfInBounds_toArray, List.set_cons_zero, List.set_cons_succ]))
              (refine wpAnyH_ready (rs := [19]) (by kernel_rfl) (by simp) ?_; refine AllReadyH.cons rfl (fun K hK => ?_) AllReadyH.nil)
              go_simp
              (refine hK.out _ _ (HZ2.out) (fun hHeld => ?_); clear hK K; (try simp only [Act.put, List.getElem_toArray, List.getElem_cons_succ, List.getElem_cons_zero, List.setIfInBounds_toArray, List.set_cons_zero, List.set_cons_succ]))
              (refine wpAnyH_done (by kernel_rfl) ?_ _)
              clear hHeld
              go_wp2
              go_roundw
              case rel => exact ⟨k + 1, by omega, by go_num, HF⟩
              case measure => simp [intOf]; omega
          · obtain rfl : k = L + 1 := by omega
            clear hlt
            have HA : Hid (Arr wr w.heap.size (L + 1) (vec (prF c s (i + 1)))) := Lib.hid (hin.out.2.congr fun j hj => if_pos hj)
            have HK := Lib.hid hin.out.1
            go_wp2
            go_roundw
            case rel => exact ⟨i + 1, by omega, by go_num, HK, HA⟩
            case measure => simp [intOf]; omega
    · obtain rfl : i = m := by omega
      clear hlti
      go_wp2
      go_end0
      exact HOUT.out w2 wr (by rw [EQ.out.2.2]; exact HI.out.1) (by rw [show prc p g' = .slice (some ⟨w.heap.size, 0, none⟩) (L + 1) (L + 1) from by unfold prc; rw [HEQ.out.2.2.2.2.1, HEQ.out.2.2.2.2.2.1, EQ.out.2.1]]; exact HI.out.2.1) hkp.out (by rw [EQ.out.1]; exact har.out)
end Go.Proofs.YthcmopgdjibojaaGreatDoor.smp

import Derived.Test.YthcmopgdjibojaaGreatDoorSmpD
import Derived.Test.YthcmopgdjibojaaGreatDoorSmxY
/- simplex: improve. -/
namespace Go.Proofs.YthcmopgdjibojaaGreatDoor.smp
open Go.RowKit
open Go.Proofs.YthcmopgdjibojaaGreatDoor.lib Go.Proofs.YthcmopgdjibojaaGreatDoor.app Go.Proofs.YthcmopgdjibojaaGreatDoor.nt Go.Proofs.YthcmopgdjibojaaGreatDoor.rd Go.Proofs.YthcmopgdjibojaaGreatDoor.wh Go.Proofs.YthcmopgdjibojaaGreatDoor.smx Go.Proofs.YthcmopgdjibojaaGreatDoor.rat
set_option linter.unusedVariables false
set_option linter.unusedSimpArgs false

/-- What improve comes to: a tableau s, and a column or none. -/
def ImpOut (p : Lp) (g : Geo) (J : Tab → Prop) (w : World) (e : Ending) (w' : World) : Prop :=
  ∃ s, J s ∧ Kp (fun k => g.tag k < 5) w w' ∧ TS p g (prc p g) s w' ∧ Arr w' g.pb (p.L + 1) (vec s.P) ∧
    ((e = .returned (.int .i64 (-1)) ∧ ∀ k, k < p.N → 0 ≤ s.P k) ∨ ∃ c : Nat, c < p.N ∧ e = .returned (.int .i64 c) ∧ s.P c < 0 ∧ ∀ i, i < p.m → ¬ 0 < s.T i c)
set_option maxRecDepth 20000 in
set_option maxHeartbeats 4000000 in
theorem improve_any (p : Lp) (g : Geo) (lo W : Nat) (s0 : Tab) (J : Tab → Prop) (hg : GeoOk p g lo) (hpb : g.tag g.pb = 6) (hm : p.m ≤ 6) (hL : p.L ≤ 20) (hN : p.N ≤ p.L) (hNW : p.N ≤ W)
    (hJ0 : J s0) (hJ : ∀ s r c, J s → Bland p.m p.N p.L s r c → J (s.pivot r c))
    (hsz : ∀ s, J s → (∀ i k, i < p.m → k < p.L + 1 → Dg 200 (s.T i k)) ∧ ∀ k, k < p.L + 1 → Dg 200 (s.P k))
    (hrun : Run p.m p.N p.L W s0 0) (w : World) (ht : TabL lo w) (hs : TS p g (prc p g) s0 w) (hp : Arr w g.pb (p.L + 1) (vec s0.P)) :
    Calls Tryz.prog 25 #[.pointer (some ⟨g.b, 0, none⟩)] w (ImpOut p g J w) := by
  have tlo := hg.low
  have HTL : Hid (∀ x, Kp (fun k => g.tag k < 5) w x → TabL lo x) := Lib.hid (fun x hx => ht.step (hx.below_of ht.1 (fun k hk => by rw [tlo k hk]; decide)))
  obtain ⟨M, hM⟩ : ∃ M, W ^ p.m = M := ⟨_, rfl⟩
  have HSH : Hid (∀ s j, Run p.m p.N p.L W s j → j < M) := Lib.hid (fun s j h => by rw [← hM]; exact h.short)
  have HI0 : Hid (J s0 ∧ Run p.m p.N p.L W s0 0 ∧ M + 0 = M) := Lib.hid ⟨hJ0, hrun, rfl⟩
  have HJ := Lib.hid hJ
  have HSZ := Lib.hid hsz
  have HS0 := Lib.hid hs
  have HP0 := Lib.hid hp
  have HPB := Lib.hid hpb
  have HG := Lib.hid hg
  clear hM hJ hsz hs hp hJ0 hrun ht hpb hg
  go_enter Tryz.func25, Tryz.ntmps25
  go_wp2
  go_loopg [3] M (fun q _ wr => ∃ (s : Tab) (j : Nat), Hid (J s ∧ Run p.m p.N p.L W s j ∧ q + j = M) ∧ Hid (Kp (fun k => g.tag k < 5) w wr) ∧ Hid (TS p g (prc p g) s wr) ∧ Hid (Arr wr g.pb (p.L + 1) (vec s.P)))
  case atStart => exact ⟨s0, 0, HI0, Lib.hid (Kp.refl _), HS0, HP0⟩
  case round =>
    obtain ⟨s, j, hin, hkp, hts, hpr⟩ := hrel
    obtain ⟨wo, hwo⟩ : ∃ wo : World, wo = wr := ⟨_, rfl⟩
    subst hwo
    have c7 : wo.cell? ⟨g.b, 7, none⟩ = some (.int .i64 0) := hts.out.err.1
    have c5 : wo.cell? ⟨g.b, 5, none⟩ = some (.int .i64 p.N) := hts.out.st.cell (i := 5) (by decide)
    have c1 : wo.cell? ⟨g.b, 1, none⟩ = some (.slice (some ⟨g.pb, 0, none⟩) (p.L + 1) g.cP) := hts.out.st.cell (i := 1) (by decide)
    have hb0 := hts.out.st.lt
    have hpl := hpr.out.lt
    have HSG : Hid (∀ k, k < p.L + 1 → ∀ w', Below wo.heap.size wo w' → Calls Tryz.prog 42 #[.string (ratS (s.P k))] w' fun e w2 => e = .returned (.int .i64 (sgnQ (s.P k))) ∧ Below w'.heap.size w' w2) := Lib.hid (fun k hk w' h => rsign_any _ (((HSZ.out s hin.out.1).2 k hk).mono (by omega)) w' (((HTL.out wo hkp.out).tab).below h))
    have HLV : Hid (∀ c, c < p.L + 1 → ∀ w', Below wo.heap.size wo w' → Calls Tryz.prog 66 #[.pointer (some ⟨g.b, 0, none⟩), .int .i64 c] w' (LvOut s.T s.base p.L c p.m w')) := Lib.hid (fun c hc w' h => leaving_any p g (prc p g) lo s c HG.out hm hc hL (HSZ.out s hin.out.1).1 w' (((HTL.out wo hkp.out).tab).below h) (hts.out.below h))
    have HPV : Hid (∀ r c, Bland p.m p.N p.L s r c → ∀ w', Below wo.heap.size wo w' → Calls Tryz.prog 67 #[.pointer (some ⟨g.b, 0, none⟩), .int .i64 r, .int .i64 c] w' fun e w2 => e = .returned (.tuple #[]) ∧ Kp (fun k => g.tag k < 5) w' w2 ∧ TS p g (prc p g) (s.pivot r c) w2 ∧ Arr w2 g.pb (p.L + 1) (vec (s.pivot r c).P)) := Lib.hid (fun r c hbl w' h => by
      obtain ⟨h1, h2⟩ := HSZ.out s hin.out.1
      exact pivot_any p g lo s r c HG.out HPB.out hbl.2.1 hm (by have := hbl.1.1; omega) hL (by have := hbl.2.2.1; grind) h1 h2 w' ((HTL.out wo hkp.out).step (h.mono (HTL.out wo hkp.out).1)) (hts.out.below h) (hpr.out.below h))
    have HNX : Hid (∀ r c, Bland p.m p.N p.L s r c → J (s.pivot r c) ∧ Run p.m p.N p.L W (s.pivot r c) (j + 1)) := Lib.hid (fun r c h => ⟨HJ.out s r c hin.out.1 h, hin.out.2.1.step h hNW⟩)
    have hgj : gk + j = M ∧ j < M := ⟨hin.out.2.2, HSH.out s j hin.out.2.1⟩
    obtain ⟨L, eL⟩ : ∃ L, p.L = L := ⟨_, rfl⟩
    obtain ⟨N, eN⟩ : ∃ N, p.N = N := ⟨_, rfl⟩
    have hNL : N ≤ L := by omega
    have hL20 : L ≤ 20 := by omega
    rw [eN] at c5
    rw [eL] at c1
    go_wp2
    go_loopw [3, 15] (fun col kv wr => ∃ k : Nat, k ≤ N ∧ kv = .int .i64 k ∧ col = .int .i64 (-1) ∧ Below wo.heap.size wo wr ∧ Hid (∀ i, i < k → 0 ≤ s.P i)) (fun _ kv _ => N - (intOf kv).toNat)
    case atStart => exact ⟨0, by omega, rfl, rfl, Below.refl _ _, Lib.hid (fun i hi => by omega)⟩
    case round =>
      obtain ⟨k, hk, rfl, rfl, hbel, hno⟩ := hrel
      have hsz := hbel.size
      by_cases hlt : k < N
      · have x1 := (hbel.cell (p := ⟨g.b, 1, none⟩) hb0).trans c1
        have xk : wr.cell? ⟨g.pb, k, none⟩ = some (.string (ratS (s.P k))) := (hbel.cell (p := ⟨g.pb, k, none⟩) hpl).trans (hpr.out.cell (by omega))
        have HS := Lib.hid (fun (w' : World) (h : Below wo.heap.size wo w') => HSG.out k (by omega) w' h)
        have hk0 : (0 : Int) ≤ k := by omega
        have hkL : (k : Int) < L + 1 := by omega
        by_cases hneg : s.P k < 0
        · have hsg := sgnQ_neg.2 hneg
          generalize sgnQ (s.P k) = sg at HS hsg
          have HNEG := Lib.hid hneg
          have HLk := Lib.hid (fun (w' : World) (h : Below wo.heap.size wo w') => HLV.out k (by omega) w' h)
          generalize ratS (s.P k) = S at HS xk
          clear hneg
          by_cases hex : ∀ i, i < p.m → ¬ 0 < s.T i k
          · have HEX := Lib.hid hex
            have HL1 : Hid (∀ w', Below wo.heap.size wo w' → Calls Tryz.prog 66 #[.pointer (some ⟨g.b, 0, none⟩), .int .i64 k] w' fun e w2 => e = .returned (.int .i64 (-1)) ∧ Below w'.heap.size w' w2) := Lib.hid (fun w' h => (HLk.out w' h).mono (by
              rintro e w2 ⟨h1, ⟨h2, _⟩ | ⟨r, hr, _, h3⟩⟩
              · exact ⟨h2, h1⟩
              · exact absurd h3.1 (HEX.out r hr)))
            clear hex HLk
            go_wp2_with (first | (go_at_call 42; (with_reducible refine (HS.out _ hbel).mono ?_); rintro e w2 ⟨rfl, hb2⟩; have hbl2 := hbel.trans (hb2.mono hsz)) | (go_at_call 66; (with_reducible refine (HL1.out _ hbl2).mono ?_); rintro e w3 ⟨rfl, hb3⟩; have hbl3 := hbl2.trans (hb3.mono hbl2.size)))
            go_ret
            exact ⟨s, hin.out.1, hkp.out.trans (Kp.below hbl3), hts.out.below hbl3, hpr.out.below hbl3, .inr ⟨k, by omega, rfl, HNEG.out, HEX.out⟩⟩
          · have HL2 : Hid (∀ w', Below wo.heap.size wo w' → Calls Tryz.prog 66 #[.pointer (some ⟨g.b, 0, none⟩), .int .i64 k] w' fun e w2 => ∃ r : Nat, e = .returned (.int .i64 r) ∧ Hid (Bland p.m p.N p.L s r k) ∧ Below w'.heap.size w' w2) := Lib.hid (fun w' h => (HLk.out w' h).mono (by
              rintro e w2 ⟨h1, ⟨_, h2⟩ | ⟨r, hr, rfl, h3⟩⟩
              · exact absurd h2 hex
              · exact ⟨r, rfl, Lib.hid ⟨⟨by omega, HNEG.out, fun q hq => hno.out q hq⟩, hr, h3.1, h3.2⟩, h1⟩))
            clear hex HLk
            go_wp2_with (first | (go_at_call 42; (with_reducible refine (HS.out _ hbel).mono ?_); rintro e w2 ⟨rfl, hb2⟩; have hbl2 := hbel.trans (hb2.mono hsz)) | (go_at_call 66; (with_reducible refine (HL2.out _ hbl2).mono ?_); rintro e w3 ⟨r, rfl, hbld, hb3⟩; have hbl3 := hbl2.trans (hb3.mono hbl2.size); have HPr := Lib.hid (HPV.out r k hbld.out w3 hbl3); have hr0 : (0 : Int) ≤ r := (by omega)) | (go_at_call 67; (with_reducible refine HPr.out.mono ?_); rintro e w4 ⟨rfl, k4, t4, a4⟩; have K4 := Lib.hid ((hkp.out.trans (Kp.below hbl3)).trans k4); have T4 := Lib.hid t4; have A4 := Lib.hid a4; clear k4 t4 a4))
            go_roundg (gk - 1)
            case measure => omega
            case rel => exact ⟨s.pivot r k, j + 1, Lib.hid ⟨(HNX.out r k hbld.out).1, (HNX.out r k hbld.out).2, by omega⟩, K4, T4, A4⟩
        · have hsg : ¬ sgnQ (s.P k) < 0 := fun h => hneg (sgnQ_neg.1 h)
          have HNO : Hid (∀ i, i < k + 1 → 0 ≤ s.P i) := Lib.hid (fun i hi => (Nat.lt_succ_iff_lt_or_eq.1 hi).elim (hno.out i) (fun e => by rw [e]; exact Rat.not_lt.1 hneg))
          generalize sgnQ (s.P k) = sg at HS hsg
          generalize ratS (s.P k) = S at HS xk
          clear hneg
          go_wp2_with (go_at_call 42; (with_reducible refine (HS.out _ hbel).mono ?_); rintro e w2 ⟨rfl, hb2⟩; have hbl2 := hbel.trans (hb2.mono hsz))
          go_roundw
          case rel => exact ⟨k + 1, by omega, by go_num, rfl, hbl2, HNO⟩
          case measure => simp [intOf]; omega
      · obtain rfl : k = N := by omega
        clear hlt
        go_wp2
        go_ret
        exact ⟨s, hin.out.1, hkp.out.trans (Kp.below hbel), hts.out.below hbel, hpr.out.below hbel, .inl ⟨rfl, fun i hi => hno.out i (by omega)⟩⟩
end Go.Proofs.YthcmopgdjibojaaGreatDoor.smp

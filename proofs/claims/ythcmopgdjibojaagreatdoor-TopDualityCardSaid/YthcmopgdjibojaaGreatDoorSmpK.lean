/- simplex: ray. -/
import Derived.Test.YthcmopgdjibojaaGreatDoorSmpJ
namespace Go.Proofs.YthcmopgdjibojaaGreatDoor.smp
open Go.RowKit
open Go.Proofs.YthcmopgdjibojaaGreatDoor.lib Go.Proofs.YthcmopgdjibojaaGreatDoor.app Go.Proofs.YthcmopgdjibojaaGreatDoor.nt Go.Proofs.YthcmopgdjibojaaGreatDoor.rd Go.Proofs.YthcmopgdjibojaaGreatDoor.wh Go.Proofs.YthcmopgdjibojaaGreatDoor.smx Go.Proofs.YthcmopgdjibojaaGreatDoor.rat
set_option linter.unusedVariables false
set_option linter.unusedSimpArgs false

set_option maxRecDepth 20000 in
set_option maxHeartbeats 4000000 in
theorem ray_any (p : Lp) (g : Geo) (pv : Value) (lo : Nat) (s : Tab) (hg : GeoOk p g lo) (hm : p.m ≤ 6) (hL : p.L ≤ 20) (hn : p.n ≤ 20) (hinj : ∀ q i, i < p.m → q < i → s.base q ≠ s.base i)
    (col : Nat) (hc : col < p.L + 1) (hbc : ∀ i, i < p.m → s.base i ≠ col) (hD : ∀ i, i < p.m → Dg 200 (s.T i col)) (w : World) (ht : TabT w) (hs : TS p g pv s w) :
    Calls Tryz.prog 30 #[.pointer (some ⟨g.b, 0, none⟩), .int .i64 col] w (RatsOut p.n (scF (fun k => if k = col then 1 else 0) s.base (fun q => 0 - s.T q col) p.m) w) := by
  have herr := hs.err
  have x0 : w.cell? ⟨g.b, 0, none⟩ = some (.slice g.AR p.m g.cR) := hs.st.cell (i := 0) (by decide)
  have x2 : w.cell? ⟨g.b, 2, none⟩ = some (.slice g.AB p.m g.cB) := hs.st.cell (i := 2) (by decide)
  have x6 : w.cell? ⟨g.b, 6, none⟩ = some (.int .i64 p.n) := hs.st.cell (i := 6) (by decide)
  have hbl := hs.st.lt
  have HTWO : Hid (0 < p.m → g.AR = some ⟨g.R, 0, none⟩ ∧ g.AB = some ⟨g.bb, 0, none⟩) := Lib.hid (fun h => ⟨(hg.two h).2.2.2.2.1, (hg.two h).2.2.2.2.2.1⟩)
  have HR := Lib.hid hs.rows
  have HRW := Lib.hid hs.row
  have HBS := Lib.hid hs.base
  obtain ⟨T, P, base⟩ := s
  simp only at HRW HBS hinj ⊢
  have HINJ := Lib.hid hinj
  simp only at hbc hD
  have HBC := Lib.hid hbc
  have HSU : Hid (∀ i, i < p.m → ∀ w', Below w.heap.size w w' → Calls Tryz.prog 64 #[.pointer (some ⟨g.b, 0, none⟩), .string ⟨#[48]⟩, .string (ratS (T i col))] w' fun e w2 => e = .returned (.string (ratS (0 - T i col))) ∧ Below w'.heap.size w' w2) := Lib.hid (fun i hi w' h => by
    rw [← rat_zero]
    exact sub_any g.b 0 _ w' (Dg.zero.mono (by omega)) ((hD i hi).mono (by omega)) (herr.below h) (ht.below h))
  clear hg hs hinj hbc hD herr ht
  obtain ⟨b, eb⟩ : ∃ b, g.b = b := ⟨_, rfl⟩
  rw [eb] at HSU
  have EB := Lib.hid eb
  obtain ⟨b, R, ub, tb, bb, pb, rb, tag, AR, AB, AU, AT, cR, cB, cU, cT, cP⟩ := g
  simp only at x0 x2 x6 HTWO HR HRW HBS hbl ⊢
  obtain ⟨L, eL⟩ : ∃ L, p.L = L := ⟨_, rfl⟩
  obtain ⟨m, em⟩ : ∃ m, p.m = m := ⟨_, rfl⟩
  obtain ⟨n, en⟩ : ∃ n, p.n = n := ⟨_, rfl⟩
  rw [eL, em] at HR HRW
  rw [em] at hm x0 x2 HTWO HBS HINJ
  rw [eL] at hL
  rw [en] at x6 hn
  simp only at eb
  subst eb
  rw [em, en]
  rw [em] at HBC HSU
  rw [eL] at hc
  clear em eL en EB
  have hc0 : (0 : Int) ≤ col := by omega
  have hcL : (col : Int) < L + 1 := by omega
  go_enter Tryz.func30, Tryz.ntmps30
  go_wp2_with (at_make; refine make_rats rfl _ _ rfl n rfl rfl (by omega) ?_; intro w3 hA3 hb3)
  have HA3 : Hid (Arr w3 w.heap.size n (fun j => if j < 0 then vec (fun _ => 0) j else .string ⟨#[]⟩)) := Lib.hid (hA3.congr fun i hi => by rw [if_neg (by omega)])
  have hz3 : w.heap.size < w3.heap.size := hA3.lt
  clear hA3
  have HX : Hid (∀ x, Kp (fun k => k ≠ w.heap.size) w3 x → Below w.heap.size w x) := Lib.hid (fun x hx => hb3.trans (hx.lo (Nat.le_refl _) (by omega)))
  clear hb3
  go_loopw [16] (fun iv wr => ∃ k : Nat, k ≤ n ∧ iv = .int .i64 k ∧ Hid (Kp (fun k => k ≠ w.heap.size) w3 wr) ∧ Hid (Arr wr w.heap.size n (fun j => if j < k then vec (fun _ => 0) j else .string ⟨#[]⟩))) (fun iv _ => n - (intOf iv).toNat)
  case atStart => exact ⟨0, by omega, rfl, Lib.hid (Kp.refl _), HA3⟩
  case round =>
    obtain ⟨k, hk, rfl, hkp, har⟩ := hrel
    by_cases hlt : k < n
    · have hcx := har.out.cell hlt
      rw [if_neg (Nat.lt_irrefl k)] at hcx
      have hfx := har.out.frozen k
      have hk0 : (0 : Int) ≤ k := by omega
      have hkL : (k : Int) < n := by omega
      have HF : Hid (Kp (fun k => k ≠ w.heap.size) w3 (wr.setCell ⟨w.heap.size, k, none⟩ (.string ⟨#[48]⟩)) ∧ Arr (wr.setCell ⟨w.heap.size, k, none⟩ (.string ⟨#[48]⟩)) w.heap.size n (fun j => if j < k + 1 then vec (fun _ => 0) j else .string ⟨#[]⟩)) := Lib.hid ⟨hkp.out.set (fun j _ h => h) _, arr_next har.out _ (by unfold vec; rw [rat_zero])⟩
      clear har
      go_wp2
      go_roundw
      case rel => exact ⟨k + 1, by omega, by go_num, Lib.hid HF.out.1, Lib.hid HF.out.2⟩
      case measure => simp [intOf]; omega
    · obtain rfl : k = n := by omega
      clear hlt
      have y6 := ((HX.out wr hkp.out).cell (p := ⟨b, 6, none⟩) hbl).trans x6
      by_cases hcn : col < k
      · have hcn' : (col : Int) < k := by omega
        have hcx := har.out.cell hcn
        have hfx := har.out.frozen col
        have HA : Hid (Arr (wr.setCell ⟨w.heap.size, col, none⟩ (.string ⟨#[49]⟩)) w.heap.size k (vec (scF (fun k => if k = col then 1 else 0) base (fun q => 0 - T q col) 0))) := Lib.hid ((har.out.set col _).congr fun j hj => by
          show (if j = col then Value.string ⟨#[49]⟩ else if j < k then vec (fun _ => 0) j else _) = .string (ratS (scF _ base _ 0 j))
          rw [scF_zero]
          by_cases e : j = col
          · rw [if_pos e, if_pos e, one_S]
          · rw [if_neg e, if_neg e, if_pos hj]; rfl)
        have HK : Hid (Kp (fun k => k ≠ w.heap.size) w3 (wr.setCell ⟨w.heap.size, col, none⟩ (.string ⟨#[49]⟩))) := Lib.hid (hkp.out.set (fun j _ h => h) _)
        clear har
        go_upto_region 9 with fail
        generalize wr.setCell ⟨w.heap.size, col, none⟩ (.string ⟨#[49]⟩) = wo at HA HK ⊢
        clear hkp hcx hfx y6
        have y2 := ((HX.out wo HK.out).cell (p := ⟨b, 2, none⟩) hbl).trans x2
        go_wp2
        go_loopw [37] (fun iv wr => ∃ i : Nat, i ≤ m ∧ iv = .int .i64 i ∧ Hid (Kp (fun k => k ≠ w.heap.size) w3 wr) ∧ Hid (Arr wr w.heap.size k (vec (scF (fun k => if k = col then 1 else 0) base (fun q => 0 - T q col) i)))) (fun iv _ => m - (intOf iv).toNat)
        case atStart => exact ⟨0, by omega, rfl, HK, HA⟩
        case round =>
          obtain ⟨i, hi, rfl, hkp, har⟩ := hrel
          by_cases hlti : i < m
          · obtain ⟨rfl, rfl⟩ := HTWO.out (by omega)
            have hb := HX.out wr hkp.out
            have y0 := (hb.cell (p := ⟨b, 0, none⟩) hbl).trans x0
            have y6 := (hb.cell (p := ⟨b, 6, none⟩) hbl).trans x6
            have hbb := HBS.out (by omega)
            have cb := (hb.cell (p := ⟨bb, i, none⟩) hbb.lt).trans (hbb.cell hlti)
            have cR' := (hb.cell (p := ⟨R, i, none⟩) (HR.out (by omega)).lt).trans ((HR.out (by omega)).cell hlti)
            have hAi := HRW.out i hlti
            have cL : wr.cell? ⟨rb i, col, none⟩ = some (.string (ratS (T i col))) := (hb.cell (p := ⟨rb i, col, none⟩) hAi.lt).trans (hAi.cell hc)
            have hi0 : (0 : Int) ≤ i := by omega
            have him : (i : Int) < m := by omega
            have hb0 : (0 : Int) ≤ base i := by omega
            have HS := Lib.hid (HSU.out i hlti)
            by_cases hbn : base i < k
            · have hbn' : (base i : Int) < k := by omega
              have HF : Hid (∀ x, Below wr.heap.size wr x → Kp (fun k => k ≠ w.heap.size) w3 (x.setCell ⟨w.heap.size, base i, none⟩ (.string (ratS (0 - T i col)))) ∧ Arr (x.setCell ⟨w.heap.size, base i, none⟩ (.string (ratS (0 - T i col)))) w.heap.size k (vec (scF (fun k => if k = col then 1 else 0) base (fun q => 0 - T q col) (i + 1))) ∧ (∃ u, x.cell? ⟨w.heap.size, base i, none⟩ = some u) ∧ x.frozen? ⟨w.heap.size, base i, none⟩ = false) := Lib.hid (fun x hx => ⟨(hkp.out.trans (Kp.below hx)).set (fun j _ h => h) _, ((har.out.below hx).set (base i) _).congr fun j hj => by
                show (if j = base i then Value.string (ratS (0 - T i col)) else .string (ratS (scF _ base _ i j))) = .string (ratS (scF _ base _ (i + 1) j))
                by_cases e : j = base i
                · rw [if_pos e, e, scF_here _ base _ (fun q hq => HINJ.out q i hlti hq) (if_neg (HBC.out i hlti))]
                · rw [if_neg e, scF_other _ base _ (Ne.symm e)], ⟨_, (har.out.below hx).cell hbn⟩, (har.out.below hx).frozen _⟩)
              clear hbb hAi har
              generalize ratS (0 - T i col) = X at HS HF
              generalize ratS (T i col) = V at cL HS
              generalize rb i = rbi at cR' cL
              generalize base i = bi at cb hb0 hbn hbn' HF
              go_wp2_with (go_at_call 64; (with_reducible refine (HS.out _ hb).mono ?_); rintro e w6 ⟨rfl, hb6⟩; obtain ⟨f1, f2, ⟨u0, f3⟩, f4⟩ := HF.out w6 hb6; have F1 := Lib.hid f1; have F2 := Lib.hid f2; clear f1 f2)
              go_roundw
              case rel => exact ⟨i + 1, by omega, by go_num, F1, F2⟩
              case measure => simp [intOf]; omega
            · have hbn' : ¬ (base i : Int) < k := by omega
              have HA : Hid (Arr wr w.heap.size k (vec (scF (fun k => if k = col then 1 else 0) base (fun q => 0 - T q col) (i + 1)))) := Lib.hid (har.out.congr fun j hj => by unfold vec; rw [scF_other _ base _ (by omega)])
              clear har hbb hAi
              go_wp2
              go_roundw
              case rel => exact ⟨i + 1, by omega, by go_num, hkp, HA⟩
              case measure => simp [intOf]; omega
          · obtain rfl : i = m := by omega
            clear hlti
            go_wp2
            go_ret
            exact ⟨w.heap.size, Nat.le_refl _, rfl, har.out, HX.out wr hkp.out⟩
      · have hcn' : ¬ (col : Int) < k := by omega
        have HA : Hid (Arr wr w.heap.size k (vec (scF (fun k => if k = col then 1 else 0) base (fun q => 0 - T q col) 0))) := Lib.hid (har.out.congr fun j hj => by
          show (if j < k then vec (fun _ => 0) j else _) = .string (ratS (scF _ base _ 0 j))
          rw [scF_zero, if_pos hj, if_neg (by omega)]; rfl)
        have HK := Lib.hid hkp.out
        clear har
        go_upto_region 9 with fail
        obtain ⟨wo, hwo⟩ : ∃ wo : World, wo = wr := ⟨_, rfl⟩
        subst hwo
        clear hkp y6
        have y2 := ((HX.out wo HK.out).cell (p := ⟨b, 2, none⟩) hbl).trans x2
        go_wp2
        go_loopw [37] (fun iv wr => ∃ i : Nat, i ≤ m ∧ iv = .int .i64 i ∧ Hid (Kp (fun k => k ≠ w.heap.size) w3 wr) ∧ Hid (Arr wr w.heap.size k (vec (scF (fun k => if k = col then 1 else 0) base (fun q => 0 - T q col) i)))) (fun iv _ => m - (intOf iv).toNat)
        case atStart => exact ⟨0, by omega, rfl, HK, HA⟩
        case round =>
          obtain ⟨i, hi, rfl, hkp, har⟩ := hrel
          by_cases hlti : i < m
          · obtain ⟨rfl, rfl⟩ := HTWO.out (by omega)
            have hb := HX.out wr hkp.out
            have y0 := (hb.cell (p := ⟨b, 0, none⟩) hbl).trans x0
            have y6 := (hb.cell (p := ⟨b, 6, none⟩) hbl).trans x6
            have hbb := HBS.out (by omega)
            have cb := (hb.cell (p := ⟨bb, i, none⟩) hbb.lt).trans (hbb.cell hlti)
            have cR' := (hb.cell (p := ⟨R, i, none⟩) (HR.out (by omega)).lt).trans ((HR.out (by omega)).cell hlti)
            have hAi := HRW.out i hlti
            have cL : wr.cell? ⟨rb i, col, none⟩ = some (.string (ratS (T i col))) := (hb.cell (p := ⟨rb i, col, none⟩) hAi.lt).trans (hAi.cell hc)
            have hi0 : (0 : Int) ≤ i := by omega
            have him : (i : Int) < m := by omega
            have hb0 : (0 : Int) ≤ base i := by omega
            have HS := Lib.hid (HSU.out i hlti)
            by_cases hbn : base i < k
            · have hbn' : (base i : Int) < k := by omega
              have HF : Hid (∀ x, Below wr.heap.size wr x → Kp (fun k => k ≠ w.heap.size) w3 (x.setCell ⟨w.heap.size, base i, none⟩ (.string (ratS (0 - T i col)))) ∧ Arr (x.setCell ⟨w.heap.size, base i, none⟩ (.string (ratS (0 - T i col)))) w.heap.size k (vec (scF (fun k => if k = col then 1 else 0) base (fun q => 0 - T q col) (i + 1))) ∧ (∃ u, x.cell? ⟨w.heap.size, base i, none⟩ = some u) ∧ x.frozen? ⟨w.heap.size, base i, none⟩ = false) := Lib.hid (fun x hx => ⟨(hkp.out.trans (Kp.below hx)).set (fun j _ h => h) _, ((har.out.below hx).set (base i) _).congr fun j hj => by
                show (if j = base i then Value.string (ratS (0 - T i col)) else .string (ratS (scF _ base _ i j))) = .string (ratS (scF _ base _ (i + 1) j))
                by_cases e : j = base i
                · rw [if_pos e, e, scF_here _ base _ (fun q hq => HINJ.out q i hlti hq) (if_neg (HBC.out i hlti))]
                · rw [if_neg e, scF_other _ base _ (Ne.symm e)], ⟨_, (har.out.below hx).cell hbn⟩, (har.out.below hx).frozen _⟩)
              clear hbb hAi har
              generalize ratS (0 - T i col) = X at HS HF
              generalize ratS (T i col) = V at cL HS
              generalize rb i = rbi at cR' cL
              generalize base i = bi at cb hb0 hbn hbn' HF
              go_wp2_with (go_at_call 64; (with_reducible refine (HS.out _ hb).mono ?_); rintro e w6 ⟨rfl, hb6⟩; obtain ⟨f1, f2, ⟨u0, f3⟩, f4⟩ := HF.out w6 hb6; have F1 := Lib.hid f1; have F2 := Lib.hid f2; clear f1 f2)
              go_roundw
              case rel => exact ⟨i + 1, by omega, by go_num, F1, F2⟩
              case measure => simp [intOf]; omega
            · have hbn' : ¬ (base i : Int) < k := by omega
              have HA : Hid (Arr wr w.heap.size k (vec (scF (fun k => if k = col then 1 else 0) base (fun q => 0 - T q col) (i + 1)))) := Lib.hid (har.out.congr fun j hj => by unfold vec; rw [scF_other _ base _ (by omega)])
              clear har hbb hAi
              go_wp2
              go_roundw
              case rel => exact ⟨i + 1, by omega, by go_num, hkp, HA⟩
              case measure => simp [intOf]; omega
          · obtain rfl : i = m := by omega
            clear hlti
            go_wp2
            go_ret
            exact ⟨w.heap.size, Nat.le_refl _, rfl, har.out, HX.out wr hkp.out⟩
end Go.Proofs.YthcmopgdjibojaaGreatDoor.smp

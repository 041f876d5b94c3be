/- simplex: clean. -/
import Derived.Test.YthcmopgdjibojaaGreatDoorSmpD
namespace Go.Proofs.YthcmopgdjibojaaGreatDoor.smp
open Go.RowKit
open Go.Proofs.YthcmopgdjibojaaGreatDoor.lib Go.Proofs.YthcmopgdjibojaaGreatDoor.app Go.Proofs.YthcmopgdjibojaaGreatDoor.nt Go.Proofs.YthcmopgdjibojaaGreatDoor.rd Go.Proofs.YthcmopgdjibojaaGreatDoor.wh Go.Proofs.YthcmopgdjibojaaGreatDoor.smx Go.Proofs.YthcmopgdjibojaaGreatDoor.rat
set_option linter.unusedVariables false
set_option linter.unusedSimpArgs false

/-- The first rows are clean: where an identity column is basic, the row is 0 in all columns that may enter. -/
def ClnTo (N : Nat) (s : Tab) (i : Nat) : Prop := ∀ j, j < i → N ≤ s.base j → ∀ k, k < N → s.T j k = 0
theorem ClnTo.pivot {N : Nat} {s : Tab} {i c : Nat} (h : ClnTo N s i) (hc : c < N) : ClnTo N (s.pivot i c) (i + 1) := fun j hj hb k hk => by
  have hb' : N ≤ upd s.base i c j := hb
  unfold upd at hb'
  by_cases e : j = i
  · rw [if_pos e] at hb'; omega
  · rw [if_neg e] at hb'
    show pivT s.T i c j k = 0
    unfold pivT
    rw [if_neg e, h j (by omega) hb' k hk, h j (by omega) hb' c hc, Rat.zero_mul, Rat.sub_eq_add_neg, Rat.neg_zero, Rat.add_zero]
theorem ClnTo.stay {N : Nat} {s : Tab} {i : Nat} (h : ClnTo N s i) (h1 : N ≤ s.base i → ∀ k, k < N → s.T i k = 0) : ClnTo N s (i + 1) := fun j hj => by
  rcases Nat.lt_succ_iff_lt_or_eq.1 hj with h2 | h2
  · exact h j h2
  · rw [h2]; exact h1
def ClnOut (p : Lp) (g : Geo) (J : Tab → Prop) (w : World) (e : Ending) (w' : World) : Prop :=
  ∃ s, e = .returned (.tuple #[]) ∧ J s ∧ Kp (fun k => g.tag k < 5) w w' ∧ TS p g (prc p g) s w' ∧ Arr w' g.pb (p.L + 1) (vec s.P) ∧ ClnTo p.N s p.m
set_option maxRecDepth 20000 in
set_option maxHeartbeats 4000000 in
theorem clean_any (p : Lp) (g : Geo) (lo : Nat) (s0 : Tab) (J : Tab → Prop) (hg : GeoOk p g lo) (hpb : g.tag g.pb = 6) (hm : p.m ≤ 6) (hL : p.L ≤ 20) (hN : p.N ≤ p.L)
    (hJ0 : J s0) (hJ : ∀ s r c, J s → r < p.m → c < p.N → p.N ≤ s.base r → s.T r c ≠ 0 → J (s.pivot r c))
    (hsz : ∀ s, J s → (∀ i k, i < p.m → k < p.L + 1 → Dg 200 (s.T i k)) ∧ ∀ k, k < p.L + 1 → Dg 200 (s.P k))
    (w : World) (ht : TabL lo w) (hs : TS p g (prc p g) s0 w) (hp : Arr w g.pb (p.L + 1) (vec s0.P)) :
    Calls Tryz.prog 28 #[.pointer (some ⟨g.b, 0, none⟩)] w (ClnOut p g J w) := by
  have tlo := hg.low
  have HTL : Hid (∀ x, Kp (fun k => g.tag k < 5) w x → TabL lo x) := Lib.hid (fun x hx => ht.step (hx.below_of ht.1 (fun k hk => by rw [tlo k hk]; decide)))
  have c0 : w.cell? ⟨g.b, 0, none⟩ = some (.slice g.AR p.m g.cR) := hs.st.cell (i := 0) (by decide)
  have HTWO : Hid (0 < p.m → g.AR = some ⟨g.R, 0, none⟩ ∧ g.AB = some ⟨g.bb, 0, none⟩) := Lib.hid (fun h => ⟨(hg.two h).2.2.2.2.1, (hg.two h).2.2.2.2.2.1⟩)
  have HI0 : Hid (J s0 ∧ ClnTo p.N s0 0) := Lib.hid ⟨hJ0, fun j hj => by omega⟩
  have HJ := Lib.hid hJ
  have HSZ := Lib.hid hsz
  have HS0 := Lib.hid hs
  have HP0 := Lib.hid hp
  have HPB := Lib.hid hpb
  have HG := Lib.hid hg
  obtain ⟨m, em⟩ : ∃ m, p.m = m := ⟨_, rfl⟩
  obtain ⟨L, eL⟩ : ∃ L, p.L = L := ⟨_, rfl⟩
  obtain ⟨N, eN⟩ : ∃ N, p.N = N := ⟨_, rfl⟩
  obtain ⟨AR, eAR⟩ : ∃ AR, g.AR = AR := ⟨_, rfl⟩
  obtain ⟨AB, eAB⟩ : ∃ AB, g.AB = AB := ⟨_, rfl⟩
  have EQ := Lib.hid (And.intro em (And.intro eL (And.intro eN (And.intro eAR eAB))))
  rw [em, eAR] at c0
  rw [em, eAR, eAB] at HTWO
  clear hJ hsz hs hp hJ0 ht hpb hg em eL eN eAR eAB
  go_enter Tryz.func28, Tryz.ntmps28
  go_wp2
  go_loopw [10] (fun iv wr => ∃ (i : Nat) (s : Tab), i ≤ m ∧ iv = .int .i64 i ∧ Hid (J s ∧ ClnTo N s i) ∧ Hid (Kp (fun k => g.tag k < 5) w wr) ∧ Hid (TS p g (prc p g) s wr) ∧ Hid (Arr wr g.pb (p.L + 1) (vec s.P))) (fun iv _ => m - (intOf iv).toNat)
  case atStart => exact ⟨0, s0, by omega, rfl, by rw [← EQ.out.2.2.1]; exact HI0, Lib.hid (Kp.refl _), HS0, HP0⟩
  case round =>
    obtain ⟨i, s, hi, rfl, hin, hkp, hts, hpr⟩ := hrel
    obtain ⟨wo, hwo⟩ : ∃ wo : World, wo = wr := ⟨_, rfl⟩
    subst hwo
    by_cases hlti : i < m
    · obtain ⟨eAR, eAB⟩ := HTWO.out (by omega)
      subst eAR
      subst eAB
      have hm0 : 0 < p.m := by rw [EQ.out.1]; omega
      have him : i < p.m := by rw [EQ.out.1]; exact hlti
      have c5 : wo.cell? ⟨g.b, 5, none⟩ = some (.int .i64 N) := by rw [← EQ.out.2.2.1]; exact hts.out.st.cell (i := 5) (by decide)
      have c2 : wo.cell? ⟨g.b, 2, none⟩ = some (.slice (some ⟨g.bb, 0, none⟩) m g.cB) := by rw [← EQ.out.1, ← EQ.out.2.2.2.2]; exact hts.out.st.cell (i := 2) (by decide)
      have cb : wo.cell? ⟨g.bb, i, none⟩ = some (.int .i64 (s.base i)) := (hts.out.base hm0).cell him
      have cR : wo.cell? ⟨g.R, i, none⟩ = some (.slice (some ⟨g.rb i, 0, none⟩) (L + 1) (L + 1)) := by rw [← EQ.out.2.1]; exact (hts.out.rows hm0).cell him
      have hi0 : (0 : Int) ≤ i := by omega
      have him' : (i : Int) < m := by omega
      go_upto_region 3 with fail
      (refine wp_region_held_drew (S := (fun w' => w'.cell? ⟨g.b, 2, none⟩ = some (.slice (some ⟨g.bb, 0, none⟩) m g.cB) ∧ w'.cell? ⟨g.bb, i, none⟩ = some (.int .i64 (s.base i)) ∧ w'.cell? ⟨g.b, 5, none⟩ = some (.int .i64 N))) (by kernel_rfl) ?_ (fun hHeld => ?_))
      · exact ⟨c2, cb, c5⟩
      (refine wpAnyH_take (i := 0) (v := ?_) rfl (by kernel_rfl) (by kernel_rfl) (by kernel_rfl) (fun _ _ _ h => h) (Or.inl ⟨by kernel_rfl, ?_⟩) (by assumption) ?_; rotate_left; (focus (intro w hSw; (try dsimp only at hSw); go_simp; all_goals with_reducible rfl)); (try simp only [Act.put, List.getElem_toArray, List.getElem_cons_succ, List.getElem_cons_zero, List.setIfInBounds_toArray, List.set_cons_zero, List.set_cons_succ]))
      (refine wpAnyH_take (i := 1) (v := ?_) rfl (by kernel_rfl) (by kernel_rfl) (by kernel_rfl) (fun _ _ _ h => h) (Or.inl ⟨by kernel_rfl, ?_⟩) (by assumption) ?_; rotate_left; (focus (intro w hSw; (try dsimp only at hSw); go_simp; all_goals with_reducible rfl)); (try simp only [Act.put, List.getElem_toArray, List.getElem_cons_succ, List.getElem_cons_zero, List.setIfInBounds_toArray, List.set_cons_zero, List.set_cons_succ]))
      (refine wpAnyH_take (i := 2) (v := ?_) rfl (by kernel_rfl) (by kernel_rfl) (by kernel_rfl) (fun _ _ _ h => h) (Or.inl ⟨by kernel_rfl, ?_⟩) (by assumption) ?_; rotate_left; (focus (intro w hSw; (try dsimp only at hSw); go_simp; all_goals with_reducible rfl)); (try simp only [Act.put, List.getElem_toArray, List.getElem_cons_succ, List.getElem_cons_zero, List.setIfInBounds_toArray, List.set_cons_zero, List.set_cons_succ]))
      (refine wpAnyH_take (i := 3) (v := ?_) rfl (by kernel_rfl) (by kernel_rfl) (by kernel_rfl) (fun _ _ _ h => h) (Or.inl ⟨by kernel_rfl, ?_⟩) (by assumption) ?_; rotate_left; (focus (intro w hSw; (try dsimp only at hSw); go_simp; all_goals with_reducible rfl)); (try simp only [Act.put, List.getElem_toArray, List.getElem_cons_succ, List.getElem_cons_zero, List.setIfInBounds_toArray, List.set_cons_zero, List.set_cons_succ]))
      (refine wpAnyH_take (i := 4) (v := ?_) rfl (by kernel_rfl) (by kernel_rfl) (by kernel_rfl) (fun _ _ _ h => h) (Or.inl ⟨by kernel_rfl, ?_⟩) (by assumption) ?_; rotate_left; (focus (intro w hSw; (try dsimp only at hSw); go_simp; all_goals with_reducible rfl)); (try simp only [Act.put, List.getElem_toArray, List.getElem_cons_succ, List.getElem_cons_zero, List.setIfInBounds_toArray, List.set_cons_zero, List.set_cons_succ]))
      (refine wpAnyH_take (i := 5) (v := ?_) rfl (by kernel_rfl) (by kernel_rfl) (by kernel_rfl) (fun _ _ _ h => h) (Or.inl ⟨by kernel_rfl, ?_⟩) (by assumption) ?_; rotate_left; (focus (intro w hSw; (try dsimp only at hSw); go_simp; all_goals with_reducible rfl)); (try simp only [Act.put, List.getElem_toArray, List.getElem_cons_succ, List.getElem_cons_zero, List.setIfInBounds_toArray, List.set_cons_zero, List.set_cons_succ]))
      (refine wpAnyH_take (i := 6) (v := ?_) rfl (by kernel_rfl) (by kernel_rfl) (by kernel_rfl) (fun _ _ _ h => h) (Or.inl ⟨by kernel_rfl, ?_⟩) (by assumption) ?_; rotate_left; (focus (intro w hSw; (try dsimp only at hSw); go_simp; all_goals with_reducible rfl)); (try simp only [Act.put, List.getElem_toArray, List.getElem_cons_succ, List.getElem_cons_zero, List.setIfInBounds_toArray, List.set_cons_zero, List.set_cons_succ]))
      (refine wpAnyH_take (i := 7) (v := ?_) rfl (by kernel_rfl) (by kernel_rfl) (by kernel_rfl) (fun _ _ _ h => h) (Or.inl ⟨by kernel_rfl, ?_⟩) (by assumption) ?_; rotate_left; (focus (intro w hSw; (try dsimp only at hSw); go_simp; all_goals with_reducible rfl)); (try simp only [Act.put, List.getElem_toArray, List.getElem_cons_succ, List.getElem_cons_zero, List.setIfInBounds_toArray, List.set_cons_zero, List.set_cons_succ]))
      (refine wpAnyH_take (i := 8) (v := ?_) rfl (by kernel_rfl) (by kernel_rfl) (by kernel_rfl) (fun _ _ _ h => h) (Or.inl ⟨by kernel_rfl, ?_⟩) (by assumption) ?_; rotate_left; (focus (intro w hSw; (try dsimp only at hSw); go_simp; all_goals with_reducible rfl)); (try simp only [Act.put, List.getElem_toArray, List.getElem_cons_succ, List.getElem_cons_zero, List.setIfInBounds_toArray, List.set_cons_zero, List.set_cons_succ]))
      (refine wpAnyH_take (i := 9) (v := ?_) rfl (by kernel_rfl) (by kernel_rfl) (by kernel_rfl) (fun _ _ _ h => h) (Or.inl ⟨by kernel_rfl, ?_⟩) (by assumption) ?_; rotate_left; (focus (intro w hSw; (try dsimp only at hSw); go_simp; all_goals with_reducible rfl)); (try simp only [Act.put, List.getElem_toArray, List.getElem_cons_succ, List.getElem_cons_zero, List.setIfInBounds_toArray, List.set_cons_zero, List.set_cons_succ]))
      (refine wpAnyH_take (i := 10) (v := ?_) rfl (by kernel_rfl) (by kernel_rfl) (by kernel_rfl) (fun _ _ _ h => h) (Or.inl ⟨by kernel_rfl, ?_⟩) (by assumption) ?_; rotate_left; (focus (intro w hSw; (try dsimp only at hSw); go_simp; all_goals with_reducible rfl)); (try simp only [Act.put, List.getElem_toArray, List.getElem_cons_succ, List.getElem_cons_zero, List.setIfInBounds_toArray, List.set_cons_zero, List.set_cons_succ]))
      (refine wpAnyH_take (i := 11) (v := ?_) rfl (by kernel_rfl) (by kernel_rfl) (by kernel_rfl) (fun _ _ _ h => h) (Or.inl ⟨by kernel_rfl, ?_⟩) (by assumption) ?_; rotate_left; (focus (intro w hSw; (try dsimp only at hSw); go_simp; all_goals with_reducible rfl)); (try simp only [Act.put, List.getElem_toArray, List.getElem_cons_succ, List.getElem_cons_zero, List.setIfInBounds_toArray, List.set_cons_zero, List.set_cons_succ]))
      (refine wpAnyH_done (by kernel_rfl) ?_ _)
      clear hHeld
      have bW : Below wo.heap.size wo wo.drew := (Below.refl _ _).drew
      have hkpW := Lib.hid (hkp.out.trans (Kp.below bW))
      have htsW := Lib.hid (hts.out.below bW)
      have hprW := Lib.hid (hpr.out.below bW)
      have c5W : wo.drew.cell? ⟨g.b, 5, none⟩ = some (.int .i64 N) := c5
      clear hkp hts hpr c5 c2 cb cR bW
      generalize wo.drew = W at hkpW htsW hprW c5W ⊢
      have hkp := hkpW
      have hts := htsW
      have hpr := hprW
      clear hkpW htsW hprW
      by_cases hbs : s.base i < N
      · have hbs' : (s.base i : Int) < N := by omega
        have HC : Hid (J s ∧ ClnTo N s (i + 1)) := Lib.hid ⟨hin.out.1, hin.out.2.stay (fun h => by omega)⟩
        clear hbs
        go_wp2
        go_roundw
        case rel => exact ⟨i + 1, s, by omega, by go_num, HC, hkp, hts, hpr⟩
        case measure => simp [intOf]; omega
      · have hbs' : ¬ (s.base i : Int) < N := by omega
        have HPV : Hid (∀ k, k < N → s.T i k ≠ 0 → Calls Tryz.prog 67 #[.pointer (some ⟨g.b, 0, none⟩), .int .i64 i, .int .i64 k] W fun e w2 => e = .returned (.tuple #[]) ∧ Kp (fun k => g.tag k < 5) W w2 ∧ TS p g (prc p g) (s.pivot i k) w2 ∧ Arr w2 g.pb (p.L + 1) (vec (s.pivot i k).P)) := Lib.hid (fun k hk hne => by
          obtain ⟨h1, h2⟩ := HSZ.out s hin.out.1
          exact pivot_any p g lo s i k HG.out HPB.out him hm (by rw [← EQ.out.2.2.1] at hk; omega) hL hne h1 h2 W (HTL.out W hkp.out) hts.out hpr.out)
        have HNX : Hid (∀ k, k < N → s.T i k ≠ 0 → J (s.pivot i k) ∧ ClnTo N (s.pivot i k) (i + 1)) := Lib.hid (fun k hk hne => ⟨HJ.out s i k hin.out.1 him (by rw [EQ.out.2.2.1]; exact hk) (by rw [EQ.out.2.2.1]; omega) hne, hin.out.2.pivot hk⟩)
        have HST : Hid ((∀ k, k < N → s.T i k = 0) → J s ∧ ClnTo N s (i + 1)) := Lib.hid (fun h => ⟨hin.out.1, hin.out.2.stay (fun _ => h)⟩)
        have HROW : Hid (∀ k, k < N → W.cell? ⟨g.rb i, k, none⟩ = some (.string (ratS (s.T i k)))) := Lib.hid (fun k hk => (hts.out.row i him).cell (by rw [← EQ.out.2.2.1] at hk; omega))
        have hNL : N ≤ L := by rw [← EQ.out.2.2.1, ← EQ.out.2.1]; exact hN
        have hL20 : L ≤ 20 := by rw [← EQ.out.2.1]; exact hL
        clear hbs
        go_wp2
        go_loopw [31] (fun kv wr => ∃ k : Nat, k ≤ N ∧ kv = .int .i64 k ∧ wr = W ∧ Hid (∀ j, j < k → s.T i j = 0)) (fun kv _ => N - (intOf kv).toNat)
        case atStart => exact ⟨0, by omega, rfl, rfl, Lib.hid (fun j hj => by omega)⟩
        case round =>
          obtain ⟨k, hk, rfl, rfl, hz⟩ := hrel
          by_cases hlt : k < N
          · have cx := HROW.out k hlt
            have z0 := ratS_is0 (s.T i k)
            have hk0 : (0 : Int) ≤ k := by omega
            have hkL : (k : Int) < L + 1 := by omega
            by_cases h0 : s.T i k = 0
            · rw [decide_eq_true h0] at z0
              have HZ : Hid (∀ j, j < k + 1 → s.T i j = 0) := Lib.hid (fun j hj => (Nat.lt_succ_iff_lt_or_eq.1 hj).elim (hz.out j) (fun e => by rw [e]; exact h0))
              generalize ratS (s.T i k) = S at cx z0
              clear h0
              go_wp2
              go_roundw
              case rel => exact ⟨k + 1, by omega, by go_num, by first | rfl | trivial, HZ⟩
              case measure => simp [intOf]; omega
            · rw [decide_eq_false h0] at z0
              have HP := Lib.hid (HPV.out k hlt h0)
              have HN := Lib.hid (HNX.out k hlt h0)
              generalize ratS (s.T i k) = S at cx z0
              clear h0
              go_wp2_with (go_at_call 67; (with_reducible refine HP.out.mono ?_); rintro e w4 ⟨rfl, k4, t4, a4⟩; have K4 := Lib.hid (hkp.out.trans k4); have T4 := Lib.hid t4; have A4 := Lib.hid a4; clear k4 t4 a4)
              go_roundw
              case rel => exact ⟨i + 1, s.pivot i k, by omega, by go_num, HN, K4, T4, A4⟩
              case measure => simp [intOf]; omega
          · obtain rfl : k = N := by omega
            have HS := Lib.hid (HST.out hz.out)
            clear hlt
            go_wp2
            go_roundw
            case rel => exact ⟨i + 1, s, by omega, by go_num, HS, hkp, hts, hpr⟩
            case measure => simp [intOf]; omega
    · obtain rfl : i = m := by omega
      clear hlti
      go_wp2
      go_end0
      exact ⟨s, rfl, hin.out.1, hkp.out, hts.out, hpr.out, by rw [EQ.out.1, EQ.out.2.2.1]; exact hin.out.2⟩
end Go.Proofs.YthcmopgdjibojaaGreatDoor.smp

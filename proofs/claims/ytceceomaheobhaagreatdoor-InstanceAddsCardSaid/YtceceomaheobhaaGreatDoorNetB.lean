/- network.slow: the errors of delays. -/
import Derived.Test.YtceceomaheobhaaGreatDoorNetA
import Derived.IntWalk
namespace Go.Proofs.YtceceomaheobhaaGreatDoor.net
open Go.RowKit
open Go.Proofs.YtceceomaheobhaaGreatDoor.lib Go.Proofs.YtceceomaheobhaaGreatDoor.rd Go.Proofs.YtceceomaheobhaaGreatDoor.typ Go.Proofs.YtceceomaheobhaaGreatDoor.app Go.Proofs.YtceceomaheobhaaGreatDoor.note Go.Proofs.YtceceomaheobhaaGreatDoor.mrk
open Go.Proofs.YtceceomaheobhaaGreatDoor.win (tickB tick_t tick_f)
set_option linter.unusedVariables false
set_option linter.unusedSimpArgs false

set_option maxRecDepth 20000 in
set_option maxHeartbeats 2000000 in
theorem slow_any (A : Option Addr) (c : Nat) (l : List Pt) (w : World) (hL : RowAt rPt w w.heap.size A l) (hl : l.length ≤ 1000000) :
    Calls Tryz.prog 96 #[.slice A l.length c] w (ErrsOut w (slTo l l.length)) := by
  obtain ⟨m, hm⟩ : ∃ m, l.length = m := ⟨_, rfl⟩
  have HM := Lib.hid hm
  obtain ⟨F, hF⟩ : ∃ F, slTo l = F := ⟨_, rfl⟩
  have HF := Lib.hid hF
  have hFl : ∀ j, (F j).length ≤ 1 + j := fun j => by rw [← hF]; exact slTo_len _ j
  have HF0 : Hid (F 0 = if 16 < m then [4] else []) := Lib.hid (by rw [← hF, ← hm]; rfl)
  rw [hm] at hl ⊢
  clear hm hF
  go_enter Tryz.func96, Tryz.ntmps96
  go_upto_if 8 with fail
  go_cut [3] (fun v wx => ∃ A' c', v = .slice A' (F 0).length c' ∧ EOwn wx w.heap.size A' c' (F 0) ∧ Below w.heap.size w wx)
  case first =>
    by_cases hq : 16 < m
    · have HE : Hid (F 0 = [4]) := Lib.hid (by rw [HF0.out, if_pos hq])
      have hq' : (16 : Int) < (m : Int) := by omega
      clear hq
      go_wp2_with (at_builtin; refine push_errno rfl _ _ rfl w.heap.size _ 0 [] rfl (World.ownsRow_nil _ _ _ _) 4 rfl (by omega) (Nat.le_refl _) ?_; intro A1 c1 w1 hown1 hb1 hz1)
      go_meet
      exact ⟨A1, c1, by rw [HE.out]; rfl, by rw [HE.out]; exact hown1, hb1⟩
    · have HE : Hid (F 0 = []) := Lib.hid (by rw [HF0.out, if_neg hq])
      have hq' : ¬ (16 : Int) < (m : Int) := by omega
      clear hq
      go_wp2
      go_meet
      exact ⟨none, 0, by rw [HE.out]; rfl, by rw [HE.out]; exact World.ownsRow_nil _ _ _ _, Below.refl _ _⟩
  obtain ⟨A', c', hv, hown, hB⟩ := hcut
  subst hv
  go_upto_region 5 with fail
  go_loopw [3, 14] (fun v k wr => ∃ (j : Nat) (A' : Option Addr) (c' : Nat), j ≤ m ∧ k = .int .i64 j ∧ v = .slice A' (F j).length c' ∧ EOwn wr w.heap.size A' c' (F j) ∧ Below w.heap.size w wr) (fun _ k _ => m - (intOf k).toNat)
  case atStart => exact ⟨0, A', c', by omega, rfl, rfl, hown, hB⟩
  case round =>
    clear hown hB
    obtain ⟨j, A', c', hj, rfl, rfl, hown, hB⟩ := hrel
    have hz := hB.size
    by_cases hlt : j < m
    · obtain ⟨p, hp⟩ : ∃ p, l[j]? = some p := ⟨_, List.getElem?_eq_getElem (by rw [HM.out]; exact hlt)⟩
      obtain ⟨ad, rfl, hadb, ⟨m0, m1⟩, hpf⟩ := row_Pt (hL.below hB) hp
      have hk0 : (0 : Int) ≤ (j : Int) := by omega
      have hkn : (j : Int) < (m : Int) := by omega
      have hFj := hFl j
      have HP : Hid (F (j + 1) = F j ++ slP l j p) := Lib.hid (by rw [← HF.out, slTo_succ hp])
      go_upto_region 7 with fail
      have k0 : (wr.alloc (.cells #[.int .i64 p.t, .int .i64 p.a] 131)).cell? ⟨wr.heap.size, 0, none⟩ = some (.int .i64 p.t) := two_new wr _ _ _ 0 _ rfl
      have k1 : (wr.alloc (.cells #[.int .i64 p.t, .int .i64 p.a] 131)).cell? ⟨wr.heap.size, 1, none⟩ = some (.int .i64 p.a) := two_new wr _ _ _ 1 _ rfl
      obtain ⟨W, hW⟩ : ∃ W, wr.alloc (.cells #[.int .i64 p.t, .int .i64 p.a] 131) = W := ⟨_, rfl⟩
      have hownR : W.ownsRow w.heap.size 35 1 (.slice A' (F j).length c') (F j).length ((F j).map (.int .i64)) := by rw [← hW]; exact World.ownsRow.alloc hown _
      have zp : wr.heap.size < W.heap.size := by rw [← hW]; simp
      have BW : Below w.heap.size w W := by rw [← hW]; exact hB.alloc hz _
      rw [hW] at k0 k1 ⊢
      clear hW m0 m1 hown
      obtain ⟨P, hP⟩ : ∃ P, wr.heap.size = P := ⟨_, rfl⟩
      rw [hP] at k0 k1 zp ⊢
      clear hP
      have zW : w.heap.size ≤ W.heap.size := BW.size
      obtain ⟨pt, hpt⟩ : ∃ x, p.t = x := ⟨_, rfl⟩
      obtain ⟨pa, hpa⟩ : ∃ x, p.a = x := ⟨_, rfl⟩
      have HT := Lib.hid hpt
      have HA := Lib.hid hpa
      rw [hpt] at k0
      rw [hpa] at k1
      clear hpt hpa hpf
      obtain ⟨q, hq⟩ : ∃ q, slBad l j p = q := ⟨_, rfl⟩
      have HQ := Lib.hid hq
      have HP2 : Hid (F (j + 1) = F j ++ (if q = true then [2] else [])) := Lib.hid (by rw [HP.out]; unfold slP; rw [hq])
      have HLP := Lib.hid hp
      clear hq HP hp
      have HOW := Lib.hid hownR
      clear hownR
      go_cut [43] (fun v wx => v = .bool q ∧ ∃ n, wx = W.drewN n)
      case first =>
        cases hr1 : tickB pt
        case false =>
          have HE : Hid (q = true) := Lib.hid (by rw [← HQ.out]; unfold slBad; rw [HT.out, hr1]; rfl)
          go_quiet ((go_at_call 123; exact Calls.quiet_of_same ((ntick_any _ _).mono fun _ _ h => ⟨h.1, h.2.symm⟩)))
          go_wp2
          go_meet
          exact ⟨by rw [HE.out], _, rfl⟩
        case true =>
          rcases j with _ | k
          · have HE : Hid (q = !tickB pa) := Lib.hid (by rw [← HQ.out]; unfold slBad; rw [HT.out, HA.out, hr1]; rfl)
            have hj0 : ¬ (0 : Int) < ((0 : Nat) : Int) := by omega
            go_quiet ((go_at_call 123; exact Calls.quiet_of_same ((ntick_any _ _).mono fun _ _ h => ⟨h.1, h.2.symm⟩)))
            go_wp2
            go_meet
            exact ⟨by rw [HE.out], _, rfl⟩
          · obtain ⟨x, hx⟩ : ∃ x, l[k]? = some x := ⟨_, List.getElem?_eq_getElem (by rw [HM.out]; omega)⟩
            obtain ⟨ad2, hadeq, hadb2, ⟨n0, n1⟩, hxf⟩ := row_Pt (hL.below BW) hx
            obtain rfl : ad = ad2 := Option.some.inj hadeq
            have HE : Hid (q = (decide (pt ≤ x.t) || !tickB pa)) := Lib.hid (by rw [← HQ.out]; unfold slBad; rw [HT.out, HA.out, hr1]; simp only [hx]; rfl)
            have hj0 : (0 : Int) < ((k + 1 : Nat) : Int) := by omega
            have hj1 : IntKind.i64.wrap (((k + 1 : Nat) : Int) - 1) = (k : Int) := by rw [IntWalk.i64_in _ (by omega)]; omega
            clear hx hadeq
            cases hc1 : decide (pt ≤ x.t)
            · have HE2 : Hid (q = !tickB pa) := Lib.hid (by rw [HE.out, hc1]; rfl)
              go_quiet ((go_at_call 123; exact Calls.quiet_of_same ((ntick_any _ _).mono fun _ _ h => ⟨h.1, h.2.symm⟩)))
              go_wp2
              go_meet
              exact ⟨by rw [HE2.out], _, rfl⟩
            · have HE2 : Hid (q = true) := Lib.hid (by rw [HE.out, hc1]; rfl)
              go_quiet ((go_at_call 123; exact Calls.quiet_of_same ((ntick_any _ _).mono fun _ _ h => ⟨h.1, h.2.symm⟩)))
              go_wp2
              go_meet
              exact ⟨by rw [HE2.out], _, rfl⟩
      obtain ⟨h43, nq, hw43⟩ := hcut
      subst h43
      have ownD := own_below HOW.out (bel_drewN (Below.refl _ _) nq)
      have BD2 := bel_drewN BW nq
      rw [← hw43] at ownD BD2
      clear k0 k1 hw43
      go_upto_if 43 with fail
      have zD := BD2.size
      cases q
      · have HE : Hid (F (j + 1) = F j) := Lib.hid (by rw [HP2.out]; simp)
        go_wp2
        go_roundw
        case rel => exact ⟨j + 1, A', c', by omega, by go_num, by rw [HE.out], by rw [HE.out]; exact ownD, BD2⟩
        case measure => simp [intOf]; omega
      · have HE : Hid (F (j + 1) = F j ++ [2]) := Lib.hid (by rw [HP2.out]; simp)
        have HOD := Lib.hid ownD
        clear ownD
        go_wp2_with (at_builtin; refine push_errno rfl _ _ rfl w.heap.size _ (F j).length (F j) rfl HOD.out 2 rfl (by omega) (by omega) ?_; intro A1 c1 w1 hown1 hb1 hz1)
        go_roundw
        case rel => exact ⟨j + 1, A1, c1, by omega, by go_num, by rw [HE.out, List.length_append]; rfl, by unfold EOwn; rw [HE.out, List.length_append]; exact hown1, BD2.trans hb1⟩
        case measure => simp [intOf]; omega
    · have hjm : j = m := by omega
      subst hjm
      go_wp2
      go_ret
      rw [HF.out]
      exact ⟨A', c', rfl, hown, hB⟩
end Go.Proofs.YtceceomaheobhaaGreatDoor.net

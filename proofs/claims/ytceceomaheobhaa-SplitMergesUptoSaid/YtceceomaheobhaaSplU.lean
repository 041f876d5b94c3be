/- The law's comparison of lists of lists; the reference's part, Loads. -/
import Derived.Test.YtceceomaheobhaaSpQ
import Derived.Test.YtceceomaheobhaaSpR
import Derived.Deep.DeepCutAuto
import Derived.Deep.RegionWith
import Derived.Deep.RegionHeld3
namespace Go.Proofs.Ytceceomaheobhaa.spl
open Go.RowKit
open Go.Proofs.Ytceceomaheobhaa.lib Go.Proofs.Ytceceomaheobhaa.rd Go.Proofs.Ytceceomaheobhaa.app Go.Proofs.Ytceceomaheobhaa.els Go.Proofs.Ytceceomaheobhaa.loads
set_option linter.unusedVariables false
set_option linter.unusedSimpArgs false

def listsB (a b : List (List Int)) : Bool := decide (a = b)
theorem lists_step {a b : List (List Int)} {k : Nat} {x y : List Int} (hx : a[k]? = some x) (hy : b[k]? = some y) : decide (a.drop k = b.drop k) = (eqs.sameB x y && decide (a.drop (k + 1) = b.drop (k + 1))) := by
  rw [drop_at' hx, drop_at' hy, Bool.eq_iff_iff]
  unfold eqs.sameB
  simp
set_option maxRecDepth 20000 in
set_option maxHeartbeats 1000000 in
theorem lists_any (A : Option Addr) (c : Nat) (a : List (List Int)) (n : Nat) (hn : a.length = n) (A' : Option Addr) (c' : Nat) (b : List (List Int)) (m : Nat) (hm : b.length = m) (w : World) (ha : Rows2 w w.heap.size A a) (hb : Rows2 w w.heap.size A' b) :
    Calls Try.prog 10 #[.slice A n c, .slice A' m c'] w fun e w' => e = .returned (.bool (listsB a b)) ∧ Below w.heap.size w w' := by
  have hlen : n ≤ 17592186043904 := by rw [← hn]; exact ha.1
  by_cases h : n = m
  · subst h
    have HN := Lib.hid hn
    have HM := Lib.hid hm
    clear hn hm
    go_enter Try.func10, Try.ntmps10
    go_wp2
    go_loopw [5, 13] (fun _ i wr => ∃ k : Nat, k ≤ n ∧ i = .int .i64 k ∧ Hid (listsB a b = decide (a.drop k = b.drop k)) ∧ Below w.heap.size w wr) (fun _ i _ => n - (intOf i).toNat)
    case atStart => exact ⟨0, by omega, rfl, Lib.hid rfl, Below.refl _ _⟩
    case round =>
      obtain ⟨k, hk, rfl, hr, hbel⟩ := hrel
      by_cases hlt : k < n
      · obtain ⟨ad, x, C, c0, rfl, hadb, hx, hcx, hix⟩ := (ha.below hbel).at_ (k := k) (by rw [HN.out]; exact hlt)
        obtain ⟨ad', y, D, d0, rfl, hadb', hy, hcy, hiy⟩ := (hb.below hbel).at_ (k := k) (by rw [HM.out]; exact hlt)
        have HX := Lib.hid (lists_step hx hy)
        have HI := Lib.hid (And.intro hix hiy)
        have hz := hbel.size
        have hk0 : (0 : Int) ≤ (k : Int) := by omega
        have hkn : (k : Int) < (n : Int) := by omega
        clear hx hy hix hiy
        obtain ⟨p, hp⟩ : ∃ p, x.length = p := ⟨_, rfl⟩
        obtain ⟨q, hq⟩ : ∃ p, y.length = p := ⟨_, rfl⟩
        have HP := Lib.hid (And.intro hp hq)
        rw [hp] at hcx
        rw [hq] at hcy
        clear hp hq
        obtain ⟨s, hs⟩ : ∃ s, eqs.sameB x y = s := ⟨_, rfl⟩
        have HS := Lib.hid hs
        clear hs
        go_upto_region 6 with fail
        go_cut [25] (fun v wx => v = .bool (!s) ∧ Below w.heap.size w wx)
        case first => as_aux_lemma =>
          (refine wp_region_held_drew (S := (fun w' => w'.cell? (ad.add k) = some (.slice C p c0) ∧ w'.cell? (ad'.add k) = some (.slice D q d0))) (by kernel_rfl) ?_ (fun hHeld => ?_))
          · exact ⟨hcx, hcy⟩
          (refine wpAnyH_take (i := 0) (v := ?_) rfl (by kernel_rfl) (by kernel_rfl) (by kernel_rfl) (fun _ _ _ h => h) (Or.inl ⟨by kernel_rfl, ?_⟩) (by assumption) ?_; rotate_left; (focus (intro w hSw; (try dsimp only at hSw); go_simp; all_goals with_reducible rfl)); (try simp only [Act.put, List.getElem_toArray, List.getElem_cons_succ, List.getElem_cons_zero, List.setIfInBounds_toArray, List.set_cons_zero, List.set_cons_succ]))
          (refine wpAnyH_take (i := 1) (v := ?_) rfl (by kernel_rfl) (by kernel_rfl) (by kernel_rfl) (fun _ _ _ h => h) (Or.inl ⟨by kernel_rfl, ?_⟩) (by assumption) ?_; rotate_left; (focus (intro w hSw; (try dsimp only at hSw); go_simp; all_goals with_reducible rfl)); (try simp only [Act.put, List.getElem_toArray, List.getElem_cons_succ, List.getElem_cons_zero, List.setIfInBounds_toArray, List.set_cons_zero, List.set_cons_succ]))
          (refine wpAnyH_take (i := 2) (v := ?_) rfl (by kernel_rfl) (by kernel_rfl) (by kernel_rfl) (fun _ _ _ h => h) (Or.inl ⟨by kernel_rfl, ?_⟩) (by assumption) ?_; rotate_left; (focus (intro w hSw; (try dsimp only at hSw); go_simp; all_goals with_reducible rfl)); (try simp only [Act.put, List.getElem_toArray, List.getElem_cons_succ, List.getElem_cons_zero, List.setIfInBounds_toArray, List.set_cons_zero, List.set_cons_succ]))
          (refine wpAnyH_take (i := 3) (v := ?_) rfl (by kernel_rfl) (by kernel_rfl) (by kernel_rfl) (fun _ _ _ h => h) (Or.inl ⟨by kernel_rfl, ?_⟩) (by assumption) ?_; rotate_left; (focus (intro w hSw; (try dsimp only at hSw); go_simp; all_goals with_reducible rfl)); (try simp only [Act.put, List.getElem_toArray, List.getElem_cons_succ, List.getElem_cons_zero, List.setIfInBounds_toArray, List.set_cons_zero, List.set_cons_succ]))
          (refine wpAnyH_take (i := 4) (v := ?_) rfl (by kernel_rfl) (by kernel_rfl) (by kernel_rfl) (fun _ _ _ h => h) (Or.inl ⟨by kernel_rfl, ?_⟩) (by assumption) ?_; rotate_left; (focus (intro w hSw; (try dsimp only at hSw); go_simp; all_goals with_reducible rfl)); (try simp only [Act.put, List.getElem_toArray, List.getElem_cons_succ, List.getElem_cons_zero, List.setIfInBounds_toArray, List.set_cons_zero, List.set_cons_succ]))
          (refine wpAnyH_take (i := 5) (v := ?_) rfl (by kernel_rfl) (by kernel_rfl) (by kernel_rfl) (fun _ _ _ h => h) (Or.inl ⟨by kernel_rfl, ?_⟩) (by assumption) ?_; rotate_left; (focus (intro w hSw; (try dsimp only at hSw); go_simp; all_goals with_reducible rfl)); (try simp only [Act.put, List.getElem_toArray, List.getElem_cons_succ, List.getElem_cons_zero, List.setIfInBounds_toArray, List.set_cons_zero, List.set_cons_succ]))
          (refine wpAnyH_take (i := 6) (v := ?_) rfl (by kernel_rfl) (by kernel_rfl) (by kernel_rfl) (fun _ _ _ h => h) (Or.inl ⟨by kernel_rfl, ?_⟩) (by assumption) ?_; rotate_left; (focus (intro w hSw; (try dsimp only at hSw); go_simp; all_goals with_reducible rfl)); (try simp only [Act.put, List.getElem_toArray, List.getElem_cons_succ, List.getElem_cons_zero, List.setIfInBounds_toArray, List.set_cons_zero, List.set_cons_succ]))
          (refine wpAnyH_take (i := 7) (v := ?_) rfl (by kernel_rfl) (by kernel_rfl) (by kernel_rfl) (fun _ _ _ h => h) (Or.inl ⟨by kernel_rfl, ?_⟩) (by assumption) ?_; rotate_left; (focus (intro w hSw; (try dsimp only at hSw); go_simp; all_goals with_reducible rfl)); (try simp only [Act.put, List.getElem_toArray, List.getElem_cons_succ, List.getElem_cons_zero, List.setIfInBounds_toArray, List.set_cons_zero, List.set_cons_succ]))
          (refine wpAnyH_ready (rs := [8]) (by kernel_rfl) (by simp) ?_; refine AllReadyH.cons rfl (fun K hK => ?_) AllReadyH.nil)
          go_simp
          refine (ints_any C c0 x p HP.out.1 D d0 y q HP.out.2 wr.drew w.heap.size w.heap.size (show w.heap.size ≤ wr.drew.heap.size from hz) (show w.heap.size ≤ wr.drew.heap.size from hz) (show Ints wr.drew w.heap.size C x from HI.out.1) (show Ints wr.drew w.heap.size D y from HI.out.2)).mono ?_
          rw [HS.out]
          rintro e w1 ⟨rfl, b1'⟩
          have b1 : Below wr.heap.size wr w1 := ((Below.refl _ _).drew).trans b1'
          have c1 : w1.cell? (ad.add k) = some (.slice C p c0) := (b1.cell (by rw [block_of_add]; omega)).trans hcx
          have c2 : w1.cell? (ad'.add k) = some (.slice D q d0) := (b1.cell (by rw [block_of_add]; omega)).trans hcy
          have HB := Lib.hid (hbel.trans (b1.mono hz))
          clear b1 b1'
          refine hK.out _ _ ((⟨c1, c2⟩)) (fun hHeld => ?_)
          clear hK K
          (try simp only [Act.put, List.getElem_toArray, List.getElem_cons_succ, List.getElem_cons_zero, List.setIfInBounds_toArray, List.set_cons_zero, List.set_cons_succ])
          (refine wpAnyH_take (i := 9) (v := ?_) rfl (by kernel_rfl) (by kernel_rfl) (by kernel_rfl) (fun _ _ _ h => h) (Or.inl ⟨by kernel_rfl, ?_⟩) (by assumption) ?_; rotate_left; (focus (intro w hSw; (try dsimp only at hSw); go_simp; all_goals with_reducible rfl)); (try simp only [Act.put, List.getElem_toArray, List.getElem_cons_succ, List.getElem_cons_zero, List.setIfInBounds_toArray, List.set_cons_zero, List.set_cons_succ]))
          (refine wpAnyH_done (by kernel_rfl) ?_ _)
          go_wp2
          go_meet
          exact ⟨rfl, HB.out⟩
        obtain ⟨h25, hb1⟩ := hcut
        subst h25
        clear hcx hcy
        cases s
        · have HF : Hid (listsB a b = false) := Lib.hid (by rw [hr.out, HX.out, HS.out]; rfl)
          go_wp2
          go_ret
          exact ⟨ret_bool HF.out.symm, hb1⟩
        · go_wp2
          go_roundw
          case rel => exact ⟨k + 1, by omega, by go_num, Lib.hid (by rw [hr.out, HX.out, HS.out]; rfl), hb1⟩
          case measure => simp [intOf]; omega
      · have hkn : k = n := by omega
        subst hkn
        clear hlt
        go_wp2
        go_ret
        exact ⟨ret_bool (by rw [hr.out, List.drop_of_length_le (by rw [HN.out]; exact Nat.le_refl _), List.drop_of_length_le (by rw [HM.out]; exact Nat.le_refl _)]; simp), hbel⟩
  · have hd2 : ((n : Int) == (m : Int)) = false := by simp; omega
    have hd3 : ((n : Int) != (m : Int)) = true := by simp; omega
    have HD : Hid (listsB a b = false) := Lib.hid (by unfold listsB; rw [decide_eq_false]; intro e; rw [e] at hn; omega)
    clear h hn hm
    go_enter Try.func10, Try.ntmps10
    go_wp2
    go_ret
    exact ⟨ret_bool (by rw [HD.out]), Below.refl _ _⟩
/-- The reference's part. -/
theorem part_any (q n k : Int) (h0 : 0 ≤ q) (hq : q ≤ 1000000) (hn : 1 ≤ n) (hn4 : n ≤ 1000000) (hk : 1 ≤ k) (hk4 : k ≤ 1000000) (w : World) :
    Calls Try.prog 25 #[.int .i64 q, .int .i64 n, .int .i64 k] w fun e w' => e = .returned (.int .i64 (cntI q n k)) ∧ w = w' := by
  go_enter Try.func25, Try.ntmps25
  go_wp2
  go_loop [7, 8] (fun g i => ∃ (got at_ : Int), i = .int .i64 at_ ∧ g = .int .i64 got ∧ (1 ≤ at_ ∧ at_ ≤ 2000000) ∧ (0 ≤ got ∧ got < at_) ∧ Hid (got + cntI q n at_ = cntI q n k)) (fun _ i => (q + 1 - intOf i).toNat)
  case atStart => exact ⟨0, k, rfl, rfl, by omega, by omega, Lib.hid (by omega)⟩
  case round =>
    obtain ⟨got, at_, rfl, rfl, ⟨ha1, ha2⟩, ⟨hg1, hg2⟩, hr⟩ := hrel
    by_cases hlt : at_ ≤ q
    · have HT : Hid (cntI q n at_ = 1 + cntI q n (at_ + n)) := Lib.hid (cnt_step hn hlt)
      go_wp2
      exact ⟨⟨got + 1, at_ + n, by first | rfl | go_num, by first | rfl | go_num, by omega, by omega, Lib.hid (by rw [← hr.out, HT.out]; omega)⟩, by simp [intOf]; omega⟩
    · have HT : Hid (cntI q n at_ = 0) := Lib.hid (cnt_end hlt)
      go_wp2
      go_ret
      exact ⟨ret_int (by rw [← hr.out, HT.out]; omega), rfl⟩
end Go.Proofs.Ytceceomaheobhaa.spl

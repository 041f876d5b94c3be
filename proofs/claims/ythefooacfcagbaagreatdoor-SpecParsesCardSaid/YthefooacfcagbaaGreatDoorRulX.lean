import Derived.Test.YthefooacfcagbaaGreatDoorStrX
import Derived.Test.YthefooacfcagbaaGreatDoorC1
import Derived.IntWalk
import Derived.Deep.DeepCutAuto
/- Numbers of any size, written by the program. -/
namespace Go.Proofs.YthefooacfcagbaaGreatDoor.txt
open Go.RowKit
open lib
set_option linter.unusedVariables false
theorem decF_dec : ∀ (f n : Nat), n < 10 ^ (f + 1) → (decF (f + 1) n).data.toList = Lib.decDigits n
 | 0, n, h => by
  have h10 : n < 10 := by omega
  rw [decF_one h10, Lib.decDigits_one h10]
  unfold decD
  rw [Nat.mod_eq_of_lt h10]
  first | done | rfl
 | f + 1, n, h => by
  by_cases h10 : n < 10
  ·rw [decF_one h10, Lib.decDigits_one h10]
   unfold decD
   rw [Nat.mod_eq_of_lt h10]
   first | done | rfl
  ·rw [decF_more h10, Lib.decDigits, dif_neg h10, ByteArray.data_append, Array.toList_append, decF_dec f (n / 10) (by rw [Nat.pow_succ] at h; omega)]
   rfl
theorem decS_W (n : Nat) (h : n < 1000000000000000000) : decS n = decW (n : Int) := by
 have e : (decS n).data.toList = (decW (n : Int)).data.toList := by
  rw [decS_F, decW_list, decF_dec 19 n (by omega)]
  unfold Lib.itoa
  rw [if_neg (by omega)]
  rfl
 generalize decS n = a at e
 generalize decW (n : Int) = b at e
 obtain ⟨⟨a⟩⟩ := a
 obtain ⟨⟨b⟩⟩ := b
 cases e
 rfl
theorem decG_any (n : Nat) (h : n < 1000000000000000000) (w : World) (ht : Tabs w) : Calls Tryz.prog 41 #[.int .i64 n] w fun e w' => e = .returned (.string (decS n)) ∧ Below w.heap.size w w' := by
 rw [decS_W n h]
 exact decW_any n ⟨by omega, by omega⟩ w ht
theorem itoaG_any (n : Nat) (h : n < 1000000000000000000) (w : World) (ht : Tabs w) : Calls Tryz.prog 77 #[.int .i64 n] w fun e w' => e = .returned (.string (decS n)) ∧ Below w.heap.size w w' := by
 rw [decS_W n h]
 refine (Tryz.strconv_Itoa n (by omega) (by omega) w ht.pow).mono ?_
 rintro e w1 ⟨rfl, k, os, rfl⟩
 exact ⟨rfl, below_grow _ _ _⟩
end Go.Proofs.YthefooacfcagbaaGreatDoor.txt

/- rules.decimal of any number. -/
namespace Go.Proofs.YthefooacfcagbaaGreatDoor.rul
open Go.RowKit
open lib txt
set_option linter.unusedVariables false
set_option linter.unusedSimpArgs false
set_option maxHeartbeats 1000000 in
theorem dec_step0 (n q : Nat) (r : ByteArray) (hmod : (n : Int).tmod 10 = 0) (hdiv : (n : Int).tdiv 10 = (q : Int)) (hn10 : ¬ (n : Int) < 10) (hov : ¬ 9223372036854775807 < r.size + 1) (hq : wrap64 (q : Int) = (q : Int)) (w : World) (HIH : Hid (∀ w : World, Calls Tryz.prog 131 #[.int .i64 q] w fun e w' => e = .returned (.string r) ∧ w = w')) :
  Calls Tryz.prog 131 #[.int .i64 n] w fun e w' => e = .returned (.string (r ++ ⟨#[48]⟩)) ∧ w = w' := by
 go_enter Tryz.func131, Tryz.ntmps131
 go_upto_region 2 with fail
 rw [show Utf8.encode 48 = (⟨#[48]⟩ : ByteArray) by kernel_rfl]
 go_wp2_with (go_at_call 131; refine (HIH.out _).mono ?_; rintro e w1 ⟨rfl, rfl⟩)
 go_ret
 exact ⟨rfl, rfl⟩
set_option maxHeartbeats 1000000 in
theorem dec_step1 (n q : Nat) (r : ByteArray) (hmod : (n : Int).tmod 10 = 1) (hdiv : (n : Int).tdiv 10 = (q : Int)) (hn10 : ¬ (n : Int) < 10) (hov : ¬ 9223372036854775807 < r.size + 1) (hq : wrap64 (q : Int) = (q : Int)) (w : World) (HIH : Hid (∀ w : World, Calls Tryz.prog 131 #[.int .i64 q] w fun e w' => e = .returned (.string r) ∧ w = w')) :
  Calls Tryz.prog 131 #[.int .i64 n] w fun e w' => e = .returned (.string (r ++ ⟨#[49]⟩)) ∧ w = w' := by
 go_enter Tryz.func131, Tryz.ntmps131
 go_upto_region 2 with fail
 rw [show Utf8.encode 49 = (⟨#[49]⟩ : ByteArray) by kernel_rfl]
 go_wp2_with (go_at_call 131; refine (HIH.out _).mono ?_; rintro e w1 ⟨rfl, rfl⟩)
 go_ret
 exact ⟨rfl, rfl⟩
set_option maxHeartbeats 1000000 in
theorem dec_step2 (n q : Nat) (r : ByteArray) (hmod : (n : Int).tmod 10 = 2) (hdiv : (n : Int).tdiv 10 = (q : Int)) (hn10 : ¬ (n : Int) < 10) (hov : ¬ 9223372036854775807 < r.size + 1) (hq : wrap64 (q : Int) = (q : Int)) (w : World) (HIH : Hid (∀ w : World, Calls Tryz.prog 131 #[.int .i64 q] w fun e w' => e = .returned (.string r) ∧ w = w')) :
  Calls Tryz.prog 131 #[.int .i64 n] w fun e w' => e = .returned (.string (r ++ ⟨#[50]⟩)) ∧ w = w' := by
 go_enter Tryz.func131, Tryz.ntmps131
 go_upto_region 2 with fail
 rw [show Utf8.encode 50 = (⟨#[50]⟩ : ByteArray) by kernel_rfl]
 go_wp2_with (go_at_call 131; refine (HIH.out _).mono ?_; rintro e w1 ⟨rfl, rfl⟩)
 go_ret
 exact ⟨rfl, rfl⟩
set_option maxHeartbeats 1000000 in
theorem dec_step3 (n q : Nat) (r : ByteArray) (hmod : (n : Int).tmod 10 = 3) (hdiv : (n : Int).tdiv 10 = (q : Int)) (hn10 : ¬ (n : Int) < 10) (hov : ¬ 9223372036854775807 < r.size + 1) (hq : wrap64 (q : Int) = (q : Int)) (w : World) (HIH : Hid (∀ w : World, Calls Tryz.prog 131 #[.int .i64 q] w fun e w' => e = .returned (.string r) ∧ w = w')) :
  Calls Tryz.prog 131 #[.int .i64 n] w fun e w' => e = .returned (.string (r ++ ⟨#[51]⟩)) ∧ w = w' := by
 go_enter Tryz.func131, Tryz.ntmps131
 go_upto_region 2 with fail
 rw [show Utf8.encode 51 = (⟨#[51]⟩ : ByteArray) by kernel_rfl]
 go_wp2_with (go_at_call 131; refine (HIH.out _).mono ?_; rintro e w1 ⟨rfl, rfl⟩)
 go_ret
 exact ⟨rfl, rfl⟩
set_option maxHeartbeats 1000000 in
theorem dec_step4 (n q : Nat) (r : ByteArray) (hmod : (n : Int).tmod 10 = 4) (hdiv : (n : Int).tdiv 10 = (q : Int)) (hn10 : ¬ (n : Int) < 10) (hov : ¬ 9223372036854775807 < r.size + 1) (hq : wrap64 (q : Int) = (q : Int)) (w : World) (HIH : Hid (∀ w : World, Calls Tryz.prog 131 #[.int .i64 q] w fun e w' => e = .returned (.string r) ∧ w = w')) :
  Calls Tryz.prog 131 #[.int .i64 n] w fun e w' => e = .returned (.string (r ++ ⟨#[52]⟩)) ∧ w = w' := by
 go_enter Tryz.func131, Tryz.ntmps131
 go_upto_region 2 with fail
 rw [show Utf8.encode 52 = (⟨#[52]⟩ : ByteArray) by kernel_rfl]
 go_wp2_with (go_at_call 131; refine (HIH.out _).mono ?_; rintro e w1 ⟨rfl, rfl⟩)
 go_ret
 exact ⟨rfl, rfl⟩
set_option maxHeartbeats 1000000 in
theorem dec_step5 (n q : Nat) (r : ByteArray) (hmod : (n : Int).tmod 10 = 5) (hdiv : (n : Int).tdiv 10 = (q : Int)) (hn10 : ¬ (n : Int) < 10) (hov : ¬ 9223372036854775807 < r.size + 1) (hq : wrap64 (q : Int) = (q : Int)) (w : World) (HIH : Hid (∀ w : World, Calls Tryz.prog 131 #[.int .i64 q] w fun e w' => e = .returned (.string r) ∧ w = w')) :
  Calls Tryz.prog 131 #[.int .i64 n] w fun e w' => e = .returned (.string (r ++ ⟨#[53]⟩)) ∧ w = w' := by
 go_enter Tryz.func131, Tryz.ntmps131
 go_upto_region 2 with fail
 rw [show Utf8.encode 53 = (⟨#[53]⟩ : ByteArray) by kernel_rfl]
 go_wp2_with (go_at_call 131; refine (HIH.out _).mono ?_; rintro e w1 ⟨rfl, rfl⟩)
 go_ret
 exact ⟨rfl, rfl⟩
set_option maxHeartbeats 1000000 in
theorem dec_step6 (n q : Nat) (r : ByteArray) (hmod : (n : Int).tmod 10 = 6) (hdiv : (n : Int).tdiv 10 = (q : Int)) (hn10 : ¬ (n : Int) < 10) (hov : ¬ 9223372036854775807 < r.size + 1) (hq : wrap64 (q : Int) = (q : Int)) (w : World) (HIH : Hid (∀ w : World, Calls Tryz.prog 131 #[.int .i64 q] w fun e w' => e = .returned (.string r) ∧ w = w')) :
  Calls Tryz.prog 131 #[.int .i64 n] w fun e w' => e = .returned (.string (r ++ ⟨#[54]⟩)) ∧ w = w' := by
 go_enter Tryz.func131, Tryz.ntmps131
 go_upto_region 2 with fail
 rw [show Utf8.encode 54 = (⟨#[54]⟩ : ByteArray) by kernel_rfl]
 go_wp2_with (go_at_call 131; refine (HIH.out _).mono ?_; rintro e w1 ⟨rfl, rfl⟩)
 go_ret
 exact ⟨rfl, rfl⟩
set_option maxHeartbeats 1000000 in
theorem dec_step7 (n q : Nat) (r : ByteArray) (hmod : (n : Int).tmod 10 = 7) (hdiv : (n : Int).tdiv 10 = (q : Int)) (hn10 : ¬ (n : Int) < 10) (hov : ¬ 9223372036854775807 < r.size + 1) (hq : wrap64 (q : Int) = (q : Int)) (w : World) (HIH : Hid (∀ w : World, Calls Tryz.prog 131 #[.int .i64 q] w fun e w' => e = .returned (.string r) ∧ w = w')) :
  Calls Tryz.prog 131 #[.int .i64 n] w fun e w' => e = .returned (.string (r ++ ⟨#[55]⟩)) ∧ w = w' := by
 go_enter Tryz.func131, Tryz.ntmps131
 go_upto_region 2 with fail
 rw [show Utf8.encode 55 = (⟨#[55]⟩ : ByteArray) by kernel_rfl]
 go_wp2_with (go_at_call 131; refine (HIH.out _).mono ?_; rintro e w1 ⟨rfl, rfl⟩)
 go_ret
 exact ⟨rfl, rfl⟩
set_option maxHeartbeats 1000000 in
theorem dec_step8 (n q : Nat) (r : ByteArray) (hmod : (n : Int).tmod 10 = 8) (hdiv : (n : Int).tdiv 10 = (q : Int)) (hn10 : ¬ (n : Int) < 10) (hov : ¬ 9223372036854775807 < r.size + 1) (hq : wrap64 (q : Int) = (q : Int)) (w : World) (HIH : Hid (∀ w : World, Calls Tryz.prog 131 #[.int .i64 q] w fun e w' => e = .returned (.string r) ∧ w = w')) :
  Calls Tryz.prog 131 #[.int .i64 n] w fun e w' => e = .returned (.string (r ++ ⟨#[56]⟩)) ∧ w = w' := by
 go_enter Tryz.func131, Tryz.ntmps131
 go_upto_region 2 with fail
 rw [show Utf8.encode 56 = (⟨#[56]⟩ : ByteArray) by kernel_rfl]
 go_wp2_with (go_at_call 131; refine (HIH.out _).mono ?_; rintro e w1 ⟨rfl, rfl⟩)
 go_ret
 exact ⟨rfl, rfl⟩
set_option maxHeartbeats 1000000 in
theorem dec_step9 (n q : Nat) (r : ByteArray) (hmod : (n : Int).tmod 10 = 9) (hdiv : (n : Int).tdiv 10 = (q : Int)) (hn10 : ¬ (n : Int) < 10) (hov : ¬ 9223372036854775807 < r.size + 1) (hq : wrap64 (q : Int) = (q : Int)) (w : World) (HIH : Hid (∀ w : World, Calls Tryz.prog 131 #[.int .i64 q] w fun e w' => e = .returned (.string r) ∧ w = w')) :
  Calls Tryz.prog 131 #[.int .i64 n] w fun e w' => e = .returned (.string (r ++ ⟨#[57]⟩)) ∧ w = w' := by
 go_enter Tryz.func131, Tryz.ntmps131
 go_upto_region 2 with fail
 rw [show Utf8.encode 57 = (⟨#[57]⟩ : ByteArray) by kernel_rfl]
 go_wp2_with (go_at_call 131; refine (HIH.out _).mono ?_; rintro e w1 ⟨rfl, rfl⟩)
 go_ret
 exact ⟨rfl, rfl⟩
theorem decF_any : ∀ (f n : Nat), n < 10 ^ (f + 1) → f ≤ 17 → ∀ w : World, Calls Tryz.prog 131 #[.int .i64 n] w fun e w' => e = .returned (.string (decF (f + 1) n)) ∧ w = w'
 | f, n, h, hf, w => by
  by_cases h10 : n < 10
  ·rw [decF_one h10, ← decF_one (f := 19) h10, ← decS_F]
   exact dec1_any n h10 w
  ·cases f with
   | zero => exact absurd h (by omega)
   | succ f =>
    have hp : n / 10 < 10 ^ (f + 1) := by rw [Nat.pow_succ] at h; omega
    have hsz := decF_size (f + 1) (n / 10)
    have HIH := Lib.hid (decF_any f (n / 10) hp (by omega))
    have hn0 : (0 : Int) ≤ (n : Int) := by omega
    have hdiv : (n : Int).tdiv 10 = ((n / 10 : Nat) : Int) := by rw [Int.tdiv_eq_ediv_of_nonneg hn0]; omega
    have hmod : (n : Int).tmod 10 = ((n % 10 : Nat) : Int) := by rw [Int.tmod_eq_emod_of_nonneg hn0]; omega
    have hov : ¬ 9223372036854775807 < (decF (f + 1) (n / 10)).size + 1 := by omega
    have hq9 : n / 10 < 1000000000000000000 := Nat.lt_of_lt_of_le hp (Nat.le_trans (Nat.pow_le_pow_right (by decide) (show f + 1 ≤ 18 by omega)) (by decide))
    have hwq : wrap64 ((n / 10 : Nat) : Int) = ((n / 10 : Nat) : Int) := by
     unfold wrap64
     omega
    rw [decF_more h10]
    have hdd : decD n = (48 + n % 10).toUInt8 := rfl
    have hd : n % 10 = 0 ∨ n % 10 = 1 ∨ n % 10 = 2 ∨ n % 10 = 3 ∨ n % 10 = 4 ∨ n % 10 = 5 ∨ n % 10 = 6 ∨ n % 10 = 7 ∨ n % 10 = 8 ∨ n % 10 = 9 := by omega
    rcases hd with hd | hd | hd | hd | hd | hd | hd | hd | hd | hd <;> rw [hd] at hmod hdd <;> rw [hdd]
    ·exact dec_step0 n (n / 10) _ hmod hdiv (by omega) hov hwq w HIH
    ·exact dec_step1 n (n / 10) _ hmod hdiv (by omega) hov hwq w HIH
    ·exact dec_step2 n (n / 10) _ hmod hdiv (by omega) hov hwq w HIH
    ·exact dec_step3 n (n / 10) _ hmod hdiv (by omega) hov hwq w HIH
    ·exact dec_step4 n (n / 10) _ hmod hdiv (by omega) hov hwq w HIH
    ·exact dec_step5 n (n / 10) _ hmod hdiv (by omega) hov hwq w HIH
    ·exact dec_step6 n (n / 10) _ hmod hdiv (by omega) hov hwq w HIH
    ·exact dec_step7 n (n / 10) _ hmod hdiv (by omega) hov hwq w HIH
    ·exact dec_step8 n (n / 10) _ hmod hdiv (by omega) hov hwq w HIH
    ·exact dec_step9 n (n / 10) _ hmod hdiv (by omega) hov hwq w HIH
theorem decN_any (n : Nat) (hn : n < 1000000) (w : World) : Calls Tryz.prog 131 #[.int .i64 n] w fun e w' => e = .returned (.string (decS n)) ∧ w = w' := by
 have e : decS n = decF 6 n := by
  rw [decS_F]
  have key : ∀ (f n : Nat), n < 10 ^ (f + 1) → ∀ k, decF (f + 1 + k) n = decF (f + 1) n := by
   intro f
   induction f with
   | zero =>
    intro n h k
    have h10 : n < 10 := by omega
    rw [decF_one h10, show 0 + 1 + k = k + 1 by omega, decF_one h10]
   | succ f ih =>
    intro n h k
    by_cases h10 : n < 10
    ·rw [decF_one h10, show f + 1 + 1 + k = (f + 1 + k) + 1 by omega, decF_one h10]
    ·rw [decF_more h10, show f + 1 + 1 + k = (f + 1 + k) + 1 by omega, decF_more h10, ih (n / 10) (by rw [Nat.pow_succ] at h; omega) k]
  exact key 5 n (by omega) 14
 rw [e]
 exact decF_any 5 n (by omega) (by decide) w
end Go.Proofs.YthefooacfcagbaaGreatDoor.rul

/- rules.Check of any lists of pairs. -/
namespace Go.Proofs.YthefooacfcagbaaGreatDoor.rul
open Go.RowKit
open lib rd typ app flts eqg txt note
set_option linter.unusedVariables false
set_option linter.unusedSimpArgs false
set_option maxRecDepth 20000 in
set_option maxHeartbeats 1000000 in
theorem looseG_any (orders : Int) (word : ByteArray) (hws : word.size ≤ 1000) (A : Option Addr) (c : Nat) (l : List (Int × Int)) (w : World) (hL : RowAt (rPair rInt rInt) w w.heap.size A l) (hl : l.length ≤ 5000) (hcap : l.length ≤ c) :
  Calls Tryz.prog 86 #[.int .i64 orders, .string word, .slice A l.length c, .func (.func 87) #[] #[]] w (FltsOut w (pairsTo orders word looseB l l.length)) := by
 obtain ⟨m, hm⟩ : ∃ m, l.length = m := ⟨_, rfl⟩
 have HM := Lib.hid hm
 obtain ⟨F, hF⟩ : ∃ F, pairsTo orders word looseB l = F := ⟨_, rfl⟩
 have HF := Lib.hid hF
 have hFl : ∀ j, (F j).length ≤ 1 + j := fun j => by rw [← hF]; exact pairsTo_len _ _ _ _ j
 have HF0 : Hid (F 0 = if m ≤ 16 then [] else [⟨4, word⟩]) := Lib.hid (by rw [← hF, ← hm]; rfl)
 rw [hm] at hl hcap ⊢
 clear hm hF
 go_enter Tryz.func86, Tryz.ntmps86
 go_upto_if 18 with fail
 go_cut [9] (fun v wx => ∃ A' c', v = .slice A' (F 0).length c' ∧ Fown wx (w.heap.size + 1) A' c' (F 0) ∧ wx.cell? ⟨w.heap.size, 0, none⟩ = some (.int .i64 orders) ∧ Below w.heap.size w wx ∧ w.heap.size + 1 ≤ wx.heap.size)
 case first =>
  obtain ⟨W1, hW1⟩ : ∃ W1, w.alloc (.cells #[.int .i64 orders] 3) = W1 := ⟨_, rfl⟩
  have hc0 : W1.cell? ⟨w.heap.size, 0, none⟩ = some (.int .i64 orders) := by rw [← hW1]; exact one_new w _ _ 0 _ rfl
  have hs1 : W1.heap.size = w.heap.size + 1 := by rw [← hW1]; simp
  have hB1 : Below w.heap.size w W1 := by rw [← hW1]; exact (Below.refl _ _).alloc (Nat.le_refl _) _
  rw [hW1]
  clear hW1
  have HS := Lib.hid hs1
  clear hs1
  by_cases hq : m ≤ 16
  ·have HE : Hid (F 0 = []) := Lib.hid (by rw [HF0.out, if_pos hq])
   have hq' : ¬ (16 : Int) < (m : Int) := by omega
   clear hq
   go_wp2
   go_meet
   exact ⟨none, 0, by rw [HE.out]; rfl, by rw [HE.out]; exact World.ownsRow_nil _ _ _ _, hc0, hB1, by have := HS.out; omega⟩
  ·have HE : Hid (F 0 = [⟨4, word⟩]) := Lib.hid (by rw [HF0.out, if_neg hq])
   have hq' : (16 : Int) < (m : Int) := by omega
   clear hq
   go_wp2_with (at_builtin; refine wpList_app fault_elem _ _ rfl (w.heap.size + 1) none 0 0 [] rfl ((World.ownsRow_nil _ _ _ _).alloc _) ⟨W1.heap.size, 0, none⟩ 1 [.int .i64 4, .string word] rfl rfl (two_new _ _ _ _) (by simp [Value.oneCell']) (by omega) (by simp; have := HS.out; omega) rfl ?_; intro g1 c1 w2 hown1 hg1 hd1)
   go_meet
   refine ⟨_, _, by rw [HE.out]; rfl, by rw [HE.out]; exact hown1, ?_, ?_, ?_⟩
   ·exact hg1.cell ((World.cell?_alloc_lt W1 _ _ (show w.heap.size < W1.heap.size by have := HS.out; omega)).trans hc0) (by intro e; cases e)
   ·exact (hB1.alloc (by have := HS.out; omega) _).grown hg1 (by simp; have := HS.out; omega) (fun q e => by cases e)
   ·have := hg1.size; have := HS.out; simp at *; omega
 obtain ⟨A', c', hv, hown, hc0, hB, hs⟩ := hcut
 subst hv
 go_upto_region 6 with fail
 go_loopw [9, 27] (fun v k wr => ∃ (j : Nat) (A' : Option Addr) (c' : Nat), j ≤ m ∧ k = .int .i64 j ∧ v = .slice A' (F j).length c' ∧ Fown wr (w.heap.size + 1) A' c' (F j) ∧ wr.cell? ⟨w.heap.size, 0, none⟩ = some (.int .i64 orders) ∧ Below w.heap.size w wr ∧ w.heap.size + 1 ≤ wr.heap.size) (fun _ k _ => m - (intOf k).toNat)
 case atStart => exact ⟨0, A', c', by omega, rfl, rfl, hown, hc0, hB, hs⟩
 case round =>
  clear hown hc0 hB hs
  obtain ⟨j, A', c', hj, rfl, rfl, hown, hc0, hB, hs⟩ := hrel
  by_cases hlt : j < m
  ·obtain ⟨⟨x1, x2⟩, hp⟩ : ∃ p, l[j]? = some p := ⟨_, List.getElem?_eq_getElem (by rw [HM.out]; exact hlt)⟩
   obtain ⟨ad, rfl, hadb, ⟨m0, m1⟩, _⟩ := row_Two (hL.below hB) hp
   simp only at m0 m1
   have hbb : (ad.add (j * 2)).block < wr.heap.size := by rw [block_of_add]; omega
   have hk0 : (0 : Int) ≤ (j : Int) := by omega
   have hkn : (j : Int) < (m : Int) := by omega
   have hFj := hFl j
   have hjn : j < 1000000 := by omega
   have hds := decS_size j
   have t1 : ¬ 9223372036854775807 < word.size + 1 := by omega
   have t2 : ¬ 9223372036854775807 < word.size + 1 + (decS j).size := by omega
   have HP : Hid (F (j + 1) = F j ++ pairP orders word looseB l j (x1, x2)) := Lib.hid (by rw [← HF.out, pairsTo_succ hp])
   clear hp
   go_upto_region 9 with (go_at_call 131; refine (decN_any j hjn _).mono ?_; rintro e w3 ⟨rfl, rfl⟩)
   have k0 : (wr.alloc (.cells #[.int .i64 x1, .int .i64 x2] 67)).cell? ⟨wr.heap.size, 0, none⟩ = some (.int .i64 x1) := two_new wr _ _ _ 0 _ rfl
   have k1 : (wr.alloc (.cells #[.int .i64 x1, .int .i64 x2] 67)).cell? ⟨wr.heap.size, 1, none⟩ = some (.int .i64 x2) := two_new wr _ _ _ 1 _ rfl
   obtain ⟨W, hW⟩ : ∃ W, wr.alloc (.cells #[.int .i64 x1, .int .i64 x2] 67) = W := ⟨_, rfl⟩
   have hWs : W.heap.size = wr.heap.size + 1 := by rw [← hW]; simp
   have hownW : Fown W (w.heap.size + 1) A' c' (F j) := by rw [← hW]; exact World.ownsRow.alloc hown _
   have hownR : W.ownsRow (w.heap.size + 1) 53 2 (.slice A' (F j).length c') (F j).length (fcs (F j)) := hownW
   have hzc : w.heap.size < W.heap.size := by omega
   have hcW : W.cell? ⟨w.heap.size, 0, none⟩ = some (.int .i64 orders) := by rw [← hW]; exact (World.cell?_alloc_lt wr _ _ (show w.heap.size < wr.heap.size by omega)).trans hc0
   have BW : Below w.heap.size w W := by rw [← hW]; exact hB.alloc (by omega) _
   rw [hW] at k0 k1 ⊢
   have HWS := Lib.hid hWs
   have zW : w.heap.size + 1 ≤ W.heap.size := by omega
   have zp : wr.heap.size < W.heap.size := by omega
   have HK := Lib.hid (And.intro hown hc0)
   clear hW m0 m1 hWs hown hc0
   obtain ⟨P, hP⟩ : ∃ P, wr.heap.size = P := ⟨_, rfl⟩
   rw [hP] at k0 k1 zp ⊢
   clear hP
   have HK9 := Lib.hid (And.intro k0 k1)
   have HO := Lib.hid hownR
   have HOW := Lib.hid hownW
   clear hownR hownW
   go_cut [55] (fun v wx => v = .bool (badB orders (x1, x2)) ∧ W = wx)
   case first => as_aux_lemma =>
    cases hr1 : rightB x1 orders
    case false =>
     have HE : Hid (badB orders (x1, x2) = true) := Lib.hid (by unfold badB; simp only [hr1]; rfl)
     go_wp2_with (go_at_call 130; refine (right_any _ orders w.heap.size _ hzc hcW).mono ?_; rintro e we ⟨rfl, rfl⟩)
     go_meet
     exact ⟨by rw [HE.out], rfl⟩
    case true =>
     cases hr2 : rightB x2 orders
     case false =>
      have HE : Hid (badB orders (x1, x2) = true) := Lib.hid (by unfold badB; simp only [hr1, hr2]; rfl)
      go_wp2_with (go_at_call 130; refine (right_any _ orders w.heap.size _ hzc hcW).mono ?_; rintro e we ⟨rfl, rfl⟩)
      go_meet
      exact ⟨by rw [HE.out], rfl⟩
     case true =>
      have HE : Hid (badB orders (x1, x2) = (x1 == x2)) := Lib.hid (by unfold badB; simp only [hr1, hr2]; rfl)
      go_wp2_with (go_at_call 130; refine (right_any _ orders w.heap.size _ hzc hcW).mono ?_; rintro e we ⟨rfl, rfl⟩)
      go_meet
      exact ⟨by rw [HE.out], rfl⟩
   obtain ⟨h55, hwc⟩ := hcut
   subst h55
   subst hwc
   obtain ⟨k0, k1⟩ := HK9.out
   have hownR := HO.out
   have hownW := HOW.out
   cases he : badB orders (x1, x2)
   case true =>
    go_upto_if 55 with fail
    have HE : Hid (F (j + 1) = F j ++ [⟨2, atS word j⟩]) := Lib.hid (by rw [HP.out]; unfold pairP; simp only [he]; rfl)
    go_wp2_with (first
     | (at_builtin; refine wpList_app fault_elem _ _ rfl (w.heap.size + 1) A' (F j).length c' (fcs (F j)) rfl (World.ownsRow.alloc hownR _) ⟨W.heap.size, 0, none⟩ 1 [.int .i64 2, .string (word ++ ⟨#[32]⟩ ++ decS j)] rfl rfl (two_new W (.int .i64 2) (.string (word ++ ⟨#[32]⟩ ++ decS j)) 53) (by simp [Value.oneCell']) (by omega) (by simp <;> omega) rfl ?_; intro g3 c3 w3 hown3 hg3 hd3))
    go_roundw
    case rel =>
     refine ⟨j + 1, some ⟨g3, 0, none⟩, c3, by omega, by go_num, by rw [HE.out, List.length_append]; rfl, by unfold Fown; rw [HE.out, List.length_append, fcs_snoc]; exact hown3, ?_, ?_, ?_⟩
     ·exact hg3.cell ((World.cell?_alloc_lt W _ _ hzc).trans hcW) (by intro e; have := (World.ownsRow.lt hownW _ e.symm).1; simp at this; omega)
     ·exact (BW.alloc (by omega) _).grown hg3 (by simp; omega) (fun q' e => by have := (World.ownsRow.lt hownW _ e).1; omega)
     ·have := hg3.size; simp at *; omega
    case measure => simp [intOf]; omega
   case false =>
    go_upto_if 55 with fail
    have HP6 : Hid (F (j + 1) = F j ++ if (l.take j).any (looseB (x1, x2)) = true then [⟨6, atS word j⟩] else []) := Lib.hid (by rw [HP.out]; unfold pairP; simp only [he]; rfl)
    clear HP he
    have hjc : j ≤ c := by omega
    have hjc2 : (j : Int) ≤ (c : Int) := by omega
    go_wp2
    go_loopw [9, 65] (fun v k wr => ∃ i : Nat, i ≤ j ∧ k = .int .i64 i ∧ v = .slice A' (F j).length c' ∧ Hid ((l.take i).any (looseB (x1, x2)) = false) ∧ Below W.heap.size W wr) (fun _ k _ => j - (intOf k).toNat)
    case atStart => exact ⟨0, by omega, rfl, rfl, Lib.hid rfl, Below.refl _ _⟩
    case round =>
     obtain ⟨i, hi, rfl, rfl, HA, hbi⟩ := hrel
     have zi := hbi.size
     have BI : Below w.heap.size w wr := BW.trans (hbi.mono (by omega))
     have hcI : wr.cell? ⟨w.heap.size, 0, none⟩ = some (.int .i64 orders) := (hbi.cell (p := ⟨w.heap.size, 0, none⟩) hzc).trans hcW
     have hownI := own_below hownR hbi
     by_cases hil : i < j
     ·obtain ⟨⟨y1, y2⟩, hq⟩ : ∃ q, l[i]? = some q := ⟨_, List.getElem?_eq_getElem (by rw [HM.out]; omega)⟩
      obtain ⟨ad2, hadeq, hadb2, ⟨n0, n1⟩, _⟩ := row_Two (hL.below BI) hq
      obtain rfl : ad = ad2 := Option.some.inj hadeq
      simp only at n0 n1
      have q0 : wr.cell? ⟨P, 0, none⟩ = some (.int .i64 x1) := (hbi.cell (p := ⟨P, 0, none⟩) zp).trans k0
      have q1 : wr.cell? ⟨P, 1, none⟩ = some (.int .i64 x2) := (hbi.cell (p := ⟨P, 1, none⟩) zp).trans k1
      have zpi : P < wr.heap.size := by omega
      have i0 : (0 : Int) ≤ (i : Int) := by omega
      have ij : (i : Int) < (j : Int) := by omega
      have HT := Lib.hid (take_anyP (p := looseB (x1, x2)) hq)
      obtain ⟨s, hs⟩ : ∃ s, looseB (x1, x2) (y1, y2) = s := ⟨_, rfl⟩
      have HC : Hid (∀ w', Calls Tryz.prog 87 #[.agg #[.int .i64 x1, .int .i64 x2], .agg #[.int .i64 y1, .int .i64 y2]] w' fun e w'' => e = .returned (.bool s) ∧ Below w'.heap.size w' w'') := Lib.hid fun w' => by rw [← hs]; exact loose_any (x1, x2) (y1, y2) w'
      rw [hs] at HT
      have HCI := Lib.hid hcI
      clear hq hs hadeq k0 k1 hcW hcI
      have HOI := Lib.hid hownI
      clear hownI
      cases s
      case true =>
       have HE : Hid (F (j + 1) = F j ++ [⟨6, atS word j⟩]) := Lib.hid (by rw [HP6.out, if_pos (take_any_true HT.out (by omega))])
       go_wp2_with (first
        | (go_at_call 87; refine (HC.out _).mono ?_; rintro e we ⟨rfl, hbe⟩)
        | (at_builtin; refine wpList_app fault_elem _ _ rfl (w.heap.size + 1) A' (F j).length c' (fcs (F j)) rfl ((own_below (World.ownsRow.alloc HOI.out _) hbe).alloc _) ⟨we.heap.size, 0, none⟩ 1 [.int .i64 6, .string (word ++ ⟨#[32]⟩ ++ decS j)] rfl rfl (two_new we (.int .i64 6) (.string (word ++ ⟨#[32]⟩ ++ decS j)) 53) (by simp [Value.oneCell']) (by omega) (by have := hbe.size; simp at *; omega) rfl ?_; intro g3 c3 w3 hown3 hg3 hd3))
       have ownE := own_below (World.ownsRow.alloc HOI.out _) hbe
       have BE : Below w.heap.size w we := (BI.alloc (by omega) _).trans (hbe.mono (by simp; omega))
       have zE := BE.size
       have ltE : w.heap.size < we.heap.size := by have := hbe.size; simp at this; omega
       have cE : we.cell? ⟨w.heap.size, 0, none⟩ = some (.int .i64 orders) := (hbe.cell (p := ⟨w.heap.size, 0, none⟩) (by simp; omega)).trans ((World.cell?_alloc_lt _ _ _ (show w.heap.size < wr.heap.size by omega)).trans HCI.out)
       go_roundw
       case rel =>
        refine ⟨j + 1, some ⟨g3, 0, none⟩, c3, by omega, by go_num, by rw [HE.out, List.length_append]; rfl, by unfold Fown; rw [HE.out, List.length_append, fcs_snoc]; exact hown3, ?_, ?_, ?_⟩
        ·exact hg3.cell ((World.cell?_alloc_lt we _ _ ltE).trans cE) (by intro e; have := (World.ownsRow.lt ownE _ e.symm).1; simp at this; omega)
        ·exact (BE.alloc (by omega) _).grown hg3 (by simp; omega) (fun q' e => by have := (World.ownsRow.lt ownE _ e).1; omega)
        ·have := hg3.size; simp at *; omega
       case measure => simp [intOf]; omega
      case false =>
       go_wp2_with (go_at_call 87; refine (HC.out _).mono ?_; rintro e we ⟨rfl, hbe⟩)
       go_roundw
       case rel => exact ⟨i + 1, by omega, by go_num, rfl, Lib.hid (by rw [HT.out, HA.out]; rfl), (hbi.alloc zi _).trans (hbe.mono (by simp; omega))⟩
       case measure => simp [intOf]; omega
     ·have hij : i = j := by omega
      subst hij
      have HE : Hid (F (i + 1) = F i) := Lib.hid (by rw [HP6.out, HA.out]; simp)
      go_wp2
      go_roundw
      case rel => exact ⟨i + 1, A', c', by omega, by go_num, by rw [HE.out], by rw [HE.out]; exact hownI, hcI, BI, by omega⟩
      case measure => simp [intOf]; omega
  ·have hjm : j = m := by omega
   subst hjm
   go_wp2
   go_ret
   rw [HF.out]
   unfold Fown at hown
   exact ⟨A', c', rfl, own_less hown (by omega), hB⟩
set_option maxRecDepth 20000 in
set_option maxHeartbeats 1000000 in
theorem exactG_any (orders : Int) (word : ByteArray) (hws : word.size ≤ 1000) (A : Option Addr) (c : Nat) (l : List (Int × Int)) (w : World) (hL : RowAt (rPair rInt rInt) w w.heap.size A l) (hl : l.length ≤ 5000) (hcap : l.length ≤ c) :
  Calls Tryz.prog 86 #[.int .i64 orders, .string word, .slice A l.length c, .func (.func 88) #[] #[]] w (FltsOut w (pairsTo orders word twoEq l l.length)) := by
 obtain ⟨m, hm⟩ : ∃ m, l.length = m := ⟨_, rfl⟩
 have HM := Lib.hid hm
 obtain ⟨F, hF⟩ : ∃ F, pairsTo orders word twoEq l = F := ⟨_, rfl⟩
 have HF := Lib.hid hF
 have hFl : ∀ j, (F j).length ≤ 1 + j := fun j => by rw [← hF]; exact pairsTo_len _ _ _ _ j
 have HF0 : Hid (F 0 = if m ≤ 16 then [] else [⟨4, word⟩]) := Lib.hid (by rw [← hF, ← hm]; rfl)
 rw [hm] at hl hcap ⊢
 clear hm hF
 go_enter Tryz.func86, Tryz.ntmps86
 go_upto_if 18 with fail
 go_cut [9] (fun v wx => ∃ A' c', v = .slice A' (F 0).length c' ∧ Fown wx (w.heap.size + 1) A' c' (F 0) ∧ wx.cell? ⟨w.heap.size, 0, none⟩ = some (.int .i64 orders) ∧ Below w.heap.size w wx ∧ w.heap.size + 1 ≤ wx.heap.size)
 case first =>
  obtain ⟨W1, hW1⟩ : ∃ W1, w.alloc (.cells #[.int .i64 orders] 3) = W1 := ⟨_, rfl⟩
  have hc0 : W1.cell? ⟨w.heap.size, 0, none⟩ = some (.int .i64 orders) := by rw [← hW1]; exact one_new w _ _ 0 _ rfl
  have hs1 : W1.heap.size = w.heap.size + 1 := by rw [← hW1]; simp
  have hB1 : Below w.heap.size w W1 := by rw [← hW1]; exact (Below.refl _ _).alloc (Nat.le_refl _) _
  rw [hW1]
  clear hW1
  have HS := Lib.hid hs1
  clear hs1
  by_cases hq : m ≤ 16
  ·have HE : Hid (F 0 = []) := Lib.hid (by rw [HF0.out, if_pos hq])
   have hq' : ¬ (16 : Int) < (m : Int) := by omega
   clear hq
   go_wp2
   go_meet
   exact ⟨none, 0, by rw [HE.out]; rfl, by rw [HE.out]; exact World.ownsRow_nil _ _ _ _, hc0, hB1, by have := HS.out; omega⟩
  ·have HE : Hid (F 0 = [⟨4, word⟩]) := Lib.hid (by rw [HF0.out, if_neg hq])
   have hq' : (16 : Int) < (m : Int) := by omega
   clear hq
   go_wp2_with (at_builtin; refine wpList_app fault_elem _ _ rfl (w.heap.size + 1) none 0 0 [] rfl ((World.ownsRow_nil _ _ _ _).alloc _) ⟨W1.heap.size, 0, none⟩ 1 [.int .i64 4, .string word] rfl rfl (two_new _ _ _ _) (by simp [Value.oneCell']) (by omega) (by simp; have := HS.out; omega) rfl ?_; intro g1 c1 w2 hown1 hg1 hd1)
   go_meet
   refine ⟨_, _, by rw [HE.out]; rfl, by rw [HE.out]; exact hown1, ?_, ?_, ?_⟩
   ·exact hg1.cell ((World.cell?_alloc_lt W1 _ _ (show w.heap.size < W1.heap.size by have := HS.out; omega)).trans hc0) (by intro e; cases e)
   ·exact (hB1.alloc (by have := HS.out; omega) _).grown hg1 (by simp; have := HS.out; omega) (fun q e => by cases e)
   ·have := hg1.size; have := HS.out; simp at *; omega
 obtain ⟨A', c', hv, hown, hc0, hB, hs⟩ := hcut
 subst hv
 go_upto_region 6 with fail
 go_loopw [9, 27] (fun v k wr => ∃ (j : Nat) (A' : Option Addr) (c' : Nat), j ≤ m ∧ k = .int .i64 j ∧ v = .slice A' (F j).length c' ∧ Fown wr (w.heap.size + 1) A' c' (F j) ∧ wr.cell? ⟨w.heap.size, 0, none⟩ = some (.int .i64 orders) ∧ Below w.heap.size w wr ∧ w.heap.size + 1 ≤ wr.heap.size) (fun _ k _ => m - (intOf k).toNat)
 case atStart => exact ⟨0, A', c', by omega, rfl, rfl, hown, hc0, hB, hs⟩
 case round =>
  clear hown hc0 hB hs
  obtain ⟨j, A', c', hj, rfl, rfl, hown, hc0, hB, hs⟩ := hrel
  by_cases hlt : j < m
  ·obtain ⟨⟨x1, x2⟩, hp⟩ : ∃ p, l[j]? = some p := ⟨_, List.getElem?_eq_getElem (by rw [HM.out]; exact hlt)⟩
   obtain ⟨ad, rfl, hadb, ⟨m0, m1⟩, _⟩ := row_Two (hL.below hB) hp
   simp only at m0 m1
   have hbb : (ad.add (j * 2)).block < wr.heap.size := by rw [block_of_add]; omega
   have hk0 : (0 : Int) ≤ (j : Int) := by omega
   have hkn : (j : Int) < (m : Int) := by omega
   have hFj := hFl j
   have hjn : j < 1000000 := by omega
   have hds := decS_size j
   have t1 : ¬ 9223372036854775807 < word.size + 1 := by omega
   have t2 : ¬ 9223372036854775807 < word.size + 1 + (decS j).size := by omega
   have HP : Hid (F (j + 1) = F j ++ pairP orders word twoEq l j (x1, x2)) := Lib.hid (by rw [← HF.out, pairsTo_succ hp])
   clear hp
   go_upto_region 9 with (go_at_call 131; refine (decN_any j hjn _).mono ?_; rintro e w3 ⟨rfl, rfl⟩)
   have k0 : (wr.alloc (.cells #[.int .i64 x1, .int .i64 x2] 67)).cell? ⟨wr.heap.size, 0, none⟩ = some (.int .i64 x1) := two_new wr _ _ _ 0 _ rfl
   have k1 : (wr.alloc (.cells #[.int .i64 x1, .int .i64 x2] 67)).cell? ⟨wr.heap.size, 1, none⟩ = some (.int .i64 x2) := two_new wr _ _ _ 1 _ rfl
   obtain ⟨W, hW⟩ : ∃ W, wr.alloc (.cells #[.int .i64 x1, .int .i64 x2] 67) = W := ⟨_, rfl⟩
   have hWs : W.heap.size = wr.heap.size + 1 := by rw [← hW]; simp
   have hownW : Fown W (w.heap.size + 1) A' c' (F j) := by rw [← hW]; exact World.ownsRow.alloc hown _
   have hownR : W.ownsRow (w.heap.size + 1) 53 2 (.slice A' (F j).length c') (F j).length (fcs (F j)) := hownW
   have hzc : w.heap.size < W.heap.size := by omega
   have hcW : W.cell? ⟨w.heap.size, 0, none⟩ = some (.int .i64 orders) := by rw [← hW]; exact (World.cell?_alloc_lt wr _ _ (show w.heap.size < wr.heap.size by omega)).trans hc0
   have BW : Below w.heap.size w W := by rw [← hW]; exact hB.alloc (by omega) _
   rw [hW] at k0 k1 ⊢
   have HWS := Lib.hid hWs
   have zW : w.heap.size + 1 ≤ W.heap.size := by omega
   have zp : wr.heap.size < W.heap.size := by omega
   have HK := Lib.hid (And.intro hown hc0)
   clear hW m0 m1 hWs hown hc0
   obtain ⟨P, hP⟩ : ∃ P, wr.heap.size = P := ⟨_, rfl⟩
   rw [hP] at k0 k1 zp ⊢
   clear hP
   have HK9 := Lib.hid (And.intro k0 k1)
   have HO := Lib.hid hownR
   have HOW := Lib.hid hownW
   clear hownR hownW
   go_cut [55] (fun v wx => v = .bool (badB orders (x1, x2)) ∧ W = wx)
   case first => as_aux_lemma =>
    cases hr1 : rightB x1 orders
    case false =>
     have HE : Hid (badB orders (x1, x2) = true) := Lib.hid (by unfold badB; simp only [hr1]; rfl)
     go_wp2_with (go_at_call 130; refine (right_any _ orders w.heap.size _ hzc hcW).mono ?_; rintro e we ⟨rfl, rfl⟩)
     go_meet
     exact ⟨by rw [HE.out], rfl⟩
    case true =>
     cases hr2 : rightB x2 orders
     case false =>
      have HE : Hid (badB orders (x1, x2) = true) := Lib.hid (by unfold badB; simp only [hr1, hr2]; rfl)
      go_wp2_with (go_at_call 130; refine (right_any _ orders w.heap.size _ hzc hcW).mono ?_; rintro e we ⟨rfl, rfl⟩)
      go_meet
      exact ⟨by rw [HE.out], rfl⟩
     case true =>
      have HE : Hid (badB orders (x1, x2) = (x1 == x2)) := Lib.hid (by unfold badB; simp only [hr1, hr2]; rfl)
      go_wp2_with (go_at_call 130; refine (right_any _ orders w.heap.size _ hzc hcW).mono ?_; rintro e we ⟨rfl, rfl⟩)
      go_meet
      exact ⟨by rw [HE.out], rfl⟩
   obtain ⟨h55, hwc⟩ := hcut
   subst h55
   subst hwc
   obtain ⟨k0, k1⟩ := HK9.out
   have hownR := HO.out
   have hownW := HOW.out
   cases he : badB orders (x1, x2)
   case true =>
    go_upto_if 55 with fail
    have HE : Hid (F (j + 1) = F j ++ [⟨2, atS word j⟩]) := Lib.hid (by rw [HP.out]; unfold pairP; simp only [he]; rfl)
    go_wp2_with (first
     | (at_builtin; refine wpList_app fault_elem _ _ rfl (w.heap.size + 1) A' (F j).length c' (fcs (F j)) rfl (World.ownsRow.alloc hownR _) ⟨W.heap.size, 0, none⟩ 1 [.int .i64 2, .string (word ++ ⟨#[32]⟩ ++ decS j)] rfl rfl (two_new W (.int .i64 2) (.string (word ++ ⟨#[32]⟩ ++ decS j)) 53) (by simp [Value.oneCell']) (by omega) (by simp <;> omega) rfl ?_; intro g3 c3 w3 hown3 hg3 hd3))
    go_roundw
    case rel =>
     refine ⟨j + 1, some ⟨g3, 0, none⟩, c3, by omega, by go_num, by rw [HE.out, List.length_append]; rfl, by unfold Fown; rw [HE.out, List.length_append, fcs_snoc]; exact hown3, ?_, ?_, ?_⟩
     ·exact hg3.cell ((World.cell?_alloc_lt W _ _ hzc).trans hcW) (by intro e; have := (World.ownsRow.lt hownW _ e.symm).1; simp at this; omega)
     ·exact (BW.alloc (by omega) _).grown hg3 (by simp; omega) (fun q' e => by have := (World.ownsRow.lt hownW _ e).1; omega)
     ·have := hg3.size; simp at *; omega
    case measure => simp [intOf]; omega
   case false =>
    go_upto_if 55 with fail
    have HP6 : Hid (F (j + 1) = F j ++ if (l.take j).any (twoEq (x1, x2)) = true then [⟨6, atS word j⟩] else []) := Lib.hid (by rw [HP.out]; unfold pairP; simp only [he]; rfl)
    clear HP he
    have hjc : j ≤ c := by omega
    have hjc2 : (j : Int) ≤ (c : Int) := by omega
    go_wp2
    go_loopw [9, 65] (fun v k wr => ∃ i : Nat, i ≤ j ∧ k = .int .i64 i ∧ v = .slice A' (F j).length c' ∧ Hid ((l.take i).any (twoEq (x1, x2)) = false) ∧ Below W.heap.size W wr) (fun _ k _ => j - (intOf k).toNat)
    case atStart => exact ⟨0, by omega, rfl, rfl, Lib.hid rfl, Below.refl _ _⟩
    case round =>
     obtain ⟨i, hi, rfl, rfl, HA, hbi⟩ := hrel
     have zi := hbi.size
     have BI : Below w.heap.size w wr := BW.trans (hbi.mono (by omega))
     have hcI : wr.cell? ⟨w.heap.size, 0, none⟩ = some (.int .i64 orders) := (hbi.cell (p := ⟨w.heap.size, 0, none⟩) hzc).trans hcW
     have hownI := own_below hownR hbi
     by_cases hil : i < j
     ·obtain ⟨⟨y1, y2⟩, hq⟩ : ∃ q, l[i]? = some q := ⟨_, List.getElem?_eq_getElem (by rw [HM.out]; omega)⟩
      obtain ⟨ad2, hadeq, hadb2, ⟨n0, n1⟩, _⟩ := row_Two (hL.below BI) hq
      obtain rfl : ad = ad2 := Option.some.inj hadeq
      simp only at n0 n1
      have q0 : wr.cell? ⟨P, 0, none⟩ = some (.int .i64 x1) := (hbi.cell (p := ⟨P, 0, none⟩) zp).trans k0
      have q1 : wr.cell? ⟨P, 1, none⟩ = some (.int .i64 x2) := (hbi.cell (p := ⟨P, 1, none⟩) zp).trans k1
      have zpi : P < wr.heap.size := by omega
      have i0 : (0 : Int) ≤ (i : Int) := by omega
      have ij : (i : Int) < (j : Int) := by omega
      have HT := Lib.hid (take_anyP (p := twoEq (x1, x2)) hq)
      obtain ⟨s, hs⟩ : ∃ s, twoEq (x1, x2) (y1, y2) = s := ⟨_, rfl⟩
      have HC : Hid (∀ w', Calls Tryz.prog 88 #[.agg #[.int .i64 x1, .int .i64 x2], .agg #[.int .i64 y1, .int .i64 y2]] w' fun e w'' => e = .returned (.bool s) ∧ Below w'.heap.size w' w'') := Lib.hid fun w' => by rw [← hs]; exact exact_any (x1, x2) (y1, y2) w'
      rw [hs] at HT
      have HCI := Lib.hid hcI
      clear hq hs hadeq k0 k1 hcW hcI
      have HOI := Lib.hid hownI
      clear hownI
      cases s
      case true =>
       have HE : Hid (F (j + 1) = F j ++ [⟨6, atS word j⟩]) := Lib.hid (by rw [HP6.out, if_pos (take_any_true HT.out (by omega))])
       go_wp2_with (first
        | (go_at_call 88; refine (HC.out _).mono ?_; rintro e we ⟨rfl, hbe⟩)
        | (at_builtin; refine wpList_app fault_elem _ _ rfl (w.heap.size + 1) A' (F j).length c' (fcs (F j)) rfl ((own_below (World.ownsRow.alloc HOI.out _) hbe).alloc _) ⟨we.heap.size, 0, none⟩ 1 [.int .i64 6, .string (word ++ ⟨#[32]⟩ ++ decS j)] rfl rfl (two_new we (.int .i64 6) (.string (word ++ ⟨#[32]⟩ ++ decS j)) 53) (by simp [Value.oneCell']) (by omega) (by have := hbe.size; simp at *; omega) rfl ?_; intro g3 c3 w3 hown3 hg3 hd3))
       have ownE := own_below (World.ownsRow.alloc HOI.out _) hbe
       have BE : Below w.heap.size w we := (BI.alloc (by omega) _).trans (hbe.mono (by simp; omega))
       have zE := BE.size
       have ltE : w.heap.size < we.heap.size := by have := hbe.size; simp at this; omega
       have cE : we.cell? ⟨w.heap.size, 0, none⟩ = some (.int .i64 orders) := (hbe.cell (p := ⟨w.heap.size, 0, none⟩) (by simp; omega)).trans ((World.cell?_alloc_lt _ _ _ (show w.heap.size < wr.heap.size by omega)).trans HCI.out)
       go_roundw
       case rel =>
        refine ⟨j + 1, some ⟨g3, 0, none⟩, c3, by omega, by go_num, by rw [HE.out, List.length_append]; rfl, by unfold Fown; rw [HE.out, List.length_append, fcs_snoc]; exact hown3, ?_, ?_, ?_⟩
        ·exact hg3.cell ((World.cell?_alloc_lt we _ _ ltE).trans cE) (by intro e; have := (World.ownsRow.lt ownE _ e.symm).1; simp at this; omega)
        ·exact (BE.alloc (by omega) _).grown hg3 (by simp; omega) (fun q' e => by have := (World.ownsRow.lt ownE _ e).1; omega)
        ·have := hg3.size; simp at *; omega
       case measure => simp [intOf]; omega
      case false =>
       go_wp2_with (go_at_call 88; refine (HC.out _).mono ?_; rintro e we ⟨rfl, hbe⟩)
       go_roundw
       case rel => exact ⟨i + 1, by omega, by go_num, rfl, Lib.hid (by rw [HT.out, HA.out]; rfl), (hbi.alloc zi _).trans (hbe.mono (by simp; omega))⟩
       case measure => simp [intOf]; omega
     ·have hij : i = j := by omega
      subst hij
      have HE : Hid (F (i + 1) = F i) := Lib.hid (by rw [HP6.out, HA.out]; simp)
      go_wp2
      go_roundw
      case rel => exact ⟨i + 1, A', c', by omega, by go_num, by rw [HE.out], by rw [HE.out]; exact hownI, hcI, BI, by omega⟩
      case measure => simp [intOf]; omega
  ·have hjm : j = m := by omega
   subst hjm
   go_wp2
   go_ret
   rw [HF.out]
   unfold Fown at hown
   exact ⟨A', c', rfl, own_less hown (by omega), hB⟩
set_option maxHeartbeats 1000000 in
theorem rcheckG_any (orders : Int) (A : Option Addr) (c : Nat) (a : List (Int × Int)) (A' : Option Addr) (c' : Nat) (b : List (Int × Int)) (w : World) (hA : RowAt (rPair rInt rInt) w w.heap.size A a) (hB : RowAt (rPair rInt rInt) w w.heap.size A' b) (ha : a.length ≤ 5000) (hb : b.length ≤ 5000) (hca : a.length ≤ c) (hcb : b.length ≤ c') :
  Calls Tryz.prog 49 #[.int .i64 orders, .slice A a.length c, .slice A' b.length c'] w (FltsOut w (rulesF orders a b)) := by
 obtain ⟨E, hE⟩ : ∃ E, rulesF orders a b = E := ⟨_, rfl⟩
 obtain ⟨E1, hE1⟩ : ∃ E, pairsTo orders apartS looseB a a.length = E := ⟨_, rfl⟩
 obtain ⟨E2, hE2⟩ : ∃ E, pairsTo orders beforeS twoEq b b.length = E := ⟨_, rfl⟩
 have l1 : E1.length ≤ 5001 := by rw [← hE1]; have := pairsTo_len orders apartS looseB a a.length; omega
 have l2 : E2.length ≤ 5001 := by rw [← hE2]; have := pairsTo_len orders beforeS twoEq b b.length; omega
 have HE : Hid (E = E1 ++ E2) := Lib.hid (by rw [← hE, ← hE1, ← hE2]; rfl)
 have H1 : Hid (Calls Tryz.prog 86 #[.int .i64 orders, .string ⟨#[97, 112, 97, 114, 116]⟩, .slice A a.length c, .func (.func 87) #[] #[]] w (FltsOut w E1)) := Lib.hid (by rw [← hE1]; exact looseG_any orders apartS (by decide) A c a w hA ha hca)
 have H2 : Hid (∀ w', Below w.heap.size w w' → Calls Tryz.prog 86 #[.int .i64 orders, .string ⟨#[98, 101, 102, 111, 114, 101]⟩, .slice A' b.length c', .func (.func 88) #[] #[]] w' (FltsOut w' E2)) := Lib.hid (fun w' h => by rw [← hE2]; exact exactG_any orders beforeS (by decide) A' c' b w' ((hB.below h).more h.size) hb hcb)
 rw [hE]
 clear hE hE1 hE2 hA hB ha hb hca hcb
 go_enter Tryz.func49, Tryz.ntmps49
 go_wp2_with fail
 refine H1.out.mono ?_
 rintro e w1 ⟨A1, c1, rfl, hown1, hb1⟩
 have HO := Lib.hid hown1
 have z1 := hb1.size
 clear hown1
 go_wp2_with (first
  | (go_at_call 86; refine (H2.out _ hb1).mono ?_; rintro e w2 ⟨A2, c2, rfl, hown2, hb2⟩)
  | (at_builtin; refine wpList_appN fault_elem _ _ rfl w.heap.size (.slice A1 E1.length c1) E1.length (fcs E1) rfl (own_below HO.out hb2) w2.heap.size A2 E2.length c2 (fcs E2) rfl (Reads.of_own hown2) (fcs_one _) (by omega) (by have := hb2.size; omega) rfl ?_; intro A5 c5 w5 hown5 hg5))
 go_ret
 have hEl : E.length = E1.length + E2.length := by rw [HE.out]; simp
 refine ⟨A5, c5, by rw [hEl]; rfl, ?_, ?_⟩
 ·unfold Fown
  rw [hEl, HE.out, fcs_append]
  exact hown5
 ·have B2 : Below w.heap.size w w2 := hb1.trans (hb2.mono z1)
  exact B2.grown hg5 B2.size (fun q' e => (World.ownsRow.lt (own_below HO.out hb2) _ e).1)
end Go.Proofs.YthefooacfcagbaaGreatDoor.rul

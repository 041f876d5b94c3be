/- loads.Fits; the reference's Right, Fits, Same: portable part of LoadA. -/
import Derived.Test.YtceceomaheobhaaBase
import Derived.Deep.QuietTactic
import Derived.BigQuiet
namespace Go.Proofs.Ytceceomaheobhaa.loads
open Go.RowKit
open Go.Proofs.Ytceceomaheobhaa.lib
set_option linter.unusedVariables false

theorem rright_any (A : Option Addr) (c : Nat) (l : List Int) (d : Int) (w : World) (B : Nat) (hl : Ints w B A l) :
    Calls Try.prog 24 #[.slice A l.length c, .int .i64 d] w fun e w' => e = .returned (.bool (rightB l d)) ∧ w = w' := by
  have hlen := hl.len
  by_cases hd : (l.length : Int) = d
  · subst hd
    go_enter Try.func24, Try.ntmps24
    go_wp2
    go_loop [5] (fun i => ∃ k : Nat, k ≤ l.length ∧ i = .int .i64 k ∧ Hid ((l.all fun x => decide (0 ≤ x ∧ x ≤ 1000)) = ((l.drop k).all fun x => decide (0 ≤ x ∧ x ≤ 1000)))) (fun i => l.length - (intOf i).toNat)
    case atStart => exact ⟨0, by omega, rfl, Lib.hid rfl⟩
    case round =>
      obtain ⟨k, hk, rfl, hr⟩ := hrel
      by_cases hlt : k < l.length
      · obtain ⟨ad, x, rfl, hadb, hx, hcx⟩ := hl.at_ hlt
        have HX := Lib.hid (all_take (p := fun x => decide (0 ≤ x ∧ x ≤ 1000)) hx)
        clear hx
        go_wp2
        · go_ret
          exact ⟨ret_bool (by unfold rightB; rw [hr.out, HX.out, decide_eq_false (by omega)]; rfl), rfl⟩
        · go_round
          case rel => exact ⟨k + 1, by omega, by go_num, Lib.hid (by rw [hr.out, HX.out, decide_eq_true (by omega)]; rfl)⟩
          case measure => simp [intOf]; omega
        · go_ret
          exact ⟨ret_bool (by unfold rightB; rw [hr.out, HX.out, decide_eq_false (by omega)]; rfl), rfl⟩
      · have hkn : k = l.length := by omega
        subst hkn
        clear hlt
        go_wp2
        go_ret
        exact ⟨ret_bool (by unfold rightB; rw [hr.out, List.drop_length]; simp), rfl⟩
  · have hd2 : ((l.length : Int) == d) = false := by simp [hd]
    have hd3 : ((l.length : Int) != d) = true := by simp [hd]
    have HD : Hid (decide ((l.length : Int) = d) = false) := Lib.hid (by simp [hd])
    clear hd
    go_enter Try.func24, Try.ntmps24
    go_wp2
    go_ret
    exact ⟨ret_bool (by unfold rightB; rw [HD.out, Bool.and_false]), rfl⟩

theorem fits_step {a b : List Int} {k : Nat} {x y : Int} (hx : a[k]? = some x) (hy : b[k]? = some y) : fitsGo (a.drop k) (b.drop k) = (decide (x ≤ y) && fitsGo (a.drop (k + 1)) (b.drop (k + 1))) := by
  rw [drop_at hx, drop_at hy, fitsGo]

theorem fits_any (A : Option Addr) (c : Nat) (a : List Int) (n : Nat) (hn : a.length = n) (A' : Option Addr) (c' : Nat) (b : List Int) (m : Nat) (hm : b.length = m) (w : World) (B B' : Nat) (ha : Ints w B A a) (hb : Ints w B' A' b) :
    Calls Try.prog 41 #[.slice A n c, .slice A' m c'] w fun e w' => e = .returned (.bool (fitsB a b)) ∧ w = w' := by
  have hlen := ha.len
  rw [hn] at hlen
  by_cases h : n = m
  · subst h
    have HN := Lib.hid hn
    have HM := Lib.hid hm
    clear hn hm
    go_enter Try.func41, Try.ntmps41
    go_wp2
    go_loop [5, 6, 14] (fun _ _ i => ∃ k : Nat, k ≤ n ∧ i = .int .i64 k ∧ Hid (fitsGo a b = fitsGo (a.drop k) (b.drop k))) (fun _ _ i => n - (intOf i).toNat)
    case atStart => exact ⟨0, by omega, rfl, Lib.hid rfl⟩
    case round =>
      obtain ⟨k, hk, rfl, hr⟩ := hrel
      by_cases hlt : k < n
      · obtain ⟨ad, x, rfl, hadb, hx, hcx⟩ := ha.at_ (k := k) (by rw [HN.out]; exact hlt)
        obtain ⟨ad', y, rfl, hadb', hy, hcy⟩ := hb.at_ (k := k) (by rw [HM.out]; exact hlt)
        have HX := Lib.hid (fits_step hx hy)
        clear hx hy
        by_cases hxy : y < x
        · go_wp2
          go_ret
          exact ⟨ret_bool (by unfold fitsB; rw [hr.out, HX.out, decide_eq_false (by omega : ¬ x ≤ y)]; simp), rfl⟩
        · go_wp2
          go_round
          case rel => exact ⟨k + 1, by omega, by go_num, Lib.hid (by rw [hr.out, HX.out, decide_eq_true (by omega : x ≤ y)]; rfl)⟩
          case measure => simp [intOf]; omega
      · have hkn : k = n := by omega
        subst hkn
        clear hlt
        go_wp2
        go_ret
        exact ⟨ret_bool (by unfold fitsB; rw [hr.out, List.drop_of_length_le (by rw [HN.out]; exact Nat.le_refl _), HN.out, HM.out]; simp [fitsGo]), rfl⟩
  · have hd2 : ((n : Int) == (m : Int)) = false := by simp; omega
    have hd3 : ((n : Int) != (m : Int)) = true := by simp; omega
    have HD : Hid (decide (a.length = b.length) = false) := Lib.hid (by rw [hn, hm]; simp [h])
    clear h hn hm
    go_enter Try.func41, Try.ntmps41
    go_wp2
    go_ret
    exact ⟨ret_bool (by unfold fitsB; rw [HD.out, Bool.false_and]), rfl⟩

theorem rfits_any (A : Option Addr) (c : Nat) (a : List Int) (n : Nat) (hn : a.length = n) (A' : Option Addr) (c' : Nat) (b : List Int) (m : Nat) (hm : b.length = m) (w : World) (B B' : Nat) (hB : B ≤ w.heap.size) (hB' : B' ≤ w.heap.size) (ha : Ints w B A a) (hb : Ints w B' A' b) :
    Calls Try.prog 45 #[.slice A n c, .slice A' m c'] w fun e w' => e = .returned (.bool (fitsB a b)) ∧ Below w.heap.size w w' := by
  have hlen := ha.len
  rw [hn] at hlen
  by_cases h : n = m
  · subst h
    have HN := Lib.hid hn
    have HM := Lib.hid hm
    clear hn hm
    go_enter Try.func45, Try.ntmps45
    go_wp2
    go_loopw [5] (fun i wr => ∃ k : Nat, k ≤ n ∧ i = .int .i64 k ∧ Hid (fitsGo a b = fitsGo (a.drop k) (b.drop k)) ∧ Below w.heap.size w wr) (fun i _ => n - (intOf i).toNat)
    case atStart => exact ⟨0, by omega, rfl, Lib.hid rfl, Below.refl _ _⟩
    case round =>
      obtain ⟨k, hk, rfl, hr, hbel⟩ := hrel
      by_cases hlt : k < n
      · obtain ⟨ad, x, rfl, hadb, hx, hcx⟩ := (ha.below (hbel.mono hB)).at_ (k := k) (by rw [HN.out]; exact hlt)
        obtain ⟨ad', y, rfl, hadb', hy, hcy⟩ := (hb.below (hbel.mono hB')).at_ (k := k) (by rw [HM.out]; exact hlt)
        have HX := Lib.hid (fits_step hx hy)
        have hk0 : (0 : Int) ≤ (k : Int) := by omega
        have hkn : (k : Int) < (n : Int) := by omega
        clear hx hy
        by_cases hxy : y < x
        · go_wp2
          go_quiet (fail)
          go_wp2
          go_ret
          exact ⟨ret_bool (by unfold fitsB; rw [hr.out, HX.out, decide_eq_false (by omega : ¬ x ≤ y)]; simp), bel_drewN hbel _⟩
        · go_wp2
          go_quiet (fail)
          go_wp2
          go_roundw
          case rel => exact ⟨k + 1, by omega, by go_num, Lib.hid (by rw [hr.out, HX.out, decide_eq_true (by omega : x ≤ y)]; rfl), bel_drewN hbel _⟩
          case measure => simp [intOf]; omega
      · have hkn : k = n := by omega
        subst hkn
        clear hlt
        go_wp2
        go_ret
        exact ⟨ret_bool (by unfold fitsB; rw [hr.out, List.drop_of_length_le (by rw [HN.out]; exact Nat.le_refl _), HN.out, HM.out]; simp [fitsGo]), hbel⟩
  · have hd2 : ((n : Int) == (m : Int)) = false := by simp; omega
    have hd3 : ((n : Int) != (m : Int)) = true := by simp; omega
    have HD : Hid (decide (a.length = b.length) = false) := Lib.hid (by rw [hn, hm]; simp [h])
    clear h hn hm
    go_enter Try.func45, Try.ntmps45
    go_wp2
    go_ret
    exact ⟨ret_bool (by unfold fitsB; rw [HD.out, Bool.false_and]), Below.refl _ _⟩

/-! Same. -/
theorem same_step {a b : List Int} {k : Nat} {x y : Int} (hx : a[k]? = some x) (hy : b[k]? = some y) : decide (a.drop k = b.drop k) = (decide (x = y) && decide (a.drop (k + 1) = b.drop (k + 1))) := by
  rw [drop_at hx, drop_at hy, Bool.eq_iff_iff]
  simp
theorem same_any (A : Option Addr) (c : Nat) (a : List Int) (n : Nat) (hn : a.length = n) (A' : Option Addr) (c' : Nat) (b : List Int) (m : Nat) (hm : b.length = m) (w : World) (B B' : Nat) (hB : B ≤ w.heap.size) (hB' : B' ≤ w.heap.size) (ha : Ints w B A a) (hb : Ints w B' A' b) :
    Calls Try.prog 37 #[.slice A n c, .slice A' m c'] w fun e w' => e = .returned (.bool (sameB a b)) ∧ Below w.heap.size w w' := by
  have hlen := ha.len
  rw [hn] at hlen
  by_cases h : n = m
  · subst h
    have HN := Lib.hid hn
    have HM := Lib.hid hm
    clear hn hm
    go_enter Try.func37, Try.ntmps37
    go_wp2
    go_loopw [5] (fun i wr => ∃ k : Nat, k ≤ n ∧ i = .int .i64 k ∧ Hid (sameB a b = decide (a.drop k = b.drop k)) ∧ Below w.heap.size w wr) (fun i _ => n - (intOf i).toNat)
    case atStart => exact ⟨0, by omega, rfl, Lib.hid rfl, Below.refl _ _⟩
    case round =>
      obtain ⟨k, hk, rfl, hr, hbel⟩ := hrel
      by_cases hlt : k < n
      · obtain ⟨ad, x, rfl, hadb, hx, hcx⟩ := (ha.below (hbel.mono hB)).at_ (k := k) (by rw [HN.out]; exact hlt)
        obtain ⟨ad', y, rfl, hadb', hy, hcy⟩ := (hb.below (hbel.mono hB')).at_ (k := k) (by rw [HM.out]; exact hlt)
        have HX := Lib.hid (same_step hx hy)
        have hk0 : (0 : Int) ≤ (k : Int) := by omega
        have hkn : (k : Int) < (n : Int) := by omega
        clear hx hy
        by_cases hxy : x = y
        · subst hxy
          go_wp2
          go_quiet (fail)
          go_wp2
          go_roundw
          case rel => exact ⟨k + 1, by omega, by go_num, Lib.hid (by rw [hr.out, HX.out]; simp), bel_drewN hbel _⟩
          case measure => simp [intOf]; omega
        · have h1 : (x == y) = false := by simp [hxy]
          have h2 : (x != y) = true := by simp [hxy]
          have HF := Lib.hid (decide_eq_false hxy)
          clear hxy
          go_wp2
          go_quiet (fail)
          go_wp2
          go_ret
          exact ⟨ret_bool (by rw [hr.out, HX.out, HF.out]; rfl), bel_drewN hbel _⟩
      · have hkn : k = n := by omega
        subst hkn
        clear hlt
        go_wp2
        go_ret
        exact ⟨ret_bool (by rw [hr.out, List.drop_of_length_le (by rw [HN.out]; exact Nat.le_refl _), List.drop_of_length_le (by rw [HM.out]; exact Nat.le_refl _)]; simp), hbel⟩
  · have hd2 : ((n : Int) == (m : Int)) = false := by simp; omega
    have hd3 : ((n : Int) != (m : Int)) = true := by simp; omega
    have HD : Hid (sameB a b = false) := Lib.hid (by unfold sameB; rw [decide_eq_false]; intro e; rw [e] at hn; omega)
    clear h hn hm
    go_enter Try.func37, Try.ntmps37
    go_wp2
    go_ret
    exact ⟨ret_bool (by rw [HD.out]), Below.refl _ _⟩
end Go.Proofs.Ytceceomaheobhaa.loads

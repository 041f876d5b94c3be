/- Totals; equal lists of numbers; the same types. -/
import Derived.Test.YthkbfmbohoclaaaDoorFltB
import Derived.Deep.QuietTactic
import Derived.BigQuiet
namespace Go.Proofs.YthkbfmbohoclaaaDoor.flt
open Go.RowKit
open Go.Proofs.YthkbfmbohoclaaaDoor.lib Go.Proofs.YthkbfmbohoclaaaDoor.rd Go.Proofs.YthkbfmbohoclaaaDoor.typ
set_option linter.unusedVariables false

/-- The number of vehicles of the first k types. -/
def totTo (l : List Ty) (k : Nat) : Int := ((l.take k).map fun t => if inB t.count 0 10 then t.count else 0).sum
theorem totTo_succ {l : List Ty} {k : Nat} {t : Ty} (h : l[k]? = some t) : totTo l (k + 1) = totTo l k + (if inB t.count 0 10 then t.count else 0) := by
  obtain ⟨h1, h2⟩ := List.getElem?_eq_some_iff.1 h
  unfold totTo
  rw [List.take_succ_eq_append_getElem h1, h2, List.map_append, List.sum_append]
  simp
theorem inB_bd {n a b : Int} (h : inB n a b = true) : a ≤ n ∧ n ≤ b := by unfold inB at h; simpa using h

set_option maxHeartbeats 1000000 in
theorem total_any (A : Option Addr) (c : Nat) (l : List Ty) (w : World) (hL : RowAt rTy w w.heap.size A l) (hl : l.length ≤ 1000) :
    Calls Tryd.prog 22 #[.slice A l.length c] w fun e w' => e = .returned (.int .i64 (totTo l l.length)) ∧ Below w.heap.size w w' := by
  obtain ⟨n, hn⟩ : ∃ n, l.length = n := ⟨_, rfl⟩
  rw [hn] at hl ⊢
  have HN := Lib.hid hn
  clear hn
  go_enter Tryd.func22, Tryd.ntmps22
  go_wp2
  go_loopw [3, 8] (fun v i wr => ∃ (k : Nat) (x : Int), k ≤ n ∧ i = .int .i64 k ∧ v = .int .i64 x ∧ Hid (x = totTo l k) ∧ 0 ≤ x ∧ x ≤ 10 * k ∧ Below w.heap.size w wr) (fun _ i _ => n - (intOf i).toNat)
  case atStart => exact ⟨0, 0, by omega, rfl, rfl, Lib.hid rfl, by omega, by omega, Below.refl _ _⟩
  case round =>
    obtain ⟨k, x, hk, rfl, rfl, hx, hx0, hx1, hb⟩ := hrel
    have hz := hb.size
    by_cases hlt : k < n
    · obtain ⟨t, ht⟩ : ∃ t, l[k]? = some t := ⟨_, List.getElem?_eq_getElem (by rw [HN.out]; exact hlt)⟩
      obtain ⟨ad, C0, c0, rfl, hadb, ⟨m0, m1, m2, m3, m4, m5, m6, m7, m8, m9, m10, m11, m12, m13⟩, _, _⟩ := row_Ty (hL.below hb) ht
      have hk0 : (0 : Int) ≤ (k : Int) := by omega
      have hkn : (k : Int) < (n : Int) := by omega
      have hst := Lib.hid (totTo_succ ht)
      clear ht
      cases hi : inB t.count 0 10
      · have HX : Hid (x = totTo l (k + 1)) := Lib.hid (by rw [hst.out, hi, hx.out]; simp)
        go_wp2_with (go_at_call 35; refine (within_any _ _ _ _).mono ?_; rintro e w1 ⟨rfl, rfl⟩)
        go_roundw
        case rel => exact ⟨k + 1, x, by omega, by go_num, rfl, HX, hx0, by omega, hb.alloc hz _⟩
        case measure => simp [intOf]; omega
      · have hbd := inB_bd hi
        have HX : Hid (x + t.count = totTo l (k + 1)) := Lib.hid (by rw [hst.out, hi, hx.out]; simp)
        go_wp2_with (go_at_call 35; refine (within_any _ _ _ _).mono ?_; rintro e w1 ⟨rfl, rfl⟩)
        go_roundw
        case rel => exact ⟨k + 1, x + t.count, by omega, by go_num, rfl, HX, by omega, by omega, hb.alloc hz _⟩
        case measure => simp [intOf]; omega
    · have hkn : k = n := by omega
      subst hkn
      go_wp2
      go_ret
      exact ⟨ret_int hx.out, hb⟩

set_option maxHeartbeats 1000000 in
theorem rtotal_any (A : Option Addr) (c : Nat) (l : List Ty) (w : World) (hL : RowAt rTy w w.heap.size A l) (hl : l.length ≤ 1000) :
    Calls Tryd.prog 23 #[.slice A l.length c] w fun e w' => e = .returned (.int .i64 (totTo l l.length)) ∧ w = w' := by
  obtain ⟨n, hn⟩ : ∃ n, l.length = n := ⟨_, rfl⟩
  rw [hn] at hl ⊢
  have HN := Lib.hid hn
  clear hn
  go_enter Tryd.func23, Tryd.ntmps23
  go_wp2
  go_loop [3, 4] (fun v i => ∃ (k : Nat) (x : Int), k ≤ n ∧ i = .int .i64 k ∧ v = .int .i64 x ∧ Hid (x = totTo l k) ∧ 0 ≤ x ∧ x ≤ 10 * k) (fun _ i => n - (intOf i).toNat)
  case atStart => exact ⟨0, 0, by omega, rfl, rfl, Lib.hid rfl, by omega, by omega⟩
  case round =>
    obtain ⟨k, x, hk, rfl, rfl, hx, hx0, hx1⟩ := hrel
    by_cases hlt : k < n
    · obtain ⟨t, ht⟩ : ∃ t, l[k]? = some t := ⟨_, List.getElem?_eq_getElem (by rw [HN.out]; exact hlt)⟩
      obtain ⟨ad, C0, c0, rfl, hadb, ⟨_, m1, _⟩, _, _⟩ := row_Ty hL ht
      have hk0 : (0 : Int) ≤ (k : Int) := by omega
      have hkn : (k : Int) < (n : Int) := by omega
      have hst := Lib.hid (totTo_succ ht)
      clear ht
      cases hi : inB t.count 0 10
      · have HX : Hid (x = totTo l (k + 1)) := Lib.hid (by rw [hst.out, hi, hx.out]; simp)
        go_wp2_with (go_at_call 38; refine (in_any _ _ _ _).mono ?_; rintro e w1 ⟨rfl, rfl⟩)
        go_round
        case rel => exact ⟨k + 1, x, by omega, by go_num, rfl, HX, hx0, by omega⟩
        case measure => simp [intOf]; omega
      · have hbd := inB_bd hi
        have HX : Hid (x + t.count = totTo l (k + 1)) := Lib.hid (by rw [hst.out, hi, hx.out]; simp)
        go_wp2_with (go_at_call 38; refine (in_any _ _ _ _).mono ?_; rintro e w1 ⟨rfl, rfl⟩)
        go_round
        case rel => exact ⟨k + 1, x + t.count, by omega, by go_num, rfl, HX, by omega, by omega⟩
        case measure => simp [intOf]; omega
    · have hkn : k = n := by omega
      subst hkn
      go_wp2
      go_ret
      exact ⟨ret_int hx.out, rfl⟩

def sameB (a b : List Int) : Bool := decide (a = b)
theorem same_step {a b : List Int} {k : Nat} {x y : Int} (hx : a[k]? = some x) (hy : b[k]? = some y) : decide (a.drop k = b.drop k) = (decide (x = y) && decide (a.drop (k + 1) = b.drop (k + 1))) := by
  rw [drop_at hx, drop_at hy, Bool.eq_iff_iff]
  simp
set_option maxHeartbeats 1000000 in
theorem equal_any (A : Option Addr) (c : Nat) (a : List Int) (n : Nat) (hn : a.length = n) (A' : Option Addr) (c' : Nat) (b : List Int) (m : Nat) (hm : b.length = m) (w : World) (B B' : Nat) (hB : B ≤ w.heap.size) (hB' : B' ≤ w.heap.size) (ha : Ints w B A a) (hb : Ints w B' A' b) :
    Calls Tryd.prog 42 #[.slice A n c, .slice A' m c'] w fun e w' => e = .returned (.bool (sameB a b)) ∧ Below w.heap.size w w' := by
  have hlen := ha.len
  rw [hn] at hlen
  by_cases h : n = m
  · subst h
    have HN := Lib.hid hn
    have HM := Lib.hid hm
    clear hn hm
    go_enter Tryd.func42, Tryd.ntmps42
    go_wp2
    go_loopw [5, 13] (fun _ i wr => ∃ k : Nat, k ≤ n ∧ i = .int .i64 k ∧ Hid (sameB a b = decide (a.drop k = b.drop k)) ∧ Below w.heap.size w wr) (fun _ i _ => n - (intOf i).toNat)
    case atStart => exact ⟨0, by omega, rfl, Lib.hid rfl, Below.refl _ _⟩
    case round =>
      obtain ⟨k, hk, rfl, hr, hbel⟩ := hrel
      by_cases hlt : k < n
      · obtain ⟨ad, x, rfl, hadb, hx, hcx⟩ := (ha.below (hbel.mono hB)).at_ (k := k) (by rw [HN.out]; exact hlt)
        obtain ⟨ad', y, rfl, hadb', hy, hcy⟩ := (hb.below (hbel.mono hB')).at_ (k := k) (by rw [HM.out]; exact hlt)
        have HX := Lib.hid (same_step hx hy)
        have hk0 : (0 : Int) ≤ (k : Int) := by omega
        have hkn : (k : Int) < (n : Int) := by omega
        clear hx hy
        by_cases hxy : x = y
        · subst hxy
          go_wp2
          go_quiet (fail)
          go_wp2
          go_roundw
          case rel => exact ⟨k + 1, by omega, by go_num, Lib.hid (by rw [hr.out, HX.out]; simp), bel_drewN hbel _⟩
          case measure => simp [intOf]; omega
        · have h1 : (x == y) = false := by simp [hxy]
          have h2 : (x != y) = true := by simp [hxy]
          have HF := Lib.hid (decide_eq_false hxy)
          clear hxy
          go_wp2
          go_quiet (fail)
          go_wp2
          go_ret
          exact ⟨ret_bool (by rw [hr.out, HX.out, HF.out]; rfl), bel_drewN hbel _⟩
      · have hkn : k = n := by omega
        subst hkn
        clear hlt
        go_wp2
        go_ret
        exact ⟨ret_bool (by rw [hr.out, List.drop_of_length_le (by rw [HN.out]; exact Nat.le_refl _), List.drop_of_length_le (by rw [HM.out]; exact Nat.le_refl _)]; simp), hbel⟩
  · have hd2 : ((n : Int) == (m : Int)) = false := by simp; omega
    have hd3 : ((n : Int) != (m : Int)) = true := by simp; omega
    have HD : Hid (sameB a b = false) := Lib.hid (by unfold sameB; rw [decide_eq_false]; intro e; rw [e] at hn; omega)
    clear h hn hm
    go_enter Tryd.func42, Tryd.ntmps42
    go_wp2
    go_ret
    exact ⟨ret_bool (by rw [HD.out]), Below.refl _ _⟩
end Go.Proofs.YthkbfmbohoclaaaDoor.flt

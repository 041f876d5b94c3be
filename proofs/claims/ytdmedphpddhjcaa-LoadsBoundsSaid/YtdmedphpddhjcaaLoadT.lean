/- Contracts of Trips, of the program and of the reference. -/
import Derived.Test.YtdmedphpddhjcaaLoadA
import Derived.RegionTactic
namespace Go.Proofs.Ytdmedphpddhjcaa.loads
open Go.RowKit
open Go.Proofs.Ytdmedphpddhjcaa.lib
set_option linter.unusedVariables false

theorem trips_skip {a b : List Int} {k : Nat} {x y t : Int} (hx : a[k]? = some x) (hy : b[k]? = some y) (h : x ≤ 0) : tripsGo (a.drop k) (b.drop k) t = tripsGo (a.drop (k + 1)) (b.drop (k + 1)) t := by
  rw [drop_at hx, drop_at hy, tripsGo, if_pos h]
theorem trips_none {a b : List Int} {k : Nat} {x t : Int} (hx : a[k]? = some x) (hy : b[k]? = some 0) (h : 0 < x) : tripsGo (a.drop k) (b.drop k) t = (0, 24) := by
  rw [drop_at hx, drop_at hy, tripsGo, if_neg (by omega), if_pos rfl]
theorem trips_go {a b : List Int} {k : Nat} {x y t : Int} (hx : a[k]? = some x) (hy : b[k]? = some y) (h : 0 < x) (h' : ¬ y = 0) : tripsGo (a.drop k) (b.drop k) t = tripsGo (a.drop (k + 1)) (b.drop (k + 1)) (max t ((x + y - 1) / y)) := by
  rw [drop_at hx, drop_at hy, tripsGo, if_neg (by omega), if_neg h']
theorem neg_at {b : List Int} (h : negB b = false) {x : Int} (hx : x ∈ b) : 0 ≤ x := by
  unfold negB at h
  rw [List.any_eq_false] at h
  have := h x hx
  simp at this
  omega

def In30 (l : List Int) : Prop := ∀ x, x ∈ l → -1073741824 ≤ x ∧ x ≤ 1073741824

set_option maxHeartbeats 1000000 in
theorem trips_any (A : Option Addr) (c : Nat) (a : List Int) (n : Nat) (hn : a.length = n) (A' : Option Addr) (c' : Nat) (b : List Int) (m : Nat) (hm : b.length = m) (w : World) (B B' : Nat) (ha : Ints w B A a) (hb : Ints w B' A' b) (ia : In30 a) (ib : In30 b) :
    Calls Try.prog 11 #[.slice A n c, .slice A' m c'] w fun e w' => e = .returned (.tuple #[.int .i64 (trips a b).1, .int .i64 (trips a b).2]) ∧ w = w' := by
  have hlen := ha.len
  rw [hn] at hlen
  have IA := Lib.hid ia
  have IB := Lib.hid ib
  clear ia ib
  by_cases h : n = m
  · subst h
    have HT : Hid (trips a b = if negB b = true then (0, 2) else tripsGo a b 0) := Lib.hid (by unfold trips; rw [if_pos (by omega)])
    have HN := Lib.hid hn
    have HM := Lib.hid hm
    clear hn hm
    go_enter Try.func11, Try.ntmps11
    go_wp2
    go_loop [7, 19] (fun _ i => ∃ k : Nat, k ≤ n ∧ i = .int .i64 k ∧ Hid (negB b = negB (b.drop k))) (fun _ i => n - (intOf i).toNat)
    case atStart => exact ⟨0, by omega, rfl, Lib.hid rfl⟩
    case round =>
      obtain ⟨k, hk, rfl, hr⟩ := hrel
      by_cases hlt : k < n
      · obtain ⟨ad', y, rfl, hadb', hy, hcy⟩ := hb.at_ (k := k) (by rw [HM.out]; exact hlt)
        have HX := Lib.hid (any_take (p := fun x => decide (x < 0)) hy)
        clear hy
        by_cases hy0 : y < 0
        · go_wp2
          go_ret2
          have e : trips a b = (0, 2) := by
            rw [HT.out, if_pos]
            rw [hr.out]
            unfold negB
            rw [HX.out, decide_eq_true hy0]
            rfl
          exact ⟨ret_ii (by rw [e]) (by rw [e]), rfl⟩
        · go_wp2
          go_round
          case rel => exact ⟨k + 1, by omega, by go_num, Lib.hid (by rw [hr.out]; unfold negB; rw [HX.out, decide_eq_false hy0]; rfl)⟩
          case measure => simp [intOf]; omega
      · have hkn : k = n := by omega
        subst hkn
        clear hlt
        have hneg : negB b = false := by rw [hr.out, List.drop_of_length_le (by rw [HM.out]; exact Nat.le_refl _)]; rfl
        have HNEG := Lib.hid hneg
        have HT2 : Hid (trips a b = tripsGo a b 0) := Lib.hid (by rw [HT.out, if_neg (by rw [hneg]; decide)])
        clear hneg HT hr
        go_wp2
        go_loop [8, 9, 10, 11, 28, 45, 48] (fun t _ _ _ i _ _ => ∃ (j : Nat) (s : Int), j ≤ k ∧ i = .int .i64 j ∧ t = .int .i64 s ∧ 0 ≤ s ∧ s ≤ 1073741824 ∧ Hid (trips a b = tripsGo (a.drop j) (b.drop j) s)) (fun _ _ _ _ i _ _ => k - (intOf i).toNat)
        case atStart => exact ⟨0, 0, by omega, rfl, rfl, by omega, by omega, Lib.hid HT2.out⟩
        case round =>
          obtain ⟨j, s, hj, rfl, rfl, hs0, hs1, hr⟩ := hrel
          by_cases hlt : j < k
          · obtain ⟨ad, x, rfl, hadb, hx, hcx⟩ := ha.at_ (k := j) (by rw [HN.out]; exact hlt)
            obtain ⟨ad', y, rfl, hadb', hy, hcy⟩ := hb.at_ (k := j) (by rw [HM.out]; exact hlt)
            obtain ⟨x0, x1⟩ := IA.out x (List.mem_of_getElem? hx)
            obtain ⟨y0, y1⟩ := IB.out y (List.mem_of_getElem? hy)
            have hy0 := neg_at HNEG.out (List.mem_of_getElem? hy)
            by_cases hx0 : x ≤ 0
            · have HX := Lib.hid (trips_skip (t := s) hx hy hx0)
              clear hx hy
              go_wp2
              go_round
              case rel => exact ⟨j + 1, s, by omega, by go_num, rfl, hs0, hs1, Lib.hid (by rw [hr.out, HX.out])⟩
              case measure => simp [intOf]; omega
            · by_cases hyz : y = 0
              · subst hyz
                have HX := Lib.hid (trips_none (t := s) hx hy (by omega))
                clear hx hy
                go_wp2
                go_ret2
                exact ⟨ret_ii (by rw [hr.out, HX.out]) (by rw [hr.out, HX.out]), rfl⟩
              · have HX := Lib.hid (trips_go (t := s) hx hy (by omega) hyz)
                have hq := quo_bd (x := x) (y := y) (by omega) (by omega)
                have hye : (y == 0) = false := by simp [hyz]
                have hy1 : 1 ≤ y := by omega
                have hxy : 0 ≤ x + y - 1 := by omega
                clear hx hy hyz
                go_wp2
                go_round
                case rel => exact ⟨j + 1, max s ((x + y - 1) / y), by omega, by go_num, by congr 1; omega, by omega, by omega, Lib.hid (by rw [hr.out, HX.out])⟩
                case measure => simp [intOf]; omega
          · have hkn : j = k := by omega
            subst hkn
            clear hlt
            go_wp2
            go_ret2
            have e : trips a b = (s, 0) := by rw [hr.out, List.drop_of_length_le (by rw [HN.out]; exact Nat.le_refl _), tripsGo_nil]
            exact ⟨ret_ii (by rw [e]) (by rw [e]), rfl⟩
  · have hd2 : ((n : Int) == (m : Int)) = false := by simp; omega
    have hd3 : ((n : Int) != (m : Int)) = true := by simp; omega
    have HD : Hid (trips a b = (0, 2)) := Lib.hid (by unfold trips; rw [if_neg (by omega)])
    clear h hn hm
    go_enter Try.func11, Try.ntmps11
    go_wp2
    go_ret2
    exact ⟨ret_ii (by rw [HD.out]) (by rw [HD.out]), rfl⟩
set_option maxHeartbeats 1000000 in
theorem rtrips_any (A : Option Addr) (c : Nat) (a : List Int) (n : Nat) (hn : a.length = n) (A' : Option Addr) (c' : Nat) (b : List Int) (m : Nat) (hm : b.length = m) (w : World) (B B' : Nat) (hB : B ≤ w.heap.size) (hB' : B' ≤ w.heap.size) (ha : Ints w B A a) (hb : Ints w B' A' b) (ia : In30 a) (ib : In30 b) :
    Calls Try.prog 12 #[.slice A n c, .slice A' m c'] w fun e w' => e = .returned (.tuple #[.int .i64 (trips a b).1, .int .i64 (trips a b).2]) ∧ Below w.heap.size w w' := by
  have hlen := ha.len
  rw [hn] at hlen
  have IA := Lib.hid ia
  have IB := Lib.hid ib
  clear ia ib
  by_cases h : n = m
  · subst h
    have HT : Hid (trips a b = if negB b = true then (0, 2) else tripsGo a b 0) := Lib.hid (by unfold trips; rw [if_pos (by omega)])
    have HN := Lib.hid hn
    have HM := Lib.hid hm
    clear hn hm
    go_enter Try.func12, Try.ntmps12
    go_wp2
    go_loop [6] (fun i => ∃ k : Nat, k ≤ n ∧ i = .int .i64 k ∧ Hid (negB b = negB (b.drop k))) (fun i => n - (intOf i).toNat)
    case atStart => exact ⟨0, by omega, rfl, Lib.hid rfl⟩
    case round =>
      obtain ⟨k, hk, rfl, hr⟩ := hrel
      by_cases hlt : k < n
      · obtain ⟨ad', y, rfl, hadb', hy, hcy⟩ := hb.at_ (k := k) (by rw [HM.out]; exact hlt)
        have HX := Lib.hid (any_take (p := fun x => decide (x < 0)) hy)
        clear hy
        by_cases hy0 : y < 0
        · go_wp2
          go_ret2
          have e : trips a b = (0, 2) := by
            rw [HT.out, if_pos]
            rw [hr.out]
            unfold negB
            rw [HX.out, decide_eq_true hy0]
            rfl
          exact ⟨ret_ii (by rw [e]) (by rw [e]), Below.refl _ _⟩
        · go_wp2
          go_round
          case rel => exact ⟨k + 1, by omega, by go_num, Lib.hid (by rw [hr.out]; unfold negB; rw [HX.out, decide_eq_false hy0]; rfl)⟩
          case measure => simp [intOf]; omega
      · have hkn : k = n := by omega
        subst hkn
        clear hlt
        have hneg : negB b = false := by rw [hr.out, List.drop_of_length_le (by rw [HM.out]; exact Nat.le_refl _)]; rfl
        have HNEG := Lib.hid hneg
        have HT2 : Hid (trips a b = tripsGo a b 0) := Lib.hid (by rw [HT.out, if_neg (by rw [hneg]; decide)])
        clear hneg HT hr
        go_wp2
        go_loopw [7, 8] (fun t i wr => ∃ (j : Nat) (s : Int), j ≤ k ∧ i = .int .i64 j ∧ t = .int .i64 s ∧ 0 ≤ s ∧ s ≤ 1073741824 ∧ Hid (trips a b = tripsGo (a.drop j) (b.drop j) s) ∧ Below w.heap.size w wr) (fun _ i _ => k - (intOf i).toNat)
        case atStart => exact ⟨0, 0, by omega, rfl, rfl, by omega, by omega, Lib.hid HT2.out, Below.refl _ _⟩
        case round =>
          obtain ⟨j, s, hj, rfl, rfl, hs0, hs1, hr, hbel⟩ := hrel
          by_cases hlt : j < k
          · obtain ⟨ad, x, rfl, hadb, hx, hcx⟩ := (ha.below (hbel.mono hB)).at_ (k := j) (by rw [HN.out]; exact hlt)
            obtain ⟨ad', y, rfl, hadb', hy, hcy⟩ := (hb.below (hbel.mono hB')).at_ (k := j) (by rw [HM.out]; exact hlt)
            obtain ⟨x0, x1⟩ := IA.out x (List.mem_of_getElem? hx)
            obtain ⟨y0, y1⟩ := IB.out y (List.mem_of_getElem? hy)
            have hy0 := neg_at HNEG.out (List.mem_of_getElem? hy)
            have hj0 : (0 : Int) ≤ (j : Int) := by omega
            have hjk : (j : Int) < (k : Int) := by omega
            by_cases hx0 : x ≤ 0
            · have HX := Lib.hid (trips_skip (t := s) hx hy hx0)
              clear hx hy
              go_wp2
              go_roundw
              case rel => exact ⟨j + 1, s, by omega, by go_num, rfl, hs0, hs1, Lib.hid (by rw [hr.out, HX.out]), hbel⟩
              case measure => simp [intOf]; omega
            · by_cases hyz : y = 0
              · subst hyz
                have HX := Lib.hid (trips_none (t := s) hx hy (by omega))
                clear hx hy
                go_wp2
                go_ret2
                exact ⟨ret_ii (by rw [hr.out, HX.out]) (by rw [hr.out, HX.out]), hbel⟩
              · have HX := Lib.hid (trips_go (t := s) hx hy (by omega) hyz)
                have hq := quo_bd (x := x) (y := y) (by omega) (by omega)
                have hye : (y == 0) = false := by simp [hyz]
                have hy1 : 1 ≤ y := by omega
                have hxy : 0 ≤ x + y - 1 := by omega
                clear hx hy hyz
                go_wp2
                go_region
                go_wp2
                go_roundw
                case rel => exact ⟨j + 1, max s ((x + y - 1) / y), by omega, by go_num, by congr 1; omega, by omega, by omega, Lib.hid (by rw [hr.out, HX.out]), hbel.drew⟩
                case measure => simp [intOf]; omega
          · have hkn : j = k := by omega
            subst hkn
            clear hlt
            go_wp2
            go_ret2
            have e : trips a b = (s, 0) := by rw [hr.out, List.drop_of_length_le (by rw [HN.out]; exact Nat.le_refl _), tripsGo_nil]
            exact ⟨ret_ii (by rw [e]) (by rw [e]), hbel⟩
  · have hd2 : ((n : Int) == (m : Int)) = false := by simp; omega
    have hd3 : ((n : Int) != (m : Int)) = true := by simp; omega
    have HD : Hid (trips a b = (0, 2)) := Lib.hid (by unfold trips; rw [if_neg (by omega)])
    clear h hn hm
    go_enter Try.func12, Try.ntmps12
    go_wp2
    go_ret2
    exact ⟨ret_ii (by rw [HD.out]) (by rw [HD.out]), Below.refl _ _⟩
end Go.Proofs.Ytdmedphpddhjcaa.loads

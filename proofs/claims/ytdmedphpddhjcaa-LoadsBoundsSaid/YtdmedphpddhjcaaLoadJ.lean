/- The law of the least number of trips. -/
import Derived.Test.YtdmedphpddhjcaaLoadH
namespace Go.Proofs.Ytdmedphpddhjcaa.loads
open Go.RowKit
open Go.Proofs.Ytdmedphpddhjcaa.lib
set_option linter.unusedVariables false

theorem ceil_le {x y n : Int} (hy : 0 < y) : (x + y - 1) / y ≤ n ↔ x ≤ n * y := by
  rw [← Int.lt_add_one_iff, Int.ediv_lt_iff_lt_mul hy, Int.add_mul]
  omega
theorem least_go (n : Int) (hn : 0 ≤ n) : ∀ (xs ys : List Int) (t : Int), xs.length = ys.length → (∀ x, x ∈ xs → 0 ≤ x) → (∀ y, y ∈ ys → 0 ≤ y) →
    ((tripsGo xs ys t).2 = 0 ∧ (decide (t ≤ n) && fitsGo xs (ys.map (fun y => n * y))) = decide ((tripsGo xs ys t).1 ≤ n)) ∨ ((tripsGo xs ys t).2 = 24 ∧ fitsGo xs (ys.map (fun y => n * y)) = false)
  | [], ys, t, _, _, _ => by
    left
    rw [tripsGo_nil]
    simp [fitsGo]
  | x :: xs, [], t, h, _, _ => by simp at h
  | x :: xs, y :: ys, t, h, hx, hy => by
    have h0 : xs.length = ys.length := by simpa using h
    have hxs : ∀ x, x ∈ xs → 0 ≤ x := fun z hz => hx z (List.mem_cons_of_mem _ hz)
    have hys : ∀ y, y ∈ ys → 0 ≤ y := fun z hz => hy z (List.mem_cons_of_mem _ hz)
    have x0 := hx x (List.mem_cons_self ..)
    have y0 := hy y (List.mem_cons_self ..)
    have hny : 0 ≤ n * y := Int.mul_nonneg hn y0
    rw [tripsGo, List.map_cons, fitsGo]
    by_cases h1 : x ≤ 0
    · rw [if_pos h1, decide_eq_true (by omega : x ≤ n * y), Bool.true_and]
      exact least_go n hn xs ys t h0 hxs hys
    · rw [if_neg h1]
      by_cases h2 : y = 0
      · right
        subst h2
        rw [if_pos rfl]
        refine ⟨rfl, ?_⟩
        rw [decide_eq_false (by omega)]
        rfl
      · rw [if_neg h2]
        have hc := ceil_le (x := x) (y := y) (n := n) (by omega)
        rcases least_go n hn xs ys (max t ((x + y - 1) / y)) h0 hxs hys with ⟨h3, h4⟩ | ⟨h3, h4⟩
        · left
          refine ⟨h3, ?_⟩
          rw [← h4, ← Bool.and_assoc]
          congr 1
          rw [Bool.eq_iff_iff, Bool.and_eq_true, decide_eq_true_eq, decide_eq_true_eq, decide_eq_true_eq, ← hc]
          omega
        · right
          exact ⟨h3, by rw [h4, Bool.and_false]⟩
theorem right_t {l : List Int} {d : Int} (h : rightB l d = true) : (∀ x, x ∈ l → 0 ≤ x ∧ x ≤ 1000) ∧ (l.length : Int) = d := by
  unfold rightB at h
  rw [Bool.and_eq_true, List.all_eq_true, decide_eq_true_eq] at h
  exact ⟨fun x hx => by simpa using h.1 x hx, h.2⟩
theorem least_law {a c : List Int} {n : Int} (hn : 0 ≤ n) (hl : a.length = c.length) (ha : ∀ x, x ∈ a → 0 ≤ x ∧ x ≤ 1000) (hc : ∀ x, x ∈ c → 0 ≤ x ∧ x ≤ 1000) :
    ((trips a c).2 = 0 ∧ fitsB a (c.map (fun y => n * y)) = decide ((trips a c).1 ≤ n)) ∨ ((trips a c).2 = 24 ∧ fitsB a (c.map (fun y => n * y)) = false) := by
  have hneg : ¬ negB c = true := by
    intro h
    unfold negB at h
    rw [List.any_eq_true] at h
    obtain ⟨x, hx, h1⟩ := h
    have := hc x hx
    simp at h1
    omega
  have ht : trips a c = tripsGo a c 0 := by unfold trips; rw [if_pos hl, if_neg hneg]
  have hf : fitsB a (c.map (fun y => n * y)) = fitsGo a (c.map (fun y => n * y)) := by unfold fitsB; rw [List.length_map, decide_eq_true hl, Bool.true_and]
  rw [ht, hf]
  have h := least_go n hn a c 0 hl (fun x hx => (ha x hx).1) (fun x hx => (hc x hx).1)
  rw [decide_eq_true hn, Bool.true_and] at h
  exact h

set_option maxHeartbeats 400000 in
theorem law_least (A : Option Addr) (c1 : Nat) (a : List Int) (A' : Option Addr) (c2 : Nat) (c : List Int) (n : Int) (hn0 : 0 ≤ n) (hn1 : n ≤ 65535) (w : World)
    (ha : Ints w w.heap.size A a) (hc : Ints w w.heap.size A' c) :
    Calls Try.prog 7 #[.slice A a.length c1, .slice A' c.length c2, .int .u16 n] w fun e w' => e = .returned (.bool true) ∧ Below w.heap.size w w' := by
  have R1 := Lib.hid (rright_any A c1 a c.length w _ ha)
  have R2 := Lib.hid (rright_any A' c2 c a.length w _ hc)
  cases h1 : rightB a c.length
  · rw [h1] at R1
    go_enter Try.func7, Try.ntmps7
    go_wp2_with fail
    refine R1.out.mono ?_
    rintro e w' ⟨rfl, rfl⟩
    go_wp2_with (go_at_call 10; refine (examples_any _).mono ?_; rintro e w2 ⟨rfl, hb2⟩)
    go_ret
    exact ⟨rfl, hb2⟩
  cases h2 : rightB c a.length
  · rw [h1] at R1
    rw [h2] at R2
    go_enter Try.func7, Try.ntmps7
    go_wp2_with fail
    refine R1.out.mono ?_
    rintro e w' ⟨rfl, rfl⟩
    go_wp2_with fail
    refine R2.out.mono ?_
    rintro e w' ⟨rfl, rfl⟩
    go_wp2_with (go_at_call 10; refine (examples_any _).mono ?_; rintro e w2 ⟨rfl, hb2⟩)
    go_ret
    exact ⟨rfl, hb2⟩
  rw [h1] at R1
  rw [h2] at R2
  obtain ⟨ia, hl⟩ := right_t h1
  have ic := (right_t h2).1
  have hlen := hc.len
  have HA : Hid (In30 a) := Lib.hid (fun x hx => by have := ia x hx; omega)
  have HC : Hid (In30 c) := Lib.hid (fun x hx => by have := ic x hx; omega)
  have IC := Lib.hid ic
  have LAW := Lib.hid (least_law (n := n) hn0 (by omega) ia ic)
  have HML : Hid ((c.map (fun y => n * y)).length = c.length) := Lib.hid (by simp)
  clear ia ic hl h1 h2
  go_enter Try.func7, Try.ntmps7
  go_wp2_with fail
  refine R1.out.mono ?_
  rintro e w' ⟨rfl, rfl⟩
  go_wp2_with fail
  refine R2.out.mono ?_
  rintro e w' ⟨rfl, rfl⟩
  go_wp2
  go_loopw [7, 9, 27] (fun v _ i wr => ∃ k : Nat, k ≤ c.length ∧ i = .int .i64 k ∧ (∃ A c, v = .slice A k c) ∧ wr.ownsRow w.heap.size 3 1 v k (((c.take k).map (fun y => n * y)).map (.int .i64)) ∧ Below w.heap.size w wr) (fun _ _ i _ => c.length - (intOf i).toNat)
  case atStart => exact ⟨0, by omega, rfl, ⟨none, 0, rfl⟩, World.ownsRow_nil _ _ _ _, Below.refl _ _⟩
  case round =>
    obtain ⟨k, hk, rfl, ⟨A1, c3, rfl⟩, hown, hbel⟩ := hrel
    have hz := hbel.size
    by_cases hlt : k < c.length
    · obtain ⟨ad, x, rfl, hadb, hx, hcx⟩ := (hc.below hbel).at_ hlt
      obtain ⟨x0, x1⟩ := IC.out x (List.mem_of_getElem? hx)
      have HX : Hid ((c.take (k + 1)).map (fun y => n * y) = (c.take k).map (fun y => n * y) ++ [n * x]) := Lib.hid (by
        obtain ⟨h2, h3⟩ := List.getElem?_eq_some_iff.1 hx
        rw [List.take_succ_eq_append_getElem h2, h3, List.map_append]
        rfl)
      have p0 : 0 ≤ n * x := Int.mul_nonneg hn0 x0
      have p1 : n * x ≤ 65535000 := by
        have h1 : n * x ≤ 65535 * x := Int.mul_le_mul_of_nonneg_right hn1 x0
        omega
      clear hx
      go_wp2_with (at_builtin; refine push_int rfl _ _ rfl w.heap.size _ k ((c.take k).map (fun y => n * y)) rfl hown (n * x) rfl (by omega) hz ?_; intro A2 c4 w2 hown2 hb2 hz2)
      go_roundw
      case rel => exact ⟨k + 1, by omega, by go_num, ⟨A2, c4, rfl⟩, by rw [HX.out]; exact hown2, hbel.trans hb2⟩
      case measure => simp [intOf]; omega
    · have hkn : k = c.length := by omega
      subst hkn
      clear hlt
      rw [List.take_length] at hown
      have hall : Ints wr wr.heap.size A1 (c.map (fun y => n * y)) := Ints.of_own (c := c3) (by rw [HML.out]; exact hown) (by rw [HML.out]; exact hlen)
      have T := Lib.hid (trips_any A c1 a a.length rfl A' c2 c c.length rfl wr _ _ (ha.below hbel) (hc.below hbel) HA.out HC.out)
      have F := Lib.hid (fits_any A c1 a a.length rfl A1 c3 (c.map (fun y => n * y)) c.length HML.out wr _ _ (ha.below hbel) hall)
      rcases LAW.out with ⟨h3, h4⟩ | ⟨h3, h4⟩
      · rw [h3] at T
        rw [h4] at F
        clear h3 h4
        go_wp2_with (first
          | (go_at_call 11; refine T.out.mono ?_; rintro e w' ⟨rfl, rfl⟩)
          | (go_at_call 25; refine F.out.mono ?_; rintro e w' ⟨rfl, rfl⟩)
          | (go_at_call 10; refine (examples_any _).mono ?_; rintro e w2 ⟨rfl, hb2⟩))
        go_ret
        exact ⟨rfl, hbel.trans (hb2.mono hz)⟩
      · rw [h3] at T
        rw [h4] at F
        clear h3 h4
        go_wp2_with (first
          | (go_at_call 11; refine T.out.mono ?_; rintro e w' ⟨rfl, rfl⟩)
          | (go_at_call 25; refine F.out.mono ?_; rintro e w' ⟨rfl, rfl⟩)
          | (go_at_call 10; refine (examples_any _).mono ?_; rintro e w2 ⟨rfl, hb2⟩))
        go_ret
        exact ⟨rfl, hbel.trans (hb2.mono hz)⟩
end Go.Proofs.Ytdmedphpddhjcaa.loads

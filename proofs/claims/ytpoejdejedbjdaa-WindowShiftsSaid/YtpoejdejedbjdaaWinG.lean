/- The law of windows that are moved. -/
import Derived.Test.YtpoejdejedbjdaaWinC
import Derived.Test.YtpoejdejedbjdaaWinB
namespace Go.Proofs.Ytpoejdejedbjdaa.win
open Go.RowKit
set_option linter.unusedVariables false

def shI (b : Bool) (x : Int) : Int := if b = true then x else 0
/-- How far the window is moved. -/
def shN (p n : Int) : Int := if p = -1 then 0 else n
theorem shiftV_eq (p o c v n : Int) : shiftV p o c v n = stop (shI (shiftB p o c n) p) (shI (shiftB p o c n) (o + shN p n)) (shI (shiftB p o c n) (c + shN p n)) (shI (shiftB p o c n) v) := by
  unfold shiftV shI shN
  split
  · split <;> simp
  · rfl

/-- The window moved, for stops without a place, for what cannot be, and for what can. -/
theorem shift_none (n : Int) (hn : -9223372036854775808 ≤ n ∧ n ≤ 9223372036854775807) (w : World) : Calls Try.prog 23 #[stop (-1) 0 0 0, .int .i64 n] w fun e w' => e = .returned (.tuple #[stop (-1) 0 0 0, .int .i64 0]) ∧ Below w.heap.size w w' := by
  have h := shift_any (-1) 0 0 0 n (.inl ⟨rfl, rfl, rfl, rfl⟩) hn w
  rw [(shift_stay 0 0 0 n).1, (shift_stay 0 0 0 n).2] at h
  exact h
theorem rshift_none (n : Int) (hn : -9223372036854775808 ≤ n ∧ n ≤ 9223372036854775807) (w : World) : Calls Try.prog 24 #[stop (-1) 0 0 0, .int .i64 n] w fun e w' => e = .returned (.tuple #[stop (-1) 0 0 0, .int .i64 0]) ∧ Below w.heap.size w w' := by
  have h := rshift_any (-1) 0 0 0 n (.inl ⟨rfl, rfl, rfl, rfl⟩) hn w
  rw [(shift_stay 0 0 0 n).1, (shift_stay 0 0 0 n).2] at h
  exact h
theorem shift_bad (p o c v n : Int) (hg : Good p o c v) (hp : ¬ p = -1) (hs : ¬ (-4096 ≤ n ∧ n ≤ 4096 ∧ 0 ≤ o + n ∧ c + n ≤ 4096)) (hn : -9223372036854775808 ≤ n ∧ n ≤ 9223372036854775807) (w : World) : Calls Try.prog 23 #[stop p o c v, .int .i64 n] w fun e w' => e = .returned (.tuple #[stop 0 0 0 0, .int .i64 2]) ∧ Below w.heap.size w w' := by
  have h := shift_any p o c v n (.inr hg) hn w
  rw [(shift_no hp hs).1, (shift_no (v := v) hp hs).2] at h
  exact h
theorem rshift_bad (p o c v n : Int) (hg : Good p o c v) (hp : ¬ p = -1) (hs : ¬ (-4096 ≤ n ∧ n ≤ 4096 ∧ 0 ≤ o + n ∧ c + n ≤ 4096)) (hn : -9223372036854775808 ≤ n ∧ n ≤ 9223372036854775807) (w : World) : Calls Try.prog 24 #[stop p o c v, .int .i64 n] w fun e w' => e = .returned (.tuple #[stop 0 0 0 0, .int .i64 2]) ∧ Below w.heap.size w w' := by
  have h := rshift_any p o c v n (.inr hg) hn w
  rw [(shift_no hp hs).1, (shift_no (v := v) hp hs).2] at h
  exact h
theorem shift_good (p o c v n : Int) (hg : Good p o c v) (hp : ¬ p = -1) (hs : -4096 ≤ n ∧ n ≤ 4096 ∧ 0 ≤ o + n ∧ c + n ≤ 4096) (w : World) : Calls Try.prog 23 #[stop p o c v, .int .i64 n] w fun e w' => e = .returned (.tuple #[stop p (o + n) (c + n) v, .int .i64 0]) ∧ Below w.heap.size w w' := by
  have h := shift_any p o c v n (.inr hg) (by omega) w
  rw [(shift_yes hp hs).1, (shift_yes (v := v) hp hs).2] at h
  exact h
theorem rshift_good (p o c v n : Int) (hg : Good p o c v) (hp : ¬ p = -1) (hs : -4096 ≤ n ∧ n ≤ 4096 ∧ 0 ≤ o + n ∧ c + n ≤ 4096) (w : World) : Calls Try.prog 24 #[stop p o c v, .int .i64 n] w fun e w' => e = .returned (.tuple #[stop p (o + n) (c + n) v, .int .i64 0]) ∧ Below w.heap.size w w' := by
  have h := rshift_any p o c v n (.inr hg) (by omega) w
  rw [(shift_yes hp hs).1, (shift_yes (v := v) hp hs).2] at h
  exact h
/-- Moved and moved back. -/
theorem shift_back (p o c v n : Int) (hg : Good p o c v) (hp : ¬ p = -1) (hs : -4096 ≤ n ∧ n ≤ 4096 ∧ 0 ≤ o + n ∧ c + n ≤ 4096) (w : World) : Calls Try.prog 23 #[stop p (o + n) (c + n) v, .int .i64 (-n)] w fun e w' => e = .returned (.tuple #[stop p o c v, .int .i64 0]) ∧ Below w.heap.size w w' := by
  obtain ⟨g1, g2, g3, g4, g5, g6⟩ := hg
  have h := shift_good p (o + n) (c + n) v (-n) ⟨by omega, by omega, by omega, by omega, by omega, by omega⟩ hp (by omega) w
  rw [show o + n + -n = o by omega, show c + n + -n = c by omega] at h
  exact h
theorem chk_moved {p o c v n : Int} (hg : Good p o c v) (hs : -4096 ≤ n ∧ n ≤ 4096 ∧ 0 ≤ o + n ∧ c + n ≤ 4096) : chk p (o + n) (c + n) v = 0 := by
  obtain ⟨g1, g2, g3, g4, g5, g6⟩ := hg
  unfold chk Good
  rw [if_pos (by omega)]

set_option maxHeartbeats 1000000 in
theorem law_shifts_none (n : Int) (hn : -9223372036854775808 ≤ n ∧ n ≤ 9223372036854775807) (w : World) : Calls Try.prog 7 #[stop (-1) 0 0 0, .int .i64 n] w fun e w' => e = .returned (.bool true) ∧ Below w.heap.size w w' := by
  have hN := Lib.hid hn
  have hk : chk (-1) 0 0 0 = 0 := by decide
  go_enter Try.func7, Try.ntmps7
  go_wp2_with (first
    | (go_at_call 12; refine (rcheck_any _ _ _ _ _).mono ?_; rintro e wa ⟨rfl, hb⟩; have hz := hb.size; have hc := fun b o h => hb.cell (p := ⟨b, o, none⟩) h; have hf := fun b o h => hb.frozen (p := ⟨b, o, none⟩) h; have hB : Below w.heap.size w wa := Below.trans (by repeat (first | assumption | exact Below.refl _ _ | refine Below.drew ?_ | refine Below.alloc ?_ (by first | omega | (simp <;> omega)) _ | refine Below.setCell ?_ (by first | omega | (simp <;> omega)) _)) (hb.mono (by first | omega | (simp <;> omega))); (try simp at hz); have ywwa : w.heap.size < wa.heap.size := (by omega))
    | (go_at_call 23; refine (shift_none _ hN.out _).mono ?_; rintro e wb ⟨rfl, hb⟩; have hz := hb.size; have hc := fun b o h => hb.cell (p := ⟨b, o, none⟩) h; have hf := fun b o h => hb.frozen (p := ⟨b, o, none⟩) h; have hB : Below w.heap.size w wb := Below.trans (by repeat (first | assumption | exact Below.refl _ _ | refine Below.drew ?_ | refine Below.alloc ?_ (by first | omega | (simp <;> omega)) _ | refine Below.setCell ?_ (by first | omega | (simp <;> omega)) _)) (hb.mono (by first | omega | (simp <;> omega))); (try simp at hz); have ywwb : w.heap.size < wb.heap.size := (by omega))
    | (go_at_call 24; refine (rshift_none _ hN.out _).mono ?_; rintro e wc ⟨rfl, hb⟩; have hz := hb.size; have hc := fun b o h => hb.cell (p := ⟨b, o, none⟩) h; have hf := fun b o h => hb.frozen (p := ⟨b, o, none⟩) h; have hB : Below w.heap.size w wc := Below.trans (by repeat (first | assumption | exact Below.refl _ _ | refine Below.drew ?_ | refine Below.alloc ?_ (by first | omega | (simp <;> omega)) _ | refine Below.setCell ?_ (by first | omega | (simp <;> omega)) _)) (hb.mono (by first | omega | (simp <;> omega))); (try simp at hz); have ywwc : w.heap.size < wc.heap.size := (by omega); have ywbwc : wb.heap.size < wc.heap.size := (by omega))
    | (go_at_call 13; refine (awake_any _).mono ?_; rintro e wd ⟨rfl, hb⟩; have hz := hb.size; have hc := fun b o h => hb.cell (p := ⟨b, o, none⟩) h; have hf := fun b o h => hb.frozen (p := ⟨b, o, none⟩) h; have hB : Below w.heap.size w wd := Below.trans (by repeat (first | assumption | exact Below.refl _ _ | refine Below.drew ?_ | refine Below.alloc ?_ (by first | omega | (simp <;> omega)) _ | refine Below.setCell ?_ (by first | omega | (simp <;> omega)) _)) (hb.mono (by first | omega | (simp <;> omega))); (try simp at hz); have ywwd : w.heap.size < wd.heap.size := (by omega)))
  go_ret
  exact ⟨rfl, by repeat (first | assumption | exact Below.refl _ _ | refine Below.drew ?_ | refine Below.alloc ?_ (by first | omega | (simp <;> omega)) _ | refine Below.setCell ?_ (by first | omega | (simp <;> omega)) _)⟩

set_option maxHeartbeats 1000000 in
theorem law_shifts_bad (p o c v n : Int) (hg : Good p o c v) (hs : ¬ (-4096 ≤ n ∧ n ≤ 4096 ∧ 0 ≤ o + n ∧ c + n ≤ 4096)) (hn : -9223372036854775808 ≤ n ∧ n ≤ 9223372036854775807) (w : World) : Calls Try.prog 7 #[stop p o c v, .int .i64 n] w fun e w' => e = .returned (.bool true) ∧ Below w.heap.size w w' := by
  have hN := Lib.hid hn
  have hk : chk p o c v = 0 := by unfold chk; rw [if_pos (.inr hg)]
  have hP := Lib.hid (show ¬ p = -1 by have := hg.1; omega)
  have hG : Hid (Good p o c v) := Lib.hid hg
  have hS := Lib.hid hs
  clear hs hg
  go_enter Try.func7, Try.ntmps7
  go_wp2_with (first
    | (go_at_call 12; refine (rcheck_any _ _ _ _ _).mono ?_; rintro e wa ⟨rfl, hb⟩; have hz := hb.size; have hc := fun b o h => hb.cell (p := ⟨b, o, none⟩) h; have hf := fun b o h => hb.frozen (p := ⟨b, o, none⟩) h; have hB : Below w.heap.size w wa := Below.trans (by repeat (first | assumption | exact Below.refl _ _ | refine Below.drew ?_ | refine Below.alloc ?_ (by first | omega | (simp <;> omega)) _ | refine Below.setCell ?_ (by first | omega | (simp <;> omega)) _)) (hb.mono (by first | omega | (simp <;> omega))); (try simp at hz); have ywwa : w.heap.size < wa.heap.size := (by omega))
    | (go_at_call 23; refine (shift_bad _ _ _ _ _ hG.out hP.out hS.out hN.out _).mono ?_; rintro e wb ⟨rfl, hb⟩; have hz := hb.size; have hc := fun b o h => hb.cell (p := ⟨b, o, none⟩) h; have hf := fun b o h => hb.frozen (p := ⟨b, o, none⟩) h; have hB : Below w.heap.size w wb := Below.trans (by repeat (first | assumption | exact Below.refl _ _ | refine Below.drew ?_ | refine Below.alloc ?_ (by first | omega | (simp <;> omega)) _ | refine Below.setCell ?_ (by first | omega | (simp <;> omega)) _)) (hb.mono (by first | omega | (simp <;> omega))); (try simp at hz); have ywwb : w.heap.size < wb.heap.size := (by omega))
    | (go_at_call 24; refine (rshift_bad _ _ _ _ _ hG.out hP.out hS.out hN.out _).mono ?_; rintro e wc ⟨rfl, hb⟩; have hz := hb.size; have hc := fun b o h => hb.cell (p := ⟨b, o, none⟩) h; have hf := fun b o h => hb.frozen (p := ⟨b, o, none⟩) h; have hB : Below w.heap.size w wc := Below.trans (by repeat (first | assumption | exact Below.refl _ _ | refine Below.drew ?_ | refine Below.alloc ?_ (by first | omega | (simp <;> omega)) _ | refine Below.setCell ?_ (by first | omega | (simp <;> omega)) _)) (hb.mono (by first | omega | (simp <;> omega))); (try simp at hz); have ywwc : w.heap.size < wc.heap.size := (by omega); have ywbwc : wb.heap.size < wc.heap.size := (by omega))
    | (go_at_call 13; refine (awake_any _).mono ?_; rintro e wd ⟨rfl, hb⟩; have hz := hb.size; have hc := fun b o h => hb.cell (p := ⟨b, o, none⟩) h; have hf := fun b o h => hb.frozen (p := ⟨b, o, none⟩) h; have hB : Below w.heap.size w wd := Below.trans (by repeat (first | assumption | exact Below.refl _ _ | refine Below.drew ?_ | refine Below.alloc ?_ (by first | omega | (simp <;> omega)) _ | refine Below.setCell ?_ (by first | omega | (simp <;> omega)) _)) (hb.mono (by first | omega | (simp <;> omega))); (try simp at hz); have ywwd : w.heap.size < wd.heap.size := (by omega)))
  go_ret
  exact ⟨rfl, by repeat (first | assumption | exact Below.refl _ _ | refine Below.drew ?_ | refine Below.alloc ?_ (by first | omega | (simp <;> omega)) _ | refine Below.setCell ?_ (by first | omega | (simp <;> omega)) _)⟩

set_option maxHeartbeats 1000000 in
theorem law_shifts_good (p o c v n : Int) (hg : Good p o c v) (hs : -4096 ≤ n ∧ n ≤ 4096 ∧ 0 ≤ o + n ∧ c + n ≤ 4096) (w : World) : Calls Try.prog 7 #[stop p o c v, .int .i64 n] w fun e w' => e = .returned (.bool true) ∧ Below w.heap.size w w' := by
  have hk : chk p o c v = 0 := by unfold chk; rw [if_pos (.inr hg)]
  have hp0 : 0 ≤ p := hg.1
  have hP := Lib.hid (show ¬ p = -1 by have := hg.1; omega)
  have hG : Hid (Good p o c v) := Lib.hid hg
  have hk2 : chk p (o + n) (c + n) v = 0 := chk_moved hg hs
  obtain ⟨s1, s2, s3, s4⟩ := hs
  obtain ⟨g1, g2, g3, g4, g5, g6⟩ := hg
  go_enter Try.func7, Try.ntmps7
  go_wp2_with (first
    | (go_at_call 12; refine (rcheck_any _ _ _ _ _).mono ?_; rintro e wa ⟨rfl, hb⟩; have hz := hb.size; have hc := fun b o h => hb.cell (p := ⟨b, o, none⟩) h; have hf := fun b o h => hb.frozen (p := ⟨b, o, none⟩) h; have hB : Below w.heap.size w wa := Below.trans (by repeat (first | assumption | exact Below.refl _ _ | refine Below.drew ?_ | refine Below.alloc ?_ (by first | omega | (simp <;> omega)) _ | refine Below.setCell ?_ (by first | omega | (simp <;> omega)) _)) (hb.mono (by first | omega | (simp <;> omega))); (try simp at hz); have ywwa : w.heap.size < wa.heap.size := (by omega))
    | (go_at_call 23; ((with_reducible refine (shift_good p o c v n hG.out hP.out ⟨s1, s2, s3, s4⟩ _).mono ?_)); rintro e wb ⟨rfl, hb⟩; have hz := hb.size; have hc := fun b o h => hb.cell (p := ⟨b, o, none⟩) h; have hf := fun b o h => hb.frozen (p := ⟨b, o, none⟩) h; have hB : Below w.heap.size w wb := Below.trans (by repeat (first | assumption | exact Below.refl _ _ | refine Below.drew ?_ | refine Below.alloc ?_ (by first | omega | (simp <;> omega)) _ | refine Below.setCell ?_ (by first | omega | (simp <;> omega)) _)) (hb.mono (by first | omega | (simp <;> omega))); (try simp at hz); have ywwb : w.heap.size < wb.heap.size := (by omega))
    | (go_at_call 24; refine (rshift_good _ _ _ _ _ hG.out hP.out ⟨s1, s2, s3, s4⟩ _).mono ?_; rintro e wc ⟨rfl, hb⟩; have hz := hb.size; have hc := fun b o h => hb.cell (p := ⟨b, o, none⟩) h; have hf := fun b o h => hb.frozen (p := ⟨b, o, none⟩) h; have hB : Below w.heap.size w wc := Below.trans (by repeat (first | assumption | exact Below.refl _ _ | refine Below.drew ?_ | refine Below.alloc ?_ (by first | omega | (simp <;> omega)) _ | refine Below.setCell ?_ (by first | omega | (simp <;> omega)) _)) (hb.mono (by first | omega | (simp <;> omega))); (try simp at hz); have ywwc : w.heap.size < wc.heap.size := (by omega); have ywbwc : wb.heap.size < wc.heap.size := (by omega))
    | (go_at_call 23; ((with_reducible refine (shift_back p o c v n hG.out hP.out ⟨s1, s2, s3, s4⟩ _).mono ?_)); rintro e wd ⟨rfl, hb⟩; have hz := hb.size; have hc := fun b o h => hb.cell (p := ⟨b, o, none⟩) h; have hf := fun b o h => hb.frozen (p := ⟨b, o, none⟩) h; have hB : Below w.heap.size w wd := Below.trans (by repeat (first | assumption | exact Below.refl _ _ | refine Below.drew ?_ | refine Below.alloc ?_ (by first | omega | (simp <;> omega)) _ | refine Below.setCell ?_ (by first | omega | (simp <;> omega)) _)) (hb.mono (by first | omega | (simp <;> omega))); (try simp at hz); have ywwd : w.heap.size < wd.heap.size := (by omega); have ywbwd : wb.heap.size < wd.heap.size := (by omega))
    | (go_at_call 11; refine (check_any _ _ _ _ _).mono ?_; rintro e we ⟨rfl, hb⟩; have hz := hb.size; have hc := fun b o h => hb.cell (p := ⟨b, o, none⟩) h; have hf := fun b o h => hb.frozen (p := ⟨b, o, none⟩) h; have hB : Below w.heap.size w we := Below.trans (by repeat (first | assumption | exact Below.refl _ _ | refine Below.drew ?_ | refine Below.alloc ?_ (by first | omega | (simp <;> omega)) _ | refine Below.setCell ?_ (by first | omega | (simp <;> omega)) _)) (hb.mono (by first | omega | (simp <;> omega))); (try simp at hz); have ywwe : w.heap.size < we.heap.size := (by omega))
    | (go_at_call 13; refine (awake_any _).mono ?_; rintro e wf ⟨rfl, hb⟩; have hz := hb.size; have hc := fun b o h => hb.cell (p := ⟨b, o, none⟩) h; have hf := fun b o h => hb.frozen (p := ⟨b, o, none⟩) h; have hB : Below w.heap.size w wf := Below.trans (by repeat (first | assumption | exact Below.refl _ _ | refine Below.drew ?_ | refine Below.alloc ?_ (by first | omega | (simp <;> omega)) _ | refine Below.setCell ?_ (by first | omega | (simp <;> omega)) _)) (hb.mono (by first | omega | (simp <;> omega))); (try simp at hz); have ywwf : w.heap.size < wf.heap.size := (by omega)))
  go_ret
  exact ⟨rfl, by repeat (first | assumption | exact Below.refl _ _ | refine Below.drew ?_ | refine Below.alloc ?_ (by first | omega | (simp <;> omega)) _ | refine Below.setCell ?_ (by first | omega | (simp <;> omega)) _)⟩

theorem law_shifts (p o c v n : Int) (hn : -9223372036854775808 ≤ n ∧ n ≤ 9223372036854775807) (w : World) : Calls Try.prog 7 #[stop p o c v, .int .i64 n] w fun e w' => e = .returned (.bool true) ∧ Below w.heap.size w w' := by
  by_cases hk : chk p o c v = 0
  · have hG : (p = -1 ∧ o = 0 ∧ c = 0 ∧ v = 0) ∨ Good p o c v := by
      unfold chk at hk
      split at hk
      · assumption
      · cases hk
    rcases hG with ⟨rfl, rfl, rfl, rfl⟩ | hg
    · exact law_shifts_none n hn w
    by_cases hs : -4096 ≤ n ∧ n ≤ 4096 ∧ 0 ≤ o + n ∧ c + n ≤ 4096
    · exact law_shifts_good p o c v n hg hs w
    · exact law_shifts_bad p o c v n hg hs hn w
  · go_enter Try.func7, Try.ntmps7
    go_wp2_with (first
      | (go_at_call 12; refine (rcheck_any _ _ _ _ _).mono ?_; rintro e w1 ⟨rfl, hb⟩; have hz := hb.size; have hc := fun b o h => hb.cell (p := ⟨b, o, none⟩) h; have hf := fun b o h => hb.frozen (p := ⟨b, o, none⟩) h; have hB : Below w.heap.size w w1 := Below.trans (by repeat (first | assumption | exact Below.refl _ _ | refine Below.drew ?_ | refine Below.alloc ?_ (by first | omega | (simp <;> omega)) _ | refine Below.setCell ?_ (by first | omega | (simp <;> omega)) _)) (hb.mono (by first | omega | (simp <;> omega))); (try simp at hz); have y0 : w.heap.size < w1.heap.size := (by omega))
      | (go_at_call 13; refine (awake_any _).mono ?_; rintro e w1 ⟨rfl, hb⟩; have hz := hb.size; have hc := fun b o h => hb.cell (p := ⟨b, o, none⟩) h; have hf := fun b o h => hb.frozen (p := ⟨b, o, none⟩) h; have hB : Below w.heap.size w w1 := Below.trans (by repeat (first | assumption | exact Below.refl _ _ | refine Below.drew ?_ | refine Below.alloc ?_ (by first | omega | (simp <;> omega)) _ | refine Below.setCell ?_ (by first | omega | (simp <;> omega)) _)) (hb.mono (by first | omega | (simp <;> omega))); (try simp at hz); have y0 : w.heap.size < w1.heap.size := (by omega)))
    go_ret
    exact ⟨rfl, by repeat (first | assumption | exact Below.refl _ _ | refine Below.drew ?_ | refine Below.alloc ?_ (by first | omega | (simp <;> omega)) _ | refine Below.setCell ?_ (by first | omega | (simp <;> omega)) _)⟩

end Go.Proofs.Ytpoejdejedbjdaa.win

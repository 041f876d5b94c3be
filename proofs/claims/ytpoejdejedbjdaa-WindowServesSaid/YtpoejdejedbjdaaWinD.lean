/- The law of services: begin and end are the reference's, and who arrives later does not depart earlier. -/
import Derived.Test.YtpoejdejedbjdaaWinC
namespace Go.Proofs.Ytpoejdejedbjdaa.win
open Go.RowKit
set_option linter.unusedVariables false

theorem stopB_t {p o c v : Int} (h : stopB p o c v = true) : Good p o c v := by simpa [stopB] using h
theorem later_ok {o c v a b : Int} (hab : a ≤ b) (h : begE o c b = 0) : begE o c a = 0 ∧ depV o c v a ≤ depV o c v b := by
  unfold begE at *
  unfold depV
  split at h
  · rw [if_pos (by omega), if_pos (by omega), if_pos (by omega)]
    omega
  · cases h

set_option maxHeartbeats 1000000 in
theorem law_serves (p o c v a l : Int) (ha : -9223372036854775808 ≤ a ∧ a ≤ 9223372036854775807) (hl : -9223372036854775808 ≤ l ∧ l ≤ 9223372036854775807) (w : World) : Calls Try.prog 4 #[stop p o c v, .int .i64 a, .int .i64 l] w fun e w' => e = .returned (.bool true) ∧ Below w.heap.size w w' := by
  by_cases hg : stopB p o c v = true
  · have hG := Lib.hid (stopB_t hg)
    by_cases hal : a < l
    · go_enter Try.func4, Try.ntmps4
      go_wp2_with (first
        | (go_at_call 14; refine (stop_any _ _ _ _ _).mono ?_; rintro e w1 ⟨rfl, hb⟩; have hz := hb.size; have hc := fun b o h => hb.cell (p := ⟨b, o, none⟩) h; have hf := fun b o h => hb.frozen (p := ⟨b, o, none⟩) h; have hB : Below w.heap.size w w1 := Below.trans (by repeat (first | assumption | exact Below.refl _ _ | refine Below.drew ?_ | refine Below.alloc ?_ (by first | omega | (simp <;> omega)) _ | refine Below.setCell ?_ (by first | omega | (simp <;> omega)) _)) (hb.mono (by first | omega | (simp <;> omega))); (try simp at hz); have y0 : w.heap.size < w1.heap.size := by omega)
        | (go_at_call 15; refine (begin_any _ _ _ _ _ _).mono ?_; rintro e w1 ⟨rfl, hb⟩; have hz := hb.size; have hc := fun b o h => hb.cell (p := ⟨b, o, none⟩) h; have hf := fun b o h => hb.frozen (p := ⟨b, o, none⟩) h; have hB : Below w.heap.size w w1 := Below.trans (by repeat (first | assumption | exact Below.refl _ _ | refine Below.drew ?_ | refine Below.alloc ?_ (by first | omega | (simp <;> omega)) _ | refine Below.setCell ?_ (by first | omega | (simp <;> omega)) _)) (hb.mono (by first | omega | (simp <;> omega))); (try simp at hz); have y0 : w.heap.size < w1.heap.size := by omega)
        | (go_at_call 16; refine (rbegin_any _ _ _ _ _ hG.out.2.2.1 _).mono ?_; rintro e w1 ⟨rfl, hb⟩; have hz := hb.size; have hc := fun b o h => hb.cell (p := ⟨b, o, none⟩) h; have hf := fun b o h => hb.frozen (p := ⟨b, o, none⟩) h; have hB : Below w.heap.size w w1 := Below.trans (by repeat (first | assumption | exact Below.refl _ _ | refine Below.drew ?_ | refine Below.alloc ?_ (by first | omega | (simp <;> omega)) _ | refine Below.setCell ?_ (by first | omega | (simp <;> omega)) _)) (hb.mono (by first | omega | (simp <;> omega))); (try simp at hz); have y0 : w.heap.size < w1.heap.size := by omega)
        | (go_at_call 17; refine (depart_any _ _ _ _ _ hG.out _).mono ?_; rintro e w1 ⟨rfl, hb⟩; have hz := hb.size; have hc := fun b o h => hb.cell (p := ⟨b, o, none⟩) h; have hf := fun b o h => hb.frozen (p := ⟨b, o, none⟩) h; have hB : Below w.heap.size w w1 := Below.trans (by repeat (first | assumption | exact Below.refl _ _ | refine Below.drew ?_ | refine Below.alloc ?_ (by first | omega | (simp <;> omega)) _ | refine Below.setCell ?_ (by first | omega | (simp <;> omega)) _)) (hb.mono (by first | omega | (simp <;> omega))); (try simp at hz); have y0 : w.heap.size < w1.heap.size := by omega)
        | (go_at_call 18; refine (rdepart_any _ _ _ _ _ hG.out _).mono ?_; rintro e w1 ⟨rfl, hb⟩; have hz := hb.size; have hc := fun b o h => hb.cell (p := ⟨b, o, none⟩) h; have hf := fun b o h => hb.frozen (p := ⟨b, o, none⟩) h; have hB : Below w.heap.size w w1 := Below.trans (by repeat (first | assumption | exact Below.refl _ _ | refine Below.drew ?_ | refine Below.alloc ?_ (by first | omega | (simp <;> omega)) _ | refine Below.setCell ?_ (by first | omega | (simp <;> omega)) _)) (hb.mono (by first | omega | (simp <;> omega))); (try simp at hz); have y0 : w.heap.size < w1.heap.size := by omega)
        | (go_at_call 13; refine (awake_any _).mono ?_; rintro e w1 ⟨rfl, hb⟩; have hz := hb.size; have hc := fun b o h => hb.cell (p := ⟨b, o, none⟩) h; have hf := fun b o h => hb.frozen (p := ⟨b, o, none⟩) h; have hB : Below w.heap.size w w1 := Below.trans (by repeat (first | assumption | exact Below.refl _ _ | refine Below.drew ?_ | refine Below.alloc ?_ (by first | omega | (simp <;> omega)) _ | refine Below.setCell ?_ (by first | omega | (simp <;> omega)) _)) (hb.mono (by first | omega | (simp <;> omega))); (try simp at hz); have y0 : w.heap.size < w1.heap.size := by omega))
      · go_ret; exact ⟨rfl, by repeat (first | assumption | exact Below.refl _ _ | refine Below.drew ?_ | refine Below.alloc ?_ (by first | omega | (simp <;> omega)) _ | refine Below.setCell ?_ (by first | omega | (simp <;> omega)) _)⟩
      · exfalso
        have h0 : begE o c l = 0 := by assumption
        have h1 := later_ok (v := v) (a := a) (by omega : a ≤ l) h0
        have h2 := h1.2
        omega
      · exfalso
        have h0 : begE o c l = 0 := by assumption
        have h1 := later_ok (v := v) (a := a) (by omega : a ≤ l) h0
        have h2 := h1.1
        have h3 : ¬ begE o c a = 0 := by assumption
        exact h3 h2
      · go_ret; exact ⟨rfl, by repeat (first | assumption | exact Below.refl _ _ | refine Below.drew ?_ | refine Below.alloc ?_ (by first | omega | (simp <;> omega)) _ | refine Below.setCell ?_ (by first | omega | (simp <;> omega)) _)⟩
    · go_enter Try.func4, Try.ntmps4
      go_wp2_with (first
        | (go_at_call 14; refine (stop_any _ _ _ _ _).mono ?_; rintro e w1 ⟨rfl, hb⟩; have hz := hb.size; have hc := fun b o h => hb.cell (p := ⟨b, o, none⟩) h; have hf := fun b o h => hb.frozen (p := ⟨b, o, none⟩) h; have hB : Below w.heap.size w w1 := Below.trans (by repeat (first | assumption | exact Below.refl _ _ | refine Below.drew ?_ | refine Below.alloc ?_ (by first | omega | (simp <;> omega)) _ | refine Below.setCell ?_ (by first | omega | (simp <;> omega)) _)) (hb.mono (by first | omega | (simp <;> omega))); (try simp at hz); have y0 : w.heap.size < w1.heap.size := by omega)
        | (go_at_call 15; refine (begin_any _ _ _ _ _ _).mono ?_; rintro e w1 ⟨rfl, hb⟩; have hz := hb.size; have hc := fun b o h => hb.cell (p := ⟨b, o, none⟩) h; have hf := fun b o h => hb.frozen (p := ⟨b, o, none⟩) h; have hB : Below w.heap.size w w1 := Below.trans (by repeat (first | assumption | exact Below.refl _ _ | refine Below.drew ?_ | refine Below.alloc ?_ (by first | omega | (simp <;> omega)) _ | refine Below.setCell ?_ (by first | omega | (simp <;> omega)) _)) (hb.mono (by first | omega | (simp <;> omega))); (try simp at hz); have y0 : w.heap.size < w1.heap.size := by omega)
        | (go_at_call 16; refine (rbegin_any _ _ _ _ _ hG.out.2.2.1 _).mono ?_; rintro e w1 ⟨rfl, hb⟩; have hz := hb.size; have hc := fun b o h => hb.cell (p := ⟨b, o, none⟩) h; have hf := fun b o h => hb.frozen (p := ⟨b, o, none⟩) h; have hB : Below w.heap.size w w1 := Below.trans (by repeat (first | assumption | exact Below.refl _ _ | refine Below.drew ?_ | refine Below.alloc ?_ (by first | omega | (simp <;> omega)) _ | refine Below.setCell ?_ (by first | omega | (simp <;> omega)) _)) (hb.mono (by first | omega | (simp <;> omega))); (try simp at hz); have y0 : w.heap.size < w1.heap.size := by omega)
        | (go_at_call 17; refine (depart_any _ _ _ _ _ hG.out _).mono ?_; rintro e w1 ⟨rfl, hb⟩; have hz := hb.size; have hc := fun b o h => hb.cell (p := ⟨b, o, none⟩) h; have hf := fun b o h => hb.frozen (p := ⟨b, o, none⟩) h; have hB : Below w.heap.size w w1 := Below.trans (by repeat (first | assumption | exact Below.refl _ _ | refine Below.drew ?_ | refine Below.alloc ?_ (by first | omega | (simp <;> omega)) _ | refine Below.setCell ?_ (by first | omega | (simp <;> omega)) _)) (hb.mono (by first | omega | (simp <;> omega))); (try simp at hz); have y0 : w.heap.size < w1.heap.size := by omega)
        | (go_at_call 18; refine (rdepart_any _ _ _ _ _ hG.out _).mono ?_; rintro e w1 ⟨rfl, hb⟩; have hz := hb.size; have hc := fun b o h => hb.cell (p := ⟨b, o, none⟩) h; have hf := fun b o h => hb.frozen (p := ⟨b, o, none⟩) h; have hB : Below w.heap.size w w1 := Below.trans (by repeat (first | assumption | exact Below.refl _ _ | refine Below.drew ?_ | refine Below.alloc ?_ (by first | omega | (simp <;> omega)) _ | refine Below.setCell ?_ (by first | omega | (simp <;> omega)) _)) (hb.mono (by first | omega | (simp <;> omega))); (try simp at hz); have y0 : w.heap.size < w1.heap.size := by omega)
        | (go_at_call 13; refine (awake_any _).mono ?_; rintro e w1 ⟨rfl, hb⟩; have hz := hb.size; have hc := fun b o h => hb.cell (p := ⟨b, o, none⟩) h; have hf := fun b o h => hb.frozen (p := ⟨b, o, none⟩) h; have hB : Below w.heap.size w w1 := Below.trans (by repeat (first | assumption | exact Below.refl _ _ | refine Below.drew ?_ | refine Below.alloc ?_ (by first | omega | (simp <;> omega)) _ | refine Below.setCell ?_ (by first | omega | (simp <;> omega)) _)) (hb.mono (by first | omega | (simp <;> omega))); (try simp at hz); have y0 : w.heap.size < w1.heap.size := by omega))
      all_goals (go_ret; exact ⟨rfl, by repeat (first | assumption | exact Below.refl _ _ | refine Below.drew ?_ | refine Below.alloc ?_ (by first | omega | (simp <;> omega)) _ | refine Below.setCell ?_ (by first | omega | (simp <;> omega)) _)⟩)
  · go_enter Try.func4, Try.ntmps4
    go_wp2_with (first
      | (go_at_call 14; refine (stop_any _ _ _ _ _).mono ?_; rintro e w1 ⟨rfl, hb⟩; have hz := hb.size; have hc := fun b o h => hb.cell (p := ⟨b, o, none⟩) h; have hf := fun b o h => hb.frozen (p := ⟨b, o, none⟩) h; have hB : Below w.heap.size w w1 := Below.trans (by repeat (first | assumption | exact Below.refl _ _ | refine Below.drew ?_ | refine Below.alloc ?_ (by first | omega | (simp <;> omega)) _ | refine Below.setCell ?_ (by first | omega | (simp <;> omega)) _)) (hb.mono (by first | omega | (simp <;> omega))); (try simp at hz); have y0 : w.heap.size < w1.heap.size := by omega)
      | (go_at_call 13; refine (awake_any _).mono ?_; rintro e w1 ⟨rfl, hb⟩; have hz := hb.size; have hc := fun b o h => hb.cell (p := ⟨b, o, none⟩) h; have hf := fun b o h => hb.frozen (p := ⟨b, o, none⟩) h; have hB : Below w.heap.size w w1 := Below.trans (by repeat (first | assumption | exact Below.refl _ _ | refine Below.drew ?_ | refine Below.alloc ?_ (by first | omega | (simp <;> omega)) _ | refine Below.setCell ?_ (by first | omega | (simp <;> omega)) _)) (hb.mono (by first | omega | (simp <;> omega))); (try simp at hz); have y0 : w.heap.size < w1.heap.size := by omega))
    go_ret
    exact ⟨rfl, by repeat (first | assumption | exact Below.refl _ _ | refine Below.drew ?_ | refine Below.alloc ?_ (by first | omega | (simp <;> omega)) _ | refine Below.setCell ?_ (by first | omega | (simp <;> omega)) _)⟩

end Go.Proofs.Ytpoejdejedbjdaa.win

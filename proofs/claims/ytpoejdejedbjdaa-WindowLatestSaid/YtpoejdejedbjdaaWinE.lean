/- The law of the latest arrival. -/
import Derived.Test.YtpoejdejedbjdaaWinC
namespace Go.Proofs.Ytpoejdejedbjdaa.win
open Go.RowKit
set_option linter.unusedVariables false

theorem latest_law {p o c v d : Int} (hg : stopB p o c v = true) : 0 ≤ latV o c v d ∧ latV o c v d ≤ 4096 ∧ (latB o v d = true → begE o c (latV o c v d) = 0 ∧ depV o c v (latV o c v d) ≤ d ∧ (begE o c (latV o c v d + 1) = 0 → d < depV o c v (latV o c v d + 1))) := by
  have hG : Good p o c v := by simpa [stopB] using hg
  obtain ⟨g1, g2, g3, g4, g5, g6⟩ := hG
  unfold latV latB
  by_cases h : o + v ≤ d
  · rw [if_pos h]
    refine ⟨by omega, by omega, fun _ => ?_⟩
    unfold begE depV
    refine ⟨by rw [if_pos (by omega)], by rw [if_pos (by omega)]; omega, fun h1 => ?_⟩
    split at h1
    · rw [if_pos (by omega)]; omega
    · cases h1
  · rw [if_neg h]
    refine ⟨by omega, by omega, fun h1 => ?_⟩
    simp only [decide_eq_true_eq] at h1
    omega

set_option maxHeartbeats 1000000 in
theorem law_latest (p o c v d : Int) (hd : -9223372036854775808 ≤ d ∧ d ≤ 9223372036854775807) (w : World) : Calls Try.prog 5 #[stop p o c v, .int .i64 d] w fun e w' => e = .returned (.bool true) ∧ Below w.heap.size w w' := by
  by_cases hg : stopB p o c v = true
  · have hG : Hid (Good p o c v) := Lib.hid (by simpa [stopB] using hg)
    obtain ⟨l1, l2, l3⟩ := latest_law (d := d) hg
    have L3 := Lib.hid l3
    clear l3
    by_cases hb : latB o v d = true
    all_goals
      go_enter Try.func5, Try.ntmps5
      go_wp2_with (first
        | (go_at_call 14; refine (stop_any _ _ _ _ _).mono ?_; rintro e w1 ⟨rfl, hb⟩; have hz := hb.size; have hc := fun b o h => hb.cell (p := ⟨b, o, none⟩) h; have hf := fun b o h => hb.frozen (p := ⟨b, o, none⟩) h; have hB : Below w.heap.size w w1 := Below.trans (by repeat (first | assumption | exact Below.refl _ _ | refine Below.drew ?_ | refine Below.alloc ?_ (by first | omega | (simp <;> omega)) _ | refine Below.setCell ?_ (by first | omega | (simp <;> omega)) _)) (hb.mono (by first | omega | (simp <;> omega))); (try simp at hz); have y0 : w.heap.size < w1.heap.size := by omega)
        | (go_at_call 19; refine (latest_any _ _ _ _ _ hG.out (by omega) _).mono ?_; rintro e w1 ⟨rfl, hb⟩; have hz := hb.size; have hc := fun b o h => hb.cell (p := ⟨b, o, none⟩) h; have hf := fun b o h => hb.frozen (p := ⟨b, o, none⟩) h; have hB : Below w.heap.size w w1 := Below.trans (by repeat (first | assumption | exact Below.refl _ _ | refine Below.drew ?_ | refine Below.alloc ?_ (by first | omega | (simp <;> omega)) _ | refine Below.setCell ?_ (by first | omega | (simp <;> omega)) _)) (hb.mono (by first | omega | (simp <;> omega))); (try simp at hz); have y0 : w.heap.size < w1.heap.size := by omega)
        | (go_at_call 20; refine (rlatest_any _ _ _ _ _ hG.out (by omega) _).mono ?_; rintro e w1 ⟨rfl, hb⟩; have hz := hb.size; have hc := fun b o h => hb.cell (p := ⟨b, o, none⟩) h; have hf := fun b o h => hb.frozen (p := ⟨b, o, none⟩) h; have hB : Below w.heap.size w w1 := Below.trans (by repeat (first | assumption | exact Below.refl _ _ | refine Below.drew ?_ | refine Below.alloc ?_ (by first | omega | (simp <;> omega)) _ | refine Below.setCell ?_ (by first | omega | (simp <;> omega)) _)) (hb.mono (by first | omega | (simp <;> omega))); (try simp at hz); have y0 : w.heap.size < w1.heap.size := by omega)
        | (go_at_call 17; refine (depart_any _ _ _ _ _ hG.out _).mono ?_; rintro e w1 ⟨rfl, hb⟩; have hz := hb.size; have hc := fun b o h => hb.cell (p := ⟨b, o, none⟩) h; have hf := fun b o h => hb.frozen (p := ⟨b, o, none⟩) h; have hB : Below w.heap.size w w1 := Below.trans (by repeat (first | assumption | exact Below.refl _ _ | refine Below.drew ?_ | refine Below.alloc ?_ (by first | omega | (simp <;> omega)) _ | refine Below.setCell ?_ (by first | omega | (simp <;> omega)) _)) (hb.mono (by first | omega | (simp <;> omega))); (try simp at hz); have y0 : w.heap.size < w1.heap.size := by omega)
        | (go_at_call 13; refine (awake_any _).mono ?_; rintro e w1 ⟨rfl, hb⟩; have hz := hb.size; have hc := fun b o h => hb.cell (p := ⟨b, o, none⟩) h; have hf := fun b o h => hb.frozen (p := ⟨b, o, none⟩) h; have hB : Below w.heap.size w w1 := Below.trans (by repeat (first | assumption | exact Below.refl _ _ | refine Below.drew ?_ | refine Below.alloc ?_ (by first | omega | (simp <;> omega)) _ | refine Below.setCell ?_ (by first | omega | (simp <;> omega)) _)) (hb.mono (by first | omega | (simp <;> omega))); (try simp at hz); have y0 : w.heap.size < w1.heap.size := by omega))
      all_goals first
        | (go_ret; exact ⟨rfl, by repeat (first | assumption | exact Below.refl _ _ | refine Below.drew ?_ | refine Below.alloc ?_ (by first | omega | (simp <;> omega)) _ | refine Below.setCell ?_ (by first | omega | (simp <;> omega)) _)⟩)
        | (exfalso; have h1 := L3.out (by assumption); have h2 := h1.1; have h3 := h1.2.1; have h4 := h1.2.2; first | exact absurd h2 ‹_› | omega | (have h5 := h4 (by assumption); omega))
  · go_enter Try.func5, Try.ntmps5
    go_wp2_with (first
      | (go_at_call 14; refine (stop_any _ _ _ _ _).mono ?_; rintro e w1 ⟨rfl, hb⟩; have hz := hb.size; have hc := fun b o h => hb.cell (p := ⟨b, o, none⟩) h; have hf := fun b o h => hb.frozen (p := ⟨b, o, none⟩) h; have hB : Below w.heap.size w w1 := Below.trans (by repeat (first | assumption | exact Below.refl _ _ | refine Below.drew ?_ | refine Below.alloc ?_ (by first | omega | (simp <;> omega)) _ | refine Below.setCell ?_ (by first | omega | (simp <;> omega)) _)) (hb.mono (by first | omega | (simp <;> omega))); (try simp at hz); have y0 : w.heap.size < w1.heap.size := by omega)
      | (go_at_call 13; refine (awake_any _).mono ?_; rintro e w1 ⟨rfl, hb⟩; have hz := hb.size; have hc := fun b o h => hb.cell (p := ⟨b, o, none⟩) h; have hf := fun b o h => hb.frozen (p := ⟨b, o, none⟩) h; have hB : Below w.heap.size w w1 := Below.trans (by repeat (first | assumption | exact Below.refl _ _ | refine Below.drew ?_ | refine Below.alloc ?_ (by first | omega | (simp <;> omega)) _ | refine Below.setCell ?_ (by first | omega | (simp <;> omega)) _)) (hb.mono (by first | omega | (simp <;> omega))); (try simp at hz); have y0 : w.heap.size < w1.heap.size := by omega))
    go_ret
    exact ⟨rfl, by repeat (first | assumption | exact Below.refl _ _ | refine Below.drew ?_ | refine Below.alloc ?_ (by first | omega | (simp <;> omega)) _ | refine Below.setCell ?_ (by first | omega | (simp <;> omega)) _)⟩

end Go.Proofs.Ytpoejdejedbjdaa.win

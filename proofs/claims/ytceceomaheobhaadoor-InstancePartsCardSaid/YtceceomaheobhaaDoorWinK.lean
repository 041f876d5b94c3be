/- The check of a window: portable part of WinA. -/
import Derived.Test.YtceceomaheobhaaDoorRows
import Derived.WalkKit
import Derived.WalkSpells
import Derived.WalkLawsBesides
import Derived.Lib.Hide
namespace Go.Proofs.YtceceomaheobhaaDoor.win
open Go.RowKit
set_option linter.unusedVariables false

/-- A stop as a value. -/
abbrev stop (p o c v : Int) : Value := .agg #[.int .i64 p, .int .i64 o, .int .i64 c, .int .i64 v]
/-- The stop is right. -/
def Good (p o c v : Int) : Prop := 0 ≤ p ∧ 0 ≤ o ∧ o ≤ c ∧ c ≤ 4096 ∧ 0 ≤ v ∧ v ≤ 4096
instance (p o c v : Int) : Decidable (Good p o c v) := by unfold Good; exact inferInstance
def chk (p o c v : Int) : Int := if (p = -1 ∧ o = 0 ∧ c = 0 ∧ v = 0) ∨ Good p o c v then 0 else 2
def tickB (n : Int) : Bool := decide (0 ≤ n ∧ n ≤ 4096)
theorem tick_t {n : Int} (h : tickB n = true) : 0 ≤ n ∧ n ≤ 4096 := by simpa [tickB] using h
theorem tick_f {n : Int} (h : ¬ tickB n = true) : n < 0 ∨ 4096 < n := by
  simp [tickB] at h
  omega
def begV (o c a : Int) : Int := if max a o ≤ c then max a o else 0
def begE (o c a : Int) : Int := if max a o ≤ c then 0 else 14
def depV (o c v a : Int) : Int := if max a o ≤ c then max a o + v else 0
def latV (o c v d : Int) : Int := if o + v ≤ d then min c (d - v) else 0
def latB (o v d : Int) : Bool := decide (o + v ≤ d)

theorem ret_int {k : IntKind} {a b : Int} (h : a = b) : Ending.returned (.int k a) = .returned (.int k b) := by rw [h]
theorem ret_bool {a b : Bool} (h : a = b) : Ending.returned (.bool a) = .returned (.bool b) := by rw [h]
theorem ret_ii {k l : IntKind} {a b c d : Int} (h : a = b) (h' : c = d) : Ending.returned (.tuple #[.int k a, .int l c]) = .returned (.tuple #[.int k b, .int l d]) := by rw [h, h']
theorem ret_ib {k : IntKind} {a b : Int} {c d : Bool} (h : a = b) (h' : c = d) : Ending.returned (.tuple #[.int k a, .bool c]) = .returned (.tuple #[.int k b, .bool d]) := by rw [h, h']

theorem tick_any (n : Int) (w : World) : Calls Tryd.prog 82 #[.int .i64 n] w fun e w' => e = .returned (.bool (tickB n)) ∧ w = w' := by
  go_enter Tryd.func82, Tryd.ntmps82
  go_wp2
  all_goals go_ret
  all_goals exact ⟨ret_bool (by unfold tickB; first | rfl | (simp; omega) | (simp <;> omega)), rfl⟩

set_option maxHeartbeats 1000000 in
theorem check_any (p o c v : Int) (w : World) : Calls Tryd.prog 71 #[stop p o c v] w fun e w' => e = .returned (.int .i64 (chk p o c v)) ∧ Below w.heap.size w w' := by
  go_enter Tryd.func71, Tryd.ntmps71
  go_wp2_with (go_at_call 82; refine (tick_any _ _).mono ?_; rintro e w' ⟨rfl, rfl⟩)
  all_goals go_ret
  all_goals refine ⟨ret_int ?_, by repeat (first | exact Below.refl _ _ | refine Below.alloc ?_ (by simp) _ | refine Below.setCell ?_ (by simp) _)⟩
  all_goals try have q1 := tick_t (n := o) (by assumption)
  all_goals try have q2 := tick_t (n := c) (by assumption)
  all_goals try have q3 := tick_t (n := v) (by assumption)
  all_goals try have q1 := tick_f (n := o) (by assumption)
  all_goals try have q2 := tick_f (n := c) (by assumption)
  all_goals try have q3 := tick_f (n := v) (by assumption)
  all_goals try have q3 := tick_f (n := v) (by simpa using ‹tickB v = false›)
  all_goals unfold chk Good
  all_goals try simp only [beq_iff_eq, beq_eq_false_iff_ne, ne_eq] at *
  all_goals (split <;> first | rfl | omega)

end Go.Proofs.YtceceomaheobhaaDoor.win

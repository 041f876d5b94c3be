/- Contracts of the functions of package window and of its reference: each returns what the plain functions of the window say, and leaves old memory alone. -/
import Derived.Test.YtpoejdejedbjdaaRows
import Derived.WalkKit
import Derived.WalkSpells
import Derived.WalkLawsBesides
import Derived.Lib.Hide
namespace Go.Proofs.Ytpoejdejedbjdaa.win
open Go.RowKit
set_option linter.unusedVariables false

/-- A stop as a value. -/
abbrev stop (p o c v : Int) : Value := .agg #[.int .i64 p, .int .i64 o, .int .i64 c, .int .i64 v]
/-- The stop is right. -/
def Good (p o c v : Int) : Prop := 0 ≤ p ∧ 0 ≤ o ∧ o ≤ c ∧ c ≤ 4096 ∧ 0 ≤ v ∧ v ≤ 4096
instance (p o c v : Int) : Decidable (Good p o c v) := by unfold Good; exact inferInstance
def chk (p o c v : Int) : Int := if (p = -1 ∧ o = 0 ∧ c = 0 ∧ v = 0) ∨ Good p o c v then 0 else 2
def tickB (n : Int) : Bool := decide (0 ≤ n ∧ n ≤ 4096)
theorem tick_t {n : Int} (h : tickB n = true) : 0 ≤ n ∧ n ≤ 4096 := by simpa [tickB] using h
theorem tick_f {n : Int} (h : ¬ tickB n = true) : n < 0 ∨ 4096 < n := by
  simp [tickB] at h
  omega
def begV (o c a : Int) : Int := if max a o ≤ c then max a o else 0
def begE (o c a : Int) : Int := if max a o ≤ c then 0 else 14
def depV (o c v a : Int) : Int := if max a o ≤ c then max a o + v else 0
def latV (o c v d : Int) : Int := if o + v ≤ d then min c (d - v) else 0
def latB (o v d : Int) : Bool := decide (o + v ≤ d)

theorem ret_int {k : IntKind} {a b : Int} (h : a = b) : Ending.returned (.int k a) = .returned (.int k b) := by rw [h]
theorem ret_bool {a b : Bool} (h : a = b) : Ending.returned (.bool a) = .returned (.bool b) := by rw [h]
theorem ret_ii {k l : IntKind} {a b c d : Int} (h : a = b) (h' : c = d) : Ending.returned (.tuple #[.int k a, .int l c]) = .returned (.tuple #[.int k b, .int l d]) := by rw [h, h']
theorem ret_ib {k : IntKind} {a b : Int} {c d : Bool} (h : a = b) (h' : c = d) : Ending.returned (.tuple #[.int k a, .bool c]) = .returned (.tuple #[.int k b, .bool d]) := by rw [h, h']

theorem tick_any (n : Int) (w : World) : Calls Try.prog 36 #[.int .i64 n] w fun e w' => e = .returned (.bool (tickB n)) ∧ w = w' := by
  go_enter Try.func36, Try.ntmps36
  go_wp2
  all_goals go_ret
  all_goals exact ⟨ret_bool (by unfold tickB; first | rfl | (simp; omega) | (simp <;> omega)), rfl⟩

set_option maxHeartbeats 1000000 in
theorem check_any (p o c v : Int) (w : World) : Calls Try.prog 11 #[stop p o c v] w fun e w' => e = .returned (.int .i64 (chk p o c v)) ∧ Below w.heap.size w w' := by
  go_enter Try.func11, Try.ntmps11
  go_wp2_with (go_at_call 36; refine (tick_any _ _).mono ?_; rintro e w' ⟨rfl, rfl⟩)
  all_goals go_ret
  all_goals refine ⟨ret_int ?_, by repeat (first | exact Below.refl _ _ | refine Below.alloc ?_ (by simp) _ | refine Below.setCell ?_ (by simp) _)⟩
  all_goals try have q1 := tick_t (n := o) (by assumption)
  all_goals try have q2 := tick_t (n := c) (by assumption)
  all_goals try have q3 := tick_t (n := v) (by assumption)
  all_goals try have q1 := tick_f (n := o) (by assumption)
  all_goals try have q2 := tick_f (n := c) (by assumption)
  all_goals try have q3 := tick_f (n := v) (by assumption)
  all_goals try have q3 := tick_f (n := v) (by simpa using ‹tickB v = false›)
  all_goals unfold chk Good
  all_goals try simp only [beq_iff_eq, beq_eq_false_iff_ne, ne_eq] at *
  all_goals (split <;> first | rfl | omega)

set_option maxHeartbeats 1000000 in
theorem rcheck_any (p o c v : Int) (w : World) : Calls Try.prog 12 #[stop p o c v] w fun e w' => e = .returned (.int .i64 (chk p o c v)) ∧ Below w.heap.size w w' := by
  go_enter Try.func12, Try.ntmps12
  go_wp2
  all_goals go_ret
  all_goals refine ⟨ret_int ?_, by repeat (first | exact Below.refl _ _ | refine Below.alloc ?_ (by simp) _ | refine Below.setCell ?_ (by simp) _)⟩
  all_goals unfold chk Good
  all_goals try simp only [beq_iff_eq, beq_eq_false_iff_ne, ne_eq] at *
  all_goals (split <;> first | rfl | omega)

theorem begin_any (p o c v a : Int) (w : World) : Calls Try.prog 15 #[stop p o c v, .int .i64 a] w fun e w' => e = .returned (.tuple #[.int .i64 (begV o c a), .int .i64 (begE o c a)]) ∧ Below w.heap.size w w' := by
  go_enter Try.func15, Try.ntmps15
  go_wp2
  all_goals go_ret2
  all_goals refine ⟨ret_ii ?_ ?_, by repeat (first | exact Below.refl _ _ | refine Below.alloc ?_ (by simp) _ | refine Below.setCell ?_ (by simp) _)⟩
  all_goals first | unfold begV | unfold begE
  all_goals split <;> omega

theorem rbegin_any (p o c v a : Int) (ho : o ≤ c) (w : World) : Calls Try.prog 16 #[stop p o c v, .int .i64 a] w fun e w' => e = .returned (.tuple #[.int .i64 (begV o c a), .int .i64 (begE o c a)]) ∧ Below w.heap.size w w' := by
  go_enter Try.func16, Try.ntmps16
  go_wp2
  all_goals go_ret2
  all_goals refine ⟨ret_ii ?_ ?_, by repeat (first | exact Below.refl _ _ | refine Below.alloc ?_ (by simp) _ | refine Below.setCell ?_ (by simp) _)⟩
  all_goals first | unfold begV | unfold begE
  all_goals split <;> omega

theorem beg_bd {o c a : Int} (h0 : 0 ≤ o) (h1 : c ≤ 4096) : 0 ≤ begV o c a ∧ begV o c a ≤ 4096 := by unfold begV; split <;> omega
theorem dep_ok {o c v a : Int} (h : begE o c a = 0) : begV o c a + v = depV o c v a := by unfold begE at h; unfold begV depV; split <;> simp_all
theorem dep_no {o c v a : Int} (h : ¬ begE o c a = 0) : 0 = depV o c v a := by
  unfold begE at h
  unfold depV
  split <;> simp_all

theorem depart_any (p o c v a : Int) (hg : Good p o c v) (w : World) : Calls Try.prog 17 #[stop p o c v, .int .i64 a] w fun e w' => e = .returned (.tuple #[.int .i64 (depV o c v a), .int .i64 (begE o c a)]) ∧ Below w.heap.size w w' := by
  obtain ⟨g1, g2, g3, g4, g5, g6⟩ := hg
  have b := beg_bd (o := o) (c := c) (a := a) g2 g4
  go_enter Try.func17, Try.ntmps17
  go_wp2_with (go_at_call 15; refine (begin_any _ _ _ _ _ _).mono ?_; rintro e w1 ⟨rfl, hb⟩; have hz := hb.size; have hc := fun b o h => hb.cell (p := ⟨b, o, none⟩) h; simp at hz)
  all_goals go_ret2
  all_goals refine ⟨ret_ii (by first | rfl | exact dep_ok (by simpa using ‹(begE o c a != 0) = false›) | exact dep_no (by simpa using ‹(begE o c a != 0) = true›)) (by first | rfl | (have h := ‹(begE o c a != 0) = false›; simp at h; exact h.symm)), by repeat (first | exact Below.refl _ _ | exact hb.mono (by simp) | refine Below.trans ?_ (hb.mono (by simp)) | refine Below.alloc ?_ (by simp) _ | refine Below.setCell ?_ (by simp) _)⟩

theorem rdepart_any (p o c v a : Int) (hg : Good p o c v) (w : World) : Calls Try.prog 18 #[stop p o c v, .int .i64 a] w fun e w' => e = .returned (.tuple #[.int .i64 (depV o c v a), .int .i64 (begE o c a)]) ∧ Below w.heap.size w w' := by
  obtain ⟨g1, g2, g3, g4, g5, g6⟩ := hg
  have b := beg_bd (o := o) (c := c) (a := a) g2 g4
  go_enter Try.func18, Try.ntmps18
  go_wp2_with (go_at_call 16; refine (rbegin_any _ _ _ _ _ g3 _).mono ?_; rintro e w1 ⟨rfl, hb⟩; have hz := hb.size; have hc := fun b o h => hb.cell (p := ⟨b, o, none⟩) h; simp at hz)
  all_goals go_ret2
  all_goals refine ⟨ret_ii (by first | rfl | exact dep_ok (by simpa using ‹(begE o c a != 0) = false›) | exact dep_no (by simpa using ‹(begE o c a != 0) = true›)) (by first | rfl | (have h := ‹(begE o c a != 0) = false›; simp at h; exact h.symm)), by repeat (first | exact Below.refl _ _ | exact hb.mono (by simp) | refine Below.trans ?_ (hb.mono (by simp)) | refine Below.alloc ?_ (by simp) _ | refine Below.setCell ?_ (by simp) _)⟩

theorem latest_any (p o c v d : Int) (hg : Good p o c v) (hd : d ≤ 9223372036854775807) (w : World) : Calls Try.prog 19 #[stop p o c v, .int .i64 d] w fun e w' => e = .returned (.tuple #[.int .i64 (latV o c v d), .bool (latB o v d)]) ∧ Below w.heap.size w w' := by
  obtain ⟨g1, g2, g3, g4, g5, g6⟩ := hg
  by_cases h : d < o + v
  all_goals
    go_enter Try.func19, Try.ntmps19
    go_wp2
    all_goals go_ret2
    all_goals refine ⟨ret_ib ?_ ?_, by repeat (first | exact Below.refl _ _ | refine Below.alloc ?_ (by simp) _ | refine Below.setCell ?_ (by simp) _)⟩
    all_goals first | unfold latV | unfold latB
    all_goals first | (split <;> omega) | (simp; omega)

theorem rlatest_any (p o c v d : Int) (hg : Good p o c v) (hd : d ≤ 9223372036854775807) (w : World) : Calls Try.prog 20 #[stop p o c v, .int .i64 d] w fun e w' => e = .returned (.tuple #[.int .i64 (latV o c v d), .bool (latB o v d)]) ∧ Below w.heap.size w w' := by
  have hg' := Lib.hid hg
  obtain ⟨g1, g2, g3, g4, g5, g6⟩ := hg
  go_enter Try.func20, Try.ntmps20
  go_wp2
  go_loopw [6, 7, 8] (fun i _ _ wr => ∃ k : Int, o - 1 ≤ k ∧ k ≤ c ∧ i = .int .i64 k ∧ (k = c ∨ d < k + 1 + v) ∧ Below (w.heap.size + 1) (w.alloc (.cells #[.int .i64 p, .int .i64 o, .int .i64 c, .int .i64 v] 23)) wr) (fun i _ _ _ => (intOf i - o + 1).toNat)
  case atStart => exact ⟨c, by omega, by omega, rfl, .inl rfl, Below.refl _ _⟩
  case round =>
    obtain ⟨k, hk1, hk2, rfl, hk3, hb⟩ := hrel
    have hz := hb.size
    have hc := fun b o h => hb.cell (p := ⟨b, o, none⟩) h
    simp at hz
    have hbe : o ≤ k → begE o c k = 0 := fun h => by unfold begE; rw [if_pos (by omega)]
    have hde : o ≤ k → depV o c v k = k + v := fun h => by unfold depV; rw [if_pos (by omega)]; omega
    by_cases hlt : o ≤ k
    · have hbe := hbe hlt
      have hde := Lib.hid (hde hlt)
      go_wp2_with (go_at_call 18; refine (rdepart_any _ _ _ _ _ hg'.out _).mono ?_; rintro e w1 ⟨rfl, hb1⟩; have hz1 := hb1.size; have hc1 := fun b o h => hb1.cell (p := ⟨b, o, none⟩) h)
      · have h : k + v ≤ d := by assumption
        go_ret2
        exact ⟨ret_ib (by unfold latV; rw [if_pos (by omega)]; omega) (by unfold latB; simp; omega), (((Below.refl w.heap.size w).alloc (Nat.le_refl _) _).trans (hb.mono (by simp))).trans (hb1.mono (by omega))⟩
      · have h : d < k + v := by assumption
        go_roundw
        case rel => exact ⟨k - 1, by omega, by omega, rfl, .inr (by omega), hb.trans (hb1.mono (by omega))⟩
        case measure => simp [intOf]; omega
    · go_wp2
      go_ret2
      exact ⟨ret_ib (by unfold latV; rw [if_neg (by omega)]) (by unfold latB; simp; omega), ((Below.refl w.heap.size w).alloc (Nat.le_refl _) _).trans (hb.mono (by simp))⟩

end Go.Proofs.Ytpoejdejedbjdaa.win

/- The law of picks: what is picked is a member, the specified one. -/
import Derived.Test.YtpoejdejedbjdaaRndB
import Derived.Test.YtpoejdejedbjdaaSetA
namespace Go.Proofs.Ytpoejdejedbjdaa.rnd
open Go.RowKit
open Go.Proofs.Ytpoejdejedbjdaa.lib
open Go.Proofs.Ytpoejdejedbjdaa.sets
set_option linter.unusedVariables false

/-- What is picked. -/
def pick (a s : Int) : Int := (memL s)[(bel a (memL s).length).toNat]?.getD 0

theorem pick_any (a s : Int) (hs : 0 < s) (hs2 : s ≤ 9223372036854775807) (w : World) : Calls Try.prog 33 #[.int .i64 a, .int .i64 s] w fun e w' => e = .returned (.tuple #[.int .i64 (pick a s), .int .i64 (nxt a)]) ∧ Below w.heap.size w w' := by
  have hn := memL_ne hs hs2
  have hbd := bel_bd a (memL s).length (by omega)
  go_enter Try.func33, Try.ntmps33
  go_wp2_with fail
  refine (members_any s _).mono ?_
  rintro e w1 ⟨A, c, rfl, hown, hb⟩
  obtain ⟨g, cap, hv, hg1, hg2⟩ := hown.form hn
  injection hv with hA _ hc
  subst hA hc
  have hcell : w1.cell? ⟨g, (bel a (memL s).length).toNat, none⟩ = some (.int .i64 (pick a s)) := own_cells hown (bel a (memL s).length).toNat (by omega)
  go_wp2_with (go_at_call 26; refine (below_any _ _ _).mono ?_; rintro e w' ⟨rfl, rfl⟩)
  go_ret2
  exact ⟨rfl, hb⟩
theorem rpick_any (a s : Int) (hs : 0 < s) (hs2 : s ≤ 9223372036854775807) (w : World) : Calls Try.prog 34 #[.int .i64 a, .int .i64 s] w fun e w' => e = .returned (.tuple #[.int .i64 (pick a s), .int .i64 (nxt a)]) ∧ Below w.heap.size w w' := by
  have hn := memL_ne hs hs2
  have hbd := bel_bd a (memL s).length (by omega)
  go_enter Try.func34, Try.ntmps34
  go_wp2_with fail
  refine (rmembers_any s (by omega) hs2 _).mono ?_
  rintro e w1 ⟨A, c, rfl, hown, hb⟩
  obtain ⟨g, cap, hv, hg1, hg2⟩ := hown.form hn
  injection hv with hA _ hc
  subst hA hc
  have hcell : w1.cell? ⟨g, (bel a (memL s).length).toNat, none⟩ = some (.int .i64 (pick a s)) := own_cells hown (bel a (memL s).length).toNat (by omega)
  go_wp2_with (go_at_call 27; refine (rbelow_any _ _ _).mono ?_; rintro e w' ⟨rfl, rfl⟩)
  go_ret2
  exact ⟨rfl, hb⟩
theorem pick_has (a s : Int) (hs : 0 < s) (hs2 : s ≤ 9223372036854775807) : hasB s (pick a s) = true := by
  have hn := memL_ne hs hs2
  have hbd := bel_bd a (memL s).length (by omega)
  refine mem_memL.1 ?_
  unfold pick
  rw [List.getElem?_eq_getElem (by omega)]
  exact List.getElem_mem _

theorem law_picks (a s : Int) (hs2 : s ≤ 9223372036854775807) (w : World) : Calls Try.prog 10 #[.int .i64 a, .int .i64 s] w fun e w' => e = .returned (.bool true) ∧ Below w.heap.size w w' := by
  by_cases h : s ≤ 0
  · go_enter Try.func10, Try.ntmps10
    go_wp2_with (first
      | (go_at_call 33; go_in)
      | (go_at_call 34; go_in)
      | (go_at_call 25; refine (next_any _ _).mono ?_; rintro e w' ⟨rfl, rfl⟩)
      | (go_at_call 28; refine (rnext_any _ _).mono ?_; rintro e w' ⟨rfl, rfl⟩)
      | (go_at_call 30; refine (awake_any _).mono ?_; rintro e w1 ⟨rfl, hb⟩))
    go_ret
    exact ⟨rfl, hb⟩
  · have h0 : 0 < s := by omega
    have hh := pick_has a s h0 hs2
    clear h
    go_enter Try.func10, Try.ntmps10
    go_wp2_with (first
      | (go_at_call 33; refine (pick_any _ _ h0 hs2 _).mono ?_; rintro e wa ⟨rfl, hb1⟩)
      | (go_at_call 34; refine (rpick_any _ _ h0 hs2 _).mono ?_; rintro e wb ⟨rfl, hb2⟩)
      | (go_at_call 35; refine (rhas_any _ _ (by omega) hs2 _).mono ?_; rintro e w' ⟨rfl, rfl⟩)
      | (go_at_call 30; refine (awake_any _).mono ?_; rintro e wc ⟨rfl, hb3⟩))
    go_ret
    exact ⟨rfl, (hb1.trans (hb2.mono hb1.size)).trans (hb3.mono (Nat.le_trans hb1.size hb2.size))⟩
end Go.Proofs.Ytpoejdejedbjdaa.rnd

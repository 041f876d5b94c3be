/- The examples of layer 11. -/
import Derived.Test.YthkbfmbohoclaaaDoorOrdE
import Derived.Test.YthkbfmbohoclaaaDoorOrdV
import Derived.Test.YthkbfmbohoclaaaDoorOrdH
namespace Go.Proofs.YthkbfmbohoclaaaDoor.ord
open Go.RowKit
open Go.Proofs.YthkbfmbohoclaaaDoor.lib Go.Proofs.YthkbfmbohoclaaaDoor.rd Go.Proofs.YthkbfmbohoclaaaDoor.typ Go.Proofs.YthkbfmbohoclaaaDoor.txt Go.Proofs.YthkbfmbohoclaaaDoor.app Go.Proofs.YthkbfmbohoclaaaDoor.note Go.Proofs.YthkbfmbohoclaaaDoor.flts Go.Proofs.YthkbfmbohoclaaaDoor.sumr
set_option linter.unusedVariables false
set_option linter.unusedSimpArgs false

def awO : Ord := ⟨⟨#[97]⟩, [3], ⟨-1, 0, 0, 0⟩, ⟨1, 0, 9, 0⟩, 0, -1, 1, -1, -1, false⟩
theorem awO_fits : OrdFits awO := by unfold OrdFits StpFits awO; decide
theorem aw_load : loadF [awO] 1 1 = some [3] := by kernel_rfl
theorem aw_vis : visL [awO] 0 = [⟨0, true⟩] := by rfl
theorem aw_check : ofltsTo ((2 : Nat) - 1 : Int) 1 1 [awO] 1 = [] := by kernel_rfl
theorem outF_yes {w : World} {L : List Int} {e : Ending} {w' : World} (h : OutF w (some L) e w') : OutE w L L.length 0 e w' := by
  rcases h with ⟨l, h1, h2⟩ | ⟨h1, _⟩
  · cases h1; exact h2
  · cases h1
theorem outF_no {w : World} {e : Ending} {w' : World} (h : OutF w none e w') : e = .returned (.tuple #[.slice none 0 0, .int .i64 2]) ∧ Below w.heap.size w w' := by
  rcases h with ⟨l, h1, h2⟩ | ⟨_, h2⟩
  · cases h1
  · exact h2

theorem awk_load (A : Option Addr) (c : Nat) (W : World) (hL : RowAt rOrd W W.heap.size A [awO]) : Calls Tryd.prog 26 #[.slice A 1 c, .int .i64 1, .int .i64 1] W (OutE W [3] 1 0) := by
  have h := load_in A c [awO] 1 (by decide) 1 (by decide) (by decide) W hL (by
    intro o ho
    rw [List.mem_singleton] at ho
    subst ho
    intro x hx
    rw [show awO.load = [3] from rfl, List.mem_singleton] at hx
    omega)
  rw [show ((1 : Nat) : Int) = 1 from rfl, aw_load] at h
  exact h.mono fun e w1 h => outF_yes h
theorem awk_vis (A : Option Addr) (c : Nat) (W : World) (hL : RowAt rOrd W W.heap.size A [awO]) : Calls Tryd.prog 29 #[.slice A 1 c, .int .i64 0] W (VisOut W [⟨0, true⟩]) := by
  have h := visits_any A c [awO] 0 W hL
  rw [aw_vis] at h
  exact h
theorem awk_check (A0 : Option Addr) (A : Option Addr) (W : World) (hL : RowAt rOrd W W.heap.size A [awO]) : Calls Tryd.prog 43 #[.agg #[.slice A0 2 2, .slice none 0 0], .int .i64 1, .int .i64 1, .slice A 1 1] W (FltsOut W []) := by
  have h := check_any 2 A0 2 none 0 0 1 1 A 1 [awO] W hL (by decide) (by decide) (by decide)
  rw [show [awO].length = 1 from rfl, aw_check] at h
  exact h
theorem vis_one {w : World} {base c : Nat} {A : Option Addr} {f : Vis} (h : w.ownsRow base 50 2 (.slice A 1 c) 1 (vcs [f])) : ∃ g, A = some ⟨g, 0, none⟩ ∧ g < w.heap.size ∧ w.cell? ⟨g, 0, none⟩ = some (.int .i64 f.order) ∧ w.cell? ⟨g, 1, none⟩ = some (.bool f.drop) := by
  rcases h.2 with ⟨h1, h2⟩ | ⟨g, cap, cur, h1, h2, h3, h4⟩
  · simp at h2
  · simp only [Value.slice.injEq] at h1
    obtain ⟨rfl, _, _⟩ := h1
    have hc := h.cells (g := g) rfl
    exact ⟨g, rfl, (Array.getElem?_eq_some_iff.1 h3).1, hc 0 _ rfl, hc 1 _ rfl⟩

set_option maxRecDepth 100000 in
set_option maxHeartbeats 8000000 in
theorem awake_any (w : World) : Calls Tryd.prog 25 #[] w fun e w' => e = .returned (.bool true) ∧ Below w.heap.size w w' := by
  have hL1 : RowAt rOrd ((w.alloc (.cells #[.int .i64 3] 3)).alloc (.cells (OrdCells awO (some ⟨w.heap.size, 0, none⟩) 1).toArray 59)) (w.heap.size + 1 + 1) (some ⟨w.heap.size + 1, 0, none⟩) [awO] := by
    have hI : Ints (w.alloc (.cells #[.int .i64 3] 3)) (w.heap.size + 1) (some ⟨w.heap.size, 0, none⟩) [3] := Ints.lit w [3] (by decide)
    have h := row_one (w := w.alloc (.cells #[.int .i64 3] 3)) (t := 59) (rOrd_mk (B := (w.alloc (.cells #[.int .i64 3] 3)).heap.size + 1) (t := awO) (c0 := 1) ((hI.alloc (by simp) _).more (by simp)) awO_fits)
    simpa using h
  have hB1 : Below w.heap.size w ((w.alloc (.cells #[.int .i64 3] 3)).alloc (.cells (OrdCells awO (some ⟨w.heap.size, 0, none⟩) 1).toArray 59)) := ((Below.refl _ _).alloc (Nat.le_refl _) _).alloc (by simp) _
  have hs1 : ((w.alloc (.cells #[.int .i64 3] 3)).alloc (.cells (OrdCells awO (some ⟨w.heap.size, 0, none⟩) 1).toArray 59)).heap.size = w.heap.size + 1 + 1 := by simp
  obtain ⟨W1, hW1⟩ : ∃ W, (w.alloc (.cells #[.int .i64 3] 3)).alloc (.cells (OrdCells awO (some ⟨w.heap.size, 0, none⟩) 1).toArray 59) = W := ⟨_, rfl⟩
  rw [hW1] at hL1 hB1 hs1
  have HL := Lib.hid hL1
  have HW := Lib.hid hW1
  have HS := Lib.hid hs1
  clear hW1 hL1 hs1
  go_enter Tryd.func25, Tryd.ntmps25
  go_wp2_with fail
  have hW2 : (w.alloc (.cells #[.int .i64 3] 3)).alloc (.cells #[.string ⟨#[97]⟩, .slice (some ⟨w.heap.size, 0, none⟩) 1 1, .int .i64 (-1), .int .i64 0, .int .i64 0, .int .i64 0, .int .i64 1, .int .i64 0, .int .i64 9, .int .i64 0, .int .i64 0, .int .i64 (-1), .int .i64 1, .int .i64 (-1), .int .i64 (-1), .bool false] 59) = W1 := HW.out
  rw [hW2]
  clear hW2
  have hL2 : RowAt rOrd W1 W1.heap.size (some ⟨w.heap.size + 1, 0, none⟩) [awO] := by have h := HL.out; rw [← HS.out] at h; exact h
  refine (awk_load _ _ _ hL2).mono ?_
  rintro e w2 ⟨A2, c2, rfl, hown2, hb2⟩
  obtain ⟨g2, hg2, hA2, hg2c⟩ := row_place (l := [3]) hown2
  obtain ⟨rfl, hlt2⟩ := hA2 (by decide)
  have hg2c' : w2.cell? ⟨g2, 0, none⟩ = some (.int .i64 3) := hg2c 0 (by decide)
  have z2 := hb2.size
  have hL3 : RowAt rOrd w2 w2.heap.size (some ⟨w.heap.size + 1, 0, none⟩) [awO] := (hL2.below hb2).more z2
  have HL3 := Lib.hid hL3
  clear hown2 hg2c hA2 hL2 hL3
  go_wp2_with fail
  refine (awk_vis _ _ _ HL3.out).mono ?_
  rintro e w3 ⟨A3, c3, rfl, hown3, hb3⟩
  obtain ⟨g3, rfl, hg3, hc3, hc3'⟩ := vis_one hown3
  have z3 := hb3.size
  have hB3 : Below w.heap.size w w3 := (hB1.trans (hb2.mono (by have := HS.out; omega))).trans (hb3.mono (by have := HS.out; omega))
  have hg2d : w3.cell? ⟨g2, 0, none⟩ = some (.int .i64 3) := (hb3.cell (p := ⟨g2, 0, none⟩) hlt2).trans hg2c'
  have HL4 : Hid (∀ o, RowAt rOrd (w3.alloc o) (w3.alloc o).heap.size (some ⟨w.heap.size + 1, 0, none⟩) [awO]) := Lib.hid fun o => ((HL3.out.below hb3).below ((Below.refl _ _).alloc z3 _)).more (by simp; omega)
  have hlt3 : g2 < w3.heap.size := by omega
  clear hown3 hg2c' HL3
  go_wp2_with fail
  refine (awk_check _ _ _ (HL4.out _)).mono ?_
  rintro e w4 ⟨A4, c4, rfl, hown4, hb4⟩
  have hB4 : Below w.heap.size w w4 := (hB3.alloc (by have := hB3.size; omega) _).trans (hb4.mono (by have := hB3.size; simp; omega))
  have k1 : w4.cell? ⟨g2, 0, none⟩ = some (.int .i64 3) := (hb4.cell (p := ⟨g2, 0, none⟩) (by simp; omega)).trans ((World.cell?_alloc_lt _ _ _ hlt3).trans hg2d)
  have k2 : w4.cell? ⟨g3, 0, none⟩ = some (.int .i64 0) := (hb4.cell (p := ⟨g3, 0, none⟩) (by simp; omega)).trans ((World.cell?_alloc_lt _ _ _ hg3).trans hc3)
  have k3 : w4.cell? ⟨g3, 1, none⟩ = some (.bool true) := (hb4.cell (p := ⟨g3, 1, none⟩) (by simp; omega)).trans ((World.cell?_alloc_lt _ _ _ hg3).trans hc3')
  clear hown4 HL4 hg2d hc3 hc3'
  go_wp2
  go_ret
  exact ⟨rfl, hB4⟩
end Go.Proofs.YthkbfmbohoclaaaDoor.ord

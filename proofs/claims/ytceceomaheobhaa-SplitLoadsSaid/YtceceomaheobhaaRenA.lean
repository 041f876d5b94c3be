/- Pairs renumbered: renumber. -/
import Derived.Test.YtceceomaheobhaaBase
import Derived.Deep.RegionHeld3
import Derived.Deep.RegionWith
import Derived.Deep.DeepCutAuto
import Derived.Outline
namespace Go.Proofs.Ytceceomaheobhaa.ren
open Go.RowKit
open Go.Proofs.Ytceceomaheobhaa.lib Go.Proofs.Ytceceomaheobhaa.rd Go.Proofs.Ytceceomaheobhaa.eqg Go.Proofs.Ytceceomaheobhaa.idx Go.Proofs.Ytceceomaheobhaa.app
set_option linter.unusedVariables false
set_option linter.unusedSimpArgs false

theorem two_elem : ElemOf 36 76 (.agg #[.int .i64 0, .int .i64 0]) 2 16 := ⟨Try.underlying36, by kernel_rfl, rfl, by decide, by decide⟩
def tcs (ps : List (Int × Int)) : List Value := ps.flatMap fun p => [.int .i64 p.1, .int .i64 p.2]
theorem tcs_snoc (ps : List (Int × Int)) (p : Int × Int) : tcs (ps ++ [p]) = tcs ps ++ [.int .i64 p.1, .int .i64 p.2] := by simp [tcs]
def TwosOut (w : World) (ps : List (Int × Int)) (e : Ending) (w' : World) : Prop := ∃ A c, e = .returned (.slice A ps.length c) ∧ w'.ownsRow w.heap.size 76 2 (.slice A ps.length c) ps.length (tcs ps) ∧ Below w.heap.size w w'
def renP (old : List Int) (p : Int × Int) : List (Int × Int) := if 0 ≤ idxI old p.1 ∧ 0 ≤ idxI old p.2 then [(idxI old p.1, idxI old p.2)] else []
def renL (old : List Int) (l : List (Int × Int)) : List (Int × Int) := l.flatMap (renP old)
theorem renL_take {old : List Int} {l : List (Int × Int)} {k : Nat} {x : Int × Int} (h : l[k]? = some x) : renL old (l.take (k + 1)) = renL old (l.take k) ++ renP old x := by
  obtain ⟨h1, h2⟩ := List.getElem?_eq_some_iff.1 h
  unfold renL
  rw [List.take_succ_eq_append_getElem h1, h2, List.flatMap_append]
  simp
theorem renL_len (old : List Int) : ∀ l : List (Int × Int), (renL old l).length ≤ l.length
  | [] => by simp [renL]
  | x :: l => by
    have ih := renL_len old l
    unfold renL at ih ⊢
    rw [List.flatMap_cons, List.length_append, List.length_cons]
    have : (renP old x).length ≤ 1 := by unfold renP; split <;> simp
    omega

end Go.Proofs.Ytceceomaheobhaa.ren

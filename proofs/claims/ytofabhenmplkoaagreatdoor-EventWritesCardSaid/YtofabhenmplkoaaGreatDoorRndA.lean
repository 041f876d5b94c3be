/- Contracts of the random package and of its reference: the next state, a number below n, a shuffle. -/
import Derived.Test.YtofabhenmplkoaaGreatDoorRndP
import Derived.Test.YtofabhenmplkoaaGreatDoorBase
import Derived.RegionTactic
namespace Go.Proofs.YtofabhenmplkoaaGreatDoor.rnd
open Go.RowKit
open Go.Proofs.YtofabhenmplkoaaGreatDoor.lib
set_option linter.unusedVariables false

/-- The two stores of an exchange. -/
theorem own_swap {w : World} {base g n cap : Nat} {l : List Int} (h : w.ownsRow base 3 1 (.slice (some ⟨g, 0, none⟩) n cap) n (l.map (.int .i64))) (i k : Nat) :
    ((w.setCell ⟨g, i, none⟩ (.int .i64 (l[k]?.getD 0))).setCell ⟨g, k, none⟩ (.int .i64 (l[i]?.getD 0))).ownsRow base 3 1 (.slice (some ⟨g, 0, none⟩) n cap) n ((swapL l i k).map (.int .i64)) := by
  have h1 := (h.stored i (.int .i64 (l[k]?.getD 0))).1
  have h2 := (h1.stored k (.int .i64 (l[i]?.getD 0))).1
  simpa [swapL, List.map_set] using h2

theorem own_there {w : World} {base g n cap : Nat} {xs : List Value} (h : w.ownsRow base 3 1 (.slice (some ⟨g, 0, none⟩) n cap) n xs) (i : Nat) (u : Value) (k : Nat) (hk : k < n) : ∃ v, (w.setCell ⟨g, i, none⟩ u).cell? ⟨g, k, none⟩ = some v := by
  have h1 := (h.stored i u).1
  have hl := h1.1
  rw [h1.cellAt k (by omega)]
  exact ⟨_, List.getElem?_eq_getElem (by omega)⟩

/-- What a shuffle hands back: a row of the call's own, and the state. -/
def Shuffled (w : World) (l : List Int) (n : Nat) (s : Int) (e : Ending) (w' : World) : Prop :=
  ∃ A c, e = .returned (.tuple #[.slice A n c, .int .i64 s]) ∧ w'.ownsRow w.heap.size 3 1 (.slice A n c) n (l.map (.int .i64)) ∧ Below w.heap.size w w'

end Go.Proofs.YtofabhenmplkoaaGreatDoor.rnd

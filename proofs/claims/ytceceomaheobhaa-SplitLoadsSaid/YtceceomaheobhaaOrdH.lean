/- The violations of orders: Check of the program. -/
import Derived.Test.YtceceomaheobhaaOrdG
import Derived.Test.YtceceomaheobhaaBase
import Derived.Deep.DeepCutAuto
namespace Go.Proofs.Ytceceomaheobhaa.ord
open Go.RowKit
open Go.Proofs.Ytceceomaheobhaa.lib Go.Proofs.Ytceceomaheobhaa.rd Go.Proofs.Ytceceomaheobhaa.typ Go.Proofs.Ytceceomaheobhaa.txt Go.Proofs.Ytceceomaheobhaa.app Go.Proofs.Ytceceomaheobhaa.note Go.Proofs.Ytceceomaheobhaa.flts
set_option linter.unusedVariables false

def ofltsAt (P dims types : Int) (l : List Ord) (i : Nat) : List Flt := match l[i]? with
  | some t => mkF i (errsO P dims types l i t)
  | none => []
/-- The violations of the orders below j. -/
def ofltsTo (P dims types : Int) (l : List Ord) : Nat → List Flt
  | 0 => if l.length ≤ 10 then [] else [⟨4, ⟨#[]⟩⟩]
  | j + 1 => ofltsTo P dims types l j ++ ofltsAt P dims types l j
theorem errsO_len (P dims types : Int) (l : List Ord) (i : Nat) (t : Ord) : (errsO P dims types l i t).length ≤ 8 := by
  unfold errsO
  repeat (refine Nat.le_trans (pushIf_len _ _ _) (Nat.add_le_add_right ?_ 1))
  exact Nat.le_refl _
theorem ofltsTo_len (P dims types : Int) (l : List Ord) : ∀ j, (ofltsTo P dims types l j).length ≤ 1 + 8 * j
  | 0 => by unfold ofltsTo; split <;> simp
  | j + 1 => by
    have ih := ofltsTo_len P dims types l j
    have h : (ofltsAt P dims types l j).length ≤ 8 := by
      unfold ofltsAt
      split
      · unfold mkF; rw [List.length_map]; exact errsO_len _ _ _ _ _ _
      · exact Nat.zero_le _
    rw [ofltsTo, List.length_append]
    omega
theorem ofltsTo_succ {P dims types : Int} {l : List Ord} {j : Nat} {t : Ord} (h : l[j]? = some t) : ofltsTo P dims types l (j + 1) = ofltsTo P dims types l j ++ mkF j (errsO P dims types l j t) := by
  rw [ofltsTo]
  unfold ofltsAt
  rw [h]

end Go.Proofs.Ytceceomaheobhaa.ord

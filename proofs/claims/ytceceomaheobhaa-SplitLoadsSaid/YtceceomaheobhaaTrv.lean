/- travel.Check: the violations of a travel function. -/
import Derived.Test.YtceceomaheobhaaBase
import Derived.Deep.DeepCutAuto
import Derived.Deep.QuietTactic
import Derived.BigQuiet
import Derived.Outline
import Derived.IntWalk
namespace Go.Proofs.Ytceceomaheobhaa.trv
open Go.RowKit
open Go.Proofs.Ytceceomaheobhaa.lib Go.Proofs.Ytceceomaheobhaa.rd Go.Proofs.Ytceceomaheobhaa.typ Go.Proofs.Ytceceomaheobhaa.app Go.Proofs.Ytceceomaheobhaa.flts Go.Proofs.Ytceceomaheobhaa.txt Go.Proofs.Ytceceomaheobhaa.note
set_option linter.unusedVariables false
set_option linter.unusedSimpArgs false

def tvBad (p : Pt) : Bool := !inB p.t 0 4096 || (decide (p.a < p.t) || decide (p.t + 4096 < p.a))
def tvFifo (l : List Pt) (i : Nat) (p : Pt) : Bool := match i with
  | 0 => false
  | k + 1 => match l[k]? with
    | some q => decide (p.t ≤ q.t) || decide (p.a < q.a)
    | none => false
def tvP (l : List Pt) (i : Nat) (p : Pt) : List Flt := (if tvBad p = true then [⟨2, decS i⟩] else []) ++ (if tvFifo l i p = true then [⟨13, decS i⟩] else [])
def szB (m : Nat) : Bool := decide (m = 0) || decide (16 < m)
def tvAt (l : List Pt) (i : Nat) : List Flt := match l[i]? with
  | some p => tvP l i p
  | none => []
/-- The violations of the points below j. -/
def tvTo (l : List Pt) : Nat → List Flt
  | 0 => if szB l.length = true then [⟨4, ⟨#[]⟩⟩] else []
  | j + 1 => tvTo l j ++ tvAt l j
theorem tvP_len (l : List Pt) (i : Nat) (p : Pt) : (tvP l i p).length ≤ 2 := by
  unfold tvP
  split <;> split <;> simp
theorem tvTo_len (l : List Pt) : ∀ j, (tvTo l j).length ≤ 1 + 2 * j
  | 0 => by unfold tvTo; split <;> simp
  | j + 1 => by
    have ih := tvTo_len l j
    have h : (tvAt l j).length ≤ 2 := by
      unfold tvAt
      split
      · exact tvP_len _ _ _
      · exact Nat.zero_le _
    rw [tvTo, List.length_append]
    omega
theorem tvTo_succ {l : List Pt} {j : Nat} {p : Pt} (h : l[j]? = some p) : tvTo l (j + 1) = tvTo l j ++ tvP l j p := by
  rw [tvTo]
  unfold tvAt
  rw [h]

end Go.Proofs.Ytceceomaheobhaa.trv

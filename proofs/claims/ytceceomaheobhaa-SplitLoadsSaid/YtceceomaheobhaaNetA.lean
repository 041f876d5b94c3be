/- network: places, ticks, ways, the errors of delays. -/
import Derived.Test.YtceceomaheobhaaBase
import Derived.Deep.DeepCutAuto
import Derived.Deep.QuietTactic
import Derived.BigQuiet
import Derived.Outline
namespace Go.Proofs.Ytceceomaheobhaa.net
open Go.RowKit
open Go.Proofs.Ytceceomaheobhaa.lib Go.Proofs.Ytceceomaheobhaa.rd Go.Proofs.Ytceceomaheobhaa.typ Go.Proofs.Ytceceomaheobhaa.app Go.Proofs.Ytceceomaheobhaa.note Go.Proofs.Ytceceomaheobhaa.mrk
open Go.Proofs.Ytceceomaheobhaa.win (tickB tick_t tick_f)
set_option linter.unusedVariables false
set_option linter.unusedSimpArgs false

def placeB (n i : Int) : Bool := decide (0 ≤ i) && decide (i < n)
/-- Ways as keys. -/
abbrev wayV (k : Int × Int × Int) : Value := .agg #[.int .i64 k.1, .int .i64 k.2.1, .int .i64 k.2.2]
def wayOk (k : Int × Int × Int) : Prop := (-9223372036854775808 ≤ k.1 ∧ k.1 ≤ 9223372036854775807) ∧ (-9223372036854775808 ≤ k.2.1 ∧ k.2.1 ≤ 9223372036854775807) ∧ (-9223372036854775808 ≤ k.2.2 ∧ k.2.2 ≤ 9223372036854775807)
theorem way_laidOut : laidOutB Try.prog = true := by kernel_rfl
theorem int_cells : Try.prog.cellsOf 3 = 1 := by kernel_rfl
theorem types_pos : 0 < Try.prog.types.size := of_decide_eq_true (by kernel_rfl)
/-- The errors of delays. -/
def slBad (l : List Pt) (i : Nat) (p : Pt) : Bool := !tickB p.t || ((match i with
  | 0 => false
  | k + 1 => match l[k]? with
    | some q => decide (p.t ≤ q.t)
    | none => false) || !tickB p.a)
def slP (l : List Pt) (i : Nat) (p : Pt) : List Int := if slBad l i p = true then [2] else []
def slAt (l : List Pt) (i : Nat) : List Int := match l[i]? with
  | some p => slP l i p
  | none => []
def slTo (l : List Pt) : Nat → List Int
  | 0 => if 16 < l.length then [4] else []
  | j + 1 => slTo l j ++ slAt l j
theorem slP_len (l : List Pt) (i : Nat) (p : Pt) : (slP l i p).length ≤ 1 := by
  unfold slP
  split <;> simp
theorem slTo_len (l : List Pt) : ∀ j, (slTo l j).length ≤ 1 + j
  | 0 => by unfold slTo; split <;> simp
  | j + 1 => by
    have ih := slTo_len l j
    have h : (slAt l j).length ≤ 1 := by
      unfold slAt
      split
      · exact slP_len _ _ _
      · exact Nat.zero_le _
    rw [slTo, List.length_append]
    omega
theorem slTo_succ {l : List Pt} {j : Nat} {p : Pt} (h : l[j]? = some p) : slTo l (j + 1) = slTo l j ++ slP l j p := by
  rw [slTo]
  unfold slAt
  rw [h]
def EOwn (w : World) (base : Nat) (A : Option Addr) (c : Nat) (xs : List Int) : Prop := w.ownsRow base 24 1 (.slice A xs.length c) xs.length (xs.map (.int .i64))
end Go.Proofs.Ytceceomaheobhaa.net

/- Instances that are drawn: what they are. -/
import Derived.Test.YtofabhenmplkoaaGreatDoorRndP
import Derived.Test.YtofabhenmplkoaaGreatDoorBase
namespace Go.Proofs.YtofabhenmplkoaaGreatDoor.gen
open Go.Proofs.YtofabhenmplkoaaGreatDoor.typ Go.Proofs.YtofabhenmplkoaaGreatDoor.txt
set_option linter.unusedVariables false
set_option linter.unusedSimpArgs false

/-- The number drawn from a to b in the state s. -/
def frm (s a b : Int) : Int := a + rnd.bel s (b - a + 1)
theorem frm_bd {s a b : Int} (h : a ≤ b) : a ≤ frm s a b ∧ frm s a b ≤ b := by
  have := rnd.bel_bd s (b - a + 1) (by omega)
  unfold frm
  omega
/-- The state after k draws. -/
def nx : Nat → Int → Int
  | 0, s => s
  | k + 1, s => rnd.nxt (nx k s)
theorem nx_add (j : Nat) : ∀ (k : Nat) (s : Int), nx (j + k) s = nx k (nx j s)
  | 0, s => rfl
  | k + 1, s => by
    show rnd.nxt (nx (j + k) s) = rnd.nxt (nx k (nx j s))
    rw [nx_add j k s]
/-- The point after a point. -/
def ptNext (p : Pt) (s : Int) : Pt := ⟨p.t + frm s 10 100, if p.a + frm (nx 1 s) 0 120 < p.t + frm s 10 100 then p.t + frm s 10 100 else p.a + frm (nx 1 s) 0 120⟩
/-- k points after the first one: the points, the last one, the state. -/
def ptsTo (p : Pt) (s : Int) : Nat → List Pt × Pt × Int
  | 0 => ([p], p, s)
  | k + 1 => ((ptsTo p s k).1 ++ [ptNext (ptsTo p s k).2.1 (ptsTo p s k).2.2], ptNext (ptsTo p s k).2.1 (ptsTo p s k).2.2, nx 2 (ptsTo p s k).2.2)
def pt0 (s : Int) : Pt := ⟨frm (nx 1 s) 0 50, frm (nx 1 s) 0 50 + frm (nx 2 s) 1 60⟩
def trvN (s : Int) : Nat := (frm s 1 3).toNat - 1
def trvF (s : Int) : List Pt × Pt × Int := ptsTo (pt0 s) (nx 3 s) (trvN s)
def arcF (s : Int) (i j : Nat) : Arc := ⟨i, j, 0, frm s 1 50, (trvF (nx 1 s)).1, []⟩
def arcN (s : Int) : Int := (trvF (nx 1 s)).2.2
/-- The arcs from place i to those below j. -/
def rowTo (i : Nat) (st : List Arc × Int) : Nat → List Arc × Int
  | 0 => st
  | j + 1 => if i = j then rowTo i st j else ((rowTo i st j).1 ++ [arcF (rowTo i st j).2 i j], arcN (rowTo i st j).2)
def arcsTo (n : Nat) (s : Int) : Nat → List Arc × Int
  | 0 => ([], s)
  | i + 1 => rowTo i (arcsTo n s i) n
def plcN (i : Nat) : ByteArray := ⟨#[112]⟩ ++ decS i
def plcs (n : Nat) : List ByteArray := (List.range n).map plcN
def netF (n : Nat) (s : Int) : Net := ⟨plcs n, (arcsTo n s n).1⟩
def tyN (i : Nat) : ByteArray := ⟨#[116]⟩ ++ decS i
def tyF (s : Int) (i places : Nat) : Ty := ⟨tyN i, frm s 1 3, frm (nx 1 s) 0 (places - 1), frm (nx 1 s) 0 (places - 1), [frm (nx 2 s) 5 30], frm (nx 3 s) 0 3, 0, frm (nx 4 s) 0 100, frm (nx 4 s) 0 100 + frm (nx 5 s) 200 900, frm (nx 6 s) 100 400, frm (nx 7 s) 0 40, frm (nx 8 s) 0 500, frm (nx 9 s) 0 9, frm (nx 10 s) 0 5⟩
def tysTo (places : Nat) (s : Int) : Nat → List Ty × Int
  | 0 => ([], s)
  | i + 1 => ((tysTo places s i).1 ++ [tyF (tysTo places s i).2 i places], nx 11 (tysTo places s i).2)
def stpF (s : Int) (places : Nat) : Stp := ⟨frm s 0 (places - 1), frm (nx 1 s) 0 300, frm (nx 1 s) 0 300 + frm (nx 2 s) 30 400, frm (nx 3 s) 0 20⟩
def noStp : Stp := ⟨-1, 0, 0, 0⟩
def loadTo (s : Int) : Nat → List Int
  | 0 => []
  | k + 1 => loadTo s k ++ [frm (nx k s) 0 9]
def penF (i : Int) : Int := if i = 0 then -1 else if i = 1 then 100 else if i = 2 then 500 else 2000
def ordN (i : Nat) : ByteArray := ⟨#[111]⟩ ++ decS i
/-- The states of an order: of its kind, of its pickup, of its delivery, of the rest. -/
def kindF (s : Int) (dims : Nat) : Int := frm (nx dims s) 0 2
def sPick (s : Int) (dims : Nat) : Int := nx 1 (nx dims s)
def sDrop (s : Int) (dims : Nat) : Int := if kindF s dims = 0 then sPick s dims else nx 4 (sPick s dims)
def sRest (s : Int) (dims : Nat) : Int := if kindF s dims = 1 then sDrop s dims else nx 4 (sDrop s dims)
/-- The order that is drawn as the one with number n. -/
def ordF (s : Int) (dims places n : Nat) : Ord :=
  ⟨ordN n, loadTo s dims, if kindF s dims = 0 then noStp else stpF (sPick s dims) places, if kindF s dims = 1 then noStp else stpF (sDrop s dims) places, frm (sRest s dims) 0 1, penF (frm (nx 1 (sRest s dims)) 0 3), 1, -1, -1, false⟩
/-- The orders that are drawn. -/
def ordsTo (dims places : Nat) (s : Int) : Nat → List Ord
  | 0 => []
  | k + 1 => ordsTo dims places s k ++ [ordF (nx k s) dims places k]
def sTys (seed : Int) (places : Nat) : Int := (arcsTo places seed places).2
def sOrds (seed : Int) (places types : Nat) : Int := (tysTo places (sTys seed places) types).2
def genI (seed : Int) (places types orders : Nat) : Ins := ⟨netF places seed, (tysTo places (sTys seed places) types).1, ordsTo 1 places (sOrds seed places types) orders, [], []⟩
end Go.Proofs.YtofabhenmplkoaaGreatDoor.gen

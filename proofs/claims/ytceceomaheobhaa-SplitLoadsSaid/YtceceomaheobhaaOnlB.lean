/- instance.Only, walked. -/
import Derived.Test.YtceceomaheobhaaOnlA
import Derived.Deep.DeepCutAuto
import Derived.RangeFuncBox
import Derived.Outline
import Derived.Deep.RegionHeld3
import Derived.Deep.RegionWith
namespace Go.Proofs.Ytceceomaheobhaa.ins
open Go.RowKit
open Go.Proofs.Ytceceomaheobhaa.lib Go.Proofs.Ytceceomaheobhaa.rd Go.Proofs.Ytceceomaheobhaa.typ Go.Proofs.Ytceceomaheobhaa.app Go.Proofs.Ytceceomaheobhaa.els Go.Proofs.Ytceceomaheobhaa.ren Go.Proofs.Ytceceomaheobhaa.ord Go.Proofs.Ytceceomaheobhaa.sets
set_option linter.unusedVariables false
set_option linter.unusedSimpArgs false

def OnlyBad (w : World) (e : Ending) (w' : World) : Prop := e = .returned (.tuple #[InV nilI nilP, .slice none 0 0, .int .i64 2]) ∧ Below w.heap.size w w'
def OnlyGood (y : Ins) (old : List Int) (w : World) (e : Ending) (w' : World) : Prop := ∃ P A c, e = .returned (.tuple #[InV y P, .slice A old.length c, .int .i64 0]) ∧ InAt w' w'.heap.size y P ∧ w'.ownsRow w.heap.size 3 1 (.slice A old.length c) old.length (old.map (.int .i64)) ∧ Below w.heap.size w w'
theorem and_bit (s : Int) (k : Nat) : (bits .and .i64 (s / 2 ^ k) 1 == 1) = hasN s k := by
  rw [i64_and1]
  unfold hasN pow2
  rw [Bool.eq_iff_iff]
  simp
def insCs' (x : Ins) (n : Nat) (A0 : Option Addr) (c0 : Nat) (A1 : Option Addr) (c1 : Nat) (A2 : Option Addr) (c2 : Nat) (A3 : Option Addr) (c3 : Nat) (A4 : Option Addr) (c4 : Nat) (A5 : Option Addr) (c5 : Nat) : List Value := [.slice A0 x.net.places.length c0, .slice A1 x.net.arcs.length c1, .slice A2 x.types.length c2, .slice A3 n c3, .slice A4 x.apart.length c4, .slice A5 x.before.length c5]
end Go.Proofs.Ytceceomaheobhaa.ins

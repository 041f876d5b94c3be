/-
  No cell of these rows narrows 'for every input' (looked for: loops, veiled, ifaces, maps, wideKeys, modest, calm, conditions, laid).
  DERIVED. THE GIVEN ROWS OF THIS SEAT. 5 by the template 'for every input the law returns true; each argument reads behind the call as it read before'; 0 by the template 'total and deterministic' (their statements: YtceceomaheobhaaTotals.lean).
  GIVEN WITH THE SEED: the statements are not yours to turn. If you find one false, say at which input.
  Laid BY PROGRAM, IN A SANDBOX (cutbox-rows.mjs): the forced cells as the released guide's own fill.sh prints them over the translation 296e9e351e4eed8a… (all of the seat's roots in one cut). By AI agents, Wed Nov 11 2026. No macro, syntax, notation, axiom, sorry.
-/
import Derived.Test.YtceceomaheobhaaChecked
import GoSem.Claim
import GoSem.ClaimJoined
import GoSem.ClaimMapViews
import Derived.JoinedTies
import Derived.KernelRfl
namespace Go.Proofs.Ytceceomaheobhaa
/- THE CELL 'sum', in the pinned program and in every row, IS THE sha256 OF THE DUMP (.gsa) THAT YtceceomaheobhaaProg.lean LOADS. Nothing in Lean hashes anything: it is a label: what it is worth is what the hold of that sum in a sandbox is worth. -/
noncomputable def Try.pinned : Pinned := { name := "ytceceomaheobhaa", sum := "296e9e351e4eed8af976890d5c954c6d9a29f3327d517dd89105b880d47e2643", checked := Try.checked }
namespace Rows
def none {H : Type} : Left H := { results := [], args := [] }

/-- 'lorrylaw15.SplitLoads': WHATEVER THE INPUT: true; the input reads as it did. -/
def splitLoadsSpec : ChangeSpec := { name := "splitLoads", fn := fun _ => fun
  | [d1, d2] => { results := [.lit (.bool true)], args := [d1, d2] }
  | _ => none }
def splitLoadsRow : OpenClaim := { program := "ytceceomaheobhaa", sum := "296e9e351e4eed8af976890d5c954c6d9a29f3327d517dd89105b880d47e2643", func := "lorry/lorrylaw15.SplitLoads", spec := "splitLoads", unfollowed := true, recurses := true, apart := false }
def SplitLoadsSaid : Prop := splitLoadsRow.holds Try.pinned (OpenSpec.ofChange splitLoadsSpec)

/-- ITS FALSE NEIGHBOUR: 'it returns false'. Refute it at one input. -/
def splitLoadsWrong : ChangeSpec := { name := "splitLoads", fn := fun _ => fun
  | [d1, d2] => { results := [.lit (.bool false)], args := [d1, d2] }
  | _ => none }
def SplitLoadsWrongFalsely : Prop := splitLoadsRow.holds Try.pinned (OpenSpec.ofChange splitLoadsWrong)

/-- 'lorrylaw15.SplitExpands': WHATEVER THE INPUT: true; the input reads as it did. -/
def splitExpandsSpec : ChangeSpec := { name := "splitExpands", fn := fun _ => fun
  | [d] => { results := [.lit (.bool true)], args := [d] }
  | _ => none }
def splitExpandsRow : OpenClaim := { program := "ytceceomaheobhaa", sum := "296e9e351e4eed8af976890d5c954c6d9a29f3327d517dd89105b880d47e2643", func := "lorry/lorrylaw15.SplitExpands", spec := "splitExpands", unfollowed := true, recurses := true, apart := false }
def SplitExpandsSaid : Prop := splitExpandsRow.holds Try.pinned (OpenSpec.ofChange splitExpandsSpec)

/-- ITS FALSE NEIGHBOUR: 'it returns false'. Refute it at one input. -/
def splitExpandsWrong : ChangeSpec := { name := "splitExpands", fn := fun _ => fun
  | [d] => { results := [.lit (.bool false)], args := [d] }
  | _ => none }
def SplitExpandsWrongFalsely : Prop := splitExpandsRow.holds Try.pinned (OpenSpec.ofChange splitExpandsWrong)

/-- 'lorrylaw15.SplitMerges': WHATEVER THE INPUT: true; the input reads as it did. -/
def splitMergesSpec : ChangeSpec := { name := "splitMerges", fn := fun _ => fun
  | [d1, d2, d3, d4, d5] => { results := [.lit (.bool true)], args := [d1, d2, d3, d4, d5] }
  | _ => none }
def splitMergesRow : OpenClaim := { program := "ytceceomaheobhaa", sum := "296e9e351e4eed8af976890d5c954c6d9a29f3327d517dd89105b880d47e2643", func := "lorry/lorrylaw15.SplitMerges", spec := "splitMerges", unfollowed := true, recurses := true, apart := false }
def SplitMergesSaid : Prop := splitMergesRow.holds Try.pinned (OpenSpec.ofChange splitMergesSpec)

/-- ITS FALSE NEIGHBOUR: 'it returns false'. Refute it at one input. -/
def splitMergesWrong : ChangeSpec := { name := "splitMerges", fn := fun _ => fun
  | [d1, d2, d3, d4, d5] => { results := [.lit (.bool false)], args := [d1, d2, d3, d4, d5] }
  | _ => none }
def SplitMergesWrongFalsely : Prop := splitMergesRow.holds Try.pinned (OpenSpec.ofChange splitMergesWrong)

/-- 'lorrylaw15.SplitSums': WHATEVER THE INPUT: true; the input reads as it did. -/
def splitSumsSpec : ChangeSpec := { name := "splitSums", fn := fun _ => fun
  | [d1, d2] => { results := [.lit (.bool true)], args := [d1, d2] }
  | _ => none }
def splitSumsRow : OpenClaim := { program := "ytceceomaheobhaa", sum := "296e9e351e4eed8af976890d5c954c6d9a29f3327d517dd89105b880d47e2643", func := "lorry/lorrylaw15.SplitSums", spec := "splitSums", unfollowed := true, recurses := true, apart := false }
def SplitSumsSaid : Prop := splitSumsRow.holds Try.pinned (OpenSpec.ofChange splitSumsSpec)

/-- ITS FALSE NEIGHBOUR: 'it returns false'. Refute it at one input. -/
def splitSumsWrong : ChangeSpec := { name := "splitSums", fn := fun _ => fun
  | [d1, d2] => { results := [.lit (.bool false)], args := [d1, d2] }
  | _ => none }
def SplitSumsWrongFalsely : Prop := splitSumsRow.holds Try.pinned (OpenSpec.ofChange splitSumsWrong)

/-- 'lorrylaw15.SplitWhole': WHATEVER THE INPUT: true; the input reads as it did. -/
def splitWholeSpec : ChangeSpec := { name := "splitWhole", fn := fun _ => fun
  | [d1, d2] => { results := [.lit (.bool true)], args := [d1, d2] }
  | _ => none }
def splitWholeRow : OpenClaim := { program := "ytceceomaheobhaa", sum := "296e9e351e4eed8af976890d5c954c6d9a29f3327d517dd89105b880d47e2643", func := "lorry/lorrylaw15.SplitWhole", spec := "splitWhole", unfollowed := true, recurses := true, apart := false }
def SplitWholeSaid : Prop := splitWholeRow.holds Try.pinned (OpenSpec.ofChange splitWholeSpec)

/-- ITS FALSE NEIGHBOUR: 'it returns false'. Refute it at one input. -/
def splitWholeWrong : ChangeSpec := { name := "splitWhole", fn := fun _ => fun
  | [d1, d2] => { results := [.lit (.bool false)], args := [d1, d2] }
  | _ => none }
def SplitWholeWrongFalsely : Prop := splitWholeRow.holds Try.pinned (OpenSpec.ofChange splitWholeWrong)

/- THE SECOND FORM. 'bulk': how many values and letters a reading holds, each counted each time it is reached (what is shared counts as often as it is met; a slice's spare places count too). A statement '..UptoSaid' is the law's where the arguments, and the package variables that the reading takes, are together of bulk at most 1048576: NARROWER than '..Said'. Prove '..Said' where nothing that the law and all that it calls make is longer than what came in: it says more and counts as full. Else prove '..UptoSaid'. A law counts once. -/
mutual
def uptoBulk {H : Type} : DataW H → Nat
  | .lit (.string bytes) => bytes.length + 1
  | .lit _ => 1
  | .nil => 1
  | .ptr d => uptoBulk d + 1
  | .slice elems spare => uptoBulkAll elems + uptoBulkAll spare + 1
  | .agg parts => uptoBulkAll parts + 1
  | .iface _ d => uptoBulk d + 1
  | .map entries => uptoBulkEntries entries + 1
  | .held _ => 1
def uptoBulkAll {H : Type} : List (DataW H) → Nat
  | [] => 0
  | d :: r => uptoBulk d + uptoBulkAll r
def uptoBulkEntries {H : Type} : List (Lit × DataW H) → Nat
  | [] => 0
  | x :: r => uptoBulkEntry x + uptoBulkEntries r
def uptoBulkEntry {H : Type} : Lit × DataW H → Nat
  | (.string bytes, d) => bytes.length + uptoBulk d + 1
  | (_, d) => uptoBulk d + 1
 end
def uptoSmall : (H : Type) → List (DataW H) → Bool := fun _ ds => decide (uptoBulkAll ds ≤ 1048576)
def OpenSpec.upto (s : _root_.Go.ChangeSpec) : _root_.Go.OpenSpec := { _root_.Go.OpenSpec.ofChange s with cond := some uptoSmall }

/-- 'lorrylaw15.SplitLoads', WHERE WHAT IT READS IS OF BULK AT MOST 1048576: true; the input reads as it did. -/
def splitLoadsUptoRow : OpenClaim := { program := "ytceceomaheobhaa", sum := "296e9e351e4eed8af976890d5c954c6d9a29f3327d517dd89105b880d47e2643", func := "lorry/lorrylaw15.SplitLoads", spec := "splitLoads", unfollowed := true, recurses := true, apart := false, narrowed := true }
def SplitLoadsUptoSaid : Prop := splitLoadsUptoRow.holds Try.pinned (OpenSpec.upto splitLoadsSpec)

/-- 'lorrylaw15.SplitExpands', WHERE WHAT IT READS IS OF BULK AT MOST 1048576: true; the input reads as it did. -/
def splitExpandsUptoRow : OpenClaim := { program := "ytceceomaheobhaa", sum := "296e9e351e4eed8af976890d5c954c6d9a29f3327d517dd89105b880d47e2643", func := "lorry/lorrylaw15.SplitExpands", spec := "splitExpands", unfollowed := true, recurses := true, apart := false, narrowed := true }
def SplitExpandsUptoSaid : Prop := splitExpandsUptoRow.holds Try.pinned (OpenSpec.upto splitExpandsSpec)

/-- 'lorrylaw15.SplitMerges', WHERE WHAT IT READS IS OF BULK AT MOST 1048576: true; the input reads as it did. -/
def splitMergesUptoRow : OpenClaim := { program := "ytceceomaheobhaa", sum := "296e9e351e4eed8af976890d5c954c6d9a29f3327d517dd89105b880d47e2643", func := "lorry/lorrylaw15.SplitMerges", spec := "splitMerges", unfollowed := true, recurses := true, apart := false, narrowed := true }
def SplitMergesUptoSaid : Prop := splitMergesUptoRow.holds Try.pinned (OpenSpec.upto splitMergesSpec)

/-- 'lorrylaw15.SplitSums', WHERE WHAT IT READS IS OF BULK AT MOST 1048576: true; the input reads as it did. -/
def splitSumsUptoRow : OpenClaim := { program := "ytceceomaheobhaa", sum := "296e9e351e4eed8af976890d5c954c6d9a29f3327d517dd89105b880d47e2643", func := "lorry/lorrylaw15.SplitSums", spec := "splitSums", unfollowed := true, recurses := true, apart := false, narrowed := true }
def SplitSumsUptoSaid : Prop := splitSumsUptoRow.holds Try.pinned (OpenSpec.upto splitSumsSpec)

/-- 'lorrylaw15.SplitWhole', WHERE WHAT IT READS IS OF BULK AT MOST 1048576: true; the input reads as it did. -/
def splitWholeUptoRow : OpenClaim := { program := "ytceceomaheobhaa", sum := "296e9e351e4eed8af976890d5c954c6d9a29f3327d517dd89105b880d47e2643", func := "lorry/lorrylaw15.SplitWhole", spec := "splitWhole", unfollowed := true, recurses := true, apart := false, narrowed := true }
def SplitWholeUptoSaid : Prop := splitWholeUptoRow.holds Try.pinned (OpenSpec.upto splitWholeSpec)

end Rows
end Go.Proofs.Ytceceomaheobhaa

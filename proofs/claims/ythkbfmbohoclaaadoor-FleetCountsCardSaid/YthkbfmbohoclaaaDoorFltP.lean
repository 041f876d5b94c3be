/- The laws FleetCounts and FleetAble, walked. -/
import Derived.Test.YthkbfmbohoclaaaDoorFltO
namespace Go.Proofs.YthkbfmbohoclaaaDoor.flt
open Go.RowKit
open Go.Proofs.YthkbfmbohoclaaaDoor.lib Go.Proofs.YthkbfmbohoclaaaDoor.rd Go.Proofs.YthkbfmbohoclaaaDoor.typ Go.Proofs.YthkbfmbohoclaaaDoor.txt Go.Proofs.YthkbfmbohoclaaaDoor.app Go.Proofs.YthkbfmbohoclaaaDoor.sets
set_option linter.unusedVariables false
set_option linter.unusedSimpArgs false

set_option maxHeartbeats 4000000 in
theorem lawCounts_any (A : Option Addr) (c : Nat) (l : List Ty) (w : World) (hL : RowAt rTy w w.heap.size A l) :
    Calls Tryd.prog 7 #[.slice A l.length c] w fun e w' => e = .returned (.bool true) ∧ Below w.heap.size w w' := by
  go_enter Tryd.func7, Tryd.ntmps7
  go_wp2_with fail
  refine (few_any A c l _ _ hL).mono ?_
  rintro e w1 ⟨b, rfl, hb, rfl⟩
  cases b
  · go_wp2_with fail
    refine (awake_any _).mono ?_
    rintro e w2 ⟨rfl, hb2⟩
    go_wp2_with fail
    go_ret
    exact ⟨rfl, hb2⟩
  · have hl := hb rfl
    clear hb
    go_wp2_with fail
    refine (dims_any A c l _ _ hL).mono ?_
    rintro e w2 ⟨rfl, rfl⟩
    go_wp2_with fail
    refine (rdims_any A c l _ _ hL).mono ?_
    rintro e w2 ⟨rfl, rfl⟩
    go_wp2_with fail
    refine (total_any A c l _ hL (by omega)).mono ?_
    rintro e w2 ⟨rfl, hb2⟩
    have hL2 := (hL.below hb2).more hb2.size
    have hz := hb2.size
    go_wp2_with fail
    refine (rtotal_any A c l _ hL2 (by omega)).mono ?_
    rintro e w3 ⟨rfl, rfl⟩
    go_wp2_with fail
    refine (awake_any _).mono ?_
    rintro e w3 ⟨rfl, hb3⟩
    go_wp2_with fail
    go_ret
    exact ⟨rfl, hb2.trans (hb3.mono hz)⟩
end Go.Proofs.YthkbfmbohoclaaaDoor.flt

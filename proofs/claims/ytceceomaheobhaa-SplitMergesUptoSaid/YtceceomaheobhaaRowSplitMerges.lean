/- The statement SplitMerges: the call returns true whatever the input, and the input reads as it did. No conditions. -/
import Derived.Test.YtceceomaheobhaaSpvL
import Derived.Test.YtceceomaheobhaaArgI
import Derived.Test.YtceceomaheobhaaBulkI
import Derived.ProofKit
import Derived.OpenShut
import Derived.SizedLaws
import Derived.ShutString
import Derived.ChangeOld
import Derived.Below
import Derived.Lib.SmallJoins
import Derived.Deep.Slices
import Derived.Carry
import Derived.JoinedCond
import Derived.Deep.CondSized
namespace Go.Proofs.Ytceceomaheobhaa.splitMerges
open Go.ChangeShapes Go.WideShapes Go.ChangeAt Go.RowKit Go.Joins
open Go.ChangeMaps (open_string shut_string)
set_option linter.unusedVariables false

theorem own : ownKnob Try.prog.godebug = none := by kernel_rfl
theorem laidOut : laidOutB Try.prog = true := by kernel_rfl
theorem bd {a : Int} (h : (Lit.int .i64 a).wf = true) : -9223372036854775808 ≤ a ∧ a ≤ 9223372036854775807 := by simpa [Lit.wf, IntKind.min, IntKind.max, IntKind.signed, IntKind.bits] using h

set_option maxRecDepth 100000 in
theorem contract (H : Type) (enc : TypeId × Value → H) (W : World) (base : Nat) (args : Array Value) (ds gs : List (DataW H)) (before : List MemPlace)
    (hval0 : ∀ (j : Nat) t v, Try.f5.params[j]? = some t → args[j]? = some v → Value.okWide Try.prog W .any base t v)
    (hW : DataW.Whole enc Try.prog Try.f5.params.toList Rows.splitMergesSpec.vars false W args.toList ds gs before)
    (hsz0 : (DataW.weightsEach Try.prog (Try.f5.params.toList ++ Rows.splitMergesSpec.plain.varTypes Try.prog) (ds ++ gs)).all (· ≤ reachBytes) = true) (hk : Rows.uptoSmall H (ds ++ gs) = true) :
    Calls Try.prog 5 args W fun e W' => ∃ v, e = .returned v ∧ Rows.splitMergesSpec.post enc Try.prog Try.f5 false true false false W args v W' := by
  have hsz : (DataW.weightsEach Try.prog (Try.f5.params.toList ++ Rows.splitMergesSpec.plain.varTypes Try.prog) (ds ++ gs)).all (· ≤ reachBytes) = true := hsz0
  clear hsz0
  have hval : ∀ (j : Nat) t v, Try.f5.params[j]? = some t → args[j]? = some v → Value.okWide Try.prog W .any base t v := hval0
  have hW' := hW
  obtain ⟨p, q, hA0, hV, rfl, hfz, hnd⟩ := hW
  have hA : DataW.TrodAll enc Try.prog W 0 (fun _ => true) true Try.f5.params.toList args.toList ds p := hA0
  rw [Try.params5] at hA hval hsz
  obtain ⟨v0, vs0, d0, ds0, p0, q0, hargs, rfl, rfl, h0, r0⟩ := trodAll_cons hA
  obtain ⟨v1, vs1, d1, ds1, p1, q1, rfl, rfl, rfl, h1, r1⟩ := trodAll_cons r0
  obtain ⟨v2, vs2, d2, ds2, p2, q2, rfl, rfl, rfl, h2, r2⟩ := trodAll_cons r1
  obtain ⟨v3, vs3, d3, ds3, p3, q3, rfl, rfl, rfl, h3, r3⟩ := trodAll_cons r2
  obtain ⟨v4, vs4, d4, ds4, p4, q4, rfl, rfl, rfl, h4, r4⟩ := trodAll_cons r3
  obtain ⟨rfl, rfl, rfl⟩ := trodAll_nil r4
  obtain rfl : args = #[v0, v1, v2, v3, v4] := by cases args; simp_all
  obtain ⟨rfl, rfl⟩ := trodVars_none hV
  have hk2 : Rows.uptoBulkAll ([d0, d1, d2, d3, d4] ++ []) ≤ 1048576 := of_decide_eq_true hk
  have k0 := h0
  have lt0 : ∀ x ∈ p0, x.block < W.heap.size := by obtain ⟨m, hm⟩ := k0; exact DataW.trod_lt m _ _ _ hm
  obtain ⟨x_cs, x, rfl, at_x, mu0_x⟩ := rd.arg_structB Try.underlying38 typ.opensB_Ins (hval 0 38 v0 rfl rfl) h0 (rd.weight_of hsz (j := 0) rfl rfl)
  have mu_x : typ.muIns x ≤ 1048576 := Nat.le_trans mu0_x (Nat.le_trans (rd.bulk_part (by simp)) hk2)
  obtain ⟨x_C0, x_c0, x_C1, x_c1, x_C2, x_c2, x_C3, x_c3, x_C4, x_c4, x_C5, x_c5, rfl, x_I0, x_I1, x_I2, x_I3, x_I4, x_I5, x_f⟩ := typ.rIns_at at_x
  have k1 := h1
  have lt1 : ∀ x ∈ p1, x.block < W.heap.size := by obtain ⟨m, hm⟩ := k1; exact DataW.trod_lt m _ _ _ hm
  obtain ⟨org_A, org_c, org, rfl, r_org, cap_org⟩ := rd.arg_ints Try.underlying22 Try.underlying3 (by kernel_rfl) (by rw [show Try.prog.bytesOf 3 = 8 by kernel_rfl]; omega) (hval 1 22 v1 rfl rfl) h1 (rd.weight_of hsz (j := 1) rfl rfl)
  have k2 := h2
  have lt2 : ∀ x ∈ p2, x.block < W.heap.size := by obtain ⟨m, hm⟩ := k2; exact DataW.trod_lt m _ _ _ hm
  obtain ⟨pl_cs, pl, rfl, at_pl⟩ := rd.arg_struct Try.underlying46 typ.opens_Pla (hval 2 46 v2 rfl rfl) h2 (rd.weight_of hsz (j := 2) rfl rfl)
  obtain ⟨pl_C0, pl_c0, pl_C1, pl_c1, rfl, pl_I0, pl_I1, pl_f⟩ := typ.rPla_at at_pl
  have k3 := h3
  have lt3 : ∀ x ∈ p3, x.block < W.heap.size := by obtain ⟨m, hm⟩ := k3; exact DataW.trod_lt m _ _ _ hm
  obtain ⟨l_A, l_c, l, rfl, r_l, cap_l, max_l⟩ := rd.arg_slice Try.underlying47 (rd.opens_slice (r := rd.rSlice typ.rSha) Try.underlying47 (by kernel_rfl) (by decide) (of_decide_eq_true (by kernel_rfl)) (rd.opens_slice (r := typ.rSha) Try.underlying50 (by kernel_rfl) (by decide) (of_decide_eq_true (by kernel_rfl)) typ.opens_Sha)) (hval 3 47 v3 rfl rfl) h3 (rd.weight_of hsz (j := 3) rfl rfl)
  have k4 := h4
  have lt4 : ∀ x ∈ p4, x.block < W.heap.size := by obtain ⟨m, hm⟩ := k4; exact DataW.trod_lt m _ _ _ hm
  obtain ⟨un_A, un_c, un, rfl, r_un, cap_un⟩ := rd.arg_ints Try.underlying22 Try.underlying3 (by kernel_rfl) (by rw [show Try.prog.bytesOf 3 = 8 by kernel_rfl]; omega) (hval 4 22 v4 rfl rfl) h4 (rd.weight_of hsz (j := 4) rfl rfl)
  clear hA0 hval0
  refine Calls.mono (spl.lawMerges_any x ⟨x_C0, x_c0, x_C1, x_c1, x_C2, x_c2, x_C3, x_c3, x_C4, x_c4, x_C5, x_c5⟩ org_A org_c org pl_C0 pl_c0 pl.routes pl_C1 pl.unserved.length pl_c1 l_A l_c l un_A un_c un W ⟨x_I0, x_I1, x_I2.1, x_I3.1, x_I4.1, x_I5.1, x_I2.2, x_I3.2, x_I4.2, x_I5.2⟩ (ins.rlim_bulk mu_x) r_org pl_I0 r_l r_un) fun e W' ⟨he, bel⟩ => ?_
  subst he
  exact ⟨_, rfl, _, _, _, [], _, [], hW', trodAll_mk1 (shut_bool Try.underlying4 _), (trodAll_cons_mk (Below.trod laidOut (by kernel_rfl) (of_decide_eq_true (by kernel_rfl)) k0 bel lt0) (trodAll_cons_mk (Below.trod laidOut (by kernel_rfl) (of_decide_eq_true (by kernel_rfl)) k1 bel lt1) (trodAll_cons_mk (Below.trod laidOut (by kernel_rfl) (of_decide_eq_true (by kernel_rfl)) k2 bel lt2) (trodAll_cons_mk (Below.trod laidOut (by kernel_rfl) (of_decide_eq_true (by kernel_rfl)) k3 bel lt3) (trodAll_cons_mk (Below.trod laidOut (by kernel_rfl) (of_decide_eq_true (by kernel_rfl)) k4 bel lt4) trodAll_mk0))))), rfl, bel.frame _, fun h => by cases h⟩

set_option maxRecDepth 100000 in
theorem lifted (os : Os) (started : os.Started) (H : Type) (enc : TypeId × Value → H) (F : Stop.Interp) :
    ReturnsInHanded {} Try.checked os 5 .any ((Rows.OpenSpec.upto Rows.splitMergesSpec).pre6 enc Try.prog Try.f5 Rows.splitMergesUptoRow.domain false) (((Rows.OpenSpec.upto Rows.splitMergesSpec).at F).post enc Try.prog Try.f5 false true false false) := by
  refine returnsInHanded_of_cond_sized (C := Try.checked) (s := Rows.OpenSpec.upto Rows.splitMergesSpec) (k := Rows.uptoSmall) rfl own started (by kernel_rfl) Try.func5
    (OpenSpec.witness (enc := enc) (C := Try.checked) (s := Rows.OpenSpec.upto Rows.splitMergesSpec) (k := Rows.uptoSmall) rfl false ⟨#[], #[Value.agg #[.slice none 0 0, .slice none 0 0, .slice none 0 0, .slice none 0 0, .slice none 0 0, .slice none 0 0], Value.slice none 0 0, Value.agg #[.slice none 0 0, .slice none 0 0], Value.slice none 0 0, Value.slice none 0 0], []⟩ 8 (by kernel_rfl) (by kernel_rfl) (by kernel_rfl)
      (x := ([.agg [.agg [.nil, .nil], .nil, .nil, .nil, .nil], .nil, .agg [.nil, .nil], .nil, .nil], [], [])) (by kernel_rfl) rfl (by kernel_rfl)) ?_
  intro W base args ds gs before hval hW hcnd hk hsz _
  exact contract H enc W base args ds gs before hval hW hsz hk

theorem over : Rows.splitMergesUptoRow.holds Try.pinned (Rows.OpenSpec.upto Rows.splitMergesSpec) :=
  OpenClaim.holds_of_cond 5 Try.f5 rfl rfl rfl rfl rfl rfl rfl ⟨rfl, rfl, rfl, rfl, rfl⟩ rfl rfl rfl rfl rfl (by kernel_rfl) Try.func5 (by kernel_rfl)
    (of_decide_eq_true (by kernel_rfl)) (by unfold Func.isWrapper; first | (rw [if_pos (by decide +kernel)]; kernel_rfl) | (rw [if_neg (by decide +kernel)]; exact ⟨rfl, rfl⟩))
    (fun os started H enc _ F => lifted os started H enc F)

theorem proved : Rows.SplitMergesUptoSaid := over
#print axioms proved
end Go.Proofs.Ytceceomaheobhaa.splitMerges

/- spec.line's deferred closure; spec.rank. -/
import Derived.Test.YthefooacfcagbaaGreatDoorSpcJ
import Derived.Defers
import Derived.Recover
import Derived.Laws.Pointers
namespace Go.Proofs.YthefooacfcagbaaGreatDoor.spc
open Go.RowKit
open lib rd app els typ big gen off
open ins (InP InAt InV)
open txt (in64 By strV strV_of decW decW_any Tabs elem_str toList_data push_one Strs numL number_any num_dec dec_num)
set_option linter.unusedVariables false
set_option linter.unusedSimpArgs false
theorem as_wrong (w : World) : (Instr.typeAssert (.iface 107 (.agg #[])) 20 107 true).run Tryz.prog w = .ok (.tuple #[.agg #[], .bool true]) w := by kernel_rfl
theorem as_none (w : World) : (Instr.typeAssert .nilIface 20 107 true).run Tryz.prog w = .ok (.tuple #[.agg #[], .bool false]) w := by kernel_rfl
set_option maxRecDepth 100000 in
theorem catch_panicking (p : Addr) (x : Int) (older : List PanicEntry) (w : World) (hb : p.block < w.heap.size) (hc : w.cell? p = some (.int .i64 x)) (hz : w.frozen? p = false) :
  CallsD Tryz.prog 60 #[.pointer (some p)] (.panicking (pnV :: older)) w fun e u' w' =>
   e = .returned (.tuple #[]) ∧ u' = .panicking ({ pnV with recovered := true } :: older) ∧ w' = (w.alloc (.cells #[] 107)).setCell p (.int .i64 0) := by
 have h1 := as_wrong
 refine callsD_of_wpS Tryz.func60 rfl fun c₀ cs hu => ?_
 apply wpS_seq
 apply wpS_region
 simp [wpOpsS, go_sem, recoverD, hu, pnV, Tryz.ntmps60, Exit.thenS, as_wrong]
 have hc' : (w.alloc (.cells #[] 107)).cell? p = some (.int .i64 x) := (World.cell?_alloc_lt w _ p hb).trans hc
 have hz' : (w.alloc (.cells #[] 107)).frozen? p = false := (World.frozen?_of_block (((Below.refl w.heap.size w).alloc (Nat.le_refl _) _).block p.block hb)).trans hz
 apply wpS_seq
 apply wpS_region
 simp [wpOpsS, go_sem, Exit.thenS]
 refine wpS_cond (t := true) (by simp [Act.eval, Array.replicate]) ?_
 simp only [if_true]
 apply wpS_region
 simp [wpOpsS, go_sem, hc', hz', bodyPostS, results, Tryz.results60]
set_option maxRecDepth 100000 in
theorem catch_idle (p : Addr) (w : World) :
  CallsD Tryz.prog 60 #[.pointer (some p)] .returning w fun e u' w' => e = .returned (.tuple #[]) ∧ u' = .returning ∧ w' = w.alloc (.cells #[] 107) := by
 refine callsD_of_wpS Tryz.func60 rfl fun c₀ cs hu => ?_
 apply wpS_seq
 apply wpS_region
 simp [wpOpsS, go_sem, recoverD, hu, pnV, Tryz.ntmps60, Exit.thenS, as_none]
 apply wpS_seq
 apply wpS_region
 simp [wpOpsS, go_sem, Exit.thenS]
 refine wpS_cond (t := false) (by simp [Act.eval, Array.replicate]) ?_
 simp only [Bool.false_eq_true, if_false]
 refine wpS_of_wp (wp_skip ?_)
 cases c₀
 simp_all [bodyPostS, results, Tryz.results60]
def rankK (y : By) : Nat → List By → Nat
 | _, [] => 0
 | k, x :: L => if x = y then k + 1 else rankK y (k + 1) L
def kws : List By := [kwP, kwA, kwT, kwO, kwX, kwB, kwE]
def rankF (y : By) : Nat := rankK y 0 kws
theorem rankK_drop {y x : By} {k : Nat} {L : List By} (h : L[k]? = some x) : rankK y k (L.drop k) = if x = y then k + 1 else rankK y (k + 1) (L.drop (k + 1)) := by
 obtain ⟨hk, e⟩ := List.getElem?_eq_some_iff.1 h
 rw [List.drop_eq_getElem_cons hk, rankK, e]
theorem rank_kw (r : Lin) : ∀ y L, r.words = y :: L → rankF y = r.rank := fun y L e => by
 cases r <;> (simp only [Lin.words, List.cons.injEq] at e; rw [← e.1]; rfl)
set_option maxRecDepth 20000 in
theorem rank_any (y : By) (w : World) :
  Calls Tryz.prog 30 #[.string ⟨y.toArray⟩] w fun e w' => e = .returned (.int .i64 (rankF y)) ∧ Below w.heap.size w w' := by
 obtain ⟨r, hr⟩ : ∃ r, rankF y = r := ⟨_, rfl⟩
 have H0 : Hid (r = rankK y 0 (kws.drop 0)) := Lib.hid hr.symm
 rw [hr]
 clear hr
 obtain ⟨W0, hW0⟩ : ∃ W0, w.alloc (.cells #[.string ⟨#[112, 108, 97, 99, 101]⟩, .string ⟨#[97, 114, 99]⟩, .string ⟨#[116, 121, 112, 101]⟩, .string ⟨#[111, 114, 100, 101, 114]⟩, .string ⟨#[97, 112, 97, 114, 116]⟩, .string ⟨#[98, 101, 102, 111, 114, 101]⟩, .string ⟨#[101, 110, 100]⟩] 9) = W0 := ⟨_, rfl⟩
 have HW0 := Lib.hid hW0
 have HBK : Hid (Blk W0 w.heap.size 9 (kws.map strV)) := Lib.hid (by rw [← hW0]; exact Blk.new w _ _)
 have HB0 : Hid (Below w.heap.size w W0) := Lib.hid (by rw [← hW0]; exact (Below.refl _ _).alloc (Nat.le_refl _) _)
 have hz0 := HBK.out.lt
 clear hW0
 go_enter Tryz.func30, Tryz.ntmps30
 go_upto_region 2 with fail
 rw [HW0.out]
 clear HW0
 go_loopw [7] (fun i wr => Below W0.heap.size W0 wr ∧ ∃ k : Nat, k ≤ 7 ∧ i = .int .i64 k ∧ Hid (r = rankK y k (kws.drop k))) (fun i _ => 7 - (intOf i).toNat)
 case atStart => exact ⟨Below.refl _ _, 0, by omega, rfl, H0⟩
 case round =>
  obtain ⟨hb, k, hk, rfl, hr⟩ := hrel
  have HBV := Lib.hid (HB0.out.trans (hb.mono HB0.out.size))
  by_cases hlt : k < 7
  ·obtain ⟨x, hx⟩ : ∃ x, kws[k]? = some x := ⟨_, List.getElem?_eq_getElem (by simpa [kws] using hlt)⟩
   have hcell : wr.cell? ⟨w.heap.size, k, none⟩ = some (.string ⟨x.toArray⟩) := (hb.cell (p := ⟨w.heap.size, k, none⟩) hz0).trans (HBK.out.cell (j := k) (u := strV x) (by rw [List.getElem?_map, hx]; rfl))
   have HR := Lib.hid (rankK_drop (y := y) hx)
   have hkn : (k : Int) < 7 := by omega
   have hk0 : (0 : Int) ≤ (k : Int) := by omega
   have HBB := Lib.hid hb
   clear hx hb
   by_cases hxy : x = y
   ·subst hxy
    have HF : Hid (r = k + 1) := Lib.hid (by rw [hr.out, HR.out, if_pos rfl])
    clear hr HR
    go_wp2
    go_ret
    exact ⟨by rw [HF.out]; rfl, HBV.out⟩
   ·have hb1 : (x == y) = false := beq_eq_false_iff_ne.2 hxy
    have HF : Hid (r = rankK y (k + 1) (kws.drop (k + 1))) := Lib.hid (by rw [hr.out, HR.out, if_neg hxy])
    clear hr HR hxy
    go_wp2
    go_roundw
    case rel => exact ⟨HBB.out, k + 1, by omega, by go_num, HF⟩
    case measure => simp [intOf]; omega
  ·have hke : k = 7 := by omega
   subst hke
   have HF : Hid (r = 0) := Lib.hid (by rw [hr.out]; rfl)
   clear hr
   go_wp2
   go_ret
   exact ⟨by rw [HF.out]; rfl, HBV.out⟩
end Go.Proofs.YthefooacfcagbaaGreatDoor.spc

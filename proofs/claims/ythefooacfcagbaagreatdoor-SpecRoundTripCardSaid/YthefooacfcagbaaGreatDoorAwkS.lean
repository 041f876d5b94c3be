/- lorrylaw14.awake: are instances written and read at all? -/
import Derived.Test.YthefooacfcagbaaGreatDoorParB
import Derived.Test.YthefooacfcagbaaGreatDoorPrnB
import Derived.Test.YthefooacfcagbaaGreatDoorC3
namespace Go.Proofs.YthefooacfcagbaaGreatDoor.spc
open Go.RowKit
open lib rd app els typ big gen off
open ins (InP InAt InV Lim insF insN icheck_any)
open flt (Fown FltsOut)
open txt (in64 By strV strV_of Tabs)
set_option linter.unusedVariables false
set_option linter.unusedSimpArgs false
def awkX : Ins := ⟨⟨[⟨#[97]⟩], []⟩, [⟨⟨#[118]⟩, 1, 0, 0, [5], 0, 0, 0, 9, 9, 0, 0, 0, 0⟩], [], [], []⟩
def awkT : By := [112, 108, 97, 99, 101, 32, 97, 10, 116, 121, 112, 101, 32, 118, 32, 49, 32, 48, 32, 48, 32, 53, 32, 48, 32, 48, 32, 48, 32, 57, 32, 57, 32, 48, 32, 48, 32, 48, 32, 48, 10, 101, 110, 100, 10]
theorem awk_text : textI awkX = awkT := by kernel_rfl
theorem awk_F : insF awkX = [] := by kernel_rfl
theorem awk_lim : Lim awkX := ⟨by decide, by decide, fun a h => (by cases h), fun j a h => (by simp [awkX] at h), by rw [show insN awkX = [] by kernel_rfl]; decide, by decide, by decide, by decide, by decide⟩
theorem awk_ok : insOk awkX := by
 intro r hr
 simp only [awkX, rowsI, List.map_cons, List.map_nil, List.append_nil, List.nil_append, List.cons_append, List.mem_cons, List.not_mem_nil, or_false] at hr
 rcases hr with rfl | rfl
 ·exact ⟨by decide, by decide⟩
 ·refine ⟨by decide, by unfold TyFits; decide, ?_⟩
  intro z hz
  rw [List.mem_singleton] at hz
  subst hz
  exact ⟨by decide, by decide⟩
theorem awk_pr : PrOk awkX := ⟨awk_ok, fun a h => (by cases h), fun t h => (by rw [List.mem_singleton.1 h]; decide), fun t h => (by cases h), by rw [awk_text]; decide⟩
theorem awk_par : parF insF awkT = (awkX, 0, 0) := by
 refine parF_ok (j := 0) (by decide) ?_ awk_F
 rw [← awk_text]
 exact prs_text awk_ok
theorem awk_prn : prnF insF awkX = (awkT, 0) := by
 rw [prnF_ok awk_F (by rw [awk_text]; decide), awk_text]
theorem awk_stop : (⟨(stopF ⟨2, 10, 20, 5⟩).toArray⟩ : ByteArray) = ⟨#[50, 58, 49, 48, 58, 50, 48, 58, 53]⟩ := by kernel_rfl
set_option maxRecDepth 20000 in
set_option maxHeartbeats 4000000 in
theorem awake_any (w : World) (ht : TabS w) : Calls Tryz.prog 8 #[] w fun e w' => e = .returned (.bool true) ∧ Below w.heap.size w w' := by
 have HP : Hid (Calls Tryz.prog 11 #[.string ⟨awkT.toArray⟩] w (ParOut w (awkX, 0, 0))) := Lib.hid (by
  have h := parse_any insF awkT (by decide) w ht (fun x Q w' hp hb hat => by
   rw [← awk_text, prs_text awk_ok] at hp
   have e : awkX = x := by
    have h1 := congrArg Prod.fst hp
    exact Option.some.inj h1
   subst e
   exact icheck_any awkX Q w' hat awk_lim)
  rw [awk_par] at h
  exact h)
 have HTB := Lib.hid ht.at_
 have HT' : Hid (awkT = [112, 108, 97, 99, 101, 32, 97, 10, 116, 121, 112, 101, 32, 118, 32, 49, 32, 48, 32, 48, 32, 53, 32, 48, 32, 48, 32, 48, 32, 57, 32, 57, 32, 48, 32, 48, 32, 48, 32, 48, 10, 101, 110, 100, 10]) := Lib.hid rfl
 clear ht
 go_enter Tryz.func8, Tryz.ntmps8
 go_upto_region 3 with (go_at_call 11; refine (HP.out).mono ?_; rintro e w1 ⟨P, rfl, hat, hb⟩)
 obtain ⟨w2, hw2⟩ : ∃ W, w1.alloc (.cells (xCs awkX P).toArray 30) = W := ⟨_, rfl⟩
 have HW2 := Lib.hid (show w1.alloc (.cells #[.slice P.a0 awkX.net.places.length P.c0, .slice P.a1 awkX.net.arcs.length P.c1, .slice P.a2 awkX.types.length P.c2, .slice P.a3 awkX.orders.length P.c3, .slice P.a4 awkX.apart.length P.c4, .slice P.a5 awkX.before.length P.c5] 30) = w2 from hw2)
 have b2 : Below w1.heap.size w1 w2 := by rw [← hw2]; exact (Below.refl _ _).alloc (Nat.le_refl _) _
 have HB2 := Lib.hid (hb.trans (b2.mono hb.size))
 have HX2 : Hid (Blk w2 w1.heap.size 30 (xCs awkX P)) := Lib.hid (by rw [← hw2]; exact Blk.new w1 _ _)
 have HA2 : Hid (InAt w2 w2.heap.size awkX P) := Lib.hid ((hat.below b2).more b2.size)
 have HPR : Hid (Calls Tryz.prog 9 #[.agg (xCs awkX P).toArray] w2 fun e w' => e = .returned (.tuple #[.string ⟨awkT.toArray⟩, .int .i64 0]) ∧ Below w2.heap.size w2 w') := Lib.hid (by
  have h := print_any insF awkX P w2 (HTB.out.below HB2.out).now HA2.out (fun _ => awk_pr) (fun w' hb' => icheck_any awkX P w' ((HA2.out.below hb').more hb'.size) awk_lim)
  rw [awk_prn] at h
  exact h)
 have HSZ : Hid (w1.heap.size < w2.heap.size) := Lib.hid (HX2.out.lt)
 clear hb b2 hat hw2 HP
 rw [HW2.out]
 clear HW2
 obtain ⟨q, hq⟩ : ∃ q, w1.heap.size = q := ⟨_, rfl⟩
 rw [hq] at HX2 ⊢
 clear hq
 go_upto_region 4 with (first
  | ((with_reducible refine wpList_loadG sIns _ rfl ⟨q, 0, none⟩ (xCs awkX P) ?_ ?_ ?_ ?_ ?_); exact rfl; exact rfl; exact HX2.out.cells; exact rfl)
  | (go_at_call 9; refine (HPR.out).mono ?_; rintro e3 w3 ⟨rfl, hb3⟩; have HB3 := Lib.hid hb3; clear hb3))
 have c2 : w3.cell? ⟨q, 2, none⟩ = some (.slice P.a2 1 P.c2) := (HX2.out.below HB3.out).cell (j := 2) rfl
 have HST : Hid (Calls Tryz.prog 14 #[.agg #[.int .i64 2, .int .i64 10, .int .i64 20, .int .i64 5]] w3 fun e w' => e = .returned (.string ⟨#[50, 58, 49, 48, 58, 50, 48, 58, 53]⟩) ∧ Below w3.heap.size w3 w') := Lib.hid (by
  have h := sstop_any ⟨2, 10, 20, 5⟩ w3 (HTB.out.below (HB2.out.trans (HB3.out.mono HB2.out.size))).now (fun x hx => by
   simp only [stpN, List.mem_cons, List.not_mem_nil, or_false] at hx
   rcases hx with rfl | rfl | rfl | rfl <;> exact ⟨by decide, by decide⟩)
  rw [awk_stop] at h
  exact h)
 rw [HT'.out]
 go_wp2_with (go_at_call 14; refine (HST.out).mono ?_; rintro e4 w4 ⟨rfl, hb4⟩)
 refine bodyPost_ret (v := .bool true) (by simp [results, Tryz.results8, go_sem]) rfl ⟨rfl, ?_⟩
 exact HB2.out.trans ((HB3.out.trans (hb4.mono HB3.out.size)).mono HB2.out.size)
end Go.Proofs.YthefooacfcagbaaGreatDoor.spc

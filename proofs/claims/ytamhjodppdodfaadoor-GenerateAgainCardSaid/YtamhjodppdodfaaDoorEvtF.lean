/- Which events can be applied. The program. -/
import Derived.Test.YtamhjodppdodfaaDoorEvtE
namespace Go.Proofs.YtamhjodppdodfaaDoor.evt
open Go.RowKit
open Go.Proofs.YtamhjodppdodfaaDoor.lib Go.Proofs.YtamhjodppdodfaaDoor.rd Go.Proofs.YtamhjodppdodfaaDoor.app Go.Proofs.YtamhjodppdodfaaDoor.els Go.Proofs.YtamhjodppdodfaaDoor.off Go.Proofs.YtamhjodppdodfaaDoor.typ Go.Proofs.YtamhjodppdodfaaDoor.big Go.Proofs.YtamhjodppdodfaaDoor.ins Go.Proofs.YtamhjodppdodfaaDoor.ord Go.Proofs.YtamhjodppdodfaaDoor.gen
set_option linter.unusedVariables false
set_option linter.unusedSimpArgs false

theorem chk_hap {x : Ins} {now : Int} {e : Evt} : chkF x now e = if alwF now e = 0 then hapK (hapF x e) else alwF now e := by
  unfold chkF
  by_cases h : alwF now e = 0
  · rw [if_neg (fun g => g h), if_pos h]
    cases hapF x e <;> rfl
  · rw [if_pos h, if_neg h]
set_option maxRecDepth 20000 in
set_option maxHeartbeats 8000000 in
theorem echeck_any (x : Ins) (P : InP) (now : Int) (e : Evt) (C : Option Addr) (c : Nat) (w : World) (h : InAt w w.heap.size x P) (hF : insF x = []) (hC : Ints w w.heap.size C e.order.load) (hf : EvtFits e) :
    Calls Tryd.prog 19 #[InV x P, .int .i64 now, .agg (EvtCells e C c).toArray] w fun en w' => en = .returned (.int .i64 (chkF x now e)) ∧ Below w.heap.size w w' := by
  show Calls Tryd.prog 19 #[InV x P, .int .i64 now, .agg #[.int .i64 e.at_, .int .i64 e.kind, .int .i64 e.a, .int .i64 e.b, .int .i64 e.n, .string e.order.name, .slice C e.order.load.length c, .int .i64 e.order.pick.place, .int .i64 e.order.pick.opn, .int .i64 e.order.pick.close, .int .i64 e.order.pick.service, .int .i64 e.order.drop.place, .int .i64 e.order.drop.opn, .int .i64 e.order.drop.close, .int .i64 e.order.drop.service, .int .i64 e.order.skills, .int .i64 e.order.penalty, .int .i64 e.order.split, .int .i64 e.order.last, .int .i64 e.order.now, .bool e.order.off]] w _
  obtain ⟨W0, hW0⟩ : ∃ W0, (w.alloc (.cells (insCs x P).toArray 30)).alloc (.cells (EvtCells e C c).toArray 42) = W0 := ⟨_, rfl⟩
  have hB0 : Below w.heap.size w W0 := by rw [← hW0]; exact ((Below.refl _ _).alloc (Nat.le_refl _) _).alloc (by simp) _
  have z0 : W0.heap.size = w.heap.size + 2 := by rw [← hW0]; simp
  have b0 : Blk W0 w.heap.size 30 (insCs x P) := by
    rw [← hW0]
    exact (Blk.new w _ _).kept (World.grownBy_alloc _ _ none) (by simp)
  have b1 : Blk W0 (w.heap.size + 1) 42 (EvtCells e C c) := by
    rw [← hW0]
    have h := Blk.new (w.alloc (.cells (insCs x P).toArray 30)) 42 (EvtCells e C c)
    rw [show (w.alloc (.cells (insCs x P).toArray 30)).heap.size = w.heap.size + 1 by simp] at h
    exact h
  have hW1 : (w.alloc (.cells #[.slice P.a0 x.net.places.length P.c0, .slice P.a1 x.net.arcs.length P.c1, .slice P.a2 x.types.length P.c2, .slice P.a3 x.orders.length P.c3, .slice P.a4 x.apart.length P.c4, .slice P.a5 x.before.length P.c5] 30)).alloc (.cells #[.int .i64 e.at_, .int .i64 e.kind, .int .i64 e.a, .int .i64 e.b, .int .i64 e.n, .string e.order.name, .slice C e.order.load.length c, .int .i64 e.order.pick.place, .int .i64 e.order.pick.opn, .int .i64 e.order.pick.close, .int .i64 e.order.pick.service, .int .i64 e.order.drop.place, .int .i64 e.order.drop.opn, .int .i64 e.order.drop.close, .int .i64 e.order.drop.service, .int .i64 e.order.skills, .int .i64 e.order.penalty, .int .i64 e.order.split, .int .i64 e.order.last, .int .i64 e.order.now, .bool e.order.off] 42) = W0 := hW0
  have HX := Lib.hid (fun w' (h' : Below W0.heap.size W0 w') => And.intro (b0.below h') (b1.below h'))
  have HI := Lib.hid (fun w' (h' : Below w.heap.size w w') => h.go h')
  have HW1 := Lib.hid hW1
  have HF := Lib.hid hF
  have HFT := Lib.hid hf
  have HCC := Lib.hid hC
  have C0 := Below.refl W0.heap.size W0
  clear hW0 hW1 b0 b1 h hF hC hf
  simp only [InV]
  obtain ⟨r, hr⟩ : ∃ r, chkF x now e = r := ⟨_, rfl⟩
  have HR : Hid (r = if alwF now e = 0 then hapK (hapF x e) else alwF now e) := Lib.hid (by rw [← hr]; exact chk_hap)
  rw [hr]
  clear hr
  go_enter Tryd.func19, Tryd.ntmps19
  go_upto_region 1 with fail
  rw [HW1.out]
  clear HW1
  go_wp2_with ((with_reducible refine wpList_loadG stEvt _ rfl ⟨(w.heap.size + 1), 0, none⟩ (EvtCells e C c) ?_ ?_ ?_ ?_ ?_); exact rfl; exact rfl; exact (HX.out _ C0).2.cells; exact rfl)
  refine (allowed_any now e C c W0).mono ?_
  rintro e2 w1 ⟨rfl, b1⟩
  have HB1 := Lib.hid b1
  have HBW := Lib.hid (hB0.trans (b1.mono (by omega)))
  have HX1 := Lib.hid (HX.out _ b1)
  clear b1
  obtain ⟨k, hk⟩ : ∃ k, alwF now e = k := ⟨_, rfl⟩
  rw [hk] at HR ⊢
  clear hk
  by_cases hk0 : k = 0
  · have HR2 : Hid (r = hapK (hapF x e)) := Lib.hid (by rw [HR.out, if_pos hk0])
    have hkk : (k != 0) = false := by simp [hk0]
    clear HR hk0
    go_wp2_with (first
      | ((with_reducible refine wpList_loadG stIns _ rfl ⟨w.heap.size, 0, none⟩ (insCs (x) P) ?_ ?_ ?_ ?_ ?_); exact rfl; exact rfl; exact HX1.out.1.cells; exact rfl)
      | ((with_reducible refine wpList_loadG stEvt _ rfl ⟨(w.heap.size + 1), 0, none⟩ (EvtCells e C c) ?_ ?_ ?_ ?_ ?_); exact rfl; exact rfl; exact HX1.out.2.cells; exact rfl))
    refine (happens_any x P e C c w1 (HI.out _ HBW.out) HF.out ((HCC.out.below HBW.out).more HBW.out.size) HFT.out).mono ?_
    rw [← HR2.out]
    rintro e3 w2 ⟨Y, Q, rfl, b2⟩
    have HB2 := Lib.hid (HBW.out.trans (b2.mono HBW.out.size))
    clear b2
    go_wp2_with fail
    go_ret
    exact ⟨rfl, HB2.out.alloc HB2.out.size _⟩
  · have HR2 : Hid (r = k) := Lib.hid (by rw [HR.out, if_neg hk0])
    have hkk : (k != 0) = true := by simp [hk0]
    clear HR hk0
    go_wp2_with fail
    go_ret
    exact ⟨by rw [HR2.out]; rfl, HBW.out⟩
end Go.Proofs.YtamhjodppdodfaaDoor.evt

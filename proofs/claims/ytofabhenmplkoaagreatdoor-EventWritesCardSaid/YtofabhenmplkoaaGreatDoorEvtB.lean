/- Events: which fields are clean; what their numbers allow. The program. -/
import Derived.Test.YtofabhenmplkoaaGreatDoorEvtA
namespace Go.Proofs.YtofabhenmplkoaaGreatDoor.evt
open Go.RowKit
open Go.Proofs.YtofabhenmplkoaaGreatDoor.lib Go.Proofs.YtofabhenmplkoaaGreatDoor.rd Go.Proofs.YtofabhenmplkoaaGreatDoor.app Go.Proofs.YtofabhenmplkoaaGreatDoor.els Go.Proofs.YtofabhenmplkoaaGreatDoor.typ Go.Proofs.YtofabhenmplkoaaGreatDoor.big Go.Proofs.YtofabhenmplkoaaGreatDoor.ins Go.Proofs.YtofabhenmplkoaaGreatDoor.ord Go.Proofs.YtofabhenmplkoaaGreatDoor.gen
set_option linter.unusedVariables false
set_option linter.unusedSimpArgs false

theorem ord_evt {w : World} {b : Nat} {e : Evt} {C : Option Addr} {c : Nat} (h : Blk w b 37 (EvtCells e C c)) : CellsAt w ⟨b, 5, none⟩ (OrdCells e.order C c) := fun j u hu => by
  have h1 := h.cells (j + 5) u (by show (OrdCells e.order C c)[j]? = some u; exact hu)
  rw [Addr.add_mid] at h1 ⊢
  rw [show 5 + j = 0 + (j + 5) by omega]
  exact h1
set_option maxRecDepth 20000 in
set_option maxHeartbeats 4000000 in
theorem clean_any (e : Evt) (C : Option Addr) (c : Nat) (w : World) : Calls Tryz.prog 63 #[.agg (EvtCells e C c).toArray] w fun en w' => en = .returned (.bool (cleanB e)) ∧ Below w.heap.size w w' := by
  show Calls Tryz.prog 63 #[.agg #[.int .i64 e.at_, .int .i64 e.kind, .int .i64 e.a, .int .i64 e.b, .int .i64 e.n, .string e.order.name, .slice C e.order.load.length c, .int .i64 e.order.pick.place, .int .i64 e.order.pick.opn, .int .i64 e.order.pick.close, .int .i64 e.order.pick.service, .int .i64 e.order.drop.place, .int .i64 e.order.drop.opn, .int .i64 e.order.drop.close, .int .i64 e.order.drop.service, .int .i64 e.order.skills, .int .i64 e.order.penalty, .int .i64 e.order.split, .int .i64 e.order.last, .int .i64 e.order.now, .bool e.order.off]] w _
  obtain ⟨W0, hW0⟩ : ∃ W0, w.alloc (.cells (EvtCells e C c).toArray 37) = W0 := ⟨_, rfl⟩
  have hB0 : Below w.heap.size w W0 := by rw [← hW0]; exact (Below.refl _ _).alloc (Nat.le_refl _) _
  have z0 := hB0.size
  have b0 : Blk W0 w.heap.size 37 (EvtCells e C c) := by rw [← hW0]; exact Blk.new w _ _
  have HE0 := Lib.hid b0
  have hW1 : w.alloc (.cells #[.int .i64 e.at_, .int .i64 e.kind, .int .i64 e.a, .int .i64 e.b, .int .i64 e.n, .string e.order.name, .slice C e.order.load.length c, .int .i64 e.order.pick.place, .int .i64 e.order.pick.opn, .int .i64 e.order.pick.close, .int .i64 e.order.pick.service, .int .i64 e.order.drop.place, .int .i64 e.order.drop.opn, .int .i64 e.order.drop.close, .int .i64 e.order.drop.service, .int .i64 e.order.skills, .int .i64 e.order.penalty, .int .i64 e.order.split, .int .i64 e.order.last, .int .i64 e.order.now, .bool e.order.off] 37) = W0 := hW0
  have HW1 := Lib.hid hW1
  have c0 := b0.cell (j := 0) rfl
  have c1 := b0.cell (j := 1) rfl
  have c2 := b0.cell (j := 2) rfl
  have c3 := b0.cell (j := 3) rfl
  have c4 := b0.cell (j := 4) rfl
  clear hW0 hW1 b0
  obtain ⟨k1, hk1⟩ : ∃ q, (e.kind == 1) = q := ⟨_, rfl⟩
  obtain ⟨k3, hk3⟩ : ∃ q, (e.kind == 3) = q := ⟨_, rfl⟩
  obtain ⟨k5, hk5⟩ : ∃ q, (e.kind == 5) = q := ⟨_, rfl⟩
  obtain ⟨qa, hqa⟩ : ∃ q, (e.a == 0) = q := ⟨_, rfl⟩
  obtain ⟨qb, hqb⟩ : ∃ q, (e.b == 0) = q := ⟨_, rfl⟩
  obtain ⟨qn, hqn⟩ : ∃ q, (e.n == 0) = q := ⟨_, rfl⟩
  have HR0 : Hid (cleanB e = (if k1 = true then qa && (qb && qn) else if k3 = true then blankB e.order else if k5 = true then qb && blankB e.order else qb && (qn && blankB e.order))) := Lib.hid (by
    unfold cleanB
    rw [← hk1, ← hk3, ← hk5, ← hqa, ← hqb, ← hqn]
    simp only [beq_iff_eq])
  go_enter Tryz.func63, Tryz.ntmps63
  go_upto_region 1 with fail
  rw [HW1.out]
  clear HW1
  cases k1
  · cases k3
    · cases k5
      · cases qb
        · have HR : Hid (cleanB e = false) := Lib.hid (by rw [HR0.out]; rfl)
          go_wp2_with fail
          go_ret
          exact ⟨by rw [HR.out]; rfl, hB0⟩
        cases qn
        · have HR : Hid (cleanB e = false) := Lib.hid (by rw [HR0.out]; rfl)
          go_wp2_with fail
          go_ret
          exact ⟨by rw [HR.out]; rfl, hB0⟩
        have HR : Hid (cleanB e = blankB e.order) := Lib.hid (by rw [HR0.out]; rfl)
        go_wp2_with ((with_reducible refine wpList_loadG stOrd' _ rfl ⟨w.heap.size, 5, none⟩ (OrdCells e.order C c) ?_ ?_ ?_ ?_ ?_); exact rfl; exact rfl; exact (ord_evt HE0.out); exact rfl)
        refine (zero_any e.order C c _).mono ?_
        rintro e2 w2 ⟨rfl, b2⟩
        have HB2 := Lib.hid (hB0.trans (b2.mono z0))
        clear b2
        go_wp2_with fail
        go_ret
        exact ⟨by rw [HR.out]; rfl, HB2.out⟩
      · cases qb
        · have HR : Hid (cleanB e = false) := Lib.hid (by rw [HR0.out]; rfl)
          go_wp2_with fail
          go_ret
          exact ⟨by rw [HR.out]; rfl, hB0⟩
        have HR : Hid (cleanB e = blankB e.order) := Lib.hid (by rw [HR0.out]; rfl)
        go_wp2_with ((with_reducible refine wpList_loadG stOrd' _ rfl ⟨w.heap.size, 5, none⟩ (OrdCells e.order C c) ?_ ?_ ?_ ?_ ?_); exact rfl; exact rfl; exact (ord_evt HE0.out); exact rfl)
        refine (zero_any e.order C c _).mono ?_
        rintro e2 w2 ⟨rfl, b2⟩
        have HB2 := Lib.hid (hB0.trans (b2.mono z0))
        clear b2
        go_wp2_with fail
        go_ret
        exact ⟨by rw [HR.out]; rfl, HB2.out⟩
    · have HR : Hid (cleanB e = blankB e.order) := Lib.hid (by rw [HR0.out]; rfl)
      go_wp2_with ((with_reducible refine wpList_loadG stOrd' _ rfl ⟨w.heap.size, 5, none⟩ (OrdCells e.order C c) ?_ ?_ ?_ ?_ ?_); exact rfl; exact rfl; exact (ord_evt HE0.out); exact rfl)
      refine (zero_any e.order C c _).mono ?_
      rintro e2 w2 ⟨rfl, b2⟩
      have HB2 := Lib.hid (hB0.trans (b2.mono z0))
      clear b2
      go_wp2_with fail
      go_ret
      exact ⟨by rw [HR.out]; rfl, HB2.out⟩
  · cases qa
    · have HR : Hid (cleanB e = false) := Lib.hid (by rw [HR0.out]; rfl)
      go_wp2_with fail
      go_ret
      exact ⟨by rw [HR.out]; rfl, hB0⟩
    cases qb
    · have HR : Hid (cleanB e = false) := Lib.hid (by rw [HR0.out]; rfl)
      go_wp2_with fail
      go_ret
      exact ⟨by rw [HR.out]; rfl, hB0⟩
    have HR : Hid (cleanB e = qn) := Lib.hid (by rw [HR0.out]; rfl)
    cases qn
    · skip
      go_wp2_with fail
      go_ret
      exact ⟨by rw [HR.out]; rfl, hB0⟩
    · skip
      go_wp2_with fail
      go_ret
      exact ⟨by rw [HR.out]; rfl, hB0⟩
theorem word_emp (k : Int) : (wordS k).toList.isEmpty = decide ¬(1 ≤ k ∧ k ≤ 5) := by
  by_cases h : 1 ≤ k ∧ k ≤ 5
  · have hk : k = 1 ∨ k = 2 ∨ k = 3 ∨ k = 4 ∨ k = 5 := by omega
    rcases hk with rfl | rfl | rfl | rfl | rfl <;> decide +kernel
  · rw [decide_eq_true h]
    unfold wordS
    rw [if_neg (by omega), if_neg (by omega), if_neg (by omega), if_neg (by omega), if_neg (by omega)]
    decide +kernel
set_option maxRecDepth 20000 in
set_option maxHeartbeats 4000000 in
theorem allowed_any (now : Int) (e : Evt) (C : Option Addr) (c : Nat) (w : World) : Calls Tryz.prog 45 #[.int .i64 now, .agg (EvtCells e C c).toArray] w fun en w' => en = .returned (.int .i64 (alwF now e)) ∧ Below w.heap.size w w' := by
  show Calls Tryz.prog 45 #[.int .i64 now, .agg #[.int .i64 e.at_, .int .i64 e.kind, .int .i64 e.a, .int .i64 e.b, .int .i64 e.n, .string e.order.name, .slice C e.order.load.length c, .int .i64 e.order.pick.place, .int .i64 e.order.pick.opn, .int .i64 e.order.pick.close, .int .i64 e.order.pick.service, .int .i64 e.order.drop.place, .int .i64 e.order.drop.opn, .int .i64 e.order.drop.close, .int .i64 e.order.drop.service, .int .i64 e.order.skills, .int .i64 e.order.penalty, .int .i64 e.order.split, .int .i64 e.order.last, .int .i64 e.order.now, .bool e.order.off]] w _
  obtain ⟨W0, hW0⟩ : ∃ W0, w.alloc (.cells (EvtCells e C c).toArray 37) = W0 := ⟨_, rfl⟩
  have hB0 : Below w.heap.size w W0 := by rw [← hW0]; exact (Below.refl _ _).alloc (Nat.le_refl _) _
  have z0 := hB0.size
  have b0 : Blk W0 w.heap.size 37 (EvtCells e C c) := by rw [← hW0]; exact Blk.new w _ _
  have HE0 := Lib.hid b0
  have hW1 : w.alloc (.cells #[.int .i64 e.at_, .int .i64 e.kind, .int .i64 e.a, .int .i64 e.b, .int .i64 e.n, .string e.order.name, .slice C e.order.load.length c, .int .i64 e.order.pick.place, .int .i64 e.order.pick.opn, .int .i64 e.order.pick.close, .int .i64 e.order.pick.service, .int .i64 e.order.drop.place, .int .i64 e.order.drop.opn, .int .i64 e.order.drop.close, .int .i64 e.order.drop.service, .int .i64 e.order.skills, .int .i64 e.order.penalty, .int .i64 e.order.split, .int .i64 e.order.last, .int .i64 e.order.now, .bool e.order.off] 37) = W0 := hW0
  have HW1 := Lib.hid hW1
  have c0 := b0.cell (j := 0) rfl
  have c1 := b0.cell (j := 1) rfl
  have c2 := b0.cell (j := 2) rfl
  have c3 := b0.cell (j := 3) rfl
  have c4 := b0.cell (j := 4) rfl
  clear hW0 hW1 b0
  go_enter Tryz.func45, Tryz.ntmps45
  go_upto_region 1 with fail
  rw [HW1.out]
  clear HW1
  by_cases h1 : e.at_ < 0
  · have HR : Hid (alwF now e = 2) := Lib.hid (by unfold alwF tkB; rw [if_pos (by simp; omega)])
    go_wp2_with fail
    go_ret
    exact ⟨by rw [HR.out]; rfl, hB0⟩
  by_cases h2 : 4096 < e.at_
  · have HR : Hid (alwF now e = 2) := Lib.hid (by unfold alwF tkB; rw [if_pos (by simp; omega)])
    go_wp2_with fail
    go_ret
    exact ⟨by rw [HR.out]; rfl, hB0⟩
  have HT : Hid (¬ ¬ tkB e.at_ = true) := Lib.hid (by unfold tkB; simp; omega)
  by_cases h3 : e.at_ < now
  · have HR : Hid (alwF now e = 32) := Lib.hid (by unfold alwF; rw [if_neg HT.out, if_pos h3])
    go_wp2_with fail
    go_ret
    exact ⟨by rw [HR.out]; rfl, hB0⟩
  have HT2 : Hid (alwF now e = if ¬ (1 ≤ e.kind ∧ e.kind ≤ 5) then 8 else if ¬ cleanB e = true then 2 else 0) := Lib.hid (by unfold alwF; rw [if_neg HT.out, if_neg h3])
  go_wp2_with fail
  refine (word_any e.kind _).mono ?_
  rintro e2 w2 ⟨rfl, b2⟩
  have HB2 := Lib.hid (hB0.trans (b2.mono z0))
  have HE2 := Lib.hid (HE0.out.below b2)
  have hwe := word_emp e.kind
  clear b2 h1 h2 h3
  by_cases h4 : 1 ≤ e.kind ∧ e.kind ≤ 5
  · rw [decide_eq_false (fun h => h h4)] at hwe
    have HT3 : Hid (alwF now e = if ¬ cleanB e = true then 2 else 0) := Lib.hid (by rw [HT2.out, if_neg (fun h => h h4)])
    obtain ⟨s, hs⟩ : ∃ s, wordS e.kind = s := ⟨_, rfl⟩
    rw [hs] at hwe ⊢
    clear h4 hs
    go_wp2_with ((with_reducible refine wpList_loadG stEvt _ rfl ⟨w.heap.size, 0, none⟩ (EvtCells e C c) ?_ ?_ ?_ ?_ ?_); exact rfl; exact rfl; exact HE2.out.cells; exact rfl)
    refine (clean_any e C c _).mono ?_
    rintro e3 w3 ⟨rfl, b3⟩
    have HB3 := Lib.hid (HB2.out.trans (b3.mono HB2.out.size))
    clear b3
    obtain ⟨q, hq⟩ : ∃ q, cleanB e = q := ⟨_, rfl⟩
    rw [hq]
    have HR : Hid (alwF now e = if ¬ q = true then 2 else 0) := Lib.hid (by rw [HT3.out, hq])
    cases q
    · go_wp2_with fail
      go_ret
      exact ⟨by rw [HR.out]; rfl, HB3.out⟩
    · go_wp2_with fail
      go_ret
      exact ⟨by rw [HR.out]; rfl, HB3.out⟩
  · rw [decide_eq_true h4] at hwe
    have HR : Hid (alwF now e = 8) := Lib.hid (by rw [HT2.out, if_pos h4])
    obtain ⟨s, hs⟩ : ∃ s, wordS e.kind = s := ⟨_, rfl⟩
    rw [hs] at hwe ⊢
    clear h4 hs
    go_wp2_with fail
    go_ret
    exact ⟨by rw [HR.out]; rfl, HB2.out⟩
end Go.Proofs.YtofabhenmplkoaaGreatDoor.evt

/- Events: their kinds' words, and which fields are clean. The program. -/
import Derived.Test.YtofabhenmplkoaaGreatDoorEvtP
import Derived.Test.YtofabhenmplkoaaGreatDoorInsV
import Derived.Test.YtofabhenmplkoaaGreatDoorGenA
import Derived.Deep.DeepCutAuto
namespace Go.Proofs.YtofabhenmplkoaaGreatDoor.evt
open Go.RowKit
open Go.Proofs.YtofabhenmplkoaaGreatDoor.lib Go.Proofs.YtofabhenmplkoaaGreatDoor.rd Go.Proofs.YtofabhenmplkoaaGreatDoor.app Go.Proofs.YtofabhenmplkoaaGreatDoor.els Go.Proofs.YtofabhenmplkoaaGreatDoor.typ Go.Proofs.YtofabhenmplkoaaGreatDoor.big Go.Proofs.YtofabhenmplkoaaGreatDoor.ins Go.Proofs.YtofabhenmplkoaaGreatDoor.ord Go.Proofs.YtofabhenmplkoaaGreatDoor.gen
set_option linter.unusedVariables false
set_option linter.unusedSimpArgs false

theorem stEvt : StructOf 37 21 := ⟨⟨_, Tryz.underlying37⟩, by kernel_rfl⟩
/-- The word of a kind. -/
def wordS (k : Int) : ByteArray := if k = 1 then ⟨#[111, 114, 100, 101, 114]⟩ else if k = 2 then ⟨#[99, 97, 110, 99, 101, 108]⟩ else if k = 3 then ⟨#[100, 101, 108, 97, 121]⟩ else if k = 4 then ⟨#[98, 114, 101, 97, 107]⟩ else if k = 5 then ⟨#[115, 104, 105, 102, 116]⟩ else ⟨#[]⟩
set_option maxRecDepth 20000 in
theorem word_any (k : Int) (w : World) : Calls Tryz.prog 62 #[.int .i64 k] w fun e w' => e = .returned (.string (wordS k)) ∧ Below w.heap.size w w' := by
  have HB : Hid (∀ o, Below w.heap.size w (w.alloc o)) := Lib.hid (fun o => (Below.refl _ _).alloc (Nat.le_refl _) _)
  by_cases h0 : k < 0
  · have HW : Hid (wordS k = ⟨#[]⟩) := Lib.hid (by unfold wordS; rw [if_neg (by omega), if_neg (by omega), if_neg (by omega), if_neg (by omega), if_neg (by omega)])
    go_enter Tryz.func62, Tryz.ntmps62
    go_wp2
    go_ret
    exact ⟨by rw [HW.out]; rfl, HB.out _⟩
  by_cases h6 : 6 ≤ k
  · have HW : Hid (wordS k = ⟨#[]⟩) := Lib.hid (by unfold wordS; rw [if_neg (by omega), if_neg (by omega), if_neg (by omega), if_neg (by omega), if_neg (by omega)])
    go_enter Tryz.func62, Tryz.ntmps62
    go_wp2
    go_ret
    exact ⟨by rw [HW.out]; rfl, HB.out _⟩
  have hk : k = 0 ∨ k = 1 ∨ k = 2 ∨ k = 3 ∨ k = 4 ∨ k = 5 := by omega
  clear h0 h6
  rcases hk with rfl | rfl | rfl | rfl | rfl | rfl
  all_goals go_enter Tryz.func62, Tryz.ntmps62
  all_goals go_wp2
  all_goals go_ret
  all_goals exact ⟨rfl, HB.out _⟩
set_option maxRecDepth 20000 in
set_option maxHeartbeats 4000000 in
theorem zero_any (o : Ord) (C : Option Addr) (c : Nat) (w : World) : Calls Tryz.prog 120 #[.agg (OrdCells o C c).toArray] w fun e w' => e = .returned (.bool (blankB o)) ∧ Below w.heap.size w w' := by
  show Calls Tryz.prog 120 #[.agg #[.string o.name, .slice C o.load.length c, .int .i64 o.pick.place, .int .i64 o.pick.opn, .int .i64 o.pick.close, .int .i64 o.pick.service, .int .i64 o.drop.place, .int .i64 o.drop.opn, .int .i64 o.drop.close, .int .i64 o.drop.service, .int .i64 o.skills, .int .i64 o.penalty, .int .i64 o.split, .int .i64 o.last, .int .i64 o.now, .bool o.off]] w _
  obtain ⟨W0, hW0⟩ : ∃ W0, w.alloc (.cells (OrdCells o C c).toArray 35) = W0 := ⟨_, rfl⟩
  have hB0 : Below w.heap.size w W0 := by rw [← hW0]; exact (Below.refl _ _).alloc (Nat.le_refl _) _
  have b0 : Blk W0 w.heap.size 35 (OrdCells o C c) := by rw [← hW0]; exact Blk.new w _ _
  have hW1 : w.alloc (.cells #[.string o.name, .slice C o.load.length c, .int .i64 o.pick.place, .int .i64 o.pick.opn, .int .i64 o.pick.close, .int .i64 o.pick.service, .int .i64 o.drop.place, .int .i64 o.drop.opn, .int .i64 o.drop.close, .int .i64 o.drop.service, .int .i64 o.skills, .int .i64 o.penalty, .int .i64 o.split, .int .i64 o.last, .int .i64 o.now, .bool o.off] 35) = W0 := hW0
  have HW1 := Lib.hid hW1
  have c0 := b0.cell (j := 0) rfl
  have c1 := b0.cell (j := 1) rfl
  have c2 := b0.cell (j := 2) rfl
  have c3 := b0.cell (j := 3) rfl
  have c4 := b0.cell (j := 4) rfl
  have c5 := b0.cell (j := 5) rfl
  have c6 := b0.cell (j := 6) rfl
  have c7 := b0.cell (j := 7) rfl
  have c8 := b0.cell (j := 8) rfl
  have c9 := b0.cell (j := 9) rfl
  have c10 := b0.cell (j := 10) rfl
  have c11 := b0.cell (j := 11) rfl
  have c12 := b0.cell (j := 12) rfl
  have c13 := b0.cell (j := 13) rfl
  have c14 := b0.cell (j := 14) rfl
  have c15 := b0.cell (j := 15) rfl
  clear hW0 hW1 b0
  obtain ⟨q2, hq2⟩ : ∃ q, ((o.load.length : Int) == 0) = q := ⟨_, rfl⟩
  obtain ⟨q5, hq5⟩ : ∃ q, (o.skills == 0) = q := ⟨_, rfl⟩
  obtain ⟨q6, hq6⟩ : ∃ q, (o.penalty == 0) = q := ⟨_, rfl⟩
  obtain ⟨q7, hq7⟩ : ∃ q, (o.split == 0) = q := ⟨_, rfl⟩
  obtain ⟨q8, hq8⟩ : ∃ q, (o.last == 0) = q := ⟨_, rfl⟩
  obtain ⟨q9, hq9⟩ : ∃ q, (o.now == 0) = q := ⟨_, rfl⟩
  have HR0 : Hid (blankB o = (decide (o.name.toList = []) && (q2 && ((o.pick.place == 0 && (o.pick.opn == 0 && (o.pick.close == 0 && o.pick.service == 0))) && ((o.drop.place == 0 && (o.drop.opn == 0 && (o.drop.close == 0 && o.drop.service == 0))) && (q5 && (q6 && (q7 && (q8 && (q9 && !o.off)))))))))) := Lib.hid (by
    unfold blankB stpZ
    rw [hq2, hq5, hq6, hq7, hq8, hq9])
  go_enter Tryz.func120, Tryz.ntmps120
  go_upto_region 1 with fail
  rw [HW1.out]
  clear HW1
  by_cases h1 : ¬ o.name.toList = []
  · have HR : Hid (blankB o = false) := Lib.hid (by rw [HR0.out, decide_eq_false h1]; rfl)
    go_wp2_with fail
    go_ret
    exact ⟨by rw [HR.out]; rfl, hB0⟩
  have h1 : o.name.toList = [] := Decidable.not_not.1 h1
  cases q2
  · have HR : Hid (blankB o = false) := Lib.hid (by rw [HR0.out]; simp)
    go_wp2_with fail
    go_ret
    exact ⟨by rw [HR.out]; rfl, hB0⟩
  by_cases h : ¬ o.pick.place = 0
  · have HR : Hid (blankB o = false) := Lib.hid (by rw [HR0.out]; simp [h])
    go_wp2_with fail
    go_ret
    exact ⟨by rw [HR.out]; rfl, hB0⟩
  have hpickplace : o.pick.place = 0 := Decidable.not_not.1 h
  clear h
  by_cases h : ¬ o.pick.opn = 0
  · have HR : Hid (blankB o = false) := Lib.hid (by rw [HR0.out]; simp [h])
    go_wp2_with fail
    go_ret
    exact ⟨by rw [HR.out]; rfl, hB0⟩
  have hpickopn : o.pick.opn = 0 := Decidable.not_not.1 h
  clear h
  by_cases h : ¬ o.pick.close = 0
  · have HR : Hid (blankB o = false) := Lib.hid (by rw [HR0.out]; simp [h])
    go_wp2_with fail
    go_ret
    exact ⟨by rw [HR.out]; rfl, hB0⟩
  have hpickclose : o.pick.close = 0 := Decidable.not_not.1 h
  clear h
  by_cases h : ¬ o.pick.service = 0
  · have HR : Hid (blankB o = false) := Lib.hid (by rw [HR0.out]; simp [h])
    go_wp2_with fail
    go_ret
    exact ⟨by rw [HR.out]; rfl, hB0⟩
  have hpickservice : o.pick.service = 0 := Decidable.not_not.1 h
  clear h
  by_cases h : ¬ o.drop.place = 0
  · have HR : Hid (blankB o = false) := Lib.hid (by rw [HR0.out]; simp [h])
    go_wp2_with fail
    go_ret
    exact ⟨by rw [HR.out]; rfl, hB0⟩
  have hdropplace : o.drop.place = 0 := Decidable.not_not.1 h
  clear h
  by_cases h : ¬ o.drop.opn = 0
  · have HR : Hid (blankB o = false) := Lib.hid (by rw [HR0.out]; simp [h])
    go_wp2_with fail
    go_ret
    exact ⟨by rw [HR.out]; rfl, hB0⟩
  have hdropopn : o.drop.opn = 0 := Decidable.not_not.1 h
  clear h
  by_cases h : ¬ o.drop.close = 0
  · have HR : Hid (blankB o = false) := Lib.hid (by rw [HR0.out]; simp [h])
    go_wp2_with fail
    go_ret
    exact ⟨by rw [HR.out]; rfl, hB0⟩
  have hdropclose : o.drop.close = 0 := Decidable.not_not.1 h
  clear h
  by_cases h : ¬ o.drop.service = 0
  · have HR : Hid (blankB o = false) := Lib.hid (by rw [HR0.out]; simp [h])
    go_wp2_with fail
    go_ret
    exact ⟨by rw [HR.out]; rfl, hB0⟩
  have hdropservice : o.drop.service = 0 := Decidable.not_not.1 h
  clear h
  cases q5
  · have HR : Hid (blankB o = false) := Lib.hid (by rw [HR0.out]; simp)
    go_wp2_with fail
    go_ret
    exact ⟨by rw [HR.out]; rfl, hB0⟩
  cases q6
  · have HR : Hid (blankB o = false) := Lib.hid (by rw [HR0.out]; simp)
    go_wp2_with fail
    go_ret
    exact ⟨by rw [HR.out]; rfl, hB0⟩
  cases q7
  · have HR : Hid (blankB o = false) := Lib.hid (by rw [HR0.out]; simp)
    go_wp2_with fail
    go_ret
    exact ⟨by rw [HR.out]; rfl, hB0⟩
  cases q8
  · have HR : Hid (blankB o = false) := Lib.hid (by rw [HR0.out]; simp)
    go_wp2_with fail
    go_ret
    exact ⟨by rw [HR.out]; rfl, hB0⟩
  cases q9
  · have HR : Hid (blankB o = false) := Lib.hid (by rw [HR0.out]; simp)
    go_wp2_with fail
    go_ret
    exact ⟨by rw [HR.out]; rfl, hB0⟩
  have HR : Hid (blankB o = !o.off) := Lib.hid (by rw [HR0.out]; simp [h1, hpickplace, hpickopn, hpickclose, hpickservice, hdropplace, hdropopn, hdropclose, hdropservice])
  go_wp2_with fail
  go_ret
  exact ⟨by rw [HR.out]; rfl, hB0⟩
end Go.Proofs.YtofabhenmplkoaaGreatDoor.evt

import Derived.Test.YtofabhenmplkoaaGreatDoorEvtC
import Derived.Test.YtofabhenmplkoaaGreatDoorStrU
import Derived.Test.YtofabhenmplkoaaGreatDoorPrtC
import Derived.Test.YtofabhenmplkoaaGreatDoorPrsQ
import Derived.Test.YtofabhenmplkoaaGreatDoorPrsC
import Derived.Test.YtofabhenmplkoaaGreatDoorPrsD
/- Events: fields, orders that are there. The reference. -/
namespace Go.Proofs.YtofabhenmplkoaaGreatDoor.evt
open Go.RowKit
open Go.Proofs.YtofabhenmplkoaaGreatDoor.lib Go.Proofs.YtofabhenmplkoaaGreatDoor.rd Go.Proofs.YtofabhenmplkoaaGreatDoor.app Go.Proofs.YtofabhenmplkoaaGreatDoor.els Go.Proofs.YtofabhenmplkoaaGreatDoor.typ Go.Proofs.YtofabhenmplkoaaGreatDoor.big Go.Proofs.YtofabhenmplkoaaGreatDoor.ins Go.Proofs.YtofabhenmplkoaaGreatDoor.ord Go.Proofs.YtofabhenmplkoaaGreatDoor.gen
set_option linter.unusedVariables false
set_option linter.unusedSimpArgs false

set_option maxRecDepth 20000 in
set_option maxHeartbeats 4000000 in
theorem rblank_any (o : Ord) (C : Option Addr) (c : Nat) (w : World) : Calls Tryz.prog 107 #[.agg (OrdCells o C c).toArray] w fun e w' => e = .returned (.bool (blankB o)) ∧ Below w.heap.size w w' := by
  show Calls Tryz.prog 107 #[.agg #[.string o.name, .slice C o.load.length c, .int .i64 o.pick.place, .int .i64 o.pick.opn, .int .i64 o.pick.close, .int .i64 o.pick.service, .int .i64 o.drop.place, .int .i64 o.drop.opn, .int .i64 o.drop.close, .int .i64 o.drop.service, .int .i64 o.skills, .int .i64 o.penalty, .int .i64 o.split, .int .i64 o.last, .int .i64 o.now, .bool o.off]] w _
  obtain ⟨W0, hW0⟩ : ∃ W0, w.alloc (.cells (OrdCells o C c).toArray 35) = W0 := ⟨_, rfl⟩
  have hB0 : Below w.heap.size w W0 := by rw [← hW0]; exact (Below.refl _ _).alloc (Nat.le_refl _) _
  have b0 : Blk W0 w.heap.size 35 (OrdCells o C c) := by rw [← hW0]; exact Blk.new w _ _
  have hW1 : w.alloc (.cells #[.string o.name, .slice C o.load.length c, .int .i64 o.pick.place, .int .i64 o.pick.opn, .int .i64 o.pick.close, .int .i64 o.pick.service, .int .i64 o.drop.place, .int .i64 o.drop.opn, .int .i64 o.drop.close, .int .i64 o.drop.service, .int .i64 o.skills, .int .i64 o.penalty, .int .i64 o.split, .int .i64 o.last, .int .i64 o.now, .bool o.off] 35) = W0 := hW0
  have HW1 := Lib.hid hW1
  have c0 := b0.cell (j := 0) rfl
  have c1 := b0.cell (j := 1) rfl
  have c2 := b0.cell (j := 2) rfl
  have c3 := b0.cell (j := 3) rfl
  have c4 := b0.cell (j := 4) rfl
  have c5 := b0.cell (j := 5) rfl
  have c6 := b0.cell (j := 6) rfl
  have c7 := b0.cell (j := 7) rfl
  have c8 := b0.cell (j := 8) rfl
  have c9 := b0.cell (j := 9) rfl
  have c10 := b0.cell (j := 10) rfl
  have c11 := b0.cell (j := 11) rfl
  have c12 := b0.cell (j := 12) rfl
  have c13 := b0.cell (j := 13) rfl
  have c14 := b0.cell (j := 14) rfl
  have c15 := b0.cell (j := 15) rfl
  clear hW0 hW1 b0
  obtain ⟨q2, hq2⟩ : ∃ q, ((o.load.length : Int) == 0) = q := ⟨_, rfl⟩
  obtain ⟨q5, hq5⟩ : ∃ q, (o.skills == 0) = q := ⟨_, rfl⟩
  obtain ⟨q6, hq6⟩ : ∃ q, (o.penalty == 0) = q := ⟨_, rfl⟩
  obtain ⟨q7, hq7⟩ : ∃ q, (o.split == 0) = q := ⟨_, rfl⟩
  obtain ⟨q8, hq8⟩ : ∃ q, (o.last == 0) = q := ⟨_, rfl⟩
  obtain ⟨q9, hq9⟩ : ∃ q, (o.now == 0) = q := ⟨_, rfl⟩
  have HR0 : Hid (blankB o = (decide (o.name.toList = []) && (q2 && ((o.pick.place == 0 && (o.pick.opn == 0 && (o.pick.close == 0 && o.pick.service == 0))) && ((o.drop.place == 0 && (o.drop.opn == 0 && (o.drop.close == 0 && o.drop.service == 0))) && (q5 && (q6 && (q7 && (q8 && (q9 && !o.off)))))))))) := Lib.hid (by
    unfold blankB stpZ
    rw [hq2, hq5, hq6, hq7, hq8, hq9])
  go_enter Tryz.func107, Tryz.ntmps107
  go_upto_region 1 with fail
  rw [HW1.out]
  clear HW1
  by_cases h1 : ¬ o.name.toList = []
  · have HR : Hid (blankB o = false) := Lib.hid (by rw [HR0.out, decide_eq_false h1]; rfl)
    go_wp2_with fail
    go_ret
    exact ⟨by rw [HR.out]; rfl, hB0⟩
  have h1 : o.name.toList = [] := Decidable.not_not.1 h1
  cases q2
  · have HR : Hid (blankB o = false) := Lib.hid (by rw [HR0.out]; simp)
    go_wp2_with fail
    go_ret
    exact ⟨by rw [HR.out]; rfl, hB0⟩
  by_cases h : ¬ o.pick.place = 0
  · have HR : Hid (blankB o = false) := Lib.hid (by rw [HR0.out]; simp [h])
    go_wp2_with fail
    go_ret
    exact ⟨by rw [HR.out]; rfl, hB0⟩
  have hpickplace : o.pick.place = 0 := Decidable.not_not.1 h
  clear h
  by_cases h : ¬ o.pick.opn = 0
  · have HR : Hid (blankB o = false) := Lib.hid (by rw [HR0.out]; simp [h])
    go_wp2_with fail
    go_ret
    exact ⟨by rw [HR.out]; rfl, hB0⟩
  have hpickopn : o.pick.opn = 0 := Decidable.not_not.1 h
  clear h
  by_cases h : ¬ o.pick.close = 0
  · have HR : Hid (blankB o = false) := Lib.hid (by rw [HR0.out]; simp [h])
    go_wp2_with fail
    go_ret
    exact ⟨by rw [HR.out]; rfl, hB0⟩
  have hpickclose : o.pick.close = 0 := Decidable.not_not.1 h
  clear h
  by_cases h : ¬ o.pick.service = 0
  · have HR : Hid (blankB o = false) := Lib.hid (by rw [HR0.out]; simp [h])
    go_wp2_with fail
    go_ret
    exact ⟨by rw [HR.out]; rfl, hB0⟩
  have hpickservice : o.pick.service = 0 := Decidable.not_not.1 h
  clear h
  by_cases h : ¬ o.drop.place = 0
  · have HR : Hid (blankB o = false) := Lib.hid (by rw [HR0.out]; simp [h])
    go_wp2_with fail
    go_ret
    exact ⟨by rw [HR.out]; rfl, hB0⟩
  have hdropplace : o.drop.place = 0 := Decidable.not_not.1 h
  clear h
  by_cases h : ¬ o.drop.opn = 0
  · have HR : Hid (blankB o = false) := Lib.hid (by rw [HR0.out]; simp [h])
    go_wp2_with fail
    go_ret
    exact ⟨by rw [HR.out]; rfl, hB0⟩
  have hdropopn : o.drop.opn = 0 := Decidable.not_not.1 h
  clear h
  by_cases h : ¬ o.drop.close = 0
  · have HR : Hid (blankB o = false) := Lib.hid (by rw [HR0.out]; simp [h])
    go_wp2_with fail
    go_ret
    exact ⟨by rw [HR.out]; rfl, hB0⟩
  have hdropclose : o.drop.close = 0 := Decidable.not_not.1 h
  clear h
  by_cases h : ¬ o.drop.service = 0
  · have HR : Hid (blankB o = false) := Lib.hid (by rw [HR0.out]; simp [h])
    go_wp2_with fail
    go_ret
    exact ⟨by rw [HR.out]; rfl, hB0⟩
  have hdropservice : o.drop.service = 0 := Decidable.not_not.1 h
  clear h
  cases q5
  · have HR : Hid (blankB o = false) := Lib.hid (by rw [HR0.out]; simp)
    go_wp2_with fail
    go_ret
    exact ⟨by rw [HR.out]; rfl, hB0⟩
  cases q6
  · have HR : Hid (blankB o = false) := Lib.hid (by rw [HR0.out]; simp)
    go_wp2_with fail
    go_ret
    exact ⟨by rw [HR.out]; rfl, hB0⟩
  cases q7
  · have HR : Hid (blankB o = false) := Lib.hid (by rw [HR0.out]; simp)
    go_wp2_with fail
    go_ret
    exact ⟨by rw [HR.out]; rfl, hB0⟩
  cases q8
  · have HR : Hid (blankB o = false) := Lib.hid (by rw [HR0.out]; simp)
    go_wp2_with fail
    go_ret
    exact ⟨by rw [HR.out]; rfl, hB0⟩
  cases q9
  · have HR : Hid (blankB o = false) := Lib.hid (by rw [HR0.out]; simp)
    go_wp2_with fail
    go_ret
    exact ⟨by rw [HR.out]; rfl, hB0⟩
  have HR : Hid (blankB o = !o.off) := Lib.hid (by rw [HR0.out]; simp [h1, hpickplace, hpickopn, hpickclose, hpickservice, hdropplace, hdropopn, hdropclose, hdropservice])
  go_wp2_with fail
  go_ret
  exact ⟨by rw [HR.out]; rfl, hB0⟩
set_option maxRecDepth 20000 in
set_option maxHeartbeats 4000000 in
theorem rclean_any (e : Evt) (C : Option Addr) (c : Nat) (w : World) (hk : 1 ≤ e.kind ∧ e.kind ≤ 5) : Calls Tryz.prog 47 #[.agg (EvtCells e C c).toArray] w fun en w' => en = .returned (.bool (cleanB e)) ∧ Below w.heap.size w w' := by
  show Calls Tryz.prog 47 #[.agg #[.int .i64 e.at_, .int .i64 e.kind, .int .i64 e.a, .int .i64 e.b, .int .i64 e.n, .string e.order.name, .slice C e.order.load.length c, .int .i64 e.order.pick.place, .int .i64 e.order.pick.opn, .int .i64 e.order.pick.close, .int .i64 e.order.pick.service, .int .i64 e.order.drop.place, .int .i64 e.order.drop.opn, .int .i64 e.order.drop.close, .int .i64 e.order.drop.service, .int .i64 e.order.skills, .int .i64 e.order.penalty, .int .i64 e.order.split, .int .i64 e.order.last, .int .i64 e.order.now, .bool e.order.off]] w _
  obtain ⟨W0, hW0⟩ : ∃ W0, w.alloc (.cells (EvtCells e C c).toArray 37) = W0 := ⟨_, rfl⟩
  have hB0 : Below w.heap.size w W0 := by rw [← hW0]; exact (Below.refl _ _).alloc (Nat.le_refl _) _
  have z0 := hB0.size
  have b0 : Blk W0 w.heap.size 37 (EvtCells e C c) := by rw [← hW0]; exact Blk.new w _ _
  have HE0 := Lib.hid b0
  have hW1 : w.alloc (.cells #[.int .i64 e.at_, .int .i64 e.kind, .int .i64 e.a, .int .i64 e.b, .int .i64 e.n, .string e.order.name, .slice C e.order.load.length c, .int .i64 e.order.pick.place, .int .i64 e.order.pick.opn, .int .i64 e.order.pick.close, .int .i64 e.order.pick.service, .int .i64 e.order.drop.place, .int .i64 e.order.drop.opn, .int .i64 e.order.drop.close, .int .i64 e.order.drop.service, .int .i64 e.order.skills, .int .i64 e.order.penalty, .int .i64 e.order.split, .int .i64 e.order.last, .int .i64 e.order.now, .bool e.order.off] 37) = W0 := hW0
  have HW1 := Lib.hid hW1
  have c0 := b0.cell (j := 0) rfl
  have c1 := b0.cell (j := 1) rfl
  have c2 := b0.cell (j := 2) rfl
  have c3 := b0.cell (j := 3) rfl
  have c4 := b0.cell (j := 4) rfl
  clear hW0 hW1 b0
  obtain ⟨qa, hqa⟩ : ∃ q, (e.a == 0) = q := ⟨_, rfl⟩
  obtain ⟨qb, hqb⟩ : ∃ q, (e.b == 0) = q := ⟨_, rfl⟩
  obtain ⟨qn, hqn⟩ : ∃ q, (e.n == 0) = q := ⟨_, rfl⟩
  have HR0 : Hid (cleanB e = (if e.kind = 1 then qa && (qb && qn) else if e.kind = 3 then blankB e.order else if e.kind = 5 then qb && blankB e.order else qb && (qn && blankB e.order))) := Lib.hid (by
    unfold cleanB
    rw [← hqa, ← hqb, ← hqn])
  have hk5 : e.kind = 1 ∨ e.kind = 2 ∨ e.kind = 3 ∨ e.kind = 4 ∨ e.kind = 5 := by omega
  clear hk
  go_enter Tryz.func47, Tryz.ntmps47
  go_upto_region 1 with fail
  rw [HW1.out]
  clear HW1
  rcases hk5 with hk | hk | hk | hk | hk
  · cases qa
    · have HR : Hid (cleanB e = false) := Lib.hid (by rw [HR0.out, if_pos hk]; rfl)
      go_wp2_with fail
      go_ret
      exact ⟨by rw [HR.out]; rfl, hB0⟩
    cases qb
    · have HR : Hid (cleanB e = false) := Lib.hid (by rw [HR0.out, if_pos hk]; rfl)
      go_wp2_with fail
      go_ret
      exact ⟨by rw [HR.out]; rfl, hB0⟩
    have HR : Hid (cleanB e = qn) := Lib.hid (by rw [HR0.out, if_pos hk]; rfl)
    cases qn
    · skip
      go_wp2_with fail
      go_ret
      exact ⟨by rw [HR.out]; rfl, hB0⟩
    · skip
      go_wp2_with fail
      go_ret
      exact ⟨by rw [HR.out]; rfl, hB0⟩
  · cases qb
    · have HR : Hid (cleanB e = false) := Lib.hid (by rw [HR0.out, if_neg (by omega), if_neg (by omega), if_neg (by omega)]; rfl)
      go_wp2_with fail
      go_ret
      exact ⟨by rw [HR.out]; rfl, hB0⟩
    cases qn
    · have HR : Hid (cleanB e = false) := Lib.hid (by rw [HR0.out, if_neg (by omega), if_neg (by omega), if_neg (by omega)]; rfl)
      go_wp2_with fail
      go_ret
      exact ⟨by rw [HR.out]; rfl, hB0⟩
    have HR : Hid (cleanB e = blankB e.order) := Lib.hid (by rw [HR0.out, if_neg (by omega), if_neg (by omega), if_neg (by omega)]; rfl)
    go_wp2_with ((with_reducible refine wpList_loadG stOrd' _ rfl ⟨w.heap.size, 5, none⟩ (OrdCells e.order C c) ?_ ?_ ?_ ?_ ?_); exact rfl; exact rfl; exact (ord_evt HE0.out); exact rfl)
    refine (rblank_any e.order C c _).mono ?_
    rintro e2 w2 ⟨rfl, b2⟩
    have HB2 := Lib.hid (hB0.trans (b2.mono z0))
    clear b2
    go_wp2_with fail
    go_ret
    exact ⟨by rw [HR.out]; rfl, HB2.out⟩
  · have HR : Hid (cleanB e = blankB e.order) := Lib.hid (by rw [HR0.out, if_neg (by omega), if_pos hk])
    go_wp2_with ((with_reducible refine wpList_loadG stOrd' _ rfl ⟨w.heap.size, 5, none⟩ (OrdCells e.order C c) ?_ ?_ ?_ ?_ ?_); exact rfl; exact rfl; exact (ord_evt HE0.out); exact rfl)
    refine (rblank_any e.order C c _).mono ?_
    rintro e2 w2 ⟨rfl, b2⟩
    have HB2 := Lib.hid (hB0.trans (b2.mono z0))
    clear b2
    go_wp2_with fail
    go_ret
    exact ⟨by rw [HR.out]; rfl, HB2.out⟩
  · cases qb
    · have HR : Hid (cleanB e = false) := Lib.hid (by rw [HR0.out, if_neg (by omega), if_neg (by omega), if_neg (by omega)]; rfl)
      go_wp2_with fail
      go_ret
      exact ⟨by rw [HR.out]; rfl, hB0⟩
    cases qn
    · have HR : Hid (cleanB e = false) := Lib.hid (by rw [HR0.out, if_neg (by omega), if_neg (by omega), if_neg (by omega)]; rfl)
      go_wp2_with fail
      go_ret
      exact ⟨by rw [HR.out]; rfl, hB0⟩
    have HR : Hid (cleanB e = blankB e.order) := Lib.hid (by rw [HR0.out, if_neg (by omega), if_neg (by omega), if_neg (by omega)]; rfl)
    go_wp2_with ((with_reducible refine wpList_loadG stOrd' _ rfl ⟨w.heap.size, 5, none⟩ (OrdCells e.order C c) ?_ ?_ ?_ ?_ ?_); exact rfl; exact rfl; exact (ord_evt HE0.out); exact rfl)
    refine (rblank_any e.order C c _).mono ?_
    rintro e2 w2 ⟨rfl, b2⟩
    have HB2 := Lib.hid (hB0.trans (b2.mono z0))
    clear b2
    go_wp2_with fail
    go_ret
    exact ⟨by rw [HR.out]; rfl, HB2.out⟩
  · cases qb
    · have HR : Hid (cleanB e = false) := Lib.hid (by rw [HR0.out, if_neg (by omega), if_neg (by omega), if_pos hk]; rfl)
      go_wp2_with fail
      go_ret
      exact ⟨by rw [HR.out]; rfl, hB0⟩
    have HR : Hid (cleanB e = blankB e.order) := Lib.hid (by rw [HR0.out, if_neg (by omega), if_neg (by omega), if_pos hk]; rfl)
    go_wp2_with ((with_reducible refine wpList_loadG stOrd' _ rfl ⟨w.heap.size, 5, none⟩ (OrdCells e.order C c) ?_ ?_ ?_ ?_ ?_); exact rfl; exact rfl; exact (ord_evt HE0.out); exact rfl)
    refine (rblank_any e.order C c _).mono ?_
    rintro e2 w2 ⟨rfl, b2⟩
    have HB2 := Lib.hid (hB0.trans (b2.mono z0))
    clear b2
    go_wp2_with fail
    go_ret
    exact ⟨by rw [HR.out]; rfl, HB2.out⟩
end Go.Proofs.YtofabhenmplkoaaGreatDoor.evt

/- The reference's word, decimals, stop and Print. -/
namespace Go.Proofs.YtofabhenmplkoaaGreatDoor.evt
open Go.RowKit
open Go.Proofs.YtofabhenmplkoaaGreatDoor.lib Go.Proofs.YtofabhenmplkoaaGreatDoor.rd Go.Proofs.YtofabhenmplkoaaGreatDoor.app Go.Proofs.YtofabhenmplkoaaGreatDoor.els Go.Proofs.YtofabhenmplkoaaGreatDoor.typ Go.Proofs.YtofabhenmplkoaaGreatDoor.big Go.Proofs.YtofabhenmplkoaaGreatDoor.ins Go.Proofs.YtofabhenmplkoaaGreatDoor.ord Go.Proofs.YtofabhenmplkoaaGreatDoor.gen
open Go.Proofs.YtofabhenmplkoaaGreatDoor.txt (in64 By strV strV_of joinS decW elem_str nameB toList_data rdecW_any size_cons joinS_cons joinS_one)
set_option linter.unusedVariables false
set_option linter.unusedSimpArgs false

theorem mk_app (a b : By) : (⟨a.toArray⟩ ++ ⟨b.toArray⟩ : ByteArray) = ⟨(a ++ b).toArray⟩ := by
  apply ByteArray.ext
  rw [ByteArray.data_append]
  apply Array.toList_inj.1
  simp
/-- Numbers, each after a space. -/
def decs (l : List Int) : By := (l.map fun x => 32 :: Lib.itoa x).flatten
theorem decs_snoc (l : List Int) (x : Int) : decs (l ++ [x]) = decs l ++ 32 :: Lib.itoa x := by simp [decs]
theorem decs_len : ∀ (l : List Int), (∀ x ∈ l, in64 x) → (decs l).length ≤ 21 * l.length
  | [], _ => by simp [decs]
  | x :: l, h => by
    have h1 := decs_len l (fun y hy => h y (List.mem_cons_of_mem _ hy))
    have h2 := itoa_len (h x (List.mem_cons_self))
    have e : decs (x :: l) = (32 :: Lib.itoa x) ++ decs l := by simp [decs]
    rw [e, List.length_append, List.length_cons, List.length_cons]
    omega
theorem join_decs : ∀ (p : By) (L : List By), joinS (p :: L) = p ++ (L.map fun x => 32 :: x).flatten
  | p, [] => by rw [joinS_one]; simp
  | p, q :: L => by rw [joinS_cons, join_decs q L]; simp
theorem reword_any (k : Int) (w : World) : Calls Tryz.prog 69 #[.int .i64 k] w fun en w' => en = .returned (.string (wordS k)) ∧ w = w' := by
  by_cases h1 : k = 1
  · subst h1
    go_enter Tryz.func69, Tryz.ntmps69
    go_wp2
    go_ret
    exact ⟨rfl, rfl⟩
  by_cases h2 : k = 2
  · subst h2
    go_enter Tryz.func69, Tryz.ntmps69
    go_wp2
    go_ret
    exact ⟨rfl, rfl⟩
  by_cases h3 : k = 3
  · subst h3
    go_enter Tryz.func69, Tryz.ntmps69
    go_wp2
    go_ret
    exact ⟨rfl, rfl⟩
  by_cases h4 : k = 4
  · subst h4
    go_enter Tryz.func69, Tryz.ntmps69
    go_wp2
    go_ret
    exact ⟨rfl, rfl⟩
  by_cases h5 : k = 5
  · subst h5
    go_enter Tryz.func69, Tryz.ntmps69
    go_wp2
    go_ret
    exact ⟨rfl, rfl⟩
  have HS : Hid (wordS k = ⟨#[]⟩) := Lib.hid (by unfold wordS; simp [h1, h2, h3, h4, h5])
  go_enter Tryz.func69, Tryz.ntmps69
  go_wp2
  go_ret
  exact ⟨Go.Proofs.YtofabhenmplkoaaGreatDoor.txt.ret_str HS.out.symm, rfl⟩
theorem rdecimals_any (l : List Int) (A : Option Addr) (c : Nat) (B : Nat) (w : World) (hI : Ints w B A l) (hB : B ≤ w.heap.size) (h64 : ∀ x ∈ l, in64 x) (hl : l.length ≤ 1000) : Calls Tryz.prog 70 #[.slice A l.length c] w fun en w' => en = .returned (.string ⟨(decs l).toArray⟩) ∧ Below w.heap.size w w' := by
  obtain ⟨n, hn⟩ : ∃ n, l.length = n := ⟨_, rfl⟩
  rw [hn] at hl ⊢
  have HN := Lib.hid hn
  have HI : Hid (∀ w', Below w.heap.size w w' → Ints w' B A l) := Lib.hid (fun w' h => hI.below (h.mono hB))
  have H64 := Lib.hid h64
  clear hn hI h64
  go_enter Tryz.func70, Tryz.ntmps70
  go_upto_region 3 with fail
  go_loopw [3, 4] (fun s i wr => Below w.heap.size w wr ∧ ∃ (k : Nat) (t : By), k ≤ n ∧ i = .int .i64 k ∧ s = .string ⟨t.toArray⟩ ∧ Hid (t = decs (l.take k)) ∧ t.length ≤ 21 * k) (fun _ i _ => n - (intOf i).toNat)
  case atStart => exact ⟨Below.refl _ _, 0, [], by omega, rfl, rfl, Lib.hid (by simp [decs]), by simp⟩
  case round =>
    obtain ⟨hb, k, t, hk, rfl, rfl, ht, htl⟩ := hrel
    have hbz := hb.size
    by_cases hlt : k < n
    · have hI := (HI.out wr hb).at_ (k := k) (by rw [HN.out]; exact hlt)
      obtain ⟨ad, u, hA, hadb, hx, hc⟩ := hI
      obtain ⟨x, hx'⟩ : ∃ x, l[k]? = some x := ⟨_, List.getElem?_eq_getElem (by rw [HN.out]; exact hlt)⟩
      have hc' : wr.cell? (ad.add k) = some (.int .i64 x) := by
        first
          | (rw [List.getElem?_map, hx'] at hx; rw [hc, ← Option.some.inj hx])
          | (rw [hx'] at hx; rw [hc, Option.some.inj hx])
      have h64 := H64.out x (List.mem_of_getElem? hx')
      have hil := itoa_len h64
      have hs1 := size_cons t
      have hs2 : (decW x).size = (Lib.itoa x).length := by unfold decW; exact size_cons _
      have HT : Hid (decs (l.take (k + 1)) = t ++ 32 :: Lib.itoa x) := Lib.hid (by rw [List.take_add_one, hx', ht.out]; exact decs_snoc _ _)
      subst hA
      clear hc hx hx'
      go_wp2_with (go_at_call 43; refine (rdecW_any x h64 _).mono ?_; rintro e1 w1 ⟨rfl, hb1⟩; have HB1 := Lib.hid hb1; clear hb1)
      go_roundw
      case rel =>
        refine ⟨hb.trans (HB1.out.mono hbz), k + 1, t ++ 32 :: Lib.itoa x, by omega, by go_num, ?_, Lib.hid HT.out.symm, by rw [List.length_append, List.length_cons]; omega⟩
        congr 1
      case measure => simp [intOf]; omega
    · have HT : Hid (t = decs l) := Lib.hid (by rw [ht.out, List.take_of_length_le (by rw [HN.out]; omega)])
      go_wp2
      go_ret
      exact ⟨Go.Proofs.YtofabhenmplkoaaGreatDoor.txt.ret_str (by rw [HT.out]), hb⟩
theorem rdecL (l : List Int) (w : World) (h64 : ∀ x ∈ l, in64 x) (hl : l.length ≤ 1000) : Calls Tryz.prog 70 #[.slice (some ⟨w.heap.size, 0, none⟩) l.length l.length] (w.alloc (.cells (l.map (.int .i64)).toArray 3)) fun en w' => en = .returned (.string ⟨(decs l).toArray⟩) ∧ Below w.heap.size w w' := by
  have hI := Ints.lit w l (by omega)
  refine (rdecimals_any l _ _ _ _ hI (by simp) h64 hl).mono ?_
  rintro en w' ⟨rfl, hb⟩
  have hb0 : Below w.heap.size w (w.alloc (.cells (l.map (.int .i64)).toArray 3)) := (Below.refl _ _).alloc (Nat.le_refl _) _
  exact ⟨rfl, hb0.trans (hb.mono hb0.size)⟩
theorem rdec1 (x : Int) (w : World) (h : in64 x) : Calls Tryz.prog 70 #[.slice (some ⟨w.heap.size, 0, none⟩) 1 1] (w.alloc (.cells #[.int .i64 x] 3)) fun en w' => en = .returned (.string ⟨(decs [x]).toArray⟩) ∧ Below w.heap.size w w' := rdecL [x] w (by simpa using h) (by simp)
theorem rdec2 (x y : Int) (w : World) (h : in64 x) (h2 : in64 y) : Calls Tryz.prog 70 #[.slice (some ⟨w.heap.size, 0, none⟩) 2 2] (w.alloc (.cells #[.int .i64 x, .int .i64 y] 3)) fun en w' => en = .returned (.string ⟨(decs [x, y]).toArray⟩) ∧ Below w.heap.size w w' := rdecL [x, y] w (by intro z hz; simp at hz; rcases hz with rfl | rfl <;> assumption) (by simp)
theorem rdec3 (x y z : Int) (w : World) (h : in64 x) (h2 : in64 y) (h3 : in64 z) : Calls Tryz.prog 70 #[.slice (some ⟨w.heap.size, 0, none⟩) 3 3] (w.alloc (.cells #[.int .i64 x, .int .i64 y, .int .i64 z] 3)) fun en w' => en = .returned (.string ⟨(decs [x, y, z]).toArray⟩) ∧ Below w.heap.size w w' := rdecL [x, y, z] w (by intro z hz; simp at hz; rcases hz with rfl | rfl | rfl <;> assumption) (by simp)
theorem rdec5 (a b c d f : Int) (w : World) (h : ∀ x ∈ [a, b, c, d, f], in64 x) : Calls Tryz.prog 70 #[.slice (some ⟨w.heap.size, 0, none⟩) 5 5] (w.alloc (.cells #[.int .i64 a, .int .i64 b, .int .i64 c, .int .i64 d, .int .i64 f] 3)) fun en w' => en = .returned (.string ⟨(decs [a, b, c, d, f]).toArray⟩) ∧ Below w.heap.size w w' := rdecL [a, b, c, d, f] w h (by simp)
theorem restop_any (s : Stp) (w : World) : Calls Tryz.prog 72 #[.agg (StpCells s).toArray] w fun e w' => ∃ A, e = .returned (.slice A 4 4) ∧ Below w.heap.size w w' ∧ Ints w' w'.heap.size A (stpN s) := by
  show Calls Tryz.prog 72 #[.agg #[.int .i64 s.place, .int .i64 s.opn, .int .i64 s.close, .int .i64 s.service]] w _
  go_enter Tryz.func72, Tryz.ntmps72
  go_wp2
  go_ret
  refine ⟨_, rfl, ?_, ?_⟩
  · exact ((Below.refl _ w).alloc (Nat.le_refl _) _).alloc (by simp) _
  · have h := Ints.lit (w.alloc (.cells #[.int .i64 s.place, .int .i64 s.opn, .int .i64 s.close, .int .i64 s.service] 33)) (stpN s) (by unfold stpN; simp)
    simpa [stpN] using h
end Go.Proofs.YtofabhenmplkoaaGreatDoor.evt

/- The reference's Print. -/
namespace Go.Proofs.YtofabhenmplkoaaGreatDoor.evt
open Go.RowKit
open Go.Proofs.YtofabhenmplkoaaGreatDoor.lib Go.Proofs.YtofabhenmplkoaaGreatDoor.rd Go.Proofs.YtofabhenmplkoaaGreatDoor.app Go.Proofs.YtofabhenmplkoaaGreatDoor.els Go.Proofs.YtofabhenmplkoaaGreatDoor.typ Go.Proofs.YtofabhenmplkoaaGreatDoor.big Go.Proofs.YtofabhenmplkoaaGreatDoor.ins Go.Proofs.YtofabhenmplkoaaGreatDoor.ord
open Go.Proofs.YtofabhenmplkoaaGreatDoor.gen hiding zOrd bOrd
open Go.Proofs.YtofabhenmplkoaaGreatDoor.txt (in64 By strV strV_of joinS decW elem_str nameB toList_data rdecW_any size_cons joinS_cons joinS_one rname_any)
set_option linter.unusedVariables false
set_option linter.unusedSimpArgs false

def wordL (e : Evt) : By := (wordS e.kind).data.toList
def headL (e : Evt) : By := wordL e ++ decs [e.at_]
theorem wordL_eq (e : Evt) : wordS e.kind = ⟨(wordL e).toArray⟩ := by unfold wordL; rw [mk_data']
theorem wordL_len (e : Evt) : (wordL e).length ≤ 20 := word_len e.kind
theorem join_parts (e : Evt) : joinS (partsF e) = wordL e ++ (decs (numsF e) ++ (if e.kind = 1 then 32 :: e.order.name.data.toList ++ decs (ordN e.order) else [])) := by
  unfold partsF
  rw [join_decs]
  unfold wordL decs
  rw [List.map_append, List.flatten_append, List.map_map]
  congr 2
  split
  · simp [Function.comp_def]
  · simp
theorem decs_app (a b : List Int) : decs (a ++ b) = decs a ++ decs b := by simp [decs]
theorem decs_cons (x : Int) (b : List Int) : decs (x :: b) = decs [x] ++ decs b := by simp [decs]
theorem prt_of {e : Evt} (hk : 1 ≤ e.kind ∧ e.kind ≤ 5) (hc : cleanB e = true) (h1 : e.kind ≠ 1) : prtE e = 0 ∧ prtS e = headL e ++ decs (numsF e).tail := by
  have h : prtE e = 0 := by unfold prtE; rw [if_neg (fun h => h hk), if_neg (fun h => h hc), if_neg h1]
  refine ⟨h, ?_⟩
  unfold prtS
  rw [if_pos h, join_parts, if_neg h1, List.append_nil]
  unfold headL
  rw [List.append_assoc, ← decs_app]
  rfl
theorem prt_ord {e : Evt} (hk : e.kind = 1) (hc : cleanB e = true) (h1 : e.order.off = false) (h2 : nameB e.order.name = true) (h3 : e.order.load.length ≤ 3) : prtE e = 0 ∧ prtS e = headL e ++ ((((((32 :: e.order.name.data.toList) ++ decs [(e.order.load.length : Int)]) ++ decs e.order.load) ++ decs (stpN e.order.pick)) ++ decs (stpN e.order.drop))) ++ decs [e.order.skills, e.order.penalty, e.order.split, e.order.last, e.order.now] := by
  have h : prtE e = 0 := by unfold prtE; rw [if_neg (fun h => h (by omega)), if_neg (fun h => h hc), if_pos hk, h1, if_neg (by decide), if_neg (fun h => h h2), if_neg (by omega)]
  refine ⟨h, ?_⟩
  unfold prtS
  rw [if_pos h, join_parts, if_pos hk]
  have e1 : numsF e = [e.at_] := by unfold numsF; rw [hk]; rfl
  rw [e1]
  unfold headL ordN
  rw [decs_cons (e.order.load.length : Int), decs_app, decs_app, decs_app]
  simp only [List.append_assoc, List.cons_append]
set_option maxRecDepth 100000 in
set_option maxHeartbeats 8000000 in
theorem rprint_any (e : Evt) (C : Option Addr) (c : Nat) (w : World) (he : Evt64 e) (hI : Ints w w.heap.size C e.order.load) (hnm : e.order.name.size ≤ 140737488351232) :
    Calls Tryz.prog 23 #[.agg (EvtCells e C c).toArray] w (PrOut w e) := by
  show Calls Tryz.prog 23 #[.agg #[.int .i64 e.at_, .int .i64 e.kind, .int .i64 e.a, .int .i64 e.b, .int .i64 e.n, .string e.order.name, .slice C e.order.load.length c, .int .i64 e.order.pick.place, .int .i64 e.order.pick.opn, .int .i64 e.order.pick.close, .int .i64 e.order.pick.service, .int .i64 e.order.drop.place, .int .i64 e.order.drop.opn, .int .i64 e.order.drop.close, .int .i64 e.order.drop.service, .int .i64 e.order.skills, .int .i64 e.order.penalty, .int .i64 e.order.split, .int .i64 e.order.last, .int .i64 e.order.now, .bool e.order.off]] w _
  obtain ⟨W0, hW0⟩ : ∃ W0, w.alloc (.cells (EvtCells e C c).toArray 37) = W0 := ⟨_, rfl⟩
  have hB0 : Below w.heap.size w W0 := by rw [← hW0]; exact (Below.refl _ _).alloc (Nat.le_refl _) _
  have z0 := hB0.size
  have b0 : Blk W0 w.heap.size 37 (EvtCells e C c) := by rw [← hW0]; exact Blk.new w _ _
  have HE0 := Lib.hid b0
  have hW1 : w.alloc (.cells #[.int .i64 e.at_, .int .i64 e.kind, .int .i64 e.a, .int .i64 e.b, .int .i64 e.n, .string e.order.name, .slice C e.order.load.length c, .int .i64 e.order.pick.place, .int .i64 e.order.pick.opn, .int .i64 e.order.pick.close, .int .i64 e.order.pick.service, .int .i64 e.order.drop.place, .int .i64 e.order.drop.opn, .int .i64 e.order.drop.close, .int .i64 e.order.drop.service, .int .i64 e.order.skills, .int .i64 e.order.penalty, .int .i64 e.order.split, .int .i64 e.order.last, .int .i64 e.order.now, .bool e.order.off] 37) = W0 := hW0
  have HW1 := Lib.hid hW1
  have c0 := b0.cell (j := 0) rfl
  have c1 := b0.cell (j := 1) rfl
  have c2 := b0.cell (j := 2) rfl
  have c3 := b0.cell (j := 3) rfl
  have c4 := b0.cell (j := 4) rfl
  clear hW0 hW1 b0
  have zz : w.heap.size < W0.heap.size := Lib.lt_of_cell c0
  have HB0 := Lib.hid hB0
  have hI0 : Hid (∀ w', Below W0.heap.size W0 w' → Ints w' w.heap.size C e.order.load) := Lib.hid (fun w' h => (hI.below hB0).below (h.mono z0))
  have HQ : Hid (∀ (w' : World) (t : By) (n : Int), prtS e = t → prtE e = n → Below W0.heap.size W0 w' → PrOut w e (.returned (.tuple #[.string ⟨t.toArray⟩, .int .i64 n])) w') := Lib.hid (fun w' t n h1 h2 h3 => ⟨by rw [h1, h2], hB0.trans (h3.mono z0)⟩)
  have HEF := Lib.hid he
  clear hB0 hI he c0 c2 c3 c4
  go_enter Tryz.func23, Tryz.ntmps23
  go_upto_region 1 with fail
  rw [HW1.out]
  clear HW1
  by_cases hk : 1 ≤ e.kind ∧ e.kind ≤ 5
  case neg =>
    have hS : prtE e = 8 := by unfold prtE; rw [if_pos hk]
    have HS := Lib.hid hS
    have HS2 : Hid (prtS e = []) := Lib.hid (by unfold prtS; rw [hS]; rfl)
    clear hS
    obtain ⟨k, hkk⟩ : ∃ k, e.kind = k := ⟨_, rfl⟩
    rw [hkk] at hk c1
    clear hkk
    rcases Int.lt_or_le k 1 with h | h
    · go_wp2
      refine bodyPost_ret (v := .tuple #[.string ⟨#[]⟩, .int .i64 8]) (by simp [results, Tryz.results23, go_sem]) rfl ?_
      exact HQ.out _ [] 8 HS2.out HS.out (Below.refl _ _)
    · have h2 : 5 < k := by omega
      go_wp2
      refine bodyPost_ret (v := .tuple #[.string ⟨#[]⟩, .int .i64 8]) (by simp [results, Tryz.results23, go_sem]) rfl ?_
      exact HQ.out _ [] 8 HS2.out HS.out (Below.refl _ _)
  have HK := Lib.hid hk
  obtain ⟨k, hkk⟩ : ∃ k, e.kind = k := ⟨_, rfl⟩
  rw [hkk] at hk c1
  have HKK := Lib.hid hkk
  clear hkk
  obtain ⟨hk1, hk2⟩ := hk
  by_cases hcl : cleanB e = true
  case neg =>
    have hcl2 : cleanB e = false := by simpa using hcl
    have hS : prtE e = 2 := by unfold prtE; rw [if_neg (fun h => h HK.out), if_pos hcl]
    have HS := Lib.hid hS
    have HS2 : Hid (prtS e = []) := Lib.hid (by unfold prtS; rw [hS]; rfl)
    clear hS hcl
    go_wp2_with (first | ((with_reducible refine wpList_loadG stEvt _ rfl ⟨w.heap.size, 0, none⟩ (EvtCells e C c) ?_ ?_ ?_ ?_ ?_); exact rfl; exact rfl; exact HE0.out.cells; exact rfl) | (go_at_call 47; refine (rclean_any e C c _ HK.out).mono ?_; rintro e2 w1 ⟨rfl, hb1⟩))
    refine bodyPost_ret (v := .tuple #[.string ⟨#[]⟩, .int .i64 2]) (by simp [results, Tryz.results23, go_sem]) rfl ?_
    exact HQ.out _ [] 2 HS2.out HS.out hb1
  have HCL := Lib.hid hcl
  go_upto_region 5 with (first | ((with_reducible refine wpList_loadG stEvt _ rfl ⟨w.heap.size, 0, none⟩ (EvtCells e C c) ?_ ?_ ?_ ?_ ?_); exact rfl; exact rfl; exact HE0.out.cells; exact rfl) | (go_at_call 47; refine (rclean_any e C c _ HK.out).mono ?_; rintro e2 w1 ⟨rfl, hb1⟩))
  have HB1 := Lib.hid hb1
  have z1 := hb1.size
  have HE1 := Lib.hid (HE0.out.below (hb1.mono (by omega)))
  have q0 : w1.cell? ⟨w.heap.size, 0, none⟩ = some (.int .i64 e.at_) := HE1.out.cell rfl
  have q1 : w1.cell? ⟨w.heap.size, 1, none⟩ = some (.int .i64 k) := by rw [← HKK.out]; exact HE1.out.cell rfl
  have qz : w.heap.size < w1.heap.size := by omega
  have hlen0 : Hid ((wordS k).size ≤ 20) := Lib.hid (by rw [← HKK.out, wordL_eq, size_cons]; exact wordL_len e)
  have hlen1 : Hid ((decs [e.at_]).length ≤ 21) := Lib.hid (by exact decs_len [e.at_] (by intro x hx; rw [List.mem_singleton] at hx; rw [hx]; exact HEF.out.1.1))
  clear hcl hb1 HE0 c1
  go_cut [4] (fun v wx => v = .string ⟨(headL e).toArray⟩ ∧ Below w1.heap.size w1 wx)
  case first => as_aux_lemma =>
    (refine wp_region_held_drew (S := (fun w' => w'.cell? ⟨w.heap.size, 0, none⟩ = some (.int .i64 e.at_) ∧ w'.cell? ⟨w.heap.size, 1, none⟩ = some (.int .i64 k))) (by kernel_rfl) ?_ (fun hHeld => ?_))
    · exact ⟨q0, q1⟩
    obtain ⟨wd, hwd⟩ : ∃ W, w1.drew = W := ⟨_, rfl⟩
    rw [hwd] at hHeld ⊢
    have bd : Below w1.heap.size w1 wd := by rw [← hwd]; exact (Below.refl _ _).drew
    have zd := bd.size
    have p0 : wd.cell? ⟨w.heap.size, 0, none⟩ = some (.int .i64 e.at_) := (bd.cell (by show w.heap.size < _; omega)).trans q0
    have p1 : wd.cell? ⟨w.heap.size, 1, none⟩ = some (.int .i64 k) := (bd.cell (by show w.heap.size < _; omega)).trans q1
    have ba : Below wd.heap.size wd (wd.alloc (.cells #[.int .i64 e.at_] 3)) := (Below.refl _ _).alloc (Nat.le_refl _) _
    have a0 : (wd.alloc (.cells #[.int .i64 e.at_] 3)).cell? ⟨w.heap.size, 0, none⟩ = some (.int .i64 e.at_) := (ba.cell (by show w.heap.size < _; omega)).trans p0
    have a1 : (wd.alloc (.cells #[.int .i64 e.at_] 3)).cell? ⟨w.heap.size, 1, none⟩ = some (.int .i64 k) := (ba.cell (by show w.heap.size < _; omega)).trans p1
    have P0 := Lib.hid (And.intro p0 p1)
    have P1 := Lib.hid (And.intro a0 a1)
    have BD := Lib.hid bd
    clear hwd bd p0 p1 a0 a1 ba q0 q1
    (refine wpAnyH_take (i := 0) (v := ?_) rfl (by kernel_rfl) (by kernel_rfl) (by kernel_rfl) (fun _ _ _ h => h) (Or.inl ⟨by kernel_rfl, ?_⟩) (by assumption) ?_; rotate_left; (focus (intro w hSw; (try dsimp only at hSw); go_simp; all_goals with_reducible rfl)); (try simp only [Act.put, List.getElem_toArray, List.getElem_cons_succ, List.getElem_cons_zero, List.setIfInBounds_toArray, List.set_cons_zero, List.set_cons_succ]))
    (refine wpAnyH_take (i := 3) (v := ?_) rfl (by kernel_rfl) (by kernel_rfl) (by kernel_rfl) (fun _ _ _ h => h) (Or.inl ⟨by kernel_rfl, ?_⟩) (by assumption) ?_; rotate_left; (focus (intro w hSw; (try dsimp only at hSw); go_simp; all_goals with_reducible rfl)); (try simp only [Act.put, List.getElem_toArray, List.getElem_cons_succ, List.getElem_cons_zero, List.setIfInBounds_toArray, List.set_cons_zero, List.set_cons_succ]))
    (refine wpAnyH_take (i := 1) (v := ?_) rfl (by kernel_rfl) (by kernel_rfl) (by kernel_rfl) (fun _ _ _ h => h) (Or.inl ⟨by kernel_rfl, ?_⟩) (by assumption) ?_; rotate_left; (focus (intro w hSw; (try dsimp only at hSw); go_simp; all_goals with_reducible rfl)); (try simp only [Act.put, List.getElem_toArray, List.getElem_cons_succ, List.getElem_cons_zero, List.setIfInBounds_toArray, List.set_cons_zero, List.set_cons_succ]))
    (refine wpAnyH_take (i := 4) (v := ?_) rfl (by kernel_rfl) (by kernel_rfl) (by kernel_rfl) (fun _ _ _ h => h) (Or.inl ⟨by kernel_rfl, ?_⟩) (by assumption) ?_; rotate_left; (focus (intro w hSw; (try dsimp only at hSw); go_simp; all_goals with_reducible rfl)); (try simp only [Act.put, List.getElem_toArray, List.getElem_cons_succ, List.getElem_cons_zero, List.setIfInBounds_toArray, List.set_cons_zero, List.set_cons_succ]))
    refine wpAnyH_ready (rs := [2, 5]) (by kernel_rfl) (by simp) ?_
    refine AllReadyH.cons rfl (fun K hK => ?_) (AllReadyH.cons rfl (fun K hK => ?_) AllReadyH.nil)
    · go_simp
      refine (reword_any k _).mono ?_
      rintro e2 w2 ⟨rfl, rfl⟩
      refine hK.out _ _ (P0.out) (fun hHeld => ?_)
      clear hK K
      (try simp only [Act.put, List.getElem_toArray, List.getElem_cons_succ, List.getElem_cons_zero, List.setIfInBounds_toArray, List.set_cons_zero, List.set_cons_succ])
      (refine wpAnyH_ready (rs := [5]) (by kernel_rfl) (by simp) ?_; refine AllReadyH.cons rfl (fun K hK => ?_) AllReadyH.nil)
      go_simp
      refine hK.out _ _ (P1.out) (fun hHeld => ?_)
      clear hK K
      (try simp only [Act.put, List.getElem_toArray, List.getElem_cons_succ, List.getElem_cons_zero, List.setIfInBounds_toArray, List.set_cons_zero, List.set_cons_succ])
      (refine wpAnyH_ready (rs := [6]) (by kernel_rfl) (by simp) ?_; refine AllReadyH.cons rfl (fun K hK => ?_) AllReadyH.nil)
      go_simp
      refine (rdec1 e.at_ wd HEF.out.1.1).mono ?_
      rintro e3 w3 ⟨rfl, hb3⟩
      refine hK.out _ _ (⟨(hb3.cell (by show w.heap.size < _; omega)).trans P0.out.1, (hb3.cell (by show w.heap.size < _; omega)).trans P0.out.2⟩) (fun hHeld => ?_)
      clear hK K
      (try simp only [Act.put, List.getElem_toArray, List.getElem_cons_succ, List.getElem_cons_zero, List.setIfInBounds_toArray, List.set_cons_zero, List.set_cons_succ])
      (refine wpAnyH_take (i := 7) (v := ?_) rfl (by kernel_rfl) (by kernel_rfl) (by kernel_rfl) (fun _ _ _ h => h) (Or.inl ⟨by kernel_rfl, ?_⟩) (by assumption) ?_; rotate_left; (focus (intro w hSw; (try dsimp only at hSw); go_simp; rw [if_neg (show ¬ 9223372036854775807 < (wordS k).size + (decs [e.at_]).length by have := hlen0.out; have := hlen1.out; omega)]; try with_reducible rfl)); (try simp only [Act.put, List.getElem_toArray, List.getElem_cons_succ, List.getElem_cons_zero, List.setIfInBounds_toArray, List.set_cons_zero, List.set_cons_succ]))
      (refine wpAnyH_take (i := 8) (v := ?_) rfl (by kernel_rfl) (by kernel_rfl) (by kernel_rfl) (fun _ _ _ h => h) (Or.inl ⟨by kernel_rfl, ?_⟩) (by assumption) ?_; rotate_left; (focus (intro w hSw; (try dsimp only at hSw); go_simp; all_goals with_reducible rfl)); (try simp only [Act.put, List.getElem_toArray, List.getElem_cons_succ, List.getElem_cons_zero, List.setIfInBounds_toArray, List.set_cons_zero, List.set_cons_succ]))
      (refine wpAnyH_done (by kernel_rfl) ?_ _)
      have BF := Lib.hid (BD.out.trans (hb3.mono zd))
      clear hb3
      go_wp2_with fail
      go_meet
      exact ⟨by rw [← HKK.out, wordL_eq, mk_app]; rfl, BF.out⟩
    · go_simp
      refine hK.out _ _ (P1.out) (fun hHeld => ?_)
      clear hK K
      (try simp only [Act.put, List.getElem_toArray, List.getElem_cons_succ, List.getElem_cons_zero, List.setIfInBounds_toArray, List.set_cons_zero, List.set_cons_succ])
      (refine wpAnyH_ready (rs := [2]) (by kernel_rfl) (by simp) ?_; refine AllReadyH.cons rfl (fun K hK => ?_) AllReadyH.nil)
      go_simp
      refine (reword_any k _).mono ?_
      rintro e2 w2 ⟨rfl, rfl⟩
      refine hK.out _ _ (P1.out) (fun hHeld => ?_)
      clear hK K
      (try simp only [Act.put, List.getElem_toArray, List.getElem_cons_succ, List.getElem_cons_zero, List.setIfInBounds_toArray, List.set_cons_zero, List.set_cons_succ])
      (refine wpAnyH_ready (rs := [6]) (by kernel_rfl) (by simp) ?_; refine AllReadyH.cons rfl (fun K hK => ?_) AllReadyH.nil)
      go_simp
      refine (rdec1 e.at_ wd HEF.out.1.1).mono ?_
      rintro e3 w3 ⟨rfl, hb3⟩
      refine hK.out _ _ (⟨(hb3.cell (by show w.heap.size < _; omega)).trans P0.out.1, (hb3.cell (by show w.heap.size < _; omega)).trans P0.out.2⟩) (fun hHeld => ?_)
      clear hK K
      (try simp only [Act.put, List.getElem_toArray, List.getElem_cons_succ, List.getElem_cons_zero, List.setIfInBounds_toArray, List.set_cons_zero, List.set_cons_succ])
      (refine wpAnyH_take (i := 7) (v := ?_) rfl (by kernel_rfl) (by kernel_rfl) (by kernel_rfl) (fun _ _ _ h => h) (Or.inl ⟨by kernel_rfl, ?_⟩) (by assumption) ?_; rotate_left; (focus (intro w hSw; (try dsimp only at hSw); go_simp; rw [if_neg (show ¬ 9223372036854775807 < (wordS k).size + (decs [e.at_]).length by have := hlen0.out; have := hlen1.out; omega)]; try with_reducible rfl)); (try simp only [Act.put, List.getElem_toArray, List.getElem_cons_succ, List.getElem_cons_zero, List.setIfInBounds_toArray, List.set_cons_zero, List.set_cons_succ]))
      (refine wpAnyH_take (i := 8) (v := ?_) rfl (by kernel_rfl) (by kernel_rfl) (by kernel_rfl) (fun _ _ _ h => h) (Or.inl ⟨by kernel_rfl, ?_⟩) (by assumption) ?_; rotate_left; (focus (intro w hSw; (try dsimp only at hSw); go_simp; all_goals with_reducible rfl)); (try simp only [Act.put, List.getElem_toArray, List.getElem_cons_succ, List.getElem_cons_zero, List.setIfInBounds_toArray, List.set_cons_zero, List.set_cons_succ]))
      (refine wpAnyH_done (by kernel_rfl) ?_ _)
      have BF := Lib.hid (BD.out.trans (hb3.mono zd))
      clear hb3
      go_wp2_with fail
      go_meet
      exact ⟨by rw [← HKK.out, wordL_eq, mk_app]; rfl, BF.out⟩
  obtain ⟨rfl, hbc⟩ := hcut
  have HEc := Lib.hid (HE1.out.below (hbc.mono (by omega)))
  have HBc := Lib.hid (HB1.out.trans (hbc.mono z1))
  have r1 : wc.cell? ⟨w.heap.size, 1, none⟩ = some (.int .i64 k) := by rw [← HKK.out]; exact HEc.out.cell rfl
  have r2 : wc.cell? ⟨w.heap.size, 2, none⟩ = some (.int .i64 e.a) := HEc.out.cell rfl
  have r3 : wc.cell? ⟨w.heap.size, 3, none⟩ = some (.int .i64 e.b) := HEc.out.cell rfl
  have r4 : wc.cell? ⟨w.heap.size, 4, none⟩ = some (.int .i64 e.n) := HEc.out.cell rfl
  have zc : W0.heap.size ≤ wc.heap.size := HBc.out.size
  have hhl : (headL e).length ≤ 41 := by unfold headL; rw [List.length_append]; have := wordL_len e; have := hlen1.out; omega
  have g1 : in64 e.a := HEF.out.1.2.2.1
  have g2 : in64 e.b := HEF.out.1.2.2.2.1
  have g3 : in64 e.n := HEF.out.1.2.2.2.2.1
  have l1 : (decs [e.a]).length ≤ 21 := decs_len [e.a] (by intro x hx; simp at hx; rw [hx]; exact g1)
  have l2 : (decs [e.a, e.n]).length ≤ 42 := decs_len [e.a, e.n] (by intro x hx; simp at hx; rcases hx with rfl | rfl <;> assumption)
  have l3 : (decs [e.a, e.b, e.n]).length ≤ 63 := decs_len [e.a, e.b, e.n] (by intro x hx; simp at hx; rcases hx with rfl | rfl | rfl <;> assumption)
  clear q0 q1 hbc HE1
  by_cases hka : k = 1
  case neg =>
    have HP := Lib.hid (prt_of HK.out HCL.out (by rw [HKK.out]; exact hka))
    by_cases hk2' : k = 2
    · subst hk2'
      have HN : Hid ((numsF e).tail = [e.a]) := Lib.hid (by simp [numsF, HKK.out])
      go_wp2_with (go_at_call 70; refine (rdec1 e.a _ g1).mono ?_; rintro e3 w3 ⟨rfl, hb3⟩)
      (refine bodyPost_ret (v := .tuple #[.string (⟨(headL e).toArray⟩ ++ ⟨(decs [e.a]).toArray⟩), .int .i64 0]) (by simp [results, Tryz.results23, go_sem]) rfl ?_)
      rw [mk_app]
      exact HQ.out _ _ 0 (by rw [HP.out.2, HN.out]) HP.out.1 (HBc.out.trans (hb3.mono zc))
    by_cases hk4 : k = 4
    · subst hk4
      have HN : Hid ((numsF e).tail = [e.a]) := Lib.hid (by simp [numsF, HKK.out])
      go_wp2_with (go_at_call 70; refine (rdec1 e.a _ g1).mono ?_; rintro e3 w3 ⟨rfl, hb3⟩)
      (refine bodyPost_ret (v := .tuple #[.string (⟨(headL e).toArray⟩ ++ ⟨(decs [e.a]).toArray⟩), .int .i64 0]) (by simp [results, Tryz.results23, go_sem]) rfl ?_)
      rw [mk_app]
      exact HQ.out _ _ 0 (by rw [HP.out.2, HN.out]) HP.out.1 (HBc.out.trans (hb3.mono zc))
    by_cases hk3 : k = 3
    · subst hk3
      have HN : Hid ((numsF e).tail = [e.a, e.b, e.n]) := Lib.hid (by simp [numsF, HKK.out])
      go_wp2_with (go_at_call 70; refine (rdec3 e.a e.b e.n _ g1 g2 g3).mono ?_; rintro e3 w3 ⟨rfl, hb3⟩)
      (refine bodyPost_ret (v := .tuple #[.string (⟨(headL e).toArray⟩ ++ ⟨(decs [e.a, e.b, e.n]).toArray⟩), .int .i64 0]) (by simp [results, Tryz.results23, go_sem]) rfl ?_)
      rw [mk_app]
      exact HQ.out _ _ 0 (by rw [HP.out.2, HN.out]) HP.out.1 (HBc.out.trans (hb3.mono zc))
    · obtain rfl : k = 5 := by omega
      have HN : Hid ((numsF e).tail = [e.a, e.n]) := Lib.hid (by simp [numsF, HKK.out])
      go_wp2_with (go_at_call 70; refine (rdec2 e.a e.n _ g1 g3).mono ?_; rintro e3 w3 ⟨rfl, hb3⟩)
      (refine bodyPost_ret (v := .tuple #[.string (⟨(headL e).toArray⟩ ++ ⟨(decs [e.a, e.n]).toArray⟩), .int .i64 0]) (by simp [results, Tryz.results23, go_sem]) rfl ?_)
      rw [mk_app]
      exact HQ.out _ _ 0 (by rw [HP.out.2, HN.out]) HP.out.1 (HBc.out.trans (hb3.mono zc))
  subst hka
  clear r2 r3 r4 g1 g2 g3 l1 l2 l3
  go_upto_region 15 with (first
    | ((with_reducible refine wpList_loadG stOrd' _ rfl ⟨w.heap.size, 5, none⟩ (OrdCells e.order C c) ?_ ?_ ?_ ?_ ?_); exact rfl; exact rfl; exact (ord_evt HEc.out); exact rfl)
    | ((with_reducible refine wpList_storeL stOrd' rfl _ _ rfl wc.heap.size gen.zOrd (OrdCells (e.order) C c) ?_ ?_ ?_ ?_ ?_ (ordCells_one _ _ _) ?_); exact rfl; exact rfl; exact World.alloc_heap_new wc _; exact rfl; exact rfl; intro wz k1 k2 k3 k4; have KZ := Lib.hid (And.intro k1 (And.intro k2 (And.intro k3 k4))); clear k1 k2 k3 k4))
  have bz : Below wc.heap.size wc wz := ((Below.refl _ _).alloc (Nat.le_refl _) _).trans KZ.out.2.2.2
  have HO : Hid (Blk wz wc.heap.size 35 (OrdCells e.order C c)) := Lib.hid KZ.out.1
  obtain ⟨q5, hq5⟩ : ∃ q, wc.heap.size = q := ⟨_, rfl⟩
  have HBz := Lib.hid (HBc.out.trans (bz.mono zc))
  have zz2 := bz.size
  rw [hq5] at HO ⊢
  clear KZ bz r1
  have o9 : wz.cell? ⟨q5, 15, none⟩ = some (.bool e.order.off) := HO.out.cell rfl
  have o0 : wz.cell? ⟨q5, 0, none⟩ = some (.string e.order.name) := HO.out.cell rfl
  have o1 : wz.cell? ⟨q5, 1, none⟩ = some (.slice C e.order.load.length c) := HO.out.cell rfl
  by_cases hoff : e.order.off = true
  · have hS : prtE e = 9 := by unfold prtE; rw [if_neg (fun h => h HK.out), if_neg (fun h => h HCL.out), if_pos HKK.out, hoff, if_pos rfl]
    have HS := Lib.hid hS
    have HS2 : Hid (prtS e = []) := Lib.hid (by unfold prtS; rw [hS]; rfl)
    clear hS
    go_wp2
    (refine bodyPost_ret (v := .tuple #[.string ⟨#[]⟩, .int .i64 9]) (by simp [results, Tryz.results23, go_sem]) rfl ?_)
    exact HQ.out _ [] 9 HS2.out HS.out HBz.out
  have hoff2 : e.order.off = false := by simpa using hoff
  clear hoff
  rw [hoff2] at o9
  have HOff := Lib.hid hoff2
  clear hoff2
  by_cases hnb : nameB e.order.name = true
  case neg =>
    have hnb2 : nameB e.order.name = false := by simpa using hnb
    have hS : prtE e = 5 := by unfold prtE; rw [if_neg (fun h => h HK.out), if_neg (fun h => h HCL.out), if_pos HKK.out, HOff.out, if_neg (by decide), if_pos hnb]
    have HS := Lib.hid hS
    have HS2 : Hid (prtS e = []) := Lib.hid (by unfold prtS; rw [hS]; rfl)
    clear hS hnb
    go_wp2_with (go_at_call 71; refine (rname_any _ hnm _).mono ?_; rintro e3 w3 ⟨rfl, rfl⟩)
    (refine bodyPost_ret (v := .tuple #[.string ⟨#[]⟩, .int .i64 5]) (by simp [results, Tryz.results23, go_sem]) rfl ?_)
    exact HQ.out _ [] 5 HS2.out HS.out HBz.out
  by_cases hld : e.order.load.length ≤ 3
  case neg =>
    have hld2 : (3 : Int) < (e.order.load.length : Int) := by omega
    have hS : prtE e = 4 := by unfold prtE; rw [if_neg (fun h => h HK.out), if_neg (fun h => h HCL.out), if_pos HKK.out, HOff.out, if_neg (by decide), if_neg (fun h => h hnb), if_pos (by omega)]
    have HS := Lib.hid hS
    have HS2 : Hid (prtS e = []) := Lib.hid (by unfold prtS; rw [hS]; rfl)
    clear hS
    go_wp2_with (go_at_call 71; refine (rname_any _ hnm _).mono ?_; rintro e3 w3 ⟨rfl, rfl⟩)
    (refine bodyPost_ret (v := .tuple #[.string ⟨#[]⟩, .int .i64 4]) (by simp [results, Tryz.results23, go_sem]) rfl ?_)
    exact HQ.out _ [] 4 HS2.out HS.out HBz.out
  have HP := Lib.hid (prt_ord HKK.out HCL.out HOff.out hnb hld)
  have HI := Lib.hid (hI0.out wz HBz.out)
  have hns : e.order.name.size ≤ 16 := by
    unfold Go.Proofs.YtofabhenmplkoaaGreatDoor.txt.nameB at hnb
    rw [Bool.and_eq_true, Bool.and_eq_true] at hnb
    exact (of_decide_eq_true hnb.1.1).2
  have HNB := Lib.hid hnb
  obtain ⟨n, hn⟩ : ∃ n, e.order.load.length = n := ⟨_, rfl⟩
  have HNn := Lib.hid hn
  rw [hn] at o1 hld
  clear hn
  go_upto_region 21 with (go_at_call 71; refine (rname_any _ hnm _).mono ?_; rintro e3 w3 ⟨rfl, rfl⟩)
  have zq : q5 < wz.heap.size := HO.out.lt
  have p2 : wz.cell? ⟨q5, 2, none⟩ = some (.int .i64 e.order.pick.place) := HO.out.cell rfl
  have HSx : Hid (∀ w', Blk w' q5 35 (OrdCells e.order C c) → (w'.cell? ⟨q5, 0, none⟩ = some (.string e.order.name) ∧ w'.cell? ⟨q5, 1, none⟩ = some (.slice C n c) ∧ w'.cell? ⟨q5, 2, none⟩ = some (.int .i64 e.order.pick.place) ∧ w'.cell? ⟨q5, 3, none⟩ = some (.int .i64 e.order.pick.opn) ∧ w'.cell? ⟨q5, 4, none⟩ = some (.int .i64 e.order.pick.close) ∧ w'.cell? ⟨q5, 5, none⟩ = some (.int .i64 e.order.pick.service) ∧ w'.cell? ⟨q5, 6, none⟩ = some (.int .i64 e.order.drop.place) ∧ w'.cell? ⟨q5, 7, none⟩ = some (.int .i64 e.order.drop.opn) ∧ w'.cell? ⟨q5, 8, none⟩ = some (.int .i64 e.order.drop.close) ∧ w'.cell? ⟨q5, 9, none⟩ = some (.int .i64 e.order.drop.service))) := Lib.hid (by
    intro w' h
    refine ⟨h.cell rfl, ?_, h.cell rfl, h.cell rfl, h.cell rfl, h.cell rfl, h.cell rfl, h.cell rfl, h.cell rfl, h.cell rfl⟩
    rw [← HNn.out]
    exact h.cell rfl)
  have d1 : (decs [(n : Int)]).length ≤ 21 := decs_len [(n : Int)] (by intro x hx; rw [List.mem_singleton] at hx; rw [hx]; constructor <;> omega)
  have d2 : (decs e.order.load).length ≤ 63 := by have := decs_len e.order.load HEF.out.2; rw [HNn.out] at this; omega
  have hof := ord64 HEF.out.1.2.2.2.2.2 HEF.out.2 (by rw [HNn.out]; omega)
  have i1 : ∀ x ∈ stpN e.order.pick, in64 x := fun x hx => hof x (by unfold ordN; simp [hx])
  have i2 : ∀ x ∈ stpN e.order.drop, in64 x := fun x hx => hof x (by unfold ordN; simp [hx])
  have i3 : ∀ x ∈ [e.order.skills, e.order.penalty, e.order.split, e.order.last, e.order.now], in64 x := fun x hx => hof x (by unfold ordN; simp only [List.mem_cons, List.mem_append]; exact .inr (.inr (.inr (.inr (by simpa using hx)))))
  have d3 : (decs (stpN e.order.pick)).length ≤ 84 := decs_len _ i1
  have d4 : (decs (stpN e.order.drop)).length ≤ 84 := decs_len _ i2
  have d5 : (decs [e.order.skills, e.order.penalty, e.order.split, e.order.last, e.order.now]).length ≤ 105 := decs_len _ i3
  have I1 := Lib.hid i1
  have I2 := Lib.hid i2
  have I3 := Lib.hid i3
  have hdl : Hid (∀ w', Below W0.heap.size W0 w' → Calls Tryz.prog 70 #[.slice C n c] w' fun en w'' => en = .returned (.string ⟨(decs e.order.load).toArray⟩) ∧ Below w'.heap.size w' w'') := Lib.hid (by
    intro w' h
    have := rdecimals_any e.order.load C c w.heap.size w' (hI0.out w' h) (by have := h.size; omega) HEF.out.2 (by rw [HNn.out]; omega)
    rw [HNn.out] at this
    exact this)
  clear hof i1 i2 i3 o0 o1 o9 p2
  go_cut [4] (fun v wx => v = .string ⟨(headL e ++ ((((((32 :: e.order.name.data.toList) ++ decs [(n : Int)]) ++ decs e.order.load) ++ decs (stpN e.order.pick)) ++ decs (stpN e.order.drop)))).toArray⟩ ∧ Below wz.heap.size wz wx)
  case first => as_aux_lemma =>
    (refine wp_region_held_drew (S := (fun w' => w'.cell? ⟨q5, 0, none⟩ = some (.string e.order.name) ∧ w'.cell? ⟨q5, 1, none⟩ = some (.slice C n c) ∧ w'.cell? ⟨q5, 2, none⟩ = some (.int .i64 e.order.pick.place) ∧ w'.cell? ⟨q5, 3, none⟩ = some (.int .i64 e.order.pick.opn) ∧ w'.cell? ⟨q5, 4, none⟩ = some (.int .i64 e.order.pick.close) ∧ w'.cell? ⟨q5, 5, none⟩ = some (.int .i64 e.order.pick.service) ∧ w'.cell? ⟨q5, 6, none⟩ = some (.int .i64 e.order.drop.place) ∧ w'.cell? ⟨q5, 7, none⟩ = some (.int .i64 e.order.drop.opn) ∧ w'.cell? ⟨q5, 8, none⟩ = some (.int .i64 e.order.drop.close) ∧ w'.cell? ⟨q5, 9, none⟩ = some (.int .i64 e.order.drop.service))) (by kernel_rfl) ?_ (fun hHeld => ?_))
    · exact HSx.out _ HO.out
    obtain ⟨wd, hwd⟩ : ∃ W, wz.drew = W := ⟨_, rfl⟩
    rw [hwd] at hHeld ⊢
    have bd : Below wz.heap.size wz wd := by rw [← hwd]; exact (Below.refl _ _).drew
    have zd := bd.size
    have BD := Lib.hid bd
    have HOd := Lib.hid (HO.out.below bd)
    have zd2 : q5 < wd.heap.size := HOd.out.lt
    clear hwd bd
    (refine wpAnyH_take (i := 0) (v := ?_) rfl (by kernel_rfl) (by kernel_rfl) (by kernel_rfl) (fun _ _ _ h => h) (Or.inl ⟨by kernel_rfl, ?_⟩) (by assumption) ?_; rotate_left; (focus (intro w hSw; (try dsimp only at hSw); go_simp; all_goals with_reducible rfl)); (try simp only [Act.put, List.getElem_toArray, List.getElem_cons_succ, List.getElem_cons_zero, List.setIfInBounds_toArray, List.set_cons_zero, List.set_cons_succ]))
    (refine wpAnyH_take (i := 1) (v := ?_) rfl (by kernel_rfl) (by kernel_rfl) (by kernel_rfl) (fun _ _ _ h => h) (Or.inl ⟨by kernel_rfl, ?_⟩) (by assumption) ?_; rotate_left; (focus (intro w hSw; (try dsimp only at hSw); go_simp; all_goals with_reducible rfl)); (try simp only [Act.put, List.getElem_toArray, List.getElem_cons_succ, List.getElem_cons_zero, List.setIfInBounds_toArray, List.set_cons_zero, List.set_cons_succ]))
    (refine wpAnyH_take (i := 4) (v := ?_) rfl (by kernel_rfl) (by kernel_rfl) (by kernel_rfl) (fun _ _ _ h => h) (Or.inl ⟨by kernel_rfl, ?_⟩) (by assumption) ?_; rotate_left; (focus (intro w hSw; (try dsimp only at hSw); go_simp; all_goals with_reducible rfl)); (try simp only [Act.put, List.getElem_toArray, List.getElem_cons_succ, List.getElem_cons_zero, List.setIfInBounds_toArray, List.set_cons_zero, List.set_cons_succ]))
    (refine wpAnyH_take (i := 10) (v := ?_) rfl (by kernel_rfl) (by kernel_rfl) (by kernel_rfl) (fun _ _ _ h => h) (Or.inl ⟨by kernel_rfl, ?_⟩) (by assumption) ?_; rotate_left; (focus (intro w hSw; (try dsimp only at hSw); go_simp; all_goals with_reducible rfl)); (try simp only [Act.put, List.getElem_toArray, List.getElem_cons_succ, List.getElem_cons_zero, List.setIfInBounds_toArray, List.set_cons_zero, List.set_cons_succ]))
    (refine wpAnyH_take (i := 14) (v := ?_) rfl (by kernel_rfl) (by kernel_rfl) (by kernel_rfl) (fun _ _ _ h => h) (Or.inl ⟨by kernel_rfl, ?_⟩) (by assumption) ?_; rotate_left; (focus (intro w hSw; (try dsimp only at hSw); go_simp; all_goals with_reducible rfl)); (try simp only [Act.put, List.getElem_toArray, List.getElem_cons_succ, List.getElem_cons_zero, List.setIfInBounds_toArray, List.set_cons_zero, List.set_cons_succ]))
    (refine wpAnyH_take (i := 19) (v := ?_) rfl (by kernel_rfl) (by kernel_rfl) (by kernel_rfl) (fun _ _ _ h => h) (Or.inl ⟨by kernel_rfl, ?_⟩) (by assumption) ?_; rotate_left; (focus (intro w hSw; (try dsimp only at hSw); go_simp; all_goals with_reducible rfl)); (try simp only [Act.put, List.getElem_toArray, List.getElem_cons_succ, List.getElem_cons_zero, List.setIfInBounds_toArray, List.set_cons_zero, List.set_cons_succ]))
    (refine wpAnyH_take (i := 2) (v := ?_) rfl (by kernel_rfl) (by kernel_rfl) (by kernel_rfl) (fun _ _ _ h => h) (Or.inl ⟨by kernel_rfl, ?_⟩) (by assumption) ?_; rotate_left; (focus (intro w hSw; (try dsimp only at hSw); go_simp; all_goals with_reducible rfl)); (try simp only [Act.put, List.getElem_toArray, List.getElem_cons_succ, List.getElem_cons_zero, List.setIfInBounds_toArray, List.set_cons_zero, List.set_cons_succ]))
    (refine wpAnyH_take (i := 5) (v := ?_) rfl (by kernel_rfl) (by kernel_rfl) (by kernel_rfl) (fun _ _ _ h => h) (Or.inl ⟨by kernel_rfl, ?_⟩) (by assumption) ?_; rotate_left; (focus (intro w hSw; (try dsimp only at hSw); go_simp; all_goals with_reducible rfl)); (try simp only [Act.put, List.getElem_toArray, List.getElem_cons_succ, List.getElem_cons_zero, List.setIfInBounds_toArray, List.set_cons_zero, List.set_cons_succ]))
    (refine wpAnyH_take (i := 11) (v := ?_) rfl (by kernel_rfl) (by kernel_rfl) (by kernel_rfl) (fun _ _ _ h => h) (Or.inl ⟨by kernel_rfl, ?_⟩) (by assumption) ?_; rotate_left; (focus (intro w hSw; (try dsimp only at hSw); go_simp; all_goals with_reducible rfl)); (try simp only [Act.put, List.getElem_toArray, List.getElem_cons_succ, List.getElem_cons_zero, List.setIfInBounds_toArray, List.set_cons_zero, List.set_cons_succ]))
    (refine wpAnyH_take (i := 15) (v := ?_) rfl (by kernel_rfl) (by kernel_rfl) (by kernel_rfl) (fun _ _ _ h => h) (Or.inl ⟨by kernel_rfl, ?_⟩) (by assumption) ?_; rotate_left; (focus (intro w hSw; (try dsimp only at hSw); go_simp; all_goals with_reducible rfl)); (try simp only [Act.put, List.getElem_toArray, List.getElem_cons_succ, List.getElem_cons_zero, List.setIfInBounds_toArray, List.set_cons_zero, List.set_cons_succ]))
    (refine wpAnyH_take (i := 20) (v := ?_) rfl (by kernel_rfl) (by kernel_rfl) (by kernel_rfl) (fun _ _ _ h => h) (Or.inl ⟨by kernel_rfl, ?_⟩) (by assumption) ?_; rotate_left; (focus (intro w hSw; (try dsimp only at hSw); go_simp; all_goals with_reducible rfl)); (try simp only [Act.put, List.getElem_toArray, List.getElem_cons_succ, List.getElem_cons_zero, List.setIfInBounds_toArray, List.set_cons_zero, List.set_cons_succ]))
    (refine wpAnyH_take (i := 6) (v := ?_) rfl (by kernel_rfl) (by kernel_rfl) (by kernel_rfl) (fun _ _ _ h => h) (Or.inl ⟨by kernel_rfl, ?_⟩) (by assumption) ?_; rotate_left; (focus (intro w hSw; (try dsimp only at hSw); go_simp; all_goals with_reducible rfl)); (try simp only [Act.put, List.getElem_toArray, List.getElem_cons_succ, List.getElem_cons_zero, List.setIfInBounds_toArray, List.set_cons_zero, List.set_cons_succ]))
    (refine wpAnyH_take (i := 3) (v := ?_) rfl (by kernel_rfl) (by kernel_rfl) (by kernel_rfl) (fun _ _ _ h => h) (Or.inl ⟨by kernel_rfl, ?_⟩) (by assumption) ?_; rotate_left; (focus (intro w hSw; (try dsimp only at hSw); go_simp; rw [if_neg (show ¬ 9223372036854775807 < 1 + e.order.name.size by omega)]; try with_reducible rfl)); (try simp only [Act.put, List.getElem_toArray, List.getElem_cons_succ, List.getElem_cons_zero, List.setIfInBounds_toArray, List.set_cons_zero, List.set_cons_succ]))
    have e1 : (⟨#[32]⟩ ++ e.order.name : ByteArray) = ⟨(32 :: e.order.name.data.toList).toArray⟩ := by
      have h := mk_app [32] e.order.name.data.toList
      rw [mk_data'] at h
      exact h
    rw [e1]
    obtain ⟨t1, ht1⟩ : ∃ t, 32 :: e.order.name.data.toList = t := ⟨_, rfl⟩
    have s1 : t1.length ≤ 17 := by rw [← ht1, List.length_cons, ← Lib.size_eq]; omega
    have T1 := Lib.hid ht1
    rw [ht1]
    clear e1 ht1
    (refine wpAnyH_ready (rs := [7]) (by kernel_rfl) (by simp) ?_; refine AllReadyH.cons rfl (fun K hK => ?_) AllReadyH.nil)
    go_simp
    have ba : Below wd.heap.size wd (wd.alloc (.cells #[.int .i64 n] 3)) := (Below.refl _ _).alloc (Nat.le_refl _) _
    refine hK.out _ _ ((HSx.out _ (HOd.out.below ba))) (fun hHeld => ?_)
    clear hK K
    (try simp only [Act.put, List.getElem_toArray, List.getElem_cons_succ, List.getElem_cons_zero, List.setIfInBounds_toArray, List.set_cons_zero, List.set_cons_succ])
    (refine wpAnyH_ready (rs := [8]) (by kernel_rfl) (by simp) ?_; refine AllReadyH.cons rfl (fun K hK => ?_) AllReadyH.nil)
    go_simp
    refine (rdec1 (n : Int) wd (by constructor <;> omega)).mono ?_
    rintro e3 w3 ⟨rfl, hb3⟩
    have HO3 := Lib.hid (HOd.out.below hb3)
    have B3 := Lib.hid (BD.out.trans (hb3.mono zd))
    clear hb3 ba
    refine hK.out _ _ ((HSx.out _ HO3.out)) (fun hHeld => ?_)
    clear hK K
    (try simp only [Act.put, List.getElem_toArray, List.getElem_cons_succ, List.getElem_cons_zero, List.setIfInBounds_toArray, List.set_cons_zero, List.set_cons_succ])
    (refine wpAnyH_take (i := 9) (v := ?_) rfl (by kernel_rfl) (by kernel_rfl) (by kernel_rfl) (fun _ _ _ h => h) (Or.inl ⟨by kernel_rfl, ?_⟩) (by assumption) ?_; rotate_left; (focus (intro w hSw; (try dsimp only at hSw); go_simp; rw [if_neg (show ¬ 9223372036854775807 < t1.length + (decs [(n : Int)]).length by omega)]; try with_reducible rfl)); (try simp only [Act.put, List.getElem_toArray, List.getElem_cons_succ, List.getElem_cons_zero, List.setIfInBounds_toArray, List.set_cons_zero, List.set_cons_succ]))
    rw [mk_app]
    obtain ⟨t2, ht2⟩ : ∃ t, t1 ++ decs [(n : Int)] = t := ⟨_, rfl⟩
    have s2 : t2.length ≤ 38 := by rw [← ht2, List.length_append]; omega
    have T2 := Lib.hid ht2
    rw [ht2]
    clear ht2
    (refine wpAnyH_ready (rs := [12]) (by kernel_rfl) (by simp) ?_; refine AllReadyH.cons rfl (fun K hK => ?_) AllReadyH.nil)
    go_simp
    refine (hdl.out w3 (HBz.out.trans (B3.out.mono HBz.out.size))).mono ?_
    rintro e4 w4 ⟨rfl, hb4⟩
    have z3 := B3.out.size
    have HO4 := Lib.hid (HO3.out.below hb4)
    have B4 := Lib.hid (B3.out.trans (hb4.mono z3))
    clear hb4
    refine hK.out _ _ ((HSx.out _ HO4.out)) (fun hHeld => ?_)
    clear hK K
    (try simp only [Act.put, List.getElem_toArray, List.getElem_cons_succ, List.getElem_cons_zero, List.setIfInBounds_toArray, List.set_cons_zero, List.set_cons_succ])
    (refine wpAnyH_take (i := 13) (v := ?_) rfl (by kernel_rfl) (by kernel_rfl) (by kernel_rfl) (fun _ _ _ h => h) (Or.inl ⟨by kernel_rfl, ?_⟩) (by assumption) ?_; rotate_left; (focus (intro w hSw; (try dsimp only at hSw); go_simp; rw [if_neg (show ¬ 9223372036854775807 < t2.length + (decs e.order.load).length by omega)]; try with_reducible rfl)); (try simp only [Act.put, List.getElem_toArray, List.getElem_cons_succ, List.getElem_cons_zero, List.setIfInBounds_toArray, List.set_cons_zero, List.set_cons_succ]))
    rw [mk_app]
    obtain ⟨t3, ht3⟩ : ∃ t, t2 ++ decs e.order.load = t := ⟨_, rfl⟩
    have s3 : t3.length ≤ 101 := by rw [← ht3, List.length_append]; omega
    have T3 := Lib.hid ht3
    rw [ht3]
    clear ht3
    (refine wpAnyH_ready (rs := [16]) (by kernel_rfl) (by simp) ?_; refine AllReadyH.cons rfl (fun K hK => ?_) AllReadyH.nil)
    go_simp
    refine (restop_any e.order.pick w4).mono ?_
    rintro e5 w5 ⟨A5, rfl, hb5, hi5⟩
    have z4 := B4.out.size
    have HO5 := Lib.hid (HO4.out.below hb5)
    have B5 := Lib.hid (B4.out.trans (hb5.mono z4))
    have HI5 := Lib.hid hi5
    clear hb5 hi5
    refine hK.out _ _ ((HSx.out _ HO5.out)) (fun hHeld => ?_)
    clear hK K
    (try simp only [Act.put, List.getElem_toArray, List.getElem_cons_succ, List.getElem_cons_zero, List.setIfInBounds_toArray, List.set_cons_zero, List.set_cons_succ])
    (refine wpAnyH_ready (rs := [17]) (by kernel_rfl) (by simp) ?_; refine AllReadyH.cons rfl (fun K hK => ?_) AllReadyH.nil)
    go_simp
    refine (rdecimals_any (stpN e.order.pick) A5 4 w5.heap.size w5 HI5.out (Nat.le_refl _) I1.out (show 4 ≤ 1000 by omega)).mono ?_
    rintro e6 w6 ⟨rfl, hb6⟩
    have z5 := B5.out.size
    have HO6 := Lib.hid (HO5.out.below hb6)
    have B6 := Lib.hid (B5.out.trans (hb6.mono z5))
    clear hb6
    refine hK.out _ _ ((HSx.out _ HO6.out)) (fun hHeld => ?_)
    clear hK K
    (try simp only [Act.put, List.getElem_toArray, List.getElem_cons_succ, List.getElem_cons_zero, List.setIfInBounds_toArray, List.set_cons_zero, List.set_cons_succ])
    (refine wpAnyH_take (i := 18) (v := ?_) rfl (by kernel_rfl) (by kernel_rfl) (by kernel_rfl) (fun _ _ _ h => h) (Or.inl ⟨by kernel_rfl, ?_⟩) (by assumption) ?_; rotate_left; (focus (intro w hSw; (try dsimp only at hSw); go_simp; rw [if_neg (show ¬ 9223372036854775807 < t3.length + (decs (stpN e.order.pick)).length by omega)]; try with_reducible rfl)); (try simp only [Act.put, List.getElem_toArray, List.getElem_cons_succ, List.getElem_cons_zero, List.setIfInBounds_toArray, List.set_cons_zero, List.set_cons_succ]))
    rw [mk_app]
    obtain ⟨t4, ht4⟩ : ∃ t, t3 ++ decs (stpN e.order.pick) = t := ⟨_, rfl⟩
    have s4 : t4.length ≤ 185 := by rw [← ht4, List.length_append]; omega
    have T4 := Lib.hid ht4
    rw [ht4]
    clear ht4
    (refine wpAnyH_ready (rs := [21]) (by kernel_rfl) (by simp) ?_; refine AllReadyH.cons rfl (fun K hK => ?_) AllReadyH.nil)
    go_simp
    refine (restop_any e.order.drop w6).mono ?_
    rintro e7 w7 ⟨A7, rfl, hb7, hi7⟩
    have z6 := B6.out.size
    have HO7 := Lib.hid (HO6.out.below hb7)
    have B7 := Lib.hid (B6.out.trans (hb7.mono z6))
    have HI7 := Lib.hid hi7
    clear hb7 hi7
    refine hK.out _ _ ((HSx.out _ HO7.out)) (fun hHeld => ?_)
    clear hK K
    (try simp only [Act.put, List.getElem_toArray, List.getElem_cons_succ, List.getElem_cons_zero, List.setIfInBounds_toArray, List.set_cons_zero, List.set_cons_succ])
    (refine wpAnyH_ready (rs := [22]) (by kernel_rfl) (by simp) ?_; refine AllReadyH.cons rfl (fun K hK => ?_) AllReadyH.nil)
    go_simp
    refine (rdecimals_any (stpN e.order.drop) A7 4 w7.heap.size w7 HI7.out (Nat.le_refl _) I2.out (show 4 ≤ 1000 by omega)).mono ?_
    rintro e8 w8 ⟨rfl, hb8⟩
    have z7 := B7.out.size
    have HO8 := Lib.hid (HO7.out.below hb8)
    have B8 := Lib.hid (B7.out.trans (hb8.mono z7))
    clear hb8
    refine hK.out _ _ ((HSx.out _ HO8.out)) (fun hHeld => ?_)
    clear hK K
    (try simp only [Act.put, List.getElem_toArray, List.getElem_cons_succ, List.getElem_cons_zero, List.setIfInBounds_toArray, List.set_cons_zero, List.set_cons_succ])
    (refine wpAnyH_take (i := 23) (v := ?_) rfl (by kernel_rfl) (by kernel_rfl) (by kernel_rfl) (fun _ _ _ h => h) (Or.inl ⟨by kernel_rfl, ?_⟩) (by assumption) ?_; rotate_left; (focus (intro w hSw; (try dsimp only at hSw); go_simp; rw [if_neg (show ¬ 9223372036854775807 < t4.length + (decs (stpN e.order.drop)).length by omega)]; try with_reducible rfl)); (try simp only [Act.put, List.getElem_toArray, List.getElem_cons_succ, List.getElem_cons_zero, List.setIfInBounds_toArray, List.set_cons_zero, List.set_cons_succ]))
    rw [mk_app]
    obtain ⟨t5, ht5⟩ : ∃ t, t4 ++ decs (stpN e.order.drop) = t := ⟨_, rfl⟩
    have s5 : t5.length ≤ 269 := by rw [← ht5, List.length_append]; omega
    have T5 := Lib.hid ht5
    rw [ht5]
    clear ht5
    (refine wpAnyH_take (i := 24) (v := ?_) rfl (by kernel_rfl) (by kernel_rfl) (by kernel_rfl) (fun _ _ _ h => h) (Or.inl ⟨by kernel_rfl, ?_⟩) (by assumption) ?_; rotate_left; (focus (intro w hSw; (try dsimp only at hSw); go_simp; rw [if_neg (show ¬ 9223372036854775807 < (headL e).length + t5.length by omega)]; try with_reducible rfl)); (try simp only [Act.put, List.getElem_toArray, List.getElem_cons_succ, List.getElem_cons_zero, List.setIfInBounds_toArray, List.set_cons_zero, List.set_cons_succ]))
    rw [mk_app]
    (refine wpAnyH_take (i := 25) (v := ?_) rfl (by kernel_rfl) (by kernel_rfl) (by kernel_rfl) (fun _ _ _ h => h) (Or.inl ⟨by kernel_rfl, ?_⟩) (by assumption) ?_; rotate_left; (focus (intro w hSw; (try dsimp only at hSw); go_simp; all_goals with_reducible rfl)); (try simp only [Act.put, List.getElem_toArray, List.getElem_cons_succ, List.getElem_cons_zero, List.setIfInBounds_toArray, List.set_cons_zero, List.set_cons_succ]))
    (refine wpAnyH_done (by kernel_rfl) ?_ _)
    go_wp2_with fail
    go_meet
    exact ⟨by rw [T1.out, T2.out, T3.out, T4.out, T5.out], B8.out⟩
  obtain ⟨rfl, hbx⟩ := hcut
  have HOx := Lib.hid (HO.out.below hbx)
  have HBx := Lib.hid (HBz.out.trans (hbx.mono HBz.out.size))
  obtain ⟨t6, ht6⟩ : ∃ t, headL e ++ ((((((32 :: e.order.name.data.toList) ++ decs [(n : Int)]) ++ decs e.order.load) ++ decs (stpN e.order.pick)) ++ decs (stpN e.order.drop))) = t := ⟨_, rfl⟩
  have s6 : t6.length ≤ 1000 := by
    rw [← ht6]
    simp only [List.length_append, List.length_cons]
    have := Lib.size_eq e.order.name
    omega
  rw [ht6]
  have T6 := Lib.hid ht6
  have m1 := HOx.out.cell (j := 10) rfl
  have m2 := HOx.out.cell (j := 11) rfl
  have m3 := HOx.out.cell (j := 12) rfl
  have m4 := HOx.out.cell (j := 13) rfl
  have m5 := HOx.out.cell (j := 14) rfl
  clear hbx ht6
  go_wp2_with (go_at_call 70; refine (rdec5 _ _ _ _ _ _ I3.out).mono ?_; rintro e3 w3 ⟨rfl, hb3⟩)
  (refine bodyPost_ret (v := .tuple #[.string (⟨t6.toArray⟩ ++ ⟨(decs [e.order.skills, e.order.penalty, e.order.split, e.order.last, e.order.now]).toArray⟩), .int .i64 0]) (by simp [results, Tryz.results23, go_sem]) rfl ?_)
  rw [mk_app]
  exact HQ.out _ _ 0 (by rw [HP.out.2, ← T6.out, HNn.out]) HP.out.1 (HBx.out.trans (hb3.mono HBx.out.size))
end Go.Proofs.YtofabhenmplkoaaGreatDoor.evt

/- The reference's numbers and kinded. -/
namespace Go.Proofs.YtofabhenmplkoaaGreatDoor.evt
open Go.RowKit
open Go.Proofs.YtofabhenmplkoaaGreatDoor.lib Go.Proofs.YtofabhenmplkoaaGreatDoor.rd Go.Proofs.YtofabhenmplkoaaGreatDoor.app Go.Proofs.YtofabhenmplkoaaGreatDoor.els Go.Proofs.YtofabhenmplkoaaGreatDoor.typ Go.Proofs.YtofabhenmplkoaaGreatDoor.big Go.Proofs.YtofabhenmplkoaaGreatDoor.ins Go.Proofs.YtofabhenmplkoaaGreatDoor.ord Go.Proofs.YtofabhenmplkoaaGreatDoor.gen
open Go.Proofs.YtofabhenmplkoaaGreatDoor.txt (in64 By strV strV_of joinS decW elem_str nameB toList_data Strs numL rnumber_any ret_nn)
set_option linter.unusedVariables false
set_option linter.unusedSimpArgs false

end Go.Proofs.YtofabhenmplkoaaGreatDoor.evt

/- The reference's order. -/
namespace Go.Proofs.YtofabhenmplkoaaGreatDoor.evt
open Go.RowKit
open Go.Proofs.YtofabhenmplkoaaGreatDoor.lib Go.Proofs.YtofabhenmplkoaaGreatDoor.rd Go.Proofs.YtofabhenmplkoaaGreatDoor.app Go.Proofs.YtofabhenmplkoaaGreatDoor.els Go.Proofs.YtofabhenmplkoaaGreatDoor.typ Go.Proofs.YtofabhenmplkoaaGreatDoor.big Go.Proofs.YtofabhenmplkoaaGreatDoor.ins Go.Proofs.YtofabhenmplkoaaGreatDoor.ord
open Go.Proofs.YtofabhenmplkoaaGreatDoor.gen hiding zOrd bOrd
open Go.Proofs.YtofabhenmplkoaaGreatDoor.off (setM step_storeM wpList_storeM)
open Go.Proofs.YtofabhenmplkoaaGreatDoor.txt (in64 By strV strV_of joinS decW elem_str nameB rname_any toList_data Strs numL own_cap)
set_option linter.unusedVariables false
set_option linter.unusedSimpArgs false

end Go.Proofs.YtofabhenmplkoaaGreatDoor.evt

/- The reference's fields. -/
namespace Go.Proofs.YtofabhenmplkoaaGreatDoor.evt
open Go.RowKit
open Go.Proofs.YtofabhenmplkoaaGreatDoor.lib Go.Proofs.YtofabhenmplkoaaGreatDoor.rd Go.Proofs.YtofabhenmplkoaaGreatDoor.app Go.Proofs.YtofabhenmplkoaaGreatDoor.els Go.Proofs.YtofabhenmplkoaaGreatDoor.typ Go.Proofs.YtofabhenmplkoaaGreatDoor.big Go.Proofs.YtofabhenmplkoaaGreatDoor.ins Go.Proofs.YtofabhenmplkoaaGreatDoor.ord
open Go.Proofs.YtofabhenmplkoaaGreatDoor.gen hiding zOrd bOrd
open Go.Proofs.YtofabhenmplkoaaGreatDoor.off (setM step_storeM wpList_storeM intsOff_keep)
open Go.Proofs.YtofabhenmplkoaaGreatDoor.txt (in64 By strV strV_of joinS decW elem_str nameB rname_any toList_data Strs numL own_cap)
set_option linter.unusedVariables false
set_option linter.unusedSimpArgs false

end Go.Proofs.YtofabhenmplkoaaGreatDoor.evt

/- The reference's Parse. -/
namespace Go.Proofs.YtofabhenmplkoaaGreatDoor.evt
open Go.RowKit
open Go.Proofs.YtofabhenmplkoaaGreatDoor.lib Go.Proofs.YtofabhenmplkoaaGreatDoor.rd Go.Proofs.YtofabhenmplkoaaGreatDoor.app Go.Proofs.YtofabhenmplkoaaGreatDoor.els Go.Proofs.YtofabhenmplkoaaGreatDoor.typ Go.Proofs.YtofabhenmplkoaaGreatDoor.big Go.Proofs.YtofabhenmplkoaaGreatDoor.ins Go.Proofs.YtofabhenmplkoaaGreatDoor.ord
open Go.Proofs.YtofabhenmplkoaaGreatDoor.gen hiding zOrd bOrd
open Go.Proofs.YtofabhenmplkoaaGreatDoor.off (setM step_storeM wpList_storeM intsOff_keep)
open Go.Proofs.YtofabhenmplkoaaGreatDoor.txt (in64 By strV strV_of joinS decW elem_str nameB toList_data Strs numL own_cap rnumber_any rwords_any WordsOk WdOut)
set_option linter.unusedVariables false
set_option linter.unusedSimpArgs false

end Go.Proofs.YtofabhenmplkoaaGreatDoor.evt

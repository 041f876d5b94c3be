/- Events: orders that are there, orders that are shifted. The program. -/
import Derived.Test.YtofabhenmplkoaaGreatDoorEvtB
import Derived.Test.YtofabhenmplkoaaGreatDoorWinS
import Derived.Test.YtofabhenmplkoaaGreatDoorGenR
import Derived.Test.YtofabhenmplkoaaGreatDoorGenF
namespace Go.Proofs.YtofabhenmplkoaaGreatDoor.evt
open Go.RowKit
open Go.Proofs.YtofabhenmplkoaaGreatDoor.lib Go.Proofs.YtofabhenmplkoaaGreatDoor.rd Go.Proofs.YtofabhenmplkoaaGreatDoor.app Go.Proofs.YtofabhenmplkoaaGreatDoor.els Go.Proofs.YtofabhenmplkoaaGreatDoor.typ Go.Proofs.YtofabhenmplkoaaGreatDoor.big Go.Proofs.YtofabhenmplkoaaGreatDoor.ins Go.Proofs.YtofabhenmplkoaaGreatDoor.ord Go.Proofs.YtofabhenmplkoaaGreatDoor.gen
set_option linter.unusedVariables false
set_option linter.unusedSimpArgs false

set_option maxRecDepth 20000 in
set_option maxHeartbeats 4000000 in
theorem there_any (x : Ins) (P : InP) (k : Int) (w : World) (h : InAt w w.heap.size x P) : Calls Tryz.prog 164 #[InV x P, .int .i64 k] w fun e w' => e = .returned (.int .i64 (thrF x k)) ∧ Below w.heap.size w w' := by
  have hlen := h.orders.1
  obtain ⟨W0, hW0⟩ : ∃ W0, w.alloc (.cells (insCs x P).toArray 30) = W0 := ⟨_, rfl⟩
  have hB0 : Below w.heap.size w W0 := by rw [← hW0]; exact (Below.refl _ _).alloc (Nat.le_refl _) _
  have z0 := hB0.size
  have b0 : SixAt W0 w.heap.size (insCs x P) := by rw [← hW0]; exact World.alloc_heap_new w _
  have HX := Lib.hid (fun w' (h' : Below W0.heap.size W0 w') => (b0.below h'))
  have HI := Lib.hid (fun w' (h' : Below W0.heap.size W0 w') => (h.go hB0).go h')
  have hW1 : w.alloc (.cells #[.slice P.a0 x.net.places.length P.c0, .slice P.a1 x.net.arcs.length P.c1, .slice P.a2 x.types.length P.c2, .slice P.a3 x.orders.length P.c3, .slice P.a4 x.apart.length P.c4, .slice P.a5 x.before.length P.c5] 30) = W0 := hW0
  have HW1 := Lib.hid hW1
  have C0 := Below.refl W0.heap.size W0
  clear hW0 hW1 b0
  simp only [InV]
  obtain ⟨N, hN⟩ : ∃ N, x.orders.length = N := ⟨_, rfl⟩
  have HN := Lib.hid hN
  have x3 : W0.cell? ⟨w.heap.size, 3, none⟩ = some (.slice P.a3 N P.c3) := by rw [← hN]; exact (HX.out _ C0).cell (j := 3) rfl
  rw [hN] at HW1 hlen ⊢
  have HOR := Lib.hid (h.orders.below hB0)
  clear h hN
  go_enter Tryz.func164, Tryz.ntmps164
  go_upto_region 1 with fail
  rw [HW1.out]
  clear HW1
  by_cases h1 : k < 0
  · have HR : Hid (thrF x k = 7) := Lib.hid (by unfold thrF; rw [if_pos (.inl h1)])
    go_wp2_with fail
    go_ret
    exact ⟨by rw [HR.out]; rfl, hB0⟩
  by_cases h2 : (N : Int) ≤ k
  · have HR : Hid (thrF x k = 7) := Lib.hid (by unfold thrF; rw [if_pos (.inr (by rw [HN.out]; exact h2))])
    go_wp2_with fail
    go_ret
    exact ⟨by rw [HR.out]; rfl, hB0⟩
  obtain ⟨j, rfl⟩ : ∃ j : Nat, k = j := ⟨k.toNat, by omega⟩
  obtain ⟨o, ho⟩ : ∃ o, x.orders[j]? = some o := ⟨_, List.getElem?_eq_getElem (by rw [HN.out]; omega)⟩
  have HR0 : Hid (thrF x j = if o.off then 9 else 0) := Lib.hid (by
    unfold thrF
    rw [if_neg (by rw [HN.out]; omega), Int.toNat_natCast, ho])
  obtain ⟨ad, cs0, hA, hadb, hat, hcs⟩ := HOR.out.elem ho
  obtain ⟨C, cc, rfl, hI, hf⟩ := rOrd_at hat
  have y1 : W0.cell? ⟨(ad.add (j * 16)).block, (ad.add (j * 16)).off + 15, none⟩ = some (.bool o.off) := by rw [← add_split, ← add_of_add]; exact hcs 15 _ rfl
  have hj0 : (0 : Int) ≤ (j : Int) := by omega
  have hjn : (j : Int) < (N : Int) := by omega
  rw [hA] at x3
  clear hcs hat hI hf ho h1 h2
  obtain ⟨b, hb⟩ : ∃ b, o.off = b := ⟨_, rfl⟩
  rw [hb] at HR0 y1
  clear hb
  cases b
  · go_wp2_with fail
    go_ret
    exact ⟨by rw [HR0.out]; rfl, hB0⟩
  · go_wp2_with fail
    go_ret
    exact ⟨by rw [HR0.out]; rfl, hB0⟩
def zeroS : Stp := ⟨0, 0, 0, 0⟩
/-- A stop that is shifted; what is left of one that cannot be. -/
def shfT (s : Stp) (n : Int) : Stp := if shfB s n = true then shfS s n else zeroS
def shfR (o : Ord) (n : Int) : Ord × Int := if shfB o.pick n = true then ({ o with pick := shfS o.pick n, drop := shfT o.drop n }, if shfB o.drop n = true then 0 else 2) else ({ o with pick := zeroS }, 2)
def goodS (s : Stp) : Prop := (s.place = -1 ∧ s.opn = 0 ∧ s.close = 0 ∧ s.service = 0) ∨ win.Good s.place s.opn s.close s.service
theorem shfT_eq (s : Stp) (n : Int) : win.shiftV s.place s.opn s.close s.service n = .agg #[.int .i64 (shfT s n).place, .int .i64 (shfT s n).opn, .int .i64 (shfT s n).close, .int .i64 (shfT s n).service] ∧ win.shiftE s.place s.opn s.close n = if shfB s n = true then 0 else 2 := by
  have e : win.shiftB s.place s.opn s.close n = shfB s n := rfl
  unfold win.shiftV win.shiftE shfT shfS
  rw [e]
  split
  · split <;> exact ⟨rfl, rfl⟩
  · exact ⟨rfl, rfl⟩
theorem blk_other {w : World} {b q : Nat} {t : TypeId} {cs : List Value} (h : Blk w b t cs) (hne : b ≠ q) (i : Nat) (u : Value) : Blk (w.setCell ⟨q, i, none⟩ u) b t cs := (Below.heap_setCell _ _ _ _ hne).trans h
set_option maxRecDepth 20000 in
set_option maxHeartbeats 4000000 in
theorem shifted_any (o : Ord) (C : Option Addr) (c : Nat) (n : Int) (w : World) (hp : goodS o.pick) (hd : goodS o.drop) (hn : -9223372036854775808 ≤ n ∧ n ≤ 9223372036854775807) :
    Calls Tryz.prog 166 #[.agg (OrdCells o C c).toArray, .int .i64 n] w fun e w' => e = .returned (.tuple #[.agg (OrdCells (shfR o n).1 C c).toArray, .int .i64 (shfR o n).2]) ∧ Below w.heap.size w w' := by
  show Calls Tryz.prog 166 #[.agg #[.string o.name, .slice C o.load.length c, .int .i64 o.pick.place, .int .i64 o.pick.opn, .int .i64 o.pick.close, .int .i64 o.pick.service, .int .i64 o.drop.place, .int .i64 o.drop.opn, .int .i64 o.drop.close, .int .i64 o.drop.service, .int .i64 o.skills, .int .i64 o.penalty, .int .i64 o.split, .int .i64 o.last, .int .i64 o.now, .bool o.off], .int .i64 n] w _
  obtain ⟨W0, hW0⟩ : ∃ W0, (w.alloc (.cells (OrdCells o C c).toArray 35)).alloc (.cells gen.zOrd.toArray 35) = W0 := ⟨_, rfl⟩
  have hB0 : Below w.heap.size w W0 := by rw [← hW0]; exact ((Below.refl _ _).alloc (Nat.le_refl _) _).alloc (by simp) _
  have z0 : W0.heap.size = w.heap.size + 2 := by rw [← hW0]; simp
  have b0 : Blk W0 w.heap.size 35 (OrdCells o C c) := by
    rw [← hW0]
    exact (Blk.new w _ _).kept (World.grownBy_alloc _ _ none) (by simp)
  have b1 : Blk W0 (w.heap.size + 1) 35 gen.zOrd := by
    rw [← hW0]
    have h := Blk.new (w.alloc (.cells (OrdCells o C c).toArray 35)) 35 gen.zOrd
    rw [show (w.alloc (.cells (OrdCells o C c).toArray 35)).heap.size = w.heap.size + 1 by simp] at h
    exact h
  have hW1 : (w.alloc (.cells #[.string o.name, .slice C o.load.length c, .int .i64 o.pick.place, .int .i64 o.pick.opn, .int .i64 o.pick.close, .int .i64 o.pick.service, .int .i64 o.drop.place, .int .i64 o.drop.opn, .int .i64 o.drop.close, .int .i64 o.drop.service, .int .i64 o.skills, .int .i64 o.penalty, .int .i64 o.split, .int .i64 o.last, .int .i64 o.now, .bool o.off] 35)).alloc (.cells #[.string ⟨#[]⟩, .slice none 0 0, .int .i64 0, .int .i64 0, .int .i64 0, .int .i64 0, .int .i64 0, .int .i64 0, .int .i64 0, .int .i64 0, .int .i64 0, .int .i64 0, .int .i64 0, .int .i64 0, .int .i64 0, .bool false] 35) = W0 := hW0
  have HW1 := Lib.hid hW1
  have HX := Lib.hid b0
  have HY := Lib.hid b1
  obtain ⟨s1, hs1⟩ : ∃ s, shfT o.pick n = s := ⟨_, rfl⟩
  obtain ⟨s2, hs2⟩ : ∃ s, shfT o.drop n = s := ⟨_, rfl⟩
  obtain ⟨v1, hv1⟩ : ∃ b, shfB o.pick n = b := ⟨_, rfl⟩
  obtain ⟨v2, hv2⟩ : ∃ b, shfB o.drop n = b := ⟨_, rfl⟩
  have HP : Hid (∀ w, Calls Tryz.prog 207 #[.agg #[.int .i64 o.pick.place, .int .i64 o.pick.opn, .int .i64 o.pick.close, .int .i64 o.pick.service], .int .i64 n] w fun e w' => e = .returned (.tuple #[.agg #[.int .i64 s1.place, .int .i64 s1.opn, .int .i64 s1.close, .int .i64 s1.service], .int .i64 (if v1 = true then 0 else 2)]) ∧ Below w.heap.size w w') := Lib.hid (fun w => by
    have h := win.shift_any o.pick.place o.pick.opn o.pick.close o.pick.service n hp hn w
    rw [(shfT_eq o.pick n).1, (shfT_eq o.pick n).2, hs1, hv1] at h
    exact h)
  have HD : Hid (∀ w, Calls Tryz.prog 207 #[.agg #[.int .i64 o.drop.place, .int .i64 o.drop.opn, .int .i64 o.drop.close, .int .i64 o.drop.service], .int .i64 n] w fun e w' => e = .returned (.tuple #[.agg #[.int .i64 s2.place, .int .i64 s2.opn, .int .i64 s2.close, .int .i64 s2.service], .int .i64 (if v2 = true then 0 else 2)]) ∧ Below w.heap.size w w') := Lib.hid (fun w => by
    have h := win.shift_any o.drop.place o.drop.opn o.drop.close o.drop.service n hd hn w
    rw [(shfT_eq o.drop n).1, (shfT_eq o.drop n).2, hs2, hv2] at h
    exact h)
  have HR : Hid (shfR o n = if v1 = true then ({ o with pick := s1, drop := s2 }, if v2 = true then 0 else 2) else ({ o with pick := s1 }, 2)) := Lib.hid (by
    rw [← hs1, ← hs2, ← hv1, ← hv2]
    unfold shfR
    by_cases h : shfB o.pick n = true
    · rw [if_pos h, if_pos h, show shfT o.pick n = shfS o.pick n by unfold shfT; rw [if_pos h]]
    · rw [if_neg h, if_neg h, show shfT o.pick n = zeroS by unfold shfT; rw [if_neg h]])
  obtain ⟨r, hr⟩ : ∃ r, shfR o n = r := ⟨_, rfl⟩
  rw [hr] at HR ⊢
  have c2 := b0.cell (j := 2) rfl
  have c3 := b0.cell (j := 3) rfl
  have c4 := b0.cell (j := 4) rfl
  have c5 := b0.cell (j := 5) rfl
  clear hp hd hn hW0 hW1 b0 b1 hs1 hs2 hv1 hv2 hr
  go_enter Tryz.func166, Tryz.ntmps166
  go_upto_region 1 with fail
  rw [HW1.out]
  clear HW1
  go_wp2_with fail
  refine (HP.out W0).mono ?_
  rintro e w1 ⟨rfl, b1⟩
  have HB1 := Lib.hid (hB0.trans (b1.mono (by omega)))
  have HY1 := Lib.hid (HY.out.below b1)
  have X1 := HX.out.below b1
  have p0 := X1.cell (j := 2) rfl
  have p1 := X1.cell (j := 3) rfl
  have p2 := X1.cell (j := 4) rfl
  have p3 := X1.cell (j := 5) rfl
  have g0 := X1.frozen 2
  have g1 := X1.frozen 3
  have g2 := X1.frozen 4
  have g3 := X1.frozen 5
  go_upto_region 3 with fail
  clear p0 p1 p2 p3 g0 g1 g2 g3
  obtain ⟨W4, hW4⟩ : ∃ W, (((w1.setCell ⟨w.heap.size, 2, none⟩ (.int .i64 s1.place)).setCell ⟨w.heap.size, 3, none⟩ (.int .i64 s1.opn)).setCell ⟨w.heap.size, 4, none⟩ (.int .i64 s1.close)).setCell ⟨w.heap.size, 5, none⟩ (.int .i64 s1.service) = W := ⟨_, rfl⟩
  rw [hW4]
  have X4 : Hid (Blk W4 w.heap.size 35 (OrdCells { o with pick := s1 } C c)) := Lib.hid (by rw [← hW4]; exact (((X1.set 2 (.int .i64 s1.place)).set 3 (.int .i64 s1.opn)).set 4 (.int .i64 s1.close)).set 5 (.int .i64 s1.service))
  have Y4 : Hid (Blk W4 (w.heap.size + 1) 35 gen.zOrd) := Lib.hid (by rw [← hW4]; exact blk_other (blk_other (blk_other (blk_other HY1.out (by omega) _ _) (by omega) _ _) (by omega) _ _) (by omega) _ _)
  have B4 : Hid (Below w.heap.size w W4) := Lib.hid (by rw [← hW4]; exact (((HB1.out.setCell (p := ⟨w.heap.size, 2, none⟩) (Nat.le_refl _) _).setCell (p := ⟨w.heap.size, 3, none⟩) (Nat.le_refl _) _).setCell (p := ⟨w.heap.size, 4, none⟩) (Nat.le_refl _) _).setCell (p := ⟨w.heap.size, 5, none⟩) (Nat.le_refl _) _)
  clear hW4
  clear b1 X1
  cases v1
  · have HRR : Hid (r = ({ o with pick := s1 }, 2)) := Lib.hid (by rw [HR.out]; rfl)
    go_wp2_with (first
      | ((with_reducible refine wpList_loadG stOrd' _ rfl ⟨w.heap.size, 0, none⟩ (OrdCells { o with pick := s1 } C c) ?_ ?_ ?_ ?_ ?_); exact rfl; exact rfl; exact X4.out.cells; exact rfl)
      | ((with_reducible refine wpList_storeL stOrd' rfl _ _ rfl (w.heap.size + 1) gen.zOrd (OrdCells { o with pick := s1 } C c) ?_ ?_ ?_ ?_ ?_ (ordCells_one _ _ _) ?_); exact rfl; exact rfl; exact Y4.out; exact rfl; exact rfl; intro wz k1 k2 k3 k4; have K := Lib.hid (And.intro k1 (And.intro k2 (And.intro k3 k4))); clear k1 k2 k3 k4))
    have HRz : Blk wz (w.heap.size + 1) 35 (OrdCells { o with pick := s1 } C c) := K.out.1
    refine bodyPost_ret (v := .tuple #[.agg (OrdCells { o with pick := s1 } C c).toArray, .int .i64 2]) (big.res_cell_tmp stOrd' Tryz.results166 rfl rfl HRz.cells rfl) rfl ?_
    rw [HRR.out]
    exact ⟨rfl, B4.out.trans (K.out.2.2.2.mono (by omega))⟩
  · have HR2 : Hid (r = ({ o with pick := s1, drop := s2 }, if v2 = true then 0 else 2)) := Lib.hid (by rw [HR.out]; rfl)
    have c6 := X4.out.cell (j := 6) rfl
    have c7 := X4.out.cell (j := 7) rfl
    have c8 := X4.out.cell (j := 8) rfl
    have c9 := X4.out.cell (j := 9) rfl
    go_wp2_with fail
    refine (HD.out W4).mono ?_
    rintro e w5 ⟨rfl, b5⟩
    have z5 := b5.size
    have HB5 := Lib.hid (B4.out.trans (b5.mono B4.out.size))
    have HY5 := Lib.hid (Y4.out.below b5)
    have X5 := X4.out.below b5
    have p0 := X5.cell (j := 6) rfl
    have p1 := X5.cell (j := 7) rfl
    have p2 := X5.cell (j := 8) rfl
    have p3 := X5.cell (j := 9) rfl
    have g0 := X5.frozen 6
    have g1 := X5.frozen 7
    have g2 := X5.frozen 8
    have g3 := X5.frozen 9
    go_upto_region 6 with fail
    clear p0 p1 p2 p3 g0 g1 g2 g3
    obtain ⟨W6, hW4⟩ : ∃ W, (((w5.setCell ⟨w.heap.size, 6, none⟩ (.int .i64 s2.place)).setCell ⟨w.heap.size, 7, none⟩ (.int .i64 s2.opn)).setCell ⟨w.heap.size, 8, none⟩ (.int .i64 s2.close)).setCell ⟨w.heap.size, 9, none⟩ (.int .i64 s2.service) = W := ⟨_, rfl⟩
    rw [hW4]
    have X6 : Hid (Blk W6 w.heap.size 35 (OrdCells { o with pick := s1, drop := s2 } C c)) := Lib.hid (by rw [← hW4]; exact (((X5.set 6 (.int .i64 s2.place)).set 7 (.int .i64 s2.opn)).set 8 (.int .i64 s2.close)).set 9 (.int .i64 s2.service))
    have Y6 : Hid (Blk W6 (w.heap.size + 1) 35 gen.zOrd) := Lib.hid (by rw [← hW4]; exact blk_other (blk_other (blk_other (blk_other HY5.out (by omega) _ _) (by omega) _ _) (by omega) _ _) (by omega) _ _)
    have B6 : Hid (Below w.heap.size w W6) := Lib.hid (by rw [← hW4]; exact (((HB5.out.setCell (p := ⟨w.heap.size, 6, none⟩) (Nat.le_refl _) _).setCell (p := ⟨w.heap.size, 7, none⟩) (Nat.le_refl _) _).setCell (p := ⟨w.heap.size, 8, none⟩) (Nat.le_refl _) _).setCell (p := ⟨w.heap.size, 9, none⟩) (Nat.le_refl _) _)
    clear hW4
    clear b5 X5
    cases v2
    · have HRR : Hid (r = ({ o with pick := s1, drop := s2 }, 2)) := Lib.hid (by rw [HR2.out]; rfl)
      go_wp2_with (first
        | ((with_reducible refine wpList_loadG stOrd' _ rfl ⟨w.heap.size, 0, none⟩ (OrdCells { o with pick := s1, drop := s2 } C c) ?_ ?_ ?_ ?_ ?_); exact rfl; exact rfl; exact X6.out.cells; exact rfl)
        | ((with_reducible refine wpList_storeL stOrd' rfl _ _ rfl (w.heap.size + 1) gen.zOrd (OrdCells { o with pick := s1, drop := s2 } C c) ?_ ?_ ?_ ?_ ?_ (ordCells_one _ _ _) ?_); exact rfl; exact rfl; exact Y6.out; exact rfl; exact rfl; intro wz k1 k2 k3 k4; have K := Lib.hid (And.intro k1 (And.intro k2 (And.intro k3 k4))); clear k1 k2 k3 k4))
      have HRz : Blk wz (w.heap.size + 1) 35 (OrdCells { o with pick := s1, drop := s2 } C c) := K.out.1
      refine bodyPost_ret (v := .tuple #[.agg (OrdCells { o with pick := s1, drop := s2 } C c).toArray, .int .i64 2]) (big.res_cell_tmp stOrd' Tryz.results166 rfl rfl HRz.cells rfl) rfl ?_
      rw [HRR.out]
      exact ⟨rfl, B6.out.trans (K.out.2.2.2.mono (by omega))⟩
    · have HRR : Hid (r = ({ o with pick := s1, drop := s2 }, 0)) := Lib.hid (by rw [HR2.out]; rfl)
      go_wp2_with (first
        | ((with_reducible refine wpList_loadG stOrd' _ rfl ⟨w.heap.size, 0, none⟩ (OrdCells { o with pick := s1, drop := s2 } C c) ?_ ?_ ?_ ?_ ?_); exact rfl; exact rfl; exact X6.out.cells; exact rfl)
        | ((with_reducible refine wpList_storeL stOrd' rfl _ _ rfl (w.heap.size + 1) gen.zOrd (OrdCells { o with pick := s1, drop := s2 } C c) ?_ ?_ ?_ ?_ ?_ (ordCells_one _ _ _) ?_); exact rfl; exact rfl; exact Y6.out; exact rfl; exact rfl; intro wz k1 k2 k3 k4; have K := Lib.hid (And.intro k1 (And.intro k2 (And.intro k3 k4))); clear k1 k2 k3 k4))
      have HRz : Blk wz (w.heap.size + 1) 35 (OrdCells { o with pick := s1, drop := s2 } C c) := K.out.1
      refine bodyPost_ret (v := .tuple #[.agg (OrdCells { o with pick := s1, drop := s2 } C c).toArray, .int .i64 0]) (big.res_cell_tmp stOrd' Tryz.results166 rfl rfl HRz.cells rfl) rfl ?_
      rw [HRR.out]
      exact ⟨rfl, B6.out.trans (K.out.2.2.2.mono (by omega))⟩
end Go.Proofs.YtofabhenmplkoaaGreatDoor.evt

/- event.readOrder. -/
import Derived.Test.YtofabhenmplkoaaGreatDoorPrsA
import Derived.Test.YtofabhenmplkoaaGreatDoorGenF
import Derived.Test.YtofabhenmplkoaaGreatDoorGenR
import Derived.Test.YtofabhenmplkoaaGreatDoorBlkS
namespace Go.Proofs.YtofabhenmplkoaaGreatDoor.evt
open Go.RowKit
open Go.Proofs.YtofabhenmplkoaaGreatDoor.lib Go.Proofs.YtofabhenmplkoaaGreatDoor.rd Go.Proofs.YtofabhenmplkoaaGreatDoor.app Go.Proofs.YtofabhenmplkoaaGreatDoor.els Go.Proofs.YtofabhenmplkoaaGreatDoor.typ Go.Proofs.YtofabhenmplkoaaGreatDoor.big Go.Proofs.YtofabhenmplkoaaGreatDoor.ins Go.Proofs.YtofabhenmplkoaaGreatDoor.ord
open Go.Proofs.YtofabhenmplkoaaGreatDoor.gen hiding zOrd bOrd
open Go.Proofs.YtofabhenmplkoaaGreatDoor.off (setM step_storeM wpList_storeM)
open Go.Proofs.YtofabhenmplkoaaGreatDoor.txt (in64 By strV strV_of joinS decW decW_any Tabs elem_str nameB name_any toList_data Strs numL number_any own_cap)
set_option linter.unusedVariables false
set_option linter.unusedSimpArgs false

def nmCells (nm : ByteArray) (v : Value) : List Value := [.string nm, v, .int .i64 0, .int .i64 0, .int .i64 0, .int .i64 0, .int .i64 0, .int .i64 0, .int .i64 0, .int .i64 0, .int .i64 0, .int .i64 0, .int .i64 0, .int .i64 0, .int .i64 0, .bool false]
theorem nm_fill (nm : ByteArray) : Instr.fill ((#[(0, 1), (1, 1), (2, 4), (6, 4), (10, 1), (11, 1), (12, 1), (13, 1), (14, 1), (15, 1)] : Array (Nat × Nat))[·]?) (Value.agg zOrd.toArray).cells [(0, .string nm)] = some (nmCells nm (.slice none 0 0)).toArray := by kernel_rfl
theorem nm_one (nm : ByteArray) : ∀ u ∈ nmCells nm (.slice none 0 0), u.oneCell' = true := by
  intro u hu
  simp [nmCells] at hu
  rcases hu with rfl | rfl | rfl | rfl <;> rfl
/-- What readOrder answers. -/
def RoOut (w : World) (L : List By) (en : Ending) (w' : World) : Prop := Below w.heap.size w w' ∧
  ((readO L = none ∧ en = .returned (.tuple #[.agg zOrd.toArray, .bool false])) ∨ ∃ (o : Ord) (C : Option Addr) (c : Nat), readO L = some o ∧ en = .returned (.tuple #[.agg (OrdCells o C c).toArray, .bool true]) ∧ IntsOff w' (fun b => w.heap.size ≤ b) C o.load)
theorem Strs.drop {w : World} {B : Nat} {A : Option Addr} {L : List By} (h : Strs w B A L) (k : Nat) (hk : k < L.length) : ∃ ad, A = some ad ∧ Strs w B (some (ad.add k)) (L.drop k) := by
  obtain ⟨⟨h1, h2⟩, h3⟩ := h
  obtain ⟨ad, e, hb, hc⟩ := h2 (by omega)
  refine ⟨ad, e, ⟨by simp, fun _ => ⟨_, rfl, by rw [block_of_add]; exact hb, fun j u hu => ?_⟩⟩, by rw [List.length_drop]; omega⟩
  rw [add_of_add]
  refine hc (k + j) u ?_
  rw [List.map_drop, List.getElem?_drop] at hu
  exact hu
set_option maxRecDepth 20000 in
set_option maxHeartbeats 4000000 in
theorem readOrder_any (L : List By) (A : Option Addr) (n c : Nat) (hn : n = L.length) (hnc : n ≤ c) (w : World) (hL : Strs w w.heap.size A L) (hm : ∀ x ∈ L, x.length ≤ 100000) (ht : Tabs w) : Calls Tryz.prog 129 #[.slice A n c] w (RoOut w L) := by
  obtain ⟨W0, hW0⟩ : ∃ W0, w.alloc (.cells zOrd.toArray 35) = W0 := ⟨_, rfl⟩
  have hB0 : Below w.heap.size w W0 := by rw [← hW0]; exact (Below.refl _ _).alloc (Nat.le_refl _) _
  have z0 := hB0.size
  have b0 : Blk W0 w.heap.size 35 zOrd := by rw [← hW0]; exact Blk.new w _ _
  have HR0 := Lib.hid b0
  obtain ⟨rb, hrb0⟩ : ∃ b, w.heap.size = b := ⟨_, rfl⟩
  have hrb : w.heap.size ≤ rb := by omega
  have zz : rb < W0.heap.size := by rw [← hrb0]; exact b0.lt
  have HB0 := Lib.hid hB0
  have HL := Lib.hid (hL.below hB0)
  have HM := Lib.hid hm
  have HN := Lib.hid hn
  have HT := Lib.hid (ht.below hB0)
  have HW0 := Lib.hid (show w.alloc (.cells #[.string ⟨#[]⟩, .slice none 0 0, .int .i64 0, .int .i64 0, .int .i64 0, .int .i64 0, .int .i64 0, .int .i64 0, .int .i64 0, .int .i64 0, .int .i64 0, .int .i64 0, .int .i64 0, .int .i64 0, .int .i64 0, .bool false] 35) = W0 from hW0)
  clear hL hm hn ht b0 hB0 hW0
  go_enter Tryz.func129, Tryz.ntmps129
  go_upto_region 1 with fail
  rw [HW0.out]
  rw [hrb0] at HR0
  have HR0w := HR0
  clear HW0
  by_cases h2 : n < 2
  · have HEE : Hid (readO L = none) := Lib.hid (by
      have := HN.out
      unfold readO
      cases L with
      | nil => rfl
      | cons x r =>
        cases r with
        | nil => rfl
        | cons y r => simp at this; omega)
    have h2' : (n : Int) < 2 := by omega
    have HBX : Hid (Below W0.heap.size W0 W0) := Lib.hid (Below.refl _ _)
    go_wp2_with (first
      | fail
      | ((with_reducible refine wpList_buildL bOrd rfl _ rfl _ zOrd ?_ (by kernel_rfl) ?_); exact rfl)
      | ((with_reducible refine wpList_storeL stOrd' rfl _ _ rfl rb zOrd zOrd ?_ ?_ ?_ ?_ ?_ (by decide) ?_); exact rfl; exact rfl; exact HR0.out; exact rfl; exact rfl; intro wz k1 k2 k3 k4; have K := Lib.hid (And.intro k1 (And.intro k2 (And.intro k3 k4))); clear k1 k2 k3 k4))
    have HRz : Blk wz rb 35 zOrd := K.out.1
    refine bodyPost_ret (v := .tuple #[.agg zOrd.toArray, .bool false]) (big.res_cell_tmp stOrd' Tryz.results129 rfl rfl HRz.cells rfl) rfl ?_
    exact ⟨HB0.out.trans ((HBX.out.mono z0).trans (K.out.2.2.2.mono hrb)), .inl ⟨HEE.out, rfl⟩⟩
  obtain ⟨ad, hA, hL1⟩ := Strs.drop HL.out 1 (by rw [← HN.out]; omega)
  obtain ⟨ad0, x0, hA0, hadb0, hx0, hcell0⟩ := HL.out.at_ (k := 0) (by rw [← HN.out]; omega)
  subst hA
  obtain rfl : ad = ad0 := Option.some.inj hA0
  obtain ⟨r, hLr⟩ : ∃ r, L = x0 :: r := by
    cases L with
    | nil => cases hx0
    | cons y r => exact ⟨r, by rw [show y = x0 from Option.some.inj hx0]⟩
  have hrl : r.length = n - 1 := by rw [HN.out, hLr]; rfl
  rw [show L.drop 1 = r by rw [hLr]; rfl] at hL1
  have HL1 := Lib.hid hL1
  have hrm : ∀ x ∈ r, x.length ≤ 100000 := fun x hx => HM.out x (by rw [hLr]; exact List.mem_cons_of_mem _ hx)
  have HRM := Lib.hid hrm
  have HRL := Lib.hid hrl.symm
  have HLR := Lib.hid hLr
  have h21 : (1 : Int) ≤ (n : Int) := by omega
  have HRW := Lib.hid (HL1.out.more (show w.heap.size ≤ W0.heap.size by omega))
  clear hx0 hLr hrl hA0 hL1 hrm
  have hread : Calls Tryz.prog 130 #[.slice (some (ad.add 1)) (n - 1) (c - 1)] W0 (RdOut W0 r) := read_any r _ _ _ HRL.out _ HRW.out HRM.out HT.out
  have hsl : (some (ad.add 1) : Option Addr) = some ⟨ad.block, ad.off + 1, none⟩ := rfl
  rw [hsl] at hread
  have hRO : Hid (readO L = (readF r).bind (readN x0)) := Lib.hid (by
    rw [HLR.out, readO_cons x0 (by intro e; have h := HRL.out; rw [e] at h; simp at h; omega)])
  cases hrd : readF r with
  | none =>
    have HEE : Hid (readO L = none) := Lib.hid (by rw [hRO.out, hrd]; rfl)
    have hread2 : Calls Tryz.prog 130 #[.slice (some ⟨ad.block, ad.off + 1, none⟩) (n - 1) (c - 1)] W0 fun e w' => e = .returned (.tuple #[.slice none 0 0, .bool false]) ∧ Below W0.heap.size W0 w' := hread.mono (by
      rintro e w' ⟨hb, ⟨_, h⟩ | ⟨l, A, c, n, h, _⟩⟩
      · exact ⟨h, hb⟩
      · rw [hrd] at h; cases h)
    clear hread hrd hRO
    go_upto_region 4 with (go_at_call 130; refine hread2.mono ?_; rintro e1 w1 ⟨rfl, hb1⟩)
    have HR1 := Lib.hid (HR0.out.below hb1)
    have HBX := Lib.hid hb1
    clear hread2 hb1 HR0
    have HR0 := HR1
    go_wp2_with (first
      | fail
      | ((with_reducible refine wpList_buildL bOrd rfl _ rfl _ zOrd ?_ (by kernel_rfl) ?_); exact rfl)
      | ((with_reducible refine wpList_storeL stOrd' rfl _ _ rfl rb zOrd zOrd ?_ ?_ ?_ ?_ ?_ (by decide) ?_); exact rfl; exact rfl; exact HR0.out; exact rfl; exact rfl; intro wz k1 k2 k3 k4; have K := Lib.hid (And.intro k1 (And.intro k2 (And.intro k3 k4))); clear k1 k2 k3 k4))
    have HRz : Blk wz rb 35 zOrd := K.out.1
    refine bodyPost_ret (v := .tuple #[.agg zOrd.toArray, .bool false]) (big.res_cell_tmp stOrd' Tryz.results129 rfl rfl HRz.cells rfl) rfl ?_
    exact ⟨HB0.out.trans ((HBX.out.mono z0).trans (K.out.2.2.2.mono hrb)), .inl ⟨HEE.out, rfl⟩⟩
  | some ns =>
    obtain ⟨hnl, hn64⟩ := readF_len hrd
    have hread2 : Calls Tryz.prog 130 #[.slice (some ⟨ad.block, ad.off + 1, none⟩) (n - 1) (c - 1)] W0 fun e w' => ∃ (A1 : Option Addr) (c1 : Nat), e = .returned (.tuple #[.slice A1 ns.length c1, .bool true]) ∧ Below W0.heap.size W0 w' ∧ IOwn w' W0.heap.size A1 c1 ns := hread.mono (by
      rintro e w' ⟨hb, ⟨h, _⟩ | ⟨l, A, c, n, h, hn, he, ho⟩⟩
      · rw [hrd] at h; cases h
      · rw [hrd] at h
        obtain rfl := Option.some.inj h
        subst hn
        exact ⟨A, c, he, hb, ho⟩)
    have HRO : Hid (readO L = readN x0 ns) := Lib.hid (by rw [hRO.out, hrd]; rfl)
    have HN64 := Lib.hid hn64
    have HNL := Lib.hid hnl
    clear hread hrd hRO hn64 hnl
    obtain ⟨k1, hk1⟩ : ∃ k, ns.length = k := ⟨_, rfl⟩
    rw [hk1] at hread2
    go_upto_region 4 with (go_at_call 130; refine hread2.mono ?_; rintro e1 w1 ⟨A1, c1, rfl, hb1, hO1⟩)
    have HB1 := Lib.hid hb1
    have z1 := hb1.size
    have hk10 : 0 < k1 := by rw [← hk1, HNL.out, ← HRL.out]; omega
    obtain ⟨g1, hA1, hg1a, hg1b⟩ : ∃ g, A1 = some ⟨g, 0, none⟩ ∧ W0.heap.size ≤ g ∧ g < w1.heap.size := by
      have h := hO1
      unfold IOwn at h
      obtain ⟨g, cap, hv, _, hlt⟩ := World.ownsRow.form h (by omega)
      injection hv with q1 _ _
      subst q1
      exact ⟨g, rfl, own_base h g rfl, hlt⟩
    subst hA1
    have hk1c : k1 ≤ c1 := by have h := own_cap hO1; omega
    have HC1 : Hid (∀ j x, ns[j]? = some x → w1.cell? ⟨g1, j, none⟩ = some (.int .i64 x)) := Lib.hid (fun j x hx => by
      have hj := (List.getElem?_eq_some_iff.1 hx).1
      have h := World.ownsRow.cellAt hO1 j (by omega)
      rw [h, List.getElem?_map, hx]; rfl)
    have HK1 := Lib.hid hk1
    obtain ⟨c0, tl, hns⟩ : ∃ c0 tl, ns = c0 :: tl := by
      cases ns with
      | nil => simp at hk1; omega
      | cons a b => exact ⟨a, b, rfl⟩
    have f0 : w1.cell? ⟨g1, 0, none⟩ = some (.int .i64 c0) := HC1.out 0 c0 (by rw [hns]; rfl)
    have HNS := Lib.hid hns
    have hRN : Hid (readO L = if c0 < 0 ∨ 3 < c0 ∨ (k1 : Int) ≠ 1 + c0 + 13 then none else some (ordM x0 c0.toNat ns)) := Lib.hid (by
      rw [HRO.out, ← HK1.out, HNS.out]; rfl)
    have hc64 : in64 c0 := HN64.out c0 (by rw [hns]; exact List.mem_cons_self ..)
    unfold in64 at hc64
    obtain ⟨hc64a, hc64b⟩ := hc64
    have HRX := Lib.hid (HR0.out.below hb1)
    have HBX := Lib.hid hb1
    clear hns hk1 hb1 hread2 HRO HR0
    have HR0 := HRX; clear HRX
    by_cases t1 : c0 < 0
    · have HEE : Hid (readO L = none) := Lib.hid (by rw [hRN.out, if_pos (.inl t1)])
      go_wp2_with (first
        | fail
        | ((with_reducible refine wpList_buildL bOrd rfl _ rfl _ zOrd ?_ (by kernel_rfl) ?_); exact rfl)
        | ((with_reducible refine wpList_storeL stOrd' rfl _ _ rfl rb zOrd zOrd ?_ ?_ ?_ ?_ ?_ (by decide) ?_); exact rfl; exact rfl; exact HR0.out; exact rfl; exact rfl; intro wz k1 k2 k3 k4; have K := Lib.hid (And.intro k1 (And.intro k2 (And.intro k3 k4))); clear k1 k2 k3 k4))
      have HRz : Blk wz rb 35 zOrd := K.out.1
      refine bodyPost_ret (v := .tuple #[.agg zOrd.toArray, .bool false]) (big.res_cell_tmp stOrd' Tryz.results129 rfl rfl HRz.cells rfl) rfl ?_
      exact ⟨HB0.out.trans ((HBX.out.mono z0).trans (K.out.2.2.2.mono hrb)), .inl ⟨HEE.out, rfl⟩⟩
    by_cases t2 : 3 < c0
    · have HEE : Hid (readO L = none) := Lib.hid (by rw [hRN.out, if_pos (.inr (.inl t2))])
      go_wp2_with (first
        | fail
        | ((with_reducible refine wpList_buildL bOrd rfl _ rfl _ zOrd ?_ (by kernel_rfl) ?_); exact rfl)
        | ((with_reducible refine wpList_storeL stOrd' rfl _ _ rfl rb zOrd zOrd ?_ ?_ ?_ ?_ ?_ (by decide) ?_); exact rfl; exact rfl; exact HR0.out; exact rfl; exact rfl; intro wz k1 k2 k3 k4; have K := Lib.hid (And.intro k1 (And.intro k2 (And.intro k3 k4))); clear k1 k2 k3 k4))
      have HRz : Blk wz rb 35 zOrd := K.out.1
      refine bodyPost_ret (v := .tuple #[.agg zOrd.toArray, .bool false]) (big.res_cell_tmp stOrd' Tryz.results129 rfl rfl HRz.cells rfl) rfl ?_
      exact ⟨HB0.out.trans ((HBX.out.mono z0).trans (K.out.2.2.2.mono hrb)), .inl ⟨HEE.out, rfl⟩⟩
    by_cases t3 : (k1 : Int) ≠ 1 + c0 + 13
    · have HEE : Hid (readO L = none) := Lib.hid (by rw [hRN.out, if_pos (.inr (.inr t3))])
      go_wp2_with (first
        | fail
        | ((with_reducible refine wpList_buildL bOrd rfl _ rfl _ zOrd ?_ (by kernel_rfl) ?_); exact rfl)
        | ((with_reducible refine wpList_storeL stOrd' rfl _ _ rfl rb zOrd zOrd ?_ ?_ ?_ ?_ ?_ (by decide) ?_); exact rfl; exact rfl; exact HR0.out; exact rfl; exact rfl; intro wz k1 k2 k3 k4; have K := Lib.hid (And.intro k1 (And.intro k2 (And.intro k3 k4))); clear k1 k2 k3 k4))
      have HRz : Blk wz rb 35 zOrd := K.out.1
      refine bodyPost_ret (v := .tuple #[.agg zOrd.toArray, .bool false]) (big.res_cell_tmp stOrd' Tryz.results129 rfl rfl HRz.cells rfl) rfl ?_
      exact ⟨HB0.out.trans ((HBX.out.mono z0).trans (K.out.2.2.2.mono hrb)), .inl ⟨HEE.out, rfl⟩⟩
    have HRS : Hid (readO L = some (ordM x0 c0.toNat ns)) := Lib.hid (by rw [hRN.out, if_neg (by rw [not_or, not_or]; exact ⟨t1, t2, t3⟩)])
    obtain ⟨k, rfl⟩ : ∃ k : Nat, c0 = k := ⟨c0.toNat, by omega⟩
    have hk3 : k ≤ 3 := by omega
    have hk14 : k1 = k + 14 := by omega
    subst hk14
    clear hRN hc64a hc64b t1 t2
    have e0 : w1.cell? ad = some (.string ⟨x0.toArray⟩) := by
      have h := (HB1.out.cell (p := ad.add 0) (by rw [block_of_add]; omega)).trans hcell0
      exact h
    have hx0b : ad.block < w1.heap.size := by omega
    have q1 : ¬ (k : Int) < 0 := by omega
    have q2 : ¬ 3 < (k : Int) := by omega
    have q3 : ((k : Int) + 14 != 1 + (k : Int) + 13) = false := by simp; omega
    clear t3
    go_upto_region 7 with (first
      | ((with_reducible refine wpList_buildL bOrd rfl _ rfl [(0, .string ⟨x0.toArray⟩)] (nmCells ⟨x0.toArray⟩ (.slice none 0 0)) ?_ (nm_fill _) ?_); exact rfl)
      | ((with_reducible refine wpList_storeL stOrd' rfl _ _ rfl w1.heap.size zOrd (nmCells ⟨x0.toArray⟩ (.slice none 0 0)) ?_ ?_ ?_ ?_ ?_ (nm_one _) ?_); exact rfl; exact rfl; exact World.alloc_heap_new w1 _; exact rfl; exact rfl; intro w2 k1 k2 k3 k4; have K := Lib.hid (And.intro k1 (And.intro k2 (And.intro k3 k4))); clear k1 k2 k3 k4))
    have b12 : Below w1.heap.size w1 w2 := ((Below.refl _ _).alloc (Nat.le_refl _) _).trans K.out.2.2.2
    have z2 : w1.heap.size < w2.heap.size := by rw [K.out.2.2.1]; simp
    obtain ⟨ob, hob⟩ : ∃ b, w1.heap.size = b := ⟨_, rfl⟩
    have o2 : Blk w2 ob 35 (nmCells ⟨x0.toArray⟩ (.slice none 0 0)) := by rw [← hob]; exact K.out.1
    have HC2 : Hid (∀ j x, ns[j]? = some x → w2.cell? ⟨g1, j, none⟩ = some (.int .i64 x)) := Lib.hid (fun j x hx => (b12.cell (p := ⟨g1, j, none⟩) hg1b).trans (HC1.out j x hx))
    have f2 : w2.cell? ⟨g1, 0, none⟩ = some (.int .i64 (k : Int)) := HC2.out 0 _ (by rw [HNS.out]; rfl)
    have HB2 := Lib.hid (HB1.out.trans (b12.mono z1))
    rw [hob] at z2 hg1b ⊢
    have g0 := o2.cell (j := 1) rfl
    have g2 := o2.frozen 1
    have HO2 := Lib.hid o2
    clear o2 K b12 e0 f0 hob hO1 HR0 HBX
    go_upto_if 49 with fail
    go_cut [6] (fun v wx => v = .pointer (some ⟨ob, 0, none⟩) ∧ ∃ C cc, Blk wx ob 35 (nmCells ⟨x0.toArray⟩ (.slice C k cc)) ∧ Below ob w2 wx ∧ (k = 0 ∧ C = none ∨ C = some ⟨g1, 1, none⟩))
    case first => as_aux_lemma =>
      by_cases hk0 : k = 0
      · subst hk0
        go_wp2
        go_meet
        exact ⟨rfl, none, 0, HO2.out, Below.refl _ _, by simp⟩
      · have hk1 : 0 < (k : Int) := by omega
        have hk2 : 1 + (k : Int) ≤ (c1 : Int) := by omega
        go_wp2
        go_meet
        exact ⟨rfl, some ⟨g1, 1, none⟩, c1 - 1, HO2.out.set 1 _, Below.setCell (p := ⟨ob, 1, none⟩) (Below.refl _ _) (Nat.le_refl _) _, .inr rfl⟩
    obtain ⟨h6, C, cc, hO3, hb3, hC⟩ := hcut
    subst h6
    have HC3 : Hid (∀ j x, ns[j]? = some x → wc.cell? ⟨g1, j, none⟩ = some (.int .i64 x)) := Lib.hid (fun j x hx => (hb3.cell (p := ⟨g1, j, none⟩) hg1b).trans (HC2.out j x hx))
    have f3 : wc.cell? ⟨g1, 0, none⟩ = some (.int .i64 (k : Int)) := HC3.out 0 _ (by rw [HNS.out]; rfl)
    have HO3 := Lib.hid hO3
    have HB3 := Lib.hid (HB2.out.trans (hb3.mono (by omega)))
    have z3 := hb3.size
    have hk2 : 1 + (k : Int) ≤ (k : Int) + 14 := by omega
    clear f2 g0 g2 HO2 HB2 hO3 hb3
    go_upto_region 10 with fail
    rw [show k + 14 - (1 + k) = 13 by omega]
    obtain ⟨y0, hy0⟩ : ∃ y, ns[1 + k + 0]? = some y := ⟨_, List.getElem?_eq_getElem (by rw [HK1.out]; omega)⟩
    have HY0 := Lib.hid hy0
    obtain ⟨y1, hy1⟩ : ∃ y, ns[1 + k + 1]? = some y := ⟨_, List.getElem?_eq_getElem (by rw [HK1.out]; omega)⟩
    have HY1 := Lib.hid hy1
    obtain ⟨y2, hy2⟩ : ∃ y, ns[1 + k + 2]? = some y := ⟨_, List.getElem?_eq_getElem (by rw [HK1.out]; omega)⟩
    have HY2 := Lib.hid hy2
    obtain ⟨y3, hy3⟩ : ∃ y, ns[1 + k + 3]? = some y := ⟨_, List.getElem?_eq_getElem (by rw [HK1.out]; omega)⟩
    have HY3 := Lib.hid hy3
    obtain ⟨y4, hy4⟩ : ∃ y, ns[1 + k + 4]? = some y := ⟨_, List.getElem?_eq_getElem (by rw [HK1.out]; omega)⟩
    have HY4 := Lib.hid hy4
    obtain ⟨y5, hy5⟩ : ∃ y, ns[1 + k + 5]? = some y := ⟨_, List.getElem?_eq_getElem (by rw [HK1.out]; omega)⟩
    have HY5 := Lib.hid hy5
    obtain ⟨y6, hy6⟩ : ∃ y, ns[1 + k + 6]? = some y := ⟨_, List.getElem?_eq_getElem (by rw [HK1.out]; omega)⟩
    have HY6 := Lib.hid hy6
    obtain ⟨y7, hy7⟩ : ∃ y, ns[1 + k + 7]? = some y := ⟨_, List.getElem?_eq_getElem (by rw [HK1.out]; omega)⟩
    have HY7 := Lib.hid hy7
    obtain ⟨y8, hy8⟩ : ∃ y, ns[1 + k + 8]? = some y := ⟨_, List.getElem?_eq_getElem (by rw [HK1.out]; omega)⟩
    have HY8 := Lib.hid hy8
    obtain ⟨y9, hy9⟩ : ∃ y, ns[1 + k + 9]? = some y := ⟨_, List.getElem?_eq_getElem (by rw [HK1.out]; omega)⟩
    have HY9 := Lib.hid hy9
    obtain ⟨y10, hy10⟩ : ∃ y, ns[1 + k + 10]? = some y := ⟨_, List.getElem?_eq_getElem (by rw [HK1.out]; omega)⟩
    have HY10 := Lib.hid hy10
    obtain ⟨y11, hy11⟩ : ∃ y, ns[1 + k + 11]? = some y := ⟨_, List.getElem?_eq_getElem (by rw [HK1.out]; omega)⟩
    have HY11 := Lib.hid hy11
    obtain ⟨y12, hy12⟩ : ∃ y, ns[1 + k + 12]? = some y := ⟨_, List.getElem?_eq_getElem (by rw [HK1.out]; omega)⟩
    have HY12 := Lib.hid hy12
    have HS : Hid (∀ wx, Below ob wc wx → ∀ j y, ns[1 + k + j]? = some y → wx.cell? ⟨g1, 1 + k + j, none⟩ = some (.int .i64 y)) := Lib.hid (fun wx hb j y h => (hb.cell (p := ⟨g1, 1 + k + j, none⟩) hg1b).trans (HC3.out _ _ h))
    clear hy0 hy1 hy2 hy3 hy4 hy5 hy6 hy7 hy8 hy9 hy10 hy11 hy12 f3
    have HW : Hid (Blk wc ob 35 (nmCells ⟨x0.toArray⟩ (.slice C k cc)) ∧ Below ob wc wc) := Lib.hid ⟨HO3.out, Below.refl _ _⟩
    (refine wp_region_held_drew (S := (fun w' => w'.cell? ⟨g1, 1 + k, none⟩ = some (.int .i64 y0) ∧ w'.cell? ⟨g1, 1 + k+ 1, none⟩ = some (.int .i64 y1) ∧ w'.cell? ⟨g1, 1 + k+ 2, none⟩ = some (.int .i64 y2) ∧ w'.cell? ⟨g1, 1 + k+ 3, none⟩ = some (.int .i64 y3))) (by kernel_rfl) ?_ (fun hHeld => ?_))
    · exact ⟨HS.out _ HW.out.2 0 _ HY0.out, HS.out _ HW.out.2 1 _ HY1.out, HS.out _ HW.out.2 2 _ HY2.out, HS.out _ HW.out.2 3 _ HY3.out⟩
    (refine wpAnyH_take (i := 0) (v := ?_) rfl (by kernel_rfl) (by kernel_rfl) (by kernel_rfl) (fun _ _ _ h => h) (Or.inl ⟨by kernel_rfl, ?_⟩) (by assumption) ?_; rotate_left; (focus (intro w hSw; (try dsimp only at hSw); go_simp; all_goals with_reducible rfl)); (try simp only [Act.put, List.getElem_toArray, List.getElem_cons_succ, List.getElem_cons_zero, List.setIfInBounds_toArray, List.set_cons_zero, List.set_cons_succ]))
    (refine wpAnyH_take (i := 1) (v := ?_) rfl (by kernel_rfl) (by kernel_rfl) (by kernel_rfl) (fun _ _ _ h => h) (Or.inl ⟨by kernel_rfl, ?_⟩) (by assumption) ?_; rotate_left; (focus (intro w hSw; (try dsimp only at hSw); go_simp; all_goals with_reducible rfl)); (try simp only [Act.put, List.getElem_toArray, List.getElem_cons_succ, List.getElem_cons_zero, List.setIfInBounds_toArray, List.set_cons_zero, List.set_cons_succ]))
    (refine wpAnyH_take (i := 2) (v := ?_) rfl (by kernel_rfl) (by kernel_rfl) (by kernel_rfl) (fun _ _ _ h => h) (Or.inl ⟨by kernel_rfl, ?_⟩) (by assumption) ?_; rotate_left; (focus (intro w hSw; (try dsimp only at hSw); go_simp; all_goals with_reducible rfl)); (try simp only [Act.put, List.getElem_toArray, List.getElem_cons_succ, List.getElem_cons_zero, List.setIfInBounds_toArray, List.set_cons_zero, List.set_cons_succ]))
    (refine wpAnyH_take (i := 3) (v := ?_) rfl (by kernel_rfl) (by kernel_rfl) (by kernel_rfl) (fun _ _ _ h => h) (Or.inl ⟨by kernel_rfl, ?_⟩) (by assumption) ?_; rotate_left; (focus (intro w hSw; (try dsimp only at hSw); go_simp; all_goals with_reducible rfl)); (try simp only [Act.put, List.getElem_toArray, List.getElem_cons_succ, List.getElem_cons_zero, List.setIfInBounds_toArray, List.set_cons_zero, List.set_cons_succ]))
    (refine wpAnyH_take (i := 4) (v := ?_) rfl (by kernel_rfl) (by kernel_rfl) (by kernel_rfl) (fun _ _ _ h => h) (Or.inl ⟨by kernel_rfl, ?_⟩) (by assumption) ?_; rotate_left; (focus (intro w hSw; (try dsimp only at hSw); go_simp; all_goals with_reducible rfl)); (try simp only [Act.put, List.getElem_toArray, List.getElem_cons_succ, List.getElem_cons_zero, List.setIfInBounds_toArray, List.set_cons_zero, List.set_cons_succ]))
    (refine wpAnyH_take (i := 5) (v := ?_) rfl (by kernel_rfl) (by kernel_rfl) (by kernel_rfl) (fun _ _ _ h => h) (Or.inl ⟨by kernel_rfl, ?_⟩) (by assumption) ?_; rotate_left; (focus (intro w hSw; (try dsimp only at hSw); go_simp; all_goals with_reducible rfl)); (try simp only [Act.put, List.getElem_toArray, List.getElem_cons_succ, List.getElem_cons_zero, List.setIfInBounds_toArray, List.set_cons_zero, List.set_cons_succ]))
    (refine wpAnyH_take (i := 6) (v := ?_) rfl (by kernel_rfl) (by kernel_rfl) (by kernel_rfl) (fun _ _ _ h => h) (Or.inl ⟨by kernel_rfl, ?_⟩) (by assumption) ?_; rotate_left; (focus (intro w hSw; (try dsimp only at hSw); go_simp; all_goals with_reducible rfl)); (try simp only [Act.put, List.getElem_toArray, List.getElem_cons_succ, List.getElem_cons_zero, List.setIfInBounds_toArray, List.set_cons_zero, List.set_cons_succ]))
    (refine wpAnyH_take (i := 7) (v := ?_) rfl (by kernel_rfl) (by kernel_rfl) (by kernel_rfl) (fun _ _ _ h => h) (Or.inl ⟨by kernel_rfl, ?_⟩) (by assumption) ?_; rotate_left; (focus (intro w hSw; (try dsimp only at hSw); go_simp; all_goals with_reducible rfl)); (try simp only [Act.put, List.getElem_toArray, List.getElem_cons_succ, List.getElem_cons_zero, List.setIfInBounds_toArray, List.set_cons_zero, List.set_cons_succ]))
    (refine wpAnyH_take (i := 8) (v := ?_) rfl (by kernel_rfl) (by kernel_rfl) (by kernel_rfl) (fun _ _ _ h => h) (Or.inl ⟨by kernel_rfl, ?_⟩) (by assumption) ?_; rotate_left; (focus (intro w hSw; (try dsimp only at hSw); go_simp; all_goals with_reducible rfl)); (try simp only [Act.put, List.getElem_toArray, List.getElem_cons_succ, List.getElem_cons_zero, List.setIfInBounds_toArray, List.set_cons_zero, List.set_cons_succ]))
    (refine wpAnyH_take (i := 9) (v := ?_) rfl (by kernel_rfl) (by kernel_rfl) (by kernel_rfl) (fun _ _ _ h => h) (Or.inl ⟨by kernel_rfl, ?_⟩) (by assumption) ?_; rotate_left; (focus (intro w hSw; (try dsimp only at hSw); go_simp; all_goals with_reducible rfl)); (try simp only [Act.put, List.getElem_toArray, List.getElem_cons_succ, List.getElem_cons_zero, List.setIfInBounds_toArray, List.set_cons_zero, List.set_cons_succ]))
    (refine wpAnyH_take (i := 10) (v := ?_) rfl (by kernel_rfl) (by kernel_rfl) (by kernel_rfl) (fun _ _ _ h => h) (Or.inl ⟨by kernel_rfl, ?_⟩) (by assumption) ?_; rotate_left; (focus (intro w hSw; (try dsimp only at hSw); go_simp; all_goals with_reducible rfl)); (try simp only [Act.put, List.getElem_toArray, List.getElem_cons_succ, List.getElem_cons_zero, List.setIfInBounds_toArray, List.set_cons_zero, List.set_cons_succ]))
    (refine wpAnyH_take (i := 11) (v := ?_) rfl (by kernel_rfl) (by kernel_rfl) (by kernel_rfl) (fun _ _ _ h => h) (Or.inl ⟨by kernel_rfl, ?_⟩) (by assumption) ?_; rotate_left; (focus (intro w hSw; (try dsimp only at hSw); go_simp; all_goals with_reducible rfl)); (try simp only [Act.put, List.getElem_toArray, List.getElem_cons_succ, List.getElem_cons_zero, List.setIfInBounds_toArray, List.set_cons_zero, List.set_cons_succ]))
    (refine wpAnyH_take (i := 12) (v := ?_) rfl (by kernel_rfl) (by kernel_rfl) (by kernel_rfl) (fun _ _ _ h => h) (Or.inl ⟨by kernel_rfl, ?_⟩) (by assumption) ?_; rotate_left; (focus (intro w hSw; (try dsimp only at hSw); go_simp; all_goals with_reducible rfl)); (try simp only [Act.put, List.getElem_toArray, List.getElem_cons_succ, List.getElem_cons_zero, List.setIfInBounds_toArray, List.set_cons_zero, List.set_cons_succ]))
    (refine wpAnyH_take (i := 13) (v := ?_) rfl (by kernel_rfl) (by kernel_rfl) (by kernel_rfl) (fun _ _ _ h => h) (Or.inl ⟨by kernel_rfl, ?_⟩) (by assumption) ?_; rotate_left; (focus (intro w hSw; (try dsimp only at hSw); go_simp; all_goals with_reducible rfl)); (try simp only [Act.put, List.getElem_toArray, List.getElem_cons_succ, List.getElem_cons_zero, List.setIfInBounds_toArray, List.set_cons_zero, List.set_cons_succ]))
    (refine wpAnyH_ready (rs := [14]) (by kernel_rfl) (by simp) ?_; refine AllReadyH.cons rfl (fun K hK => ?_) AllReadyH.nil)
    have hO4 : Blk wc.drew ob 35 (nmCells ⟨x0.toArray⟩ (.slice C k cc)) := HW.out.1
    have hst : Blk (wc.drew.setCells ob 2 (StpCells ⟨y0, y1, y2, y3⟩)) ob 35 (setM (nmCells ⟨x0.toArray⟩ (.slice C k cc)) 2 (StpCells ⟨y0, y1, y2, y3⟩)) ∧ Below ob wc.drew (wc.drew.setCells ob 2 (StpCells ⟨y0, y1, y2, y3⟩)) := blk_setCells _ _ _ _ hO4
    refine step_storeM stStp rfl _ _ rfl ob 2 (StpCells ⟨y0, y1, y2, y3⟩) rfl rfl (blk_there hO4 (by simp [nmCells, setM, StpCells])) rfl (by simp [StpCells]; exact ⟨rfl, rfl, rfl, rfl⟩) ?_
    obtain ⟨w4, hw4⟩ : ∃ W, wc.drew.setCells ob 2 (StpCells ⟨y0, y1, y2, y3⟩) = W := ⟨_, rfl⟩
    rw [hw4] at hst ⊢
    have HW2 : Hid (Blk w4 ob 35 (setM (nmCells ⟨x0.toArray⟩ (.slice C k cc)) 2 (StpCells ⟨y0, y1, y2, y3⟩)) ∧ Below ob wc w4) := Lib.hid ⟨hst.1, HW.out.2.drew.trans hst.2⟩
    refine hK.out _ _ (⟨HS.out _ HW2.out.2 0 _ HY0.out, HS.out _ HW2.out.2 1 _ HY1.out, HS.out _ HW2.out.2 2 _ HY2.out, HS.out _ HW2.out.2 3 _ HY3.out⟩) (fun hHeld => ?_)
    clear hK K
    (try simp only [Act.put, List.getElem_toArray, List.getElem_cons_succ, List.getElem_cons_zero, List.setIfInBounds_toArray, List.set_cons_zero, List.set_cons_succ])
    (refine wpAnyH_done (by kernel_rfl) ?_ _)
    have HW := HW2
    clear HW2 hO4 hst hw4
    go_upto_region 11 with fail
    (refine wp_region_held_drew (S := (fun w' => w'.cell? ⟨g1, 1 + k+ 4, none⟩ = some (.int .i64 y4) ∧ w'.cell? ⟨g1, 1 + k+ 5, none⟩ = some (.int .i64 y5) ∧ w'.cell? ⟨g1, 1 + k+ 6, none⟩ = some (.int .i64 y6) ∧ w'.cell? ⟨g1, 1 + k+ 7, none⟩ = some (.int .i64 y7))) (by kernel_rfl) ?_ (fun hHeld => ?_))
    · exact ⟨HS.out _ HW.out.2 4 _ HY4.out, HS.out _ HW.out.2 5 _ HY5.out, HS.out _ HW.out.2 6 _ HY6.out, HS.out _ HW.out.2 7 _ HY7.out⟩
    (refine wpAnyH_take (i := 0) (v := ?_) rfl (by kernel_rfl) (by kernel_rfl) (by kernel_rfl) (fun _ _ _ h => h) (Or.inl ⟨by kernel_rfl, ?_⟩) (by assumption) ?_; rotate_left; (focus (intro w hSw; (try dsimp only at hSw); go_simp; all_goals with_reducible rfl)); (try simp only [Act.put, List.getElem_toArray, List.getElem_cons_succ, List.getElem_cons_zero, List.setIfInBounds_toArray, List.set_cons_zero, List.set_cons_succ]))
    (refine wpAnyH_take (i := 1) (v := ?_) rfl (by kernel_rfl) (by kernel_rfl) (by kernel_rfl) (fun _ _ _ h => h) (Or.inl ⟨by kernel_rfl, ?_⟩) (by assumption) ?_; rotate_left; (focus (intro w hSw; (try dsimp only at hSw); go_simp; all_goals with_reducible rfl)); (try simp only [Act.put, List.getElem_toArray, List.getElem_cons_succ, List.getElem_cons_zero, List.setIfInBounds_toArray, List.set_cons_zero, List.set_cons_succ]))
    (refine wpAnyH_take (i := 2) (v := ?_) rfl (by kernel_rfl) (by kernel_rfl) (by kernel_rfl) (fun _ _ _ h => h) (Or.inl ⟨by kernel_rfl, ?_⟩) (by assumption) ?_; rotate_left; (focus (intro w hSw; (try dsimp only at hSw); go_simp; all_goals with_reducible rfl)); (try simp only [Act.put, List.getElem_toArray, List.getElem_cons_succ, List.getElem_cons_zero, List.setIfInBounds_toArray, List.set_cons_zero, List.set_cons_succ]))
    (refine wpAnyH_take (i := 3) (v := ?_) rfl (by kernel_rfl) (by kernel_rfl) (by kernel_rfl) (fun _ _ _ h => h) (Or.inl ⟨by kernel_rfl, ?_⟩) (by assumption) ?_; rotate_left; (focus (intro w hSw; (try dsimp only at hSw); go_simp; all_goals with_reducible rfl)); (try simp only [Act.put, List.getElem_toArray, List.getElem_cons_succ, List.getElem_cons_zero, List.setIfInBounds_toArray, List.set_cons_zero, List.set_cons_succ]))
    (refine wpAnyH_take (i := 4) (v := ?_) rfl (by kernel_rfl) (by kernel_rfl) (by kernel_rfl) (fun _ _ _ h => h) (Or.inl ⟨by kernel_rfl, ?_⟩) (by assumption) ?_; rotate_left; (focus (intro w hSw; (try dsimp only at hSw); go_simp; all_goals with_reducible rfl)); (try simp only [Act.put, List.getElem_toArray, List.getElem_cons_succ, List.getElem_cons_zero, List.setIfInBounds_toArray, List.set_cons_zero, List.set_cons_succ]))
    (refine wpAnyH_take (i := 5) (v := ?_) rfl (by kernel_rfl) (by kernel_rfl) (by kernel_rfl) (fun _ _ _ h => h) (Or.inl ⟨by kernel_rfl, ?_⟩) (by assumption) ?_; rotate_left; (focus (intro w hSw; (try dsimp only at hSw); go_simp; all_goals with_reducible rfl)); (try simp only [Act.put, List.getElem_toArray, List.getElem_cons_succ, List.getElem_cons_zero, List.setIfInBounds_toArray, List.set_cons_zero, List.set_cons_succ]))
    (refine wpAnyH_take (i := 6) (v := ?_) rfl (by kernel_rfl) (by kernel_rfl) (by kernel_rfl) (fun _ _ _ h => h) (Or.inl ⟨by kernel_rfl, ?_⟩) (by assumption) ?_; rotate_left; (focus (intro w hSw; (try dsimp only at hSw); go_simp; all_goals with_reducible rfl)); (try simp only [Act.put, List.getElem_toArray, List.getElem_cons_succ, List.getElem_cons_zero, List.setIfInBounds_toArray, List.set_cons_zero, List.set_cons_succ]))
    (refine wpAnyH_take (i := 7) (v := ?_) rfl (by kernel_rfl) (by kernel_rfl) (by kernel_rfl) (fun _ _ _ h => h) (Or.inl ⟨by kernel_rfl, ?_⟩) (by assumption) ?_; rotate_left; (focus (intro w hSw; (try dsimp only at hSw); go_simp; all_goals with_reducible rfl)); (try simp only [Act.put, List.getElem_toArray, List.getElem_cons_succ, List.getElem_cons_zero, List.setIfInBounds_toArray, List.set_cons_zero, List.set_cons_succ]))
    (refine wpAnyH_take (i := 8) (v := ?_) rfl (by kernel_rfl) (by kernel_rfl) (by kernel_rfl) (fun _ _ _ h => h) (Or.inl ⟨by kernel_rfl, ?_⟩) (by assumption) ?_; rotate_left; (focus (intro w hSw; (try dsimp only at hSw); go_simp; all_goals with_reducible rfl)); (try simp only [Act.put, List.getElem_toArray, List.getElem_cons_succ, List.getElem_cons_zero, List.setIfInBounds_toArray, List.set_cons_zero, List.set_cons_succ]))
    (refine wpAnyH_take (i := 9) (v := ?_) rfl (by kernel_rfl) (by kernel_rfl) (by kernel_rfl) (fun _ _ _ h => h) (Or.inl ⟨by kernel_rfl, ?_⟩) (by assumption) ?_; rotate_left; (focus (intro w hSw; (try dsimp only at hSw); go_simp; all_goals with_reducible rfl)); (try simp only [Act.put, List.getElem_toArray, List.getElem_cons_succ, List.getElem_cons_zero, List.setIfInBounds_toArray, List.set_cons_zero, List.set_cons_succ]))
    (refine wpAnyH_take (i := 10) (v := ?_) rfl (by kernel_rfl) (by kernel_rfl) (by kernel_rfl) (fun _ _ _ h => h) (Or.inl ⟨by kernel_rfl, ?_⟩) (by assumption) ?_; rotate_left; (focus (intro w hSw; (try dsimp only at hSw); go_simp; all_goals with_reducible rfl)); (try simp only [Act.put, List.getElem_toArray, List.getElem_cons_succ, List.getElem_cons_zero, List.setIfInBounds_toArray, List.set_cons_zero, List.set_cons_succ]))
    (refine wpAnyH_take (i := 11) (v := ?_) rfl (by kernel_rfl) (by kernel_rfl) (by kernel_rfl) (fun _ _ _ h => h) (Or.inl ⟨by kernel_rfl, ?_⟩) (by assumption) ?_; rotate_left; (focus (intro w hSw; (try dsimp only at hSw); go_simp; all_goals with_reducible rfl)); (try simp only [Act.put, List.getElem_toArray, List.getElem_cons_succ, List.getElem_cons_zero, List.setIfInBounds_toArray, List.set_cons_zero, List.set_cons_succ]))
    (refine wpAnyH_take (i := 12) (v := ?_) rfl (by kernel_rfl) (by kernel_rfl) (by kernel_rfl) (fun _ _ _ h => h) (Or.inl ⟨by kernel_rfl, ?_⟩) (by assumption) ?_; rotate_left; (focus (intro w hSw; (try dsimp only at hSw); go_simp; all_goals with_reducible rfl)); (try simp only [Act.put, List.getElem_toArray, List.getElem_cons_succ, List.getElem_cons_zero, List.setIfInBounds_toArray, List.set_cons_zero, List.set_cons_succ]))
    (refine wpAnyH_take (i := 13) (v := ?_) rfl (by kernel_rfl) (by kernel_rfl) (by kernel_rfl) (fun _ _ _ h => h) (Or.inl ⟨by kernel_rfl, ?_⟩) (by assumption) ?_; rotate_left; (focus (intro w hSw; (try dsimp only at hSw); go_simp; all_goals with_reducible rfl)); (try simp only [Act.put, List.getElem_toArray, List.getElem_cons_succ, List.getElem_cons_zero, List.setIfInBounds_toArray, List.set_cons_zero, List.set_cons_succ]))
    (refine wpAnyH_ready (rs := [14]) (by kernel_rfl) (by simp) ?_; refine AllReadyH.cons rfl (fun K hK => ?_) AllReadyH.nil)
    have hO4 : Blk w4.drew ob 35 (setM (nmCells ⟨x0.toArray⟩ (.slice C k cc)) 2 (StpCells ⟨y0, y1, y2, y3⟩)) := HW.out.1
    have hst : Blk (w4.drew.setCells ob 6 (StpCells ⟨y4, y5, y6, y7⟩)) ob 35 (setM (setM (nmCells ⟨x0.toArray⟩ (.slice C k cc)) 2 (StpCells ⟨y0, y1, y2, y3⟩)) 6 (StpCells ⟨y4, y5, y6, y7⟩)) ∧ Below ob w4.drew (w4.drew.setCells ob 6 (StpCells ⟨y4, y5, y6, y7⟩)) := blk_setCells _ _ _ _ hO4
    refine step_storeM stStp rfl _ _ rfl ob 6 (StpCells ⟨y4, y5, y6, y7⟩) rfl rfl (blk_there hO4 (by simp [nmCells, setM, StpCells])) rfl (by simp [StpCells]; exact ⟨rfl, rfl, rfl, rfl⟩) ?_
    obtain ⟨w5, hw5⟩ : ∃ W, w4.drew.setCells ob 6 (StpCells ⟨y4, y5, y6, y7⟩) = W := ⟨_, rfl⟩
    rw [hw5] at hst ⊢
    have HW2 : Hid (Blk w5 ob 35 (setM (setM (nmCells ⟨x0.toArray⟩ (.slice C k cc)) 2 (StpCells ⟨y0, y1, y2, y3⟩)) 6 (StpCells ⟨y4, y5, y6, y7⟩)) ∧ Below ob wc w5) := Lib.hid ⟨hst.1, HW.out.2.drew.trans hst.2⟩
    refine hK.out _ _ (⟨HS.out _ HW2.out.2 4 _ HY4.out, HS.out _ HW2.out.2 5 _ HY5.out, HS.out _ HW2.out.2 6 _ HY6.out, HS.out _ HW2.out.2 7 _ HY7.out⟩) (fun hHeld => ?_)
    clear hK K
    (try simp only [Act.put, List.getElem_toArray, List.getElem_cons_succ, List.getElem_cons_zero, List.setIfInBounds_toArray, List.set_cons_zero, List.set_cons_succ])
    (refine wpAnyH_done (by kernel_rfl) ?_ _)
    have HW := HW2
    clear HW2 hO4 hst hw5
    obtain ⟨c12, hc12⟩ : ∃ cs, setM (setM (nmCells ⟨x0.toArray⟩ (.slice C k cc)) 2 (StpCells ⟨y0, y1, y2, y3⟩)) 6 (StpCells ⟨y4, y5, y6, y7⟩) = cs := ⟨_, rfl⟩
    have hc12' : c12 = [.string ⟨x0.toArray⟩, .slice C k cc, .int .i64 y0, .int .i64 y1, .int .i64 y2, .int .i64 y3, .int .i64 y4, .int .i64 y5, .int .i64 y6, .int .i64 y7, .int .i64 0, .int .i64 0, .int .i64 0, .int .i64 0, .int .i64 0, .bool false] := by rw [← hc12]; rfl
    rw [hc12, hc12'] at HW
    clear hc12 hc12'
    go_upto_region 12 with fail
    (refine wp_region_held_drew (S := (fun w' => w'.cell? ⟨g1, 1 + k + 8, none⟩ = some (.int .i64 y8) ∧ w'.cell? ⟨g1, 1 + k + 9, none⟩ = some (.int .i64 y9) ∧ w'.cell? ⟨g1, 1 + k + 10, none⟩ = some (.int .i64 y10) ∧ w'.cell? ⟨g1, 1 + k + 11, none⟩ = some (.int .i64 y11) ∧ w'.cell? ⟨g1, 1 + k + 12, none⟩ = some (.int .i64 y12))) (by kernel_rfl) ?_ (fun hHeld => ?_))
    · exact ⟨HS.out _ HW.out.2 8 _ HY8.out, HS.out _ HW.out.2 9 _ HY9.out, HS.out _ HW.out.2 10 _ HY10.out, HS.out _ HW.out.2 11 _ HY11.out, HS.out _ HW.out.2 12 _ HY12.out⟩
    obtain ⟨w6, hw6⟩ : ∃ W, w5.drew = W := ⟨_, rfl⟩
    have HWd : Hid (Blk w6 ob 35 [.string ⟨x0.toArray⟩, .slice C k cc, .int .i64 y0, .int .i64 y1, .int .i64 y2, .int .i64 y3, .int .i64 y4, .int .i64 y5, .int .i64 y6, .int .i64 y7, .int .i64 0, .int .i64 0, .int .i64 0, .int .i64 0, .int .i64 0, .bool false] ∧ Below ob wc w6) := Lib.hid (by rw [← hw6]; exact ⟨HW.out.1, HW.out.2.drew⟩)
    rw [hw6] at hHeld ⊢
    have HW := HWd
    clear HWd hw6
    (refine wpAnyH_take (i := 0) (v := ?_) rfl (by kernel_rfl) (by kernel_rfl) (by kernel_rfl) (fun _ _ _ h => h) (Or.inl ⟨by kernel_rfl, ?_⟩) (by assumption) ?_; rotate_left; (focus (intro w hSw; (try dsimp only at hSw); go_simp; all_goals with_reducible rfl)); (try simp only [Act.put, List.getElem_toArray, List.getElem_cons_succ, List.getElem_cons_zero, List.setIfInBounds_toArray, List.set_cons_zero, List.set_cons_succ]))
    (refine wpAnyH_take (i := 1) (v := ?_) rfl (by kernel_rfl) (by kernel_rfl) (by kernel_rfl) (fun _ _ _ h => h) (Or.inl ⟨by kernel_rfl, ?_⟩) (by assumption) ?_; rotate_left; (focus (intro w hSw; (try dsimp only at hSw); go_simp; all_goals with_reducible rfl)); (try simp only [Act.put, List.getElem_toArray, List.getElem_cons_succ, List.getElem_cons_zero, List.setIfInBounds_toArray, List.set_cons_zero, List.set_cons_succ]))
    (refine wpAnyH_take (i := 2) (v := ?_) rfl (by kernel_rfl) (by kernel_rfl) (by kernel_rfl) (fun _ _ _ h => h) (Or.inl ⟨by kernel_rfl, ?_⟩) (by assumption) ?_; rotate_left; (focus (intro w hSw; (try dsimp only at hSw); go_simp; all_goals with_reducible rfl)); (try simp only [Act.put, List.getElem_toArray, List.getElem_cons_succ, List.getElem_cons_zero, List.setIfInBounds_toArray, List.set_cons_zero, List.set_cons_succ]))
    (refine wpAnyH_take (i := 3) (v := ?_) rfl (by kernel_rfl) (by kernel_rfl) (by kernel_rfl) (fun _ _ _ h => h) (Or.inl ⟨by kernel_rfl, ?_⟩) (by assumption) ?_; rotate_left; (focus (intro w hSw; (try dsimp only at hSw); go_simp; all_goals with_reducible rfl)); (try simp only [Act.put, List.getElem_toArray, List.getElem_cons_succ, List.getElem_cons_zero, List.setIfInBounds_toArray, List.set_cons_zero, List.set_cons_succ]))
    (refine wpAnyH_take (i := 4) (v := ?_) rfl (by kernel_rfl) (by kernel_rfl) (by kernel_rfl) (fun _ _ _ h => h) (Or.inl ⟨by kernel_rfl, ?_⟩) (by assumption) ?_; rotate_left; (focus (intro w hSw; (try dsimp only at hSw); go_simp; all_goals with_reducible rfl)); (try simp only [Act.put, List.getElem_toArray, List.getElem_cons_succ, List.getElem_cons_zero, List.setIfInBounds_toArray, List.set_cons_zero, List.set_cons_succ]))
    (refine wpAnyH_take (i := 5) (v := ?_) rfl (by kernel_rfl) (by kernel_rfl) (by kernel_rfl) (fun _ _ _ h => h) (Or.inl ⟨by kernel_rfl, ?_⟩) (by assumption) ?_; rotate_left; (focus (intro w hSw; (try dsimp only at hSw); go_simp; all_goals with_reducible rfl)); (try simp only [Act.put, List.getElem_toArray, List.getElem_cons_succ, List.getElem_cons_zero, List.setIfInBounds_toArray, List.set_cons_zero, List.set_cons_succ]))
    (refine wpAnyH_take (i := 6) (v := ?_) rfl (by kernel_rfl) (by kernel_rfl) (by kernel_rfl) (fun _ _ _ h => h) (Or.inl ⟨by kernel_rfl, ?_⟩) (by assumption) ?_; rotate_left; (focus (intro w hSw; (try dsimp only at hSw); go_simp; all_goals with_reducible rfl)); (try simp only [Act.put, List.getElem_toArray, List.getElem_cons_succ, List.getElem_cons_zero, List.setIfInBounds_toArray, List.set_cons_zero, List.set_cons_succ]))
    (refine wpAnyH_take (i := 7) (v := ?_) rfl (by kernel_rfl) (by kernel_rfl) (by kernel_rfl) (fun _ _ _ h => h) (Or.inl ⟨by kernel_rfl, ?_⟩) (by assumption) ?_; rotate_left; (focus (intro w hSw; (try dsimp only at hSw); go_simp; all_goals with_reducible rfl)); (try simp only [Act.put, List.getElem_toArray, List.getElem_cons_succ, List.getElem_cons_zero, List.setIfInBounds_toArray, List.set_cons_zero, List.set_cons_succ]))
    (refine wpAnyH_take (i := 8) (v := ?_) rfl (by kernel_rfl) (by kernel_rfl) (by kernel_rfl) (fun _ _ _ h => h) (Or.inl ⟨by kernel_rfl, ?_⟩) (by assumption) ?_; rotate_left; (focus (intro w hSw; (try dsimp only at hSw); go_simp; all_goals with_reducible rfl)); (try simp only [Act.put, List.getElem_toArray, List.getElem_cons_succ, List.getElem_cons_zero, List.setIfInBounds_toArray, List.set_cons_zero, List.set_cons_succ]))
    (refine wpAnyH_take (i := 9) (v := ?_) rfl (by kernel_rfl) (by kernel_rfl) (by kernel_rfl) (fun _ _ _ h => h) (Or.inl ⟨by kernel_rfl, ?_⟩) (by assumption) ?_; rotate_left; (focus (intro w hSw; (try dsimp only at hSw); go_simp; all_goals with_reducible rfl)); (try simp only [Act.put, List.getElem_toArray, List.getElem_cons_succ, List.getElem_cons_zero, List.setIfInBounds_toArray, List.set_cons_zero, List.set_cons_succ]))
    (refine wpAnyH_take (i := 10) (v := ?_) rfl (by kernel_rfl) (by kernel_rfl) (by kernel_rfl) (fun _ _ _ h => h) (Or.inl ⟨by kernel_rfl, ?_⟩) (by assumption) ?_; rotate_left; (focus (intro w hSw; (try dsimp only at hSw); go_simp; all_goals with_reducible rfl)); (try simp only [Act.put, List.getElem_toArray, List.getElem_cons_succ, List.getElem_cons_zero, List.setIfInBounds_toArray, List.set_cons_zero, List.set_cons_succ]))
    (refine wpAnyH_take (i := 11) (v := ?_) rfl (by kernel_rfl) (by kernel_rfl) (by kernel_rfl) (fun _ _ _ h => h) (Or.inl ⟨by kernel_rfl, ?_⟩) (by assumption) ?_; rotate_left; (focus (intro w hSw; (try dsimp only at hSw); go_simp; all_goals with_reducible rfl)); (try simp only [Act.put, List.getElem_toArray, List.getElem_cons_succ, List.getElem_cons_zero, List.setIfInBounds_toArray, List.set_cons_zero, List.set_cons_succ]))
    (refine wpAnyH_take (i := 12) (v := ?_) rfl (by kernel_rfl) (by kernel_rfl) (by kernel_rfl) (fun _ _ _ h => h) (Or.inl ⟨by kernel_rfl, ?_⟩) (by assumption) ?_; rotate_left; (focus (intro w hSw; (try dsimp only at hSw); go_simp; all_goals with_reducible rfl)); (try simp only [Act.put, List.getElem_toArray, List.getElem_cons_succ, List.getElem_cons_zero, List.setIfInBounds_toArray, List.set_cons_zero, List.set_cons_succ]))
    (refine wpAnyH_take (i := 13) (v := ?_) rfl (by kernel_rfl) (by kernel_rfl) (by kernel_rfl) (fun _ _ _ h => h) (Or.inl ⟨by kernel_rfl, ?_⟩) (by assumption) ?_; rotate_left; (focus (intro w hSw; (try dsimp only at hSw); go_simp; all_goals with_reducible rfl)); (try simp only [Act.put, List.getElem_toArray, List.getElem_cons_succ, List.getElem_cons_zero, List.setIfInBounds_toArray, List.set_cons_zero, List.set_cons_succ]))
    (refine wpAnyH_take (i := 14) (v := ?_) rfl (by kernel_rfl) (by kernel_rfl) (by kernel_rfl) (fun _ _ _ h => h) (Or.inl ⟨by kernel_rfl, ?_⟩) (by assumption) ?_; rotate_left; (focus (intro w hSw; (try dsimp only at hSw); go_simp; all_goals with_reducible rfl)); (try simp only [Act.put, List.getElem_toArray, List.getElem_cons_succ, List.getElem_cons_zero, List.setIfInBounds_toArray, List.set_cons_zero, List.set_cons_succ]))
    (refine wpAnyH_take (i := 15) (v := ?_) rfl (by kernel_rfl) (by kernel_rfl) (by kernel_rfl) (fun _ _ _ h => h) (Or.inl ⟨by kernel_rfl, ?_⟩) (by assumption) ?_; rotate_left; (focus (intro w hSw; (try dsimp only at hSw); go_simp; all_goals with_reducible rfl)); (try simp only [Act.put, List.getElem_toArray, List.getElem_cons_succ, List.getElem_cons_zero, List.setIfInBounds_toArray, List.set_cons_zero, List.set_cons_succ]))
    have fc := HW.out.1.cell (j := 10) rfl
    have ff := HW.out.1.frozen 10
    (refine wpAnyH_ready (rs := [16]) (by kernel_rfl) (by simp) ?_; refine AllReadyH.cons rfl (fun K hK => ?_) AllReadyH.nil)
    go_simp
    clear fc ff
    obtain ⟨w7, hw7⟩ : ∃ W, w6.setCell ⟨ob, 10, none⟩ (.int .i64 y8) = W := ⟨_, rfl⟩
    rw [hw7]
    have HW2 : Hid (Blk w7 ob 35 (List.set ([.string ⟨x0.toArray⟩, .slice C k cc, .int .i64 y0, .int .i64 y1, .int .i64 y2, .int .i64 y3, .int .i64 y4, .int .i64 y5, .int .i64 y6, .int .i64 y7, .int .i64 0, .int .i64 0, .int .i64 0, .int .i64 0, .int .i64 0, .bool false]) 10 (.int .i64 y8)) ∧ Below ob wc w7) := Lib.hid (by rw [← hw7]; exact ⟨HW.out.1.set _ _, HW.out.2.setCell (p := ⟨ob, 10, none⟩) (Nat.le_refl _) _⟩)
    have HW := HW2
    clear HW2 hw7
    refine hK.out _ _ (⟨HS.out _ HW.out.2 8 _ HY8.out, HS.out _ HW.out.2 9 _ HY9.out, HS.out _ HW.out.2 10 _ HY10.out, HS.out _ HW.out.2 11 _ HY11.out, HS.out _ HW.out.2 12 _ HY12.out⟩) (fun hHeld => ?_)
    clear hK K
    (try simp only [Act.put, List.getElem_toArray, List.getElem_cons_succ, List.getElem_cons_zero, List.setIfInBounds_toArray, List.set_cons_zero, List.set_cons_succ])
    (refine wpAnyH_take (i := 17) (v := ?_) rfl (by kernel_rfl) (by kernel_rfl) (by kernel_rfl) (fun _ _ _ h => h) (Or.inl ⟨by kernel_rfl, ?_⟩) (by assumption) ?_; rotate_left; (focus (intro w hSw; (try dsimp only at hSw); go_simp; all_goals with_reducible rfl)); (try simp only [Act.put, List.getElem_toArray, List.getElem_cons_succ, List.getElem_cons_zero, List.setIfInBounds_toArray, List.set_cons_zero, List.set_cons_succ]))
    have fc := HW.out.1.cell (j := 11) rfl
    have ff := HW.out.1.frozen 11
    (refine wpAnyH_ready (rs := [18]) (by kernel_rfl) (by simp) ?_; refine AllReadyH.cons rfl (fun K hK => ?_) AllReadyH.nil)
    go_simp
    clear fc ff
    obtain ⟨w8, hw8⟩ : ∃ W, w7.setCell ⟨ob, 11, none⟩ (.int .i64 y9) = W := ⟨_, rfl⟩
    rw [hw8]
    have HW2 : Hid (Blk w8 ob 35 (List.set ([.string ⟨x0.toArray⟩, .slice C k cc, .int .i64 y0, .int .i64 y1, .int .i64 y2, .int .i64 y3, .int .i64 y4, .int .i64 y5, .int .i64 y6, .int .i64 y7, .int .i64 y8, .int .i64 0, .int .i64 0, .int .i64 0, .int .i64 0, .bool false]) 11 (.int .i64 y9)) ∧ Below ob wc w8) := Lib.hid (by rw [← hw8]; exact ⟨HW.out.1.set _ _, HW.out.2.setCell (p := ⟨ob, 11, none⟩) (Nat.le_refl _) _⟩)
    have HW := HW2
    clear HW2 hw8
    refine hK.out _ _ (⟨HS.out _ HW.out.2 8 _ HY8.out, HS.out _ HW.out.2 9 _ HY9.out, HS.out _ HW.out.2 10 _ HY10.out, HS.out _ HW.out.2 11 _ HY11.out, HS.out _ HW.out.2 12 _ HY12.out⟩) (fun hHeld => ?_)
    clear hK K
    (try simp only [Act.put, List.getElem_toArray, List.getElem_cons_succ, List.getElem_cons_zero, List.setIfInBounds_toArray, List.set_cons_zero, List.set_cons_succ])
    (refine wpAnyH_take (i := 19) (v := ?_) rfl (by kernel_rfl) (by kernel_rfl) (by kernel_rfl) (fun _ _ _ h => h) (Or.inl ⟨by kernel_rfl, ?_⟩) (by assumption) ?_; rotate_left; (focus (intro w hSw; (try dsimp only at hSw); go_simp; all_goals with_reducible rfl)); (try simp only [Act.put, List.getElem_toArray, List.getElem_cons_succ, List.getElem_cons_zero, List.setIfInBounds_toArray, List.set_cons_zero, List.set_cons_succ]))
    have fc := HW.out.1.cell (j := 12) rfl
    have ff := HW.out.1.frozen 12
    (refine wpAnyH_ready (rs := [20]) (by kernel_rfl) (by simp) ?_; refine AllReadyH.cons rfl (fun K hK => ?_) AllReadyH.nil)
    go_simp
    clear fc ff
    obtain ⟨w9, hw9⟩ : ∃ W, w8.setCell ⟨ob, 12, none⟩ (.int .i64 y10) = W := ⟨_, rfl⟩
    rw [hw9]
    have HW2 : Hid (Blk w9 ob 35 (List.set ([.string ⟨x0.toArray⟩, .slice C k cc, .int .i64 y0, .int .i64 y1, .int .i64 y2, .int .i64 y3, .int .i64 y4, .int .i64 y5, .int .i64 y6, .int .i64 y7, .int .i64 y8, .int .i64 y9, .int .i64 0, .int .i64 0, .int .i64 0, .bool false]) 12 (.int .i64 y10)) ∧ Below ob wc w9) := Lib.hid (by rw [← hw9]; exact ⟨HW.out.1.set _ _, HW.out.2.setCell (p := ⟨ob, 12, none⟩) (Nat.le_refl _) _⟩)
    have HW := HW2
    clear HW2 hw9
    refine hK.out _ _ (⟨HS.out _ HW.out.2 8 _ HY8.out, HS.out _ HW.out.2 9 _ HY9.out, HS.out _ HW.out.2 10 _ HY10.out, HS.out _ HW.out.2 11 _ HY11.out, HS.out _ HW.out.2 12 _ HY12.out⟩) (fun hHeld => ?_)
    clear hK K
    (try simp only [Act.put, List.getElem_toArray, List.getElem_cons_succ, List.getElem_cons_zero, List.setIfInBounds_toArray, List.set_cons_zero, List.set_cons_succ])
    (refine wpAnyH_take (i := 21) (v := ?_) rfl (by kernel_rfl) (by kernel_rfl) (by kernel_rfl) (fun _ _ _ h => h) (Or.inl ⟨by kernel_rfl, ?_⟩) (by assumption) ?_; rotate_left; (focus (intro w hSw; (try dsimp only at hSw); go_simp; all_goals with_reducible rfl)); (try simp only [Act.put, List.getElem_toArray, List.getElem_cons_succ, List.getElem_cons_zero, List.setIfInBounds_toArray, List.set_cons_zero, List.set_cons_succ]))
    have fc := HW.out.1.cell (j := 13) rfl
    have ff := HW.out.1.frozen 13
    (refine wpAnyH_ready (rs := [22]) (by kernel_rfl) (by simp) ?_; refine AllReadyH.cons rfl (fun K hK => ?_) AllReadyH.nil)
    go_simp
    clear fc ff
    obtain ⟨w10, hw10⟩ : ∃ W, w9.setCell ⟨ob, 13, none⟩ (.int .i64 y11) = W := ⟨_, rfl⟩
    rw [hw10]
    have HW2 : Hid (Blk w10 ob 35 (List.set ([.string ⟨x0.toArray⟩, .slice C k cc, .int .i64 y0, .int .i64 y1, .int .i64 y2, .int .i64 y3, .int .i64 y4, .int .i64 y5, .int .i64 y6, .int .i64 y7, .int .i64 y8, .int .i64 y9, .int .i64 y10, .int .i64 0, .int .i64 0, .bool false]) 13 (.int .i64 y11)) ∧ Below ob wc w10) := Lib.hid (by rw [← hw10]; exact ⟨HW.out.1.set _ _, HW.out.2.setCell (p := ⟨ob, 13, none⟩) (Nat.le_refl _) _⟩)
    have HW := HW2
    clear HW2 hw10
    refine hK.out _ _ (⟨HS.out _ HW.out.2 8 _ HY8.out, HS.out _ HW.out.2 9 _ HY9.out, HS.out _ HW.out.2 10 _ HY10.out, HS.out _ HW.out.2 11 _ HY11.out, HS.out _ HW.out.2 12 _ HY12.out⟩) (fun hHeld => ?_)
    clear hK K
    (try simp only [Act.put, List.getElem_toArray, List.getElem_cons_succ, List.getElem_cons_zero, List.setIfInBounds_toArray, List.set_cons_zero, List.set_cons_succ])
    (refine wpAnyH_take (i := 23) (v := ?_) rfl (by kernel_rfl) (by kernel_rfl) (by kernel_rfl) (fun _ _ _ h => h) (Or.inl ⟨by kernel_rfl, ?_⟩) (by assumption) ?_; rotate_left; (focus (intro w hSw; (try dsimp only at hSw); go_simp; all_goals with_reducible rfl)); (try simp only [Act.put, List.getElem_toArray, List.getElem_cons_succ, List.getElem_cons_zero, List.setIfInBounds_toArray, List.set_cons_zero, List.set_cons_succ]))
    have fc := HW.out.1.cell (j := 14) rfl
    have ff := HW.out.1.frozen 14
    (refine wpAnyH_ready (rs := [24]) (by kernel_rfl) (by simp) ?_; refine AllReadyH.cons rfl (fun K hK => ?_) AllReadyH.nil)
    go_simp
    clear fc ff
    obtain ⟨w11, hw11⟩ : ∃ W, w10.setCell ⟨ob, 14, none⟩ (.int .i64 y12) = W := ⟨_, rfl⟩
    rw [hw11]
    have HW2 : Hid (Blk w11 ob 35 (List.set ([.string ⟨x0.toArray⟩, .slice C k cc, .int .i64 y0, .int .i64 y1, .int .i64 y2, .int .i64 y3, .int .i64 y4, .int .i64 y5, .int .i64 y6, .int .i64 y7, .int .i64 y8, .int .i64 y9, .int .i64 y10, .int .i64 y11, .int .i64 0, .bool false]) 14 (.int .i64 y12)) ∧ Below ob wc w11) := Lib.hid (by rw [← hw11]; exact ⟨HW.out.1.set _ _, HW.out.2.setCell (p := ⟨ob, 14, none⟩) (Nat.le_refl _) _⟩)
    have HW := HW2
    clear HW2 hw11
    refine hK.out _ _ (⟨HS.out _ HW.out.2 8 _ HY8.out, HS.out _ HW.out.2 9 _ HY9.out, HS.out _ HW.out.2 10 _ HY10.out, HS.out _ HW.out.2 11 _ HY11.out, HS.out _ HW.out.2 12 _ HY12.out⟩) (fun hHeld => ?_)
    clear hK K
    (try simp only [Act.put, List.getElem_toArray, List.getElem_cons_succ, List.getElem_cons_zero, List.setIfInBounds_toArray, List.set_cons_zero, List.set_cons_succ])
    (refine wpAnyH_done (by kernel_rfl) ?_ _)
    obtain ⟨o, ho⟩ : ∃ o, ordM x0 (k : Int).toNat ns = o := ⟨_, rfl⟩
    have hcs : [.string ⟨x0.toArray⟩, .slice C k cc, .int .i64 y0, .int .i64 y1, .int .i64 y2, .int .i64 y3, .int .i64 y4, .int .i64 y5, .int .i64 y6, .int .i64 y7, .int .i64 y8, .int .i64 y9, .int .i64 y10, .int .i64 y11, .int .i64 y12, .bool false] = OrdCells o C cc ∧ o.load = (ns.drop 1).take k := by
      have hg : ∀ (j : Nat) (y : Int), ns[1 + k + j]? = some y → ns[k + 1 + j]?.getD 0 = y := fun j y h => by rw [show k + 1 + j = 1 + k + j by omega, h]; rfl
      have hl : ((ns.drop 1).take k).length = k := by rw [List.length_take, List.length_drop, HK1.out]; omega
      rw [← ho, Int.toNat_natCast]
      unfold ordM
      simp only [hg 0 _ HY0.out, hg 1 _ HY1.out, hg 2 _ HY2.out, hg 3 _ HY3.out, hg 4 _ HY4.out, hg 5 _ HY5.out, hg 6 _ HY6.out, hg 7 _ HY7.out, hg 8 _ HY8.out, hg 9 _ HY9.out, hg 10 _ HY10.out, hg 11 _ HY11.out, hg 12 _ HY12.out, OrdCells, hl, and_true]
    rw [ho] at HRS
    have HOL := Lib.hid hcs.2
    have HW3 : Hid (Blk w11 ob 35 (OrdCells o C cc) ∧ Below ob wc w11) := Lib.hid (by rw [← hcs.1]; exact HW.out)
    have HR9 : Hid (Blk w11 rb 35 zOrd) := Lib.hid ((HW3.out.2.block rb (by omega)).trans ((HB3.out.block rb zz).trans HR0w.out))
    clear ho hcs HW
    go_wp2_with (first
      | ((with_reducible refine wpList_loadG stOrd' _ rfl ⟨ob, 0, none⟩ (OrdCells o C cc) ?_ ?_ ?_ ?_ ?_); exact rfl; exact rfl; exact HW3.out.1.cells; exact rfl)
      | ((with_reducible refine wpList_storeL stOrd' rfl _ _ rfl rb zOrd (OrdCells o C cc) ?_ ?_ ?_ ?_ ?_ (ordCells_one _ _ _) ?_); exact rfl; exact rfl; exact HR9.out; exact rfl; exact rfl; intro wz k1 k2 k3 k4; have K := Lib.hid (And.intro k1 (And.intro k2 (And.intro k3 k4))); clear k1 k2 k3 k4))
    have HRz : Blk wz rb 35 (OrdCells o C cc) := K.out.1
    refine bodyPost_ret (v := .tuple #[.agg (OrdCells o C cc).toArray, .bool true]) (big.res_cell_tmp stOrd' Tryz.results129 rfl rfl HRz.cells rfl) rfl ?_
    have hbw : Below w.heap.size w w11 := HB0.out.trans ((HB3.out.mono z0).trans (HW3.out.2.mono (by omega)))
    have hbz : Below w.heap.size w wz := hbw.trans (K.out.2.2.2.mono hrb)
    refine ⟨hbz, .inr ⟨o, C, cc, HRS.out, rfl, ?_⟩⟩
    have hgz : ∀ j, wz.cell? ⟨g1, j, none⟩ = wc.cell? ⟨g1, j, none⟩ := fun j => (World.cell?_of_block (K.out.2.1 g1 (by omega))).trans (HW3.out.2.cell (p := ⟨g1, j, none⟩) hg1b)
    have hll : o.load.length = k := by rw [HOL.out, List.length_take, List.length_drop, HK1.out]; omega
    refine ⟨⟨⟨by simp, fun h0 => ?_⟩, by omega⟩, fun h0 => ?_⟩
    rotate_left
    · rcases hC with ⟨hk0, _⟩ | hC
      · omega
      · exact ⟨_, hC, by show w.heap.size ≤ g1; omega⟩
    rcases hC with ⟨hk0, _⟩ | hC
    · omega
    · refine ⟨_, hC, ?_, fun j u hu => ?_⟩
      · have h1 := hbz.size
        show g1 < wz.heap.size
        have h2 := K.out.2.2.1
        have h3 := HW3.out.2.size
        omega
      · rw [List.getElem?_map, HOL.out] at hu
        have hj : j < k := by
          rcases Nat.lt_or_ge j k with h | h
          · exact h
          · rw [List.getElem?_eq_none (by rw [List.length_take]; omega)] at hu; cases hu
        rw [List.getElem?_take, if_pos hj, List.getElem?_drop] at hu
        obtain ⟨y, hy, rfl⟩ := Option.map_eq_some_iff.1 hu
        show wz.cell? (Addr.add ⟨g1, 1, none⟩ j) = _
        rw [Addr.add_mid, hgz]
        exact HC3.out _ _ hy
end Go.Proofs.YtofabhenmplkoaaGreatDoor.evt

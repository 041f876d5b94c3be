/- Lists of orders that are the same. -/
import Derived.Test.YtceceomaheobhaaGreatDoorInsE
import Derived.Test.YtceceomaheobhaaGreatDoorOrdG
import Derived.Deep.DeepCutAuto
import Derived.Outline
namespace Go.Proofs.YtceceomaheobhaaGreatDoor.ins
open Go.RowKit
open Go.Proofs.YtceceomaheobhaaGreatDoor.lib Go.Proofs.YtceceomaheobhaaGreatDoor.rd Go.Proofs.YtceceomaheobhaaGreatDoor.typ Go.Proofs.YtceceomaheobhaaGreatDoor.eqg Go.Proofs.YtceceomaheobhaaGreatDoor.ord
set_option linter.unusedVariables false
set_option linter.unusedSimpArgs false

set_option maxRecDepth 20000 in
set_option maxHeartbeats 4000000 in
theorem eqOrd_any (A : Option Addr) (c : Nat) (a : List Ord) (n : Nat) (hn : a.length = n) (A' : Option Addr) (c' : Nat) (b : List Ord) (m : Nat) (hm : b.length = m) (w : World) (B B' : Nat) (hB : B ≤ w.heap.size) (hB' : B' ≤ w.heap.size) (ha : RowAt rOrd w B A a) (hb : RowAt rOrd w B' A' b) :
    Calls Tryz.prog 57 #[.slice A n c, .slice A' m c', .func (.func 58) #[] #[]] w fun e w' => e = .returned (.bool (eqL sameO a b)) ∧ Below w.heap.size w w' := by
  have hlen := ha.len
  rw [hn] at hlen
  by_cases h : n = m
  · subst h
    have HN := Lib.hid hn
    have HM := Lib.hid hm
    have HG := Lib.hid (eqL_go (p := sameO) (hn.trans hm.symm))
    clear hn hm
    go_enter Tryz.func57, Tryz.ntmps57
    go_wp2
    go_loopw [7, 8, 9, 17] (fun _ _ _ i wr => ∃ k : Nat, k ≤ n ∧ i = .int .i64 k ∧ Hid (eqL sameO a b = eqGo sameO (a.drop k) (b.drop k)) ∧ Below w.heap.size w wr) (fun _ _ _ i _ => n - (intOf i).toNat)
    case atStart => exact ⟨0, by omega, rfl, HG, Below.refl _ _⟩
    case round =>
      obtain ⟨k, hk, rfl, hr, hbel⟩ := hrel
      have hz := hbel.size
      by_cases hlt : k < n
      · obtain ⟨x, hx⟩ : ∃ x, a[k]? = some x := ⟨_, List.getElem?_eq_getElem (by rw [HN.out]; exact hlt)⟩
        obtain ⟨y, hy⟩ : ∃ y, b[k]? = some y := ⟨_, List.getElem?_eq_getElem (by rw [HM.out]; exact hlt)⟩
        obtain ⟨ad, C0, c0, rfl, hadb, hx0, hp1, _⟩ := row_Ord (ha.below (hbel.mono hB)) hx
        obtain ⟨ad', D0, d0, rfl, hadb', hy0, hp3, _⟩ := row_Ord (hb.below (hbel.mono hB')) hy
        have HXA := Lib.hid hx0
        have HYA := Lib.hid hy0
        have hbb : (ad.add (k * 16)).block < wr.heap.size := by rw [block_of_add]; omega
        have hbb' : (ad'.add (k * 16)).block < wr.heap.size := by rw [block_of_add]; omega
        have HX := Lib.hid (eqGo_step (p := sameO) hx hy)
        have hk0 : (0 : Int) ≤ (k : Int) := by omega
        have hkn : (k : Int) < (n : Int) := by omega
        clear hx hy hx0 hy0
        obtain ⟨q, hq⟩ : ∃ q, sameO x y = q := ⟨_, rfl⟩
        have HP := Lib.hid hq
        have HC : Hid (∀ w', Below wr.heap.size wr w' → Calls Tryz.prog 58 #[.agg #[.string x.name, .slice C0 x.load.length c0, .int .i64 x.pick.place, .int .i64 x.pick.opn, .int .i64 x.pick.close, .int .i64 x.pick.service, .int .i64 x.drop.place, .int .i64 x.drop.opn, .int .i64 x.drop.close, .int .i64 x.drop.service, .int .i64 x.skills, .int .i64 x.penalty, .int .i64 x.split, .int .i64 x.last, .int .i64 x.now, .bool x.off], .agg #[.string y.name, .slice D0 y.load.length d0, .int .i64 y.pick.place, .int .i64 y.pick.opn, .int .i64 y.pick.close, .int .i64 y.pick.service, .int .i64 y.drop.place, .int .i64 y.drop.opn, .int .i64 y.drop.close, .int .i64 y.drop.service, .int .i64 y.skills, .int .i64 y.penalty, .int .i64 y.split, .int .i64 y.last, .int .i64 y.now, .bool y.off]] w' fun e w'' => e = .returned (.bool q) ∧ Below w'.heap.size w' w'') := Lib.hid fun w' hw => by rw [← hq]; exact ord.osame_any x y C0 c0 D0 d0 w' (Ints.go hp1 (by omega) hw) (Ints.go hp3 (by omega) hw)
        clear hq hp1 hp3
        go_upto_region 5 with fail
        go_cut [7, 8] from 18 to 31 (fun i p wx => i = .int .i64 k ∧ p = .pointer (some ⟨wr.heap.size, 0, none⟩) ∧ OrBlk wx wr.heap.size x C0 c0 ∧ Below wr.heap.size wr wx ∧ wx.heap.size = wr.heap.size + 1)
        case first => as_aux_lemma =>
          obtain ⟨m0, m1, m2, m3, m4, m5, m6, m7, m8, m9, m10, m11, m12, m13, m14, m15⟩ := HXA.out
          go_wp2
          go_meet
          refine ⟨rfl, rfl, ?_, (Below.refl _ _).alloc (Nat.le_refl _) _, by simp⟩
          exact World.alloc_heap_new wr _
        obtain ⟨hi7, hp8, hblk, hb1, hs1⟩ := hcut
        subst hi7
        subst hp8
        have hbb2 : (ad'.add (k * 16)).block < wc.heap.size := by omega
        have HYB : Hid (OrdAt wc (ad'.add (k * 16)) y D0 d0) := Lib.hid (by
          obtain ⟨n0, n1, n2, n3, n4, n5, n6, n7, n8, n9, n10, n11, n12, n13, n14, n15⟩ := HYA.out
          have hk := fun (o : Nat) => hb1.cell (p := ⟨(ad'.add (k * 16)).block, o, none⟩) hbb'
          exact ⟨(hb1.cell hbb').trans n0, (hk _).trans n1, (hk _).trans n2, (hk _).trans n3, (hk _).trans n4, (hk _).trans n5, (hk _).trans n6, (hk _).trans n7, (hk _).trans n8, (hk _).trans n9, (hk _).trans n10, (hk _).trans n11, (hk _).trans n12, (hk _).trans n13, (hk _).trans n14, (hk _).trans n15⟩)
        have HBLK := Lib.hid hblk
        have HS1 := Lib.hid hs1
        clear hblk hs1
        obtain ⟨wd, hwd⟩ : ∃ wd, wc = wd := ⟨_, rfl⟩
        have HWD := Lib.hid hwd
        go_upto_region 6 with fail
        go_cut [9] from 22 to 31 (fun p wx => p = .pointer (some ⟨wd.heap.size, 0, none⟩) ∧ OrBlk wx wr.heap.size x C0 c0 ∧ OrBlk wx wd.heap.size y D0 d0 ∧ Below wr.heap.size wr wx)
        case first => as_aux_lemma =>
          obtain ⟨m0, m1, m2, m3, m4, m5, m6, m7, m8, m9, m10, m11, m12, m13, m14, m15⟩ := HYB.out
          clear hwd
          go_wp2
          go_meet
          have e := HWD.out
          subst e
          refine ⟨rfl, ?_, World.alloc_heap_new wc _, hb1.alloc hb1.size _⟩
          exact (Below.heap_alloc _ _ _ (by have := HS1.out; omega)).trans HBLK.out
        obtain ⟨hp9, hblk1, hblk2, hb2⟩ := hcut
        subst hp9
        clear hwd
        obtain ⟨m0, m1, m2, m3, m4, m5, m6, m7, m8, m9, m10, m11, m12, m13, m14, m15⟩ := hblk1.cells
        obtain ⟨n0, n1, n2, n3, n4, n5, n6, n7, n8, n9, n10, n11, n12, n13, n14, n15⟩ := hblk2.cells
        cases q
        · as_aux_lemma =>
            go_wp2_with (go_at_call 58; refine (HC.out _ hb2).mono ?_; rintro e w1 ⟨rfl, hb3⟩)
            go_ret
            exact ⟨ret_bool (by rw [hr.out, HX.out, HP.out]; rfl), hbel.trans ((hb2.mono hz).trans (hb3.mono (by have := hb2.size; omega)))⟩
        · as_aux_lemma =>
            go_wp2_with (go_at_call 58; refine (HC.out _ hb2).mono ?_; rintro e w1 ⟨rfl, hb3⟩)
            go_roundw
            case rel => exact ⟨k + 1, by omega, by go_num, Lib.hid (by rw [hr.out, HX.out, HP.out, Bool.true_and]), hbel.trans ((hb2.mono hz).trans (hb3.mono (by have := hb2.size; omega)))⟩
            case measure => simp [intOf]; omega
      · have hkn : k = n := by omega
        subst hkn
        clear hlt
        go_wp2
        go_ret
        exact ⟨ret_bool (by rw [hr.out, eqGo_end (by rw [HN.out]; exact Nat.le_refl _)]), hbel⟩
  · have hd2 : ((n : Int) == (m : Int)) = false := by simp; omega
    have hd3 : ((n : Int) != (m : Int)) = true := by simp; omega
    have HD : Hid (eqL sameO a b = false) := Lib.hid (eqL_no (by omega))
    clear h hn hm
    go_enter Tryz.func57, Tryz.ntmps57
    go_wp2
    go_ret
    exact ⟨ret_bool (by rw [HD.out]), Below.refl _ _⟩
end Go.Proofs.YtceceomaheobhaaGreatDoor.ins

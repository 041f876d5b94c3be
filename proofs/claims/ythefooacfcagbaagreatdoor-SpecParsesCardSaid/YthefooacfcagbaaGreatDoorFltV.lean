import Derived.Test.YthefooacfcagbaaGreatDoorRulX
import Derived.Test.YthefooacfcagbaaGreatDoorC2
import Derived.Deep.DeepCutAuto
import Derived.Test.YthefooacfcagbaaGreatDoorC1
/- fleet.Check of any list of types. -/
namespace Go.Proofs.YthefooacfcagbaaGreatDoor.flt
open Go.RowKit
open lib rd typ txt app
set_option linter.unusedVariables false
set_option maxRecDepth 20000 in
set_option maxHeartbeats 4000000 in
theorem checkG_any (n : Net) (A0 : Option Addr) (d0 : Nat) (A1 : Option Addr) (d1 : Nat) (A : Option Addr) (c : Nat) (l : List Ty) (w : World) (htb : Tabs w) (hL : RowAt rTy w w.heap.size A l) (hl : l.length ≤ 5000) (hcap : l.length ≤ c) (hn : n.places.length ≤ 17592186043904) :
  Calls Tryz.prog 46 #[.agg #[.slice A0 n.places.length d0, .slice A1 n.arcs.length d1], .slice A l.length c] w (FltsOut w (fltsTo ((n.places.length : Int) - 1) l l.length)) := by
 obtain ⟨m, hm⟩ : ∃ m, l.length = m := ⟨_, rfl⟩
 have hm20 : m ≤ 5000 := by omega
 have HTB : Hid (∀ v, Below w.heap.size w v → Tabs v) := Lib.hid fun v hv => htb.below hv
 clear htb
 have hmc : m ≤ c := by omega
 have HM := Lib.hid hm
 obtain ⟨F, hF⟩ : ∃ F, fltsTo ((n.places.length : Int) - 1) l = F := ⟨_, rfl⟩
 have HF := Lib.hid hF
 have hFl : ∀ j, (F j).length ≤ 1 + 9 * j := fun j => by rw [← hF]; exact fltsTo_len _ _ j
 have HF0 : Hid (F 0 = if inB (m : Int) 1 6 then [] else [⟨4, ⟨#[]⟩⟩]) := Lib.hid (by rw [← hF, ← hm]; rfl)
 rw [hm]
 have hcells : w.heap.size < w.heap.size + 1 := by omega
 clear hm hF hl hcap
 go_enter Tryz.func46, Tryz.ntmps46
 go_upto_if 12 with (go_at_call 83; refine (within_any _ _ _ _).mono ?_; rintro e w1 ⟨rfl, rfl⟩)
 go_cut [5] (fun v wx => ∃ A' c', v = .slice A' (F 0).length c' ∧ Fown wx (w.heap.size + 1) A' c' (F 0) ∧ wx.cell? ⟨w.heap.size, 0, none⟩ = some (.slice A0 n.places.length d0) ∧ wx.cell? ⟨w.heap.size, 1, none⟩ = some (.slice A1 n.arcs.length d1) ∧ Below w.heap.size w wx ∧ w.heap.size + 1 ≤ wx.heap.size)
 case first =>
  obtain ⟨W1, hW1⟩ : ∃ W1, w.alloc (.cells #[.slice A0 n.places.length d0, .slice A1 n.arcs.length d1] 25) = W1 := ⟨_, rfl⟩
  have hc0 : W1.cell? ⟨w.heap.size, 0, none⟩ = some (.slice A0 n.places.length d0) := by rw [← hW1]; exact two_new w _ _ _ 0 _ rfl
  have hc1 : W1.cell? ⟨w.heap.size, 1, none⟩ = some (.slice A1 n.arcs.length d1) := by rw [← hW1]; exact two_new w _ _ _ 1 _ rfl
  have hs1 : W1.heap.size = w.heap.size + 1 := by rw [← hW1]; simp
  have hB1 : Below w.heap.size w W1 := by rw [← hW1]; exact (Below.refl _ _).alloc (Nat.le_refl _) _
  rw [hW1]
  clear hW1
  have HS := Lib.hid hs1
  clear hs1
  cases hq : inB (m : Int) 1 6
  ·have HE : Hid (F 0 = [⟨4, ⟨#[]⟩⟩]) := Lib.hid (by rw [HF0.out, hq]; rfl)
   clear hq
   go_wp2_with (at_builtin; refine wpList_app fault_elem _ _ rfl (w.heap.size + 1) none 0 0 [] rfl ((World.ownsRow_nil _ _ _ _).alloc _) ⟨W1.heap.size, 0, none⟩ 1 [.int .i64 4, .string ⟨#[]⟩] rfl rfl (two_new _ _ _ _) (by simp [Value.oneCell']) (by omega) (by simp; have := HS.out; omega) rfl ?_; intro g1 c1 w2 hown1 hg1 hd1)
   go_meet
   refine ⟨_, _, by rw [HE.out]; rfl, by rw [HE.out]; exact hown1, ?_, ?_, ?_, ?_⟩
   ·exact hg1.cell ((World.cell?_alloc_lt W1 _ _ (show w.heap.size < W1.heap.size by have := HS.out; omega)).trans hc0) (by intro e; cases e)
   ·exact hg1.cell ((World.cell?_alloc_lt W1 _ _ (show w.heap.size < W1.heap.size by have := HS.out; omega)).trans hc1) (by intro e; cases e)
   ·exact (hB1.alloc (by have := HS.out; omega) _).grown hg1 (by simp; have := HS.out; omega) (fun q e => by cases e)
   ·have := hg1.size; have := HS.out; simp at *; omega
  ·have HE : Hid (F 0 = []) := Lib.hid (by rw [HF0.out, hq]; rfl)
   clear hq
   go_wp2
   go_meet
   exact ⟨none, 0, by rw [HE.out]; rfl, by rw [HE.out]; exact World.ownsRow_nil _ _ _ _, hc0, hc1, hB1, by have := HS.out; omega⟩
 obtain ⟨A', c', hv, hown, hc0, hc1, hB, hs⟩ := hcut
 subst hv
 go_upto_region 5 with fail
 go_loopw [5, 19] (fun v k wr => ∃ (j : Nat) (A' : Option Addr) (c' : Nat), j ≤ m ∧ k = .int .i64 j ∧ v = .slice A' (F j).length c' ∧ Fown wr (w.heap.size + 1) A' c' (F j) ∧ wr.cell? ⟨w.heap.size, 0, none⟩ = some (.slice A0 n.places.length d0) ∧ wr.cell? ⟨w.heap.size, 1, none⟩ = some (.slice A1 n.arcs.length d1) ∧ Below w.heap.size w wr ∧ w.heap.size + 1 ≤ wr.heap.size) (fun _ k _ => m - (intOf k).toNat)
 case atStart => exact ⟨0, A', c', by omega, rfl, rfl, hown, hc0, hc1, hB, hs⟩
 case round =>
  clear hown hc0 hc1 hB hs
  obtain ⟨j, A', c', hj, rfl, rfl, hown, hc0, hc1, hB, hs⟩ := hrel
  by_cases hlt : j < m
  ·have hjl : j < l.length := by rw [HM.out]; exact hlt
   obtain ⟨t, ht⟩ : ∃ t, l[j]? = some t := ⟨_, List.getElem?_eq_getElem hjl⟩
   obtain ⟨t0, ht0⟩ : ∃ t, l[0]? = some t := ⟨_, List.getElem?_eq_getElem (by omega)⟩
   have hLr : RowAt rTy wr wr.heap.size A l := (hL.below hB).more (by omega)
   have herr := errors_any n A0 d0 A1 d1 A c l j t t0 wr hLr ht ht0 (by rw [HM.out]; omega) (by rw [HM.out]; exact hmc) hn
   rw [HM.out] at herr
   obtain ⟨E, hE⟩ : ∃ E, errsL ((n.places.length : Int) - 1) l j t t0.cap.length = E := ⟨_, rfl⟩
   have hE9 : E.length ≤ 9 := by rw [← hE]; exact errsL_len _ _ _ _ _
   have HFS : Hid (F (j + 1) = F j ++ mkF j E) := Lib.hid (by
    rw [← HF.out]
    show fltsTo _ l j ++ fltsAt _ l j = _
    unfold fltsAt
    rw [ht]
    have hd : dimsN l = t0.cap.length := by
     rcases l with _ | ⟨a, l⟩
     ·simp at ht0
     ·simp at ht0; subst ht0; rfl
    simp only [hd, hE]
    rfl)
   have hFj := hFl j
   rw [hE] at herr
   have HK := Lib.hid (And.intro hLr herr)
   clear ht ht0 hE hLr herr hjl
   have hjn : j < 5000 := by omega
   go_wp2_with (go_at_call 84; refine HK.out.2.mono ?_; rintro e w1 ⟨Ae, ce, rfl, hownE, hb1⟩)
   obtain ⟨gE, hgE1, hgE2, hgE3⟩ := row_place hownE
   have s1 := hb1.size
   have hown1 : Fown w1 (w.heap.size + 1) A' c' (F j) := own_below hown hb1
   have hne : (Value.slice A' (F j).length c').ownBlock ≠ some gE := by
    intro e
    have := (World.ownsRow.lt hown gE e).2
    omega
   have hc01 : w1.cell? ⟨w.heap.size, 0, none⟩ = some (.slice A0 n.places.length d0) := (hb1.cell (p := ⟨w.heap.size, 0, none⟩) (show w.heap.size < wr.heap.size by omega)).trans hc0
   have hc11 : w1.cell? ⟨w.heap.size, 1, none⟩ = some (.slice A1 n.arcs.length d1) := (hb1.cell (p := ⟨w.heap.size, 1, none⟩) (show w.heap.size < wr.heap.size by omega)).trans hc1
   have hB1 : Below w.heap.size w w1 := hB.trans (hb1.mono (by omega))
   have HNE := Lib.hid hne
   have HG3 := Lib.hid hgE3
   have HX := Lib.hid (And.intro hc0 (And.intro hc1 hown))
   clear hownE hne hgE3 hc0 hc1 hown
   go_loopw [5, 27] (fun v k wr2 => ∃ (q : Nat) (A2 : Option Addr) (c2 : Nat), q ≤ E.length ∧ k = .int .i64 q ∧ v = .slice A2 ((F j).length + q) c2 ∧ wr2.ownsRow (w.heap.size + 1) 53 2 (.slice A2 ((F j).length + q) c2) ((F j).length + q) (fcs (F j ++ mkF j (E.take q))) ∧ Hid ((Value.slice A2 ((F j).length + q) c2).ownBlock ≠ some gE) ∧
    Hid (∀ q, q < E.length → wr2.cell? ⟨gE, q, none⟩ = some (.int .i64 (E[q]?.getD 0))) ∧ Hid (wr2.cell? ⟨w.heap.size, 0, none⟩ = some (.slice A0 n.places.length d0) ∧ wr2.cell? ⟨w.heap.size, 1, none⟩ = some (.slice A1 n.arcs.length d1)) ∧ Below w.heap.size w wr2 ∧ w1.heap.size ≤ wr2.heap.size) (fun _ k _ => E.length - (intOf k).toNat)
   case atStart => exact ⟨0, A', c', by omega, rfl, rfl, by unfold Fown at hown1; simpa [mkF] using hown1, HNE, HG3, Lib.hid ⟨hc01, hc11⟩, hB1, Nat.le_refl _⟩
   case round =>
    clear hown1 HNE HG3 hc01 hc11
    obtain ⟨q, A2, c2, hq, rfl, rfl, hown2, hne2, hcs2, hnet2, hB2, hs2⟩ := hrel
    by_cases hlq : q < E.length
    ·obtain ⟨rfl, hgw⟩ := hgE2 (by omega)
     obtain ⟨x, hx⟩ : ∃ x, E[q]? = some x := ⟨_, List.getElem?_eq_getElem hlq⟩
     have hcx : wr.cell? ⟨gE, q, none⟩ = some (.int .i64 x) := by have := hcs2.out q hlq; rw [hx] at this; exact this
     have hq0 : (0 : Int) ≤ (q : Int) := by omega
     have hqn : (q : Int) < (E.length : Int) := by omega
     have HT := Lib.hid (mkF_take (i := j) hx)
     clear hx hgE2
     have HW := Lib.hid hs2
     have hjn2 : j < 1000000000000000000 := by omega
     have HTW := Lib.hid (HTB.out _ hB2)
     have HCX := Lib.hid hcx
     go_wp2_with (first
      | (go_at_call 41; refine (decG_any j hjn2 _ HTW.out).mono ?_; rintro e W ⟨rfl, hbq⟩; have hqz := hbq.size)
      | (at_builtin; refine wpList_app fault_elem _ _ rfl (w.heap.size + 1) A2 ((F j).length + q) c2 (fcs (F j ++ mkF j (E.take q))) rfl ((own_below hown2 hbq).alloc _) ⟨W.heap.size, 0, none⟩ 1 [.int .i64 x, .string (decS j)] rfl rfl (two_new _ _ _ _) (by simp [Value.oneCell']) (by omega) (by simp; have := HW.out; omega) rfl ?_; intro g3 c3 w3 hown3 hg3 hd3))
     go_roundw
     case rel =>
      have hwz : w1.heap.size ≤ wr.heap.size := HW.out
      have ownW := own_below hown2 hbq
      have BW : Below w.heap.size w W := hB2.trans (hbq.mono (by omega))
      refine ⟨q + 1, some ⟨g3, 0, none⟩, c3, by omega, by go_num, rfl, ?_, Lib.hid ?_, Lib.hid ?_, Lib.hid ⟨?_, ?_⟩, ?_, ?_⟩
      ·rw [HT.out, ← List.append_assoc, fcs_snoc]; exact hown3
      ·rcases hd3 with h | h
       ·intro e; rw [show (Value.slice (some ⟨g3, 0, none⟩) ((F j).length + (q + 1)) c3).ownBlock = some g3 from rfl, ← h] at e; exact hne2.out e
       ·intro e; rw [show (Value.slice (some ⟨g3, 0, none⟩) ((F j).length + (q + 1)) c3).ownBlock = some g3 from rfl] at e; injection e with e; simp at h; omega
      ·intro q' hq'
       exact hg3.cell ((World.cell?_alloc_lt W _ _ (show gE < W.heap.size by omega)).trans ((hbq.cell (p := ⟨gE, q', none⟩) (show gE < wr.heap.size by omega)).trans (hcs2.out q' hq'))) (by intro e; exact hne2.out e.symm)
      ·exact hg3.cell ((World.cell?_alloc_lt W _ _ (show w.heap.size < W.heap.size by omega)).trans ((hbq.cell (p := ⟨w.heap.size, 0, none⟩) (show w.heap.size < wr.heap.size by omega)).trans hnet2.out.1)) (by intro e; have := (World.ownsRow.lt ownW _ e.symm).1; simp at this; omega)
      ·exact hg3.cell ((World.cell?_alloc_lt W _ _ (show w.heap.size < W.heap.size by omega)).trans ((hbq.cell (p := ⟨w.heap.size, 1, none⟩) (show w.heap.size < wr.heap.size by omega)).trans hnet2.out.2)) (by intro e; have := (World.ownsRow.lt ownW _ e.symm).1; simp at this; omega)
      ·exact (BW.alloc (by omega) _).grown hg3 (by simp; omega) (fun q' e => by have := (World.ownsRow.lt ownW _ e).1; omega)
      ·have := hg3.size; simp at *; omega
     case measure => simp [intOf]; omega
    ·have hqE : q = E.length := by omega
     subst hqE
     go_wp2
     go_roundw
     case rel => exact ⟨j + 1, A2, c2, by omega, by go_num, by rw [HFS.out, List.length_append]; simp [mkF], by unfold Fown; rw [HFS.out, List.length_append]; simpa [mkF] using hown2, hnet2.out.1, hnet2.out.2, hB2, by omega⟩
     case measure => simp [intOf]; omega
  ·have hjm : j = m := by omega
   subst hjm
   go_wp2
   go_ret
   rw [HF.out]
   unfold Fown at hown
   exact ⟨A', c', rfl, own_less hown (by omega), hB⟩
end Go.Proofs.YthefooacfcagbaaGreatDoor.flt

/- order.Check of any list of orders. -/
namespace Go.Proofs.YthefooacfcagbaaGreatDoor.ord
open Go.RowKit
open lib rd typ txt app note flts
set_option linter.unusedVariables false
set_option maxRecDepth 20000 in
set_option maxHeartbeats 4000000 in
theorem checkG_any (n : Nat) (A0 : Option Addr) (d0 : Nat) (A1 : Option Addr) (n1 d1 : Nat) (dims types : Int) (A : Option Addr) (c : Nat) (l : List Ord) (w : World) (htb : Tabs w) (hL : RowAt rOrd w w.heap.size A l) (hl : l.length ≤ 5000) (hcap : l.length ≤ c) (hn : n ≤ 17592186043904) :
  Calls Tryz.prog 47 #[.agg #[.slice A0 n d0, .slice A1 n1 d1], .int .i64 dims, .int .i64 types, .slice A l.length c] w (FltsOut w (ofltsTo ((n : Int) - 1) dims types l l.length)) := by
 obtain ⟨m, hm⟩ : ∃ m, l.length = m := ⟨_, rfl⟩
 have hm20 : m ≤ 5000 := by omega
 have HTB : Hid (∀ v, Below w.heap.size w v → Tabs v) := Lib.hid fun v hv => htb.below hv
 clear htb
 have hmc : m ≤ c := by omega
 have HM := Lib.hid hm
 obtain ⟨F, hF⟩ : ∃ F, ofltsTo ((n : Int) - 1) dims types l = F := ⟨_, rfl⟩
 have HF := Lib.hid hF
 have hFl : ∀ j, (F j).length ≤ 1 + 8 * j := fun j => by rw [← hF]; exact ofltsTo_len _ _ _ _ j
 have HF0 : Hid (F 0 = if m ≤ 10 then [] else [⟨4, ⟨#[]⟩⟩]) := Lib.hid (by rw [← hF, ← hm]; rfl)
 rw [hm]
 have hcells : w.heap.size < w.heap.size + 1 := by omega
 clear hm hF hl hcap
 go_enter Tryz.func47, Tryz.ntmps47
 go_upto_if 15 with fail
 go_cut [9] (fun v wx => ∃ A' c', v = .slice A' (F 0).length c' ∧ Fown wx (w.heap.size + 1) A' c' (F 0) ∧ (wx.cell? ⟨w.heap.size, 0, none⟩ = some (.slice A0 n d0) ∧ wx.cell? ⟨w.heap.size, 1, none⟩ = some (.slice A1 n1 d1)) ∧ Below w.heap.size w wx ∧ w.heap.size + 1 ≤ wx.heap.size)
 case first =>
  obtain ⟨W1, hW1⟩ : ∃ W1, w.alloc (.cells #[.slice A0 n d0, .slice A1 n1 d1] 25) = W1 := ⟨_, rfl⟩
  have hc0 : W1.cell? ⟨w.heap.size, 0, none⟩ = some (.slice A0 n d0) := by rw [← hW1]; exact two_new w _ _ _ 0 _ rfl
  have hc1 : W1.cell? ⟨w.heap.size, 1, none⟩ = some (.slice A1 n1 d1) := by rw [← hW1]; exact two_new w _ _ _ 1 _ rfl
  have hs1 : W1.heap.size = w.heap.size + 1 := by rw [← hW1]; simp
  have hB1 : Below w.heap.size w W1 := by rw [← hW1]; exact (Below.refl _ _).alloc (Nat.le_refl _) _
  rw [hW1]
  clear hW1
  have HS := Lib.hid hs1
  clear hs1
  by_cases hq : m ≤ 10
  ·have HE : Hid (F 0 = []) := Lib.hid (by rw [HF0.out, if_pos hq])
   have hq' : ¬ (10 : Int) < (m : Int) := by omega
   clear hq
   go_wp2
   go_meet
   exact ⟨none, 0, by rw [HE.out]; rfl, by rw [HE.out]; exact World.ownsRow_nil _ _ _ _, ⟨hc0, hc1⟩, hB1, by have := HS.out; omega⟩
  ·have HE : Hid (F 0 = [⟨4, ⟨#[]⟩⟩]) := Lib.hid (by rw [HF0.out, if_neg hq])
   have hq' : (10 : Int) < (m : Int) := by omega
   clear hq
   go_wp2_with (at_builtin; refine wpList_app fault_elem _ _ rfl (w.heap.size + 1) none 0 0 [] rfl ((World.ownsRow_nil _ _ _ _).alloc _) ⟨W1.heap.size, 0, none⟩ 1 [.int .i64 4, .string ⟨#[]⟩] rfl rfl (two_new _ _ _ _) (by simp [Value.oneCell']) (by omega) (by simp; have := HS.out; omega) rfl ?_; intro g1 c1 w2 hown1 hg1 hd1)
   go_meet
   refine ⟨_, _, by rw [HE.out]; rfl, by rw [HE.out]; exact hown1, ⟨?_, ?_⟩, ?_, ?_⟩
   ·exact hg1.cell ((World.cell?_alloc_lt W1 _ _ (show w.heap.size < W1.heap.size by have := HS.out; omega)).trans hc0) (by intro e; cases e)
   ·exact hg1.cell ((World.cell?_alloc_lt W1 _ _ (show w.heap.size < W1.heap.size by have := HS.out; omega)).trans hc1) (by intro e; cases e)
   ·exact (hB1.alloc (by have := HS.out; omega) _).grown hg1 (by simp; have := HS.out; omega) (fun q e => by cases e)
   ·have := hg1.size; have := HS.out; simp at *; omega
 obtain ⟨A', c', hv, hown, ⟨hc0, hc1⟩, hB, hs⟩ := hcut
 subst hv
 go_upto_region 5 with fail
 go_loopw [9, 22] (fun v k wr => ∃ (j : Nat) (A' : Option Addr) (c' : Nat), j ≤ m ∧ k = .int .i64 j ∧ v = .slice A' (F j).length c' ∧ Fown wr (w.heap.size + 1) A' c' (F j) ∧ (wr.cell? ⟨w.heap.size, 0, none⟩ = some (.slice A0 n d0) ∧ wr.cell? ⟨w.heap.size, 1, none⟩ = some (.slice A1 n1 d1)) ∧ Below w.heap.size w wr ∧ w.heap.size + 1 ≤ wr.heap.size) (fun _ k _ => m - (intOf k).toNat)
 case atStart => exact ⟨0, A', c', by omega, rfl, rfl, hown, ⟨hc0, hc1⟩, hB, hs⟩
 case round =>
  clear hown hc0 hc1 hB hs
  obtain ⟨j, A', c', hj, rfl, rfl, hown, ⟨hc0, hc1⟩, hB, hs⟩ := hrel
  by_cases hlt : j < m
  ·have hjl : j < l.length := by rw [HM.out]; exact hlt
   obtain ⟨t, ht⟩ : ∃ t, l[j]? = some t := ⟨_, List.getElem?_eq_getElem hjl⟩
   have hLr : RowAt rOrd wr wr.heap.size A l := (hL.below hB).more (by omega)
   have herr := errors_any n A0 d0 A1 n1 d1 dims types A c l j t wr hLr ht (by rw [HM.out]; omega) (by rw [HM.out]; exact hmc) hn
   rw [HM.out] at herr
   obtain ⟨E, hE⟩ : ∃ E, errsO ((n : Int) - 1) dims types l j t = E := ⟨_, rfl⟩
   have hE9 : E.length ≤ 8 := by rw [← hE]; exact errsO_len _ _ _ _ _ _
   have HFS : Hid (F (j + 1) = F j ++ mkF j E) := Lib.hid (by
    rw [← HF.out, ofltsTo_succ ht, hE])
   have hFj := hFl j
   rw [hE] at herr
   have HK := Lib.hid (And.intro hLr herr)
   clear ht hE hLr herr hjl
   have hjn : j < 5000 := by omega
   go_wp2_with (go_at_call 85; refine HK.out.2.mono ?_; rintro e w1 ⟨Ae, ce, rfl, hownE, hb1⟩)
   obtain ⟨gE, hgE1, hgE2, hgE3⟩ := row_place hownE
   have s1 := hb1.size
   have hown1 : Fown w1 (w.heap.size + 1) A' c' (F j) := own_below hown hb1
   have hne : (Value.slice A' (F j).length c').ownBlock ≠ some gE := by
    intro e
    have := (World.ownsRow.lt hown gE e).2
    omega
   have hc01 : w1.cell? ⟨w.heap.size, 0, none⟩ = some (.slice A0 n d0) := (hb1.cell (p := ⟨w.heap.size, 0, none⟩) (show w.heap.size < wr.heap.size by omega)).trans hc0
   have hc11 : w1.cell? ⟨w.heap.size, 1, none⟩ = some (.slice A1 n1 d1) := (hb1.cell (p := ⟨w.heap.size, 1, none⟩) (show w.heap.size < wr.heap.size by omega)).trans hc1
   have hB1 : Below w.heap.size w w1 := hB.trans (hb1.mono (by omega))
   have HNE := Lib.hid hne
   have HG3 := Lib.hid hgE3
   have HX := Lib.hid (And.intro hc0 (And.intro hc1 hown))
   clear hownE hne hgE3 hc0 hc1 hown
   go_loopw [9, 12, 32] (fun v _ k wr2 => ∃ (q : Nat) (A2 : Option Addr) (c2 : Nat), q ≤ E.length ∧ k = .int .i64 q ∧ v = .slice A2 ((F j).length + q) c2 ∧ wr2.ownsRow (w.heap.size + 1) 53 2 (.slice A2 ((F j).length + q) c2) ((F j).length + q) (fcs (F j ++ mkF j (E.take q))) ∧ Hid ((Value.slice A2 ((F j).length + q) c2).ownBlock ≠ some gE) ∧
    Hid (∀ q, q < E.length → wr2.cell? ⟨gE, q, none⟩ = some (.int .i64 (E[q]?.getD 0))) ∧ Hid (wr2.cell? ⟨w.heap.size, 0, none⟩ = some (.slice A0 n d0) ∧ wr2.cell? ⟨w.heap.size, 1, none⟩ = some (.slice A1 n1 d1)) ∧ Below w.heap.size w wr2 ∧ w1.heap.size ≤ wr2.heap.size) (fun _ _ k _ => E.length - (intOf k).toNat)
   case atStart => exact ⟨0, A', c', by omega, rfl, rfl, by unfold Fown at hown1; simpa [mkF] using hown1, HNE, HG3, Lib.hid ⟨hc01, hc11⟩, hB1, Nat.le_refl _⟩
   case round =>
    clear hown1 HNE HG3 hc01 hc11
    obtain ⟨q, A2, c2, hq, rfl, rfl, hown2, hne2, hcs2, hnet2, hB2, hs2⟩ := hrel
    by_cases hlq : q < E.length
    ·obtain ⟨rfl, hgw⟩ := hgE2 (by omega)
     obtain ⟨x, hx⟩ : ∃ x, E[q]? = some x := ⟨_, List.getElem?_eq_getElem hlq⟩
     have hcx : wr.cell? ⟨gE, q, none⟩ = some (.int .i64 x) := by have := hcs2.out q hlq; rw [hx] at this; exact this
     have hq0 : (0 : Int) ≤ (q : Int) := by omega
     have hqn : (q : Int) < (E.length : Int) := by omega
     have HT := Lib.hid (mkF_take (i := j) hx)
     clear hx hgE2
     have HW := Lib.hid hs2
     have hjn2 : j < 1000000000000000000 := by omega
     have HTW := Lib.hid (HTB.out _ hB2)
     have HCX := Lib.hid hcx
     go_wp2_with (first
      | (go_at_call 41; refine (decG_any j hjn2 _ HTW.out).mono ?_; rintro e W ⟨rfl, hbq⟩; have hqz := hbq.size)
      | (at_builtin; refine wpList_app fault_elem _ _ rfl (w.heap.size + 1) A2 ((F j).length + q) c2 (fcs (F j ++ mkF j (E.take q))) rfl ((own_below hown2 hbq).alloc _) ⟨W.heap.size, 0, none⟩ 1 [.int .i64 x, .string (decS j)] rfl rfl (two_new _ _ _ _) (by simp [Value.oneCell']) (by omega) (by simp; have := HW.out; omega) rfl ?_; intro g3 c3 w3 hown3 hg3 hd3))
     go_roundw
     case rel =>
      have hwz : w1.heap.size ≤ wr.heap.size := HW.out
      have ownW := own_below hown2 hbq
      have BW : Below w.heap.size w W := hB2.trans (hbq.mono (by omega))
      refine ⟨q + 1, some ⟨g3, 0, none⟩, c3, by omega, by go_num, rfl, ?_, Lib.hid ?_, Lib.hid ?_, Lib.hid ⟨?_, ?_⟩, ?_, ?_⟩
      ·rw [HT.out, ← List.append_assoc, fcs_snoc]; exact hown3
      ·rcases hd3 with h | h
       ·intro e; rw [show (Value.slice (some ⟨g3, 0, none⟩) ((F j).length + (q + 1)) c3).ownBlock = some g3 from rfl, ← h] at e; exact hne2.out e
       ·intro e; rw [show (Value.slice (some ⟨g3, 0, none⟩) ((F j).length + (q + 1)) c3).ownBlock = some g3 from rfl] at e; injection e with e; simp at h; omega
      ·intro q' hq'
       exact hg3.cell ((World.cell?_alloc_lt W _ _ (show gE < W.heap.size by omega)).trans ((hbq.cell (p := ⟨gE, q', none⟩) (show gE < wr.heap.size by omega)).trans (hcs2.out q' hq'))) (by intro e; exact hne2.out e.symm)
      ·exact hg3.cell ((World.cell?_alloc_lt W _ _ (show w.heap.size < W.heap.size by omega)).trans ((hbq.cell (p := ⟨w.heap.size, 0, none⟩) (show w.heap.size < wr.heap.size by omega)).trans hnet2.out.1)) (by intro e; have := (World.ownsRow.lt ownW _ e.symm).1; simp at this; omega)
      ·exact hg3.cell ((World.cell?_alloc_lt W _ _ (show w.heap.size < W.heap.size by omega)).trans ((hbq.cell (p := ⟨w.heap.size, 1, none⟩) (show w.heap.size < wr.heap.size by omega)).trans hnet2.out.2)) (by intro e; have := (World.ownsRow.lt ownW _ e.symm).1; simp at this; omega)
      ·exact (BW.alloc (by omega) _).grown hg3 (by simp; omega) (fun q' e => by have := (World.ownsRow.lt ownW _ e).1; omega)
      ·have := hg3.size; simp at *; omega
     case measure => simp [intOf]; omega
    ·have hqE : q = E.length := by omega
     subst hqE
     go_wp2
     go_roundw
     case rel => exact ⟨j + 1, A2, c2, by omega, by go_num, by rw [HFS.out, List.length_append]; simp [mkF], by unfold Fown; rw [HFS.out, List.length_append]; simpa [mkF] using hown2, hnet2.out, hB2, by omega⟩
     case measure => simp [intOf]; omega
  ·have hjm : j = m := by omega
   subst hjm
   go_wp2
   go_ret
   rw [HF.out]
   unfold Fown at hown
   exact ⟨A', c', rfl, own_less hown (by omega), hB⟩
end Go.Proofs.YthefooacfcagbaaGreatDoor.ord

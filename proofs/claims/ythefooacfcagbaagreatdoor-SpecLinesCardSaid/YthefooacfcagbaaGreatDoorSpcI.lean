/- spec's reader: orders. -/
import Derived.Test.YthefooacfcagbaaGreatDoorSpcH
import Derived.Deep.MidRow
namespace Go.Proofs.YthefooacfcagbaaGreatDoor.spc
open Go.RowKit
open Go.Proofs.YthefooacfcagbaaGreatDoor.lib Go.Proofs.YthefooacfcagbaaGreatDoor.rd Go.Proofs.YthefooacfcagbaaGreatDoor.app Go.Proofs.YthefooacfcagbaaGreatDoor.els Go.Proofs.YthefooacfcagbaaGreatDoor.typ Go.Proofs.YthefooacfcagbaaGreatDoor.big Go.Proofs.YthefooacfcagbaaGreatDoor.gen
open Go.Proofs.YthefooacfcagbaaGreatDoor.txt (in64 By strV strV_of decW decW_any Tabs elem_str toList_data push_one Strs numL number_any num_dec dec_num)
set_option linter.unusedVariables false
set_option linter.unusedSimpArgs false

/-- The cells cs, with others laid from o on. -/
def setL (cs : List Value) : Nat → List Value → List Value
  | _, [] => cs
  | o, v :: r => setL (cs.set o v) (o + 1) r
theorem Blk.sets {t : TypeId} {g : Nat} : ∀ (vs : List Value) (o : Nat) (w : World) (cs : List Value), Blk w g t cs → Blk (w.setCells g o vs) g t (setL cs o vs)
  | [], _, _, _, h => h
  | v :: r, o, w, cs, h => Blk.sets r (o + 1) _ _ (h.set o v)
theorem sets_frame (q : Nat) : ∀ (vs : List Value) (o : Nat) (w : World), (∀ k, k ≠ q → (w.setCells q o vs).heap[k]? = w.heap[k]?) ∧ (w.setCells q o vs).heap.size = w.heap.size ∧ Below q w (w.setCells q o vs)
  | [], _, w => ⟨fun _ _ => rfl, rfl, Below.refl _ _⟩
  | v :: r, o, w => by
    obtain ⟨h1, h2, h3⟩ := sets_frame q r (o + 1) (w.setCell ⟨q, o, none⟩ v)
    refine ⟨fun k hk => (h1 k hk).trans (Below.heap_setCell w ⟨q, o, none⟩ v k hk), h2.trans (by simp [World.setCell]), ((Below.refl q w).setCell (p := ⟨q, o, none⟩) (Nat.le_refl _) v).trans h3⟩
theorem blk_there {w : World} {g k n : Nat} {t : TypeId} {cs : List Value} (h : Blk w g t cs) (hk : k + n ≤ cs.length) : w.there g k n := fun j hj => by
  refine ⟨?_, h.frozen _⟩
  rw [h.cell (j := k + j) (List.getElem?_eq_getElem (by omega))]
  rfl
theorem wpList_storeM {t : TypeId} {n : Nat} (T : StructOf t n) {ops : Array Oper} {rest : List Oper} {o : Oper} {a : Act} {Q : Exit → Act → World → Prop} {w : World} (hgd : o.guard = none) (p v : Operand) (ho : o.op = Op.store t p v)
    (g k : Nat) (cs : List Value) (hp : a.eval p = .pointer (some ⟨g, k, none⟩)) (hv : a.eval v = .agg cs.toArray) (ht : w.there g k n) (hn : cs.length = n) (h1 : ∀ u ∈ cs, u.oneCell' = true)
    (h : wpList Tryz.prog ops Q rest (a.put o.dst undef) (w.setCells g k cs)) : wpList Tryz.prog ops Q (o :: rest) a w :=
  wpList_store_mid hgd t p v ho g k cs.toArray hp hv (by simpa [hn] using ht) (by rw [T.size]; simp [hn]) (Array.all_eq_true_iff_forall_mem.2 fun u hu => h1 u (by simpa using hu)) (by simpa using h)
set_option maxRecDepth 20000 in
set_option maxHeartbeats 4000000 in
theorem order_any (b : Nat) (R0 : List By) (w : World) (h : RdSt w b R0) (ht : TabsAt b w) :
    Calls Tryz.prog 66 #[.pointer (some ⟨b, 0, none⟩)] w (ManyR orderW ordOk OrR b R0 w) := by
  have HTB := Lib.hid ht
  have HLN := Lib.hid h.len
  have hbl := h.lt
  obtain ⟨w0, hw0⟩ : ∃ W0, (w.alloc (.cells (OrdCells zOr none 0).toArray 66)).alloc (.cells (OrdCells zOr none 0).toArray 66) = W0 := ⟨_, rfl⟩
  have HW0 := Lib.hid (show (w.alloc (.cells #[.string ⟨#[]⟩, .slice none 0 0, .int .i64 0, .int .i64 0, .int .i64 0, .int .i64 0, .int .i64 0, .int .i64 0, .int .i64 0, .int .i64 0, .int .i64 0, .int .i64 0, .int .i64 0, .int .i64 0, .int .i64 0, .bool false] 66)).alloc (.cells #[.string ⟨#[]⟩, .slice none 0 0, .int .i64 0, .int .i64 0, .int .i64 0, .int .i64 0, .int .i64 0, .int .i64 0, .int .i64 0, .int .i64 0, .int .i64 0, .int .i64 0, .int .i64 0, .int .i64 0, .int .i64 0, .bool false] 66) = w0 from hw0)
  have HZ0 : Hid (Blk w0 w.heap.size 66 (OrdCells zOr none 0)) := Lib.hid (by rw [← hw0]; exact (Blk.new w _ _).kept (World.grownBy_alloc _ _ none) (by simp))
  have HB0 : Hid (Blk w0 (w.heap.size + 1) 66 (OrdCells zOr none 0)) := Lib.hid (by
    have e := Blk.new (w.alloc (.cells (OrdCells zOr none 0).toArray 66)) 66 (OrdCells zOr none 0)
    rw [World.size_alloc, hw0] at e
    exact e)
  have HS0 : Hid (RS w b R0 w0) := Lib.hid (by rw [← hw0]; exact ((RS.start h).alloc _).alloc _)
  have hz0 : w.heap.size + 2 ≤ w0.heap.size := by rw [← hw0]; simp
  clear h ht hw0
  go_enter Tryz.func66, Tryz.ntmps66
  go_upto_region 2 with fail
  rw [HW0.out]
  clear HW0
  go_upto_region 3 with (go_at_call 62; refine (word_any b _ _ HS0.out.st).mono ?_; rintro e v1 (⟨x, R1, _, rfl, hx, rfl, rfl, hst⟩ | ⟨hno, rfl, hg⟩); have hc := (HB0.out.kept hst.grown (by intro e; injection e with e; omega)).cell (j := 0) rfl; have hf := (HB0.out.kept hst.grown (by intro e; injection e with e; omega)).frozen 0)
  rotate_left
  · refine ⟨rfl, .inr ⟨fun t R' ⟨q0, ⟨_, q2, q3, q4, q5, q6, q7, q8⟩, q1⟩ e => ?_, rfl, HS0.out.grown.trans hg⟩⟩
    simp only [orderW, List.cons_append, List.nil_append, List.cons.injEq] at e
    exact hno _ _ (q0) (e)
  obtain ⟨w1, hw⟩ : ∃ W, v1.setCell ⟨w.heap.size + 1, 0, none⟩ (.string ⟨x.toArray⟩) = W := ⟨_, rfl⟩
  have HS1 : Hid (RS w b R1 w1) := Lib.hid (by rw [← hw]; exact (HS0.out.next hst).set (by omega) _ _)
  have HB1 := Lib.hid (show Blk w1 (w.heap.size + 1) 66 ((OrdCells zOr none 0).set 0 (.string ⟨x.toArray⟩)) by rw [← hw]; exact (HB0.out.kept hst.grown (by intro e; injection e with e; omega)).set 0 _)
  have HZ1 := Lib.hid (show Blk w1 w.heap.size 66 (OrdCells zOr none 0) by rw [← hw]; exact (Below.heap_setCell _ _ _ _ (show w.heap.size ≠ w.heap.size + 1 by omega)).trans (HZ0.out.kept hst.grown (by intro e; injection e with e; omega)))
  have hz1 : w.heap.size + 2 ≤ w1.heap.size := by rw [← hw]; simp only [World.setCell, Array.size_modify]; exact Nat.le_trans hz0 hst.size
  rw [hw]
  clear hw hst hc hf hz0 HB0 HZ0
  go_upto_region 4 with (go_at_call 102; refine (rlist_any b _ _ HS1.out.st (HTB.out.below HS1.out.bel)).mono ?_; rintro e v2 (⟨l, R2, _, rfl, hl, rfl, ⟨AA, dd, rfl, hown⟩, hst⟩ | ⟨hno, rfl, hg⟩); have hc := (HB1.out.kept hst.grown (by intro e; injection e with e; omega)).cell (j := 1) rfl; have hf := (HB1.out.kept hst.grown (by intro e; injection e with e; omega)).frozen 1)
  rotate_left
  · refine ⟨rfl, .inr ⟨fun t R' ⟨q0, ⟨_, q2, q3, q4, q5, q6, q7, q8⟩, q1⟩ e => ?_, rfl, HS1.out.grown.trans hg⟩⟩
    simp only [orderW, List.cons_append, List.nil_append, List.cons.injEq] at e
    exact hno _ _ (q1) (e.2)
  obtain ⟨w2, hw⟩ : ∃ W, v2.setCell ⟨w.heap.size + 1, 1, none⟩ (.slice AA l.length dd) = W := ⟨_, rfl⟩
  have HS2 : Hid (RS w b R2 w2) := Lib.hid (by rw [← hw]; exact (HS1.out.next hst).set (by omega) _ _)
  have HB2 := Lib.hid (show Blk w2 (w.heap.size + 1) 66 (((OrdCells zOr none 0).set 0 (.string ⟨x.toArray⟩)).set 1 (.slice AA l.length dd)) by rw [← hw]; exact (HB1.out.kept hst.grown (by intro e; injection e with e; omega)).set 1 _)
  have HZ2 := Lib.hid (show Blk w2 w.heap.size 66 (OrdCells zOr none 0) by rw [← hw]; exact (Below.heap_setCell _ _ _ _ (show w.heap.size ≠ w.heap.size + 1 by omega)).trans (HZ1.out.kept hst.grown (by intro e; injection e with e; omega)))
  have hz2 : w.heap.size + 2 ≤ w2.heap.size := by rw [← hw]; simp only [World.setCell, Array.size_modify]; exact Nat.le_trans hz1 hst.size
  have HO2 : Hid (w2.ownsRow (w.heap.size + 2) 3 1 (.slice AA l.length dd) l.length (l.map (.int .i64))) := Lib.hid (by rw [← hw]; exact own_set (own_less hown (by omega)) (by omega) _ _)
  clear hown
  rw [hw]
  clear hw hst hc hf hz1 HB1 HZ1
  go_upto_region 5 with (first
    | (go_at_call 103; refine (rstop_any b _ _ HS2.out.st (HTB.out.below HS2.out.bel)).mono ?_; rintro e v3 (⟨p1, Rp, _, rfl, hp1, rfl, rfl, hst⟩ | ⟨hno, rfl, hg⟩); have HSp := Lib.hid (HS2.out.next hst); have HGp := Lib.hid hst.grown; clear hst)
    | (go_at_call 103; refine (rstop_any b _ _ HSp.out.st (HTB.out.below HSp.out.bel)).mono ?_; rintro e v4 (⟨p2, R3, _, rfl, hp2, rfl, rfl, hst⟩ | ⟨hno, rfl, hg⟩); have HSq := Lib.hid (HSp.out.next hst); have HGq := Lib.hid (HGp.out.trans hst.grown); have HBq := Lib.hid (HB2.out.kept HGq.out (by intro e; injection e with e; omega)); clear hst)
    | ((with_reducible refine wpList_storeM sStp rfl _ _ rfl (w.heap.size + 1) 2 (StpCells p1) ?_ ?_ ?_ ?_ (stp_one _) ?_); exact rfl; exact rfl; exact (blk_there HBq.out (Nat.le_of_ble_eq_true rfl)); exact rfl)
    | ((with_reducible refine wpList_storeM sStp rfl _ _ rfl (w.heap.size + 1) 6 (StpCells p2) ?_ ?_ ?_ ?_ (stp_one _) ?_); exact rfl; exact rfl; exact (blk_there (Blk.sets (StpCells p1) 2 _ _ HBq.out) (Nat.le_of_ble_eq_true rfl)); exact rfl))
  rotate_left
  · refine ⟨rfl, .inr ⟨fun t R' ⟨q0, ⟨_, q2, q3, q4, q5, q6, q7, q8⟩, q1⟩ e => ?_, rfl, HSp.out.grown.trans hg⟩⟩
    simp only [orderW, List.cons_append, List.nil_append, List.cons.injEq] at e
    exact hno _ _ q3 e.2.2.2
  · refine ⟨rfl, .inr ⟨fun t R' ⟨q0, ⟨_, q2, q3, q4, q5, q6, q7, q8⟩, q1⟩ e => ?_, rfl, HS2.out.grown.trans hg⟩⟩
    simp only [orderW, List.cons_append, List.nil_append, List.cons.injEq] at e
    exact hno _ _ q2 e.2.2
  obtain ⟨u3, hu⟩ : ∃ W, v4.setCells (w.heap.size + 1) 2 (StpCells p1) = W := ⟨_, rfl⟩
  obtain ⟨w3, hw⟩ : ∃ W, u3.setCells (w.heap.size + 1) 6 (StpCells p2) = W := ⟨_, rfl⟩
  obtain ⟨f1, f2, f3⟩ := sets_frame (w.heap.size + 1) (StpCells p1) 2 v4
  obtain ⟨f4, f5, f6⟩ := sets_frame (w.heap.size + 1) (StpCells p2) 6 u3
  rw [hu] at f1 f2 f3
  rw [hw] at f4 f5 f6
  have hff : ∀ k, k ≠ w.heap.size + 1 → w3.heap[k]? = v4.heap[k]? := fun k hk => (f4 k hk).trans (f1 k hk)
  have hfz : w3.heap.size = v4.heap.size := f5.trans f2
  have hgz := HGq.out.size
  have HS3 : Hid (RS w b R3 w3) := Lib.hid (HSq.out.store (by omega) hff (f3.trans f6))
  have HB3 := Lib.hid (show Blk w3 (w.heap.size + 1) 66 (setL (setL (((OrdCells zOr none 0).set 0 (.string ⟨x.toArray⟩)).set 1 (.slice AA l.length dd)) 2 (StpCells p1)) 6 (StpCells p2)) by rw [← hw, ← hu]; exact Blk.sets _ 6 _ _ (Blk.sets _ 2 _ _ HBq.out))
  have HZ3 := Lib.hid (show Blk w3 w.heap.size 66 (OrdCells zOr none 0) by exact (hff _ (by omega)).trans (HZ2.out.kept HGq.out (by intro e; injection e with e; omega)))
  have hz3 : w.heap.size + 2 ≤ w3.heap.size := by omega
  have HO3 : Hid (w3.ownsRow (w.heap.size + 2) 3 1 (.slice AA l.length dd) l.length (l.map (.int .i64))) := Lib.hid (own_heap (own_gr HO2.out (by omega) HGq.out) (fun k hk => hff k (by omega)))
  rw [hu, hw]
  clear hw hu f1 f2 f3 f4 f5 f6 hff hfz hgz HSp HSq HGp HGq HBq HB2 HZ2 HO2 hz2
  go_upto_region 6 with (go_at_call 63; refine (num_any b _ _ HS3.out.st (HTB.out.below HS3.out.bel)).mono ?_; rintro e v4 (⟨n4, R4, _, rfl, hn4, rfl, rfl, hst⟩ | ⟨hno, rfl, hg⟩); have hc := (HB3.out.kept hst.grown (by intro e; injection e with e; omega)).cell (j := 10) rfl; have hf := (HB3.out.kept hst.grown (by intro e; injection e with e; omega)).frozen 10)
  rotate_left
  · refine ⟨rfl, .inr ⟨fun t R' ⟨q0, ⟨_, q2, q3, q4, q5, q6, q7, q8⟩, q1⟩ e => ?_, rfl, HS3.out.grown.trans hg⟩⟩
    simp only [orderW, List.cons_append, List.nil_append, List.cons.injEq] at e
    exact hno _ _ (q4) (e.2.2.2.2)
  obtain ⟨w4, hw⟩ : ∃ W, v4.setCell ⟨w.heap.size + 1, 10, none⟩ (.int .i64 n4) = W := ⟨_, rfl⟩
  have HS4 : Hid (RS w b R4 w4) := Lib.hid (by rw [← hw]; exact (HS3.out.next hst).set (by omega) _ _)
  have HB4 := Lib.hid (show Blk w4 (w.heap.size + 1) 66 ((setL (setL (((OrdCells zOr none 0).set 0 (.string ⟨x.toArray⟩)).set 1 (.slice AA l.length dd)) 2 (StpCells p1)) 6 (StpCells p2)).set 10 (.int .i64 n4)) by rw [← hw]; exact (HB3.out.kept hst.grown (by intro e; injection e with e; omega)).set 10 _)
  have HZ4 := Lib.hid (show Blk w4 w.heap.size 66 (OrdCells zOr none 0) by rw [← hw]; exact (Below.heap_setCell _ _ _ _ (show w.heap.size ≠ w.heap.size + 1 by omega)).trans (HZ3.out.kept hst.grown (by intro e; injection e with e; omega)))
  have hz4 : w.heap.size + 2 ≤ w4.heap.size := by rw [← hw]; simp only [World.setCell, Array.size_modify]; exact Nat.le_trans hz3 hst.size
  have HO4 : Hid (w4.ownsRow (w.heap.size + 2) 3 1 (.slice AA l.length dd) l.length (l.map (.int .i64))) := Lib.hid (by rw [← hw]; exact own_set (own_gr HO3.out (by omega) hst.grown) (by omega) _ _)
  rw [hw]
  clear hw hst hc hf hz3 HB3 HZ3 HO3
  go_upto_region 7 with (go_at_call 63; refine (num_any b _ _ HS4.out.st (HTB.out.below HS4.out.bel)).mono ?_; rintro e v5 (⟨n5, R5, _, rfl, hn5, rfl, rfl, hst⟩ | ⟨hno, rfl, hg⟩); have hc := (HB4.out.kept hst.grown (by intro e; injection e with e; omega)).cell (j := 11) rfl; have hf := (HB4.out.kept hst.grown (by intro e; injection e with e; omega)).frozen 11)
  rotate_left
  · refine ⟨rfl, .inr ⟨fun t R' ⟨q0, ⟨_, q2, q3, q4, q5, q6, q7, q8⟩, q1⟩ e => ?_, rfl, HS4.out.grown.trans hg⟩⟩
    simp only [orderW, List.cons_append, List.nil_append, List.cons.injEq] at e
    exact hno _ _ (q5) (e.2.2.2.2.2)
  obtain ⟨w5, hw⟩ : ∃ W, v5.setCell ⟨w.heap.size + 1, 11, none⟩ (.int .i64 n5) = W := ⟨_, rfl⟩
  have HS5 : Hid (RS w b R5 w5) := Lib.hid (by rw [← hw]; exact (HS4.out.next hst).set (by omega) _ _)
  have HB5 := Lib.hid (show Blk w5 (w.heap.size + 1) 66 (((setL (setL (((OrdCells zOr none 0).set 0 (.string ⟨x.toArray⟩)).set 1 (.slice AA l.length dd)) 2 (StpCells p1)) 6 (StpCells p2)).set 10 (.int .i64 n4)).set 11 (.int .i64 n5)) by rw [← hw]; exact (HB4.out.kept hst.grown (by intro e; injection e with e; omega)).set 11 _)
  have HZ5 := Lib.hid (show Blk w5 w.heap.size 66 (OrdCells zOr none 0) by rw [← hw]; exact (Below.heap_setCell _ _ _ _ (show w.heap.size ≠ w.heap.size + 1 by omega)).trans (HZ4.out.kept hst.grown (by intro e; injection e with e; omega)))
  have hz5 : w.heap.size + 2 ≤ w5.heap.size := by rw [← hw]; simp only [World.setCell, Array.size_modify]; exact Nat.le_trans hz4 hst.size
  have HO5 : Hid (w5.ownsRow (w.heap.size + 2) 3 1 (.slice AA l.length dd) l.length (l.map (.int .i64))) := Lib.hid (by rw [← hw]; exact own_set (own_gr HO4.out (by omega) hst.grown) (by omega) _ _)
  rw [hw]
  clear hw hst hc hf hz4 HB4 HZ4 HO4
  go_upto_region 8 with (go_at_call 63; refine (num_any b _ _ HS5.out.st (HTB.out.below HS5.out.bel)).mono ?_; rintro e v6 (⟨n6, R6, _, rfl, hn6, rfl, rfl, hst⟩ | ⟨hno, rfl, hg⟩); have hc := (HB5.out.kept hst.grown (by intro e; injection e with e; omega)).cell (j := 12) rfl; have hf := (HB5.out.kept hst.grown (by intro e; injection e with e; omega)).frozen 12)
  rotate_left
  · refine ⟨rfl, .inr ⟨fun t R' ⟨q0, ⟨_, q2, q3, q4, q5, q6, q7, q8⟩, q1⟩ e => ?_, rfl, HS5.out.grown.trans hg⟩⟩
    simp only [orderW, List.cons_append, List.nil_append, List.cons.injEq] at e
    exact hno _ _ (q6) (e.2.2.2.2.2.2)
  obtain ⟨w6, hw⟩ : ∃ W, v6.setCell ⟨w.heap.size + 1, 12, none⟩ (.int .i64 n6) = W := ⟨_, rfl⟩
  have HS6 : Hid (RS w b R6 w6) := Lib.hid (by rw [← hw]; exact (HS5.out.next hst).set (by omega) _ _)
  have HB6 := Lib.hid (show Blk w6 (w.heap.size + 1) 66 ((((setL (setL (((OrdCells zOr none 0).set 0 (.string ⟨x.toArray⟩)).set 1 (.slice AA l.length dd)) 2 (StpCells p1)) 6 (StpCells p2)).set 10 (.int .i64 n4)).set 11 (.int .i64 n5)).set 12 (.int .i64 n6)) by rw [← hw]; exact (HB5.out.kept hst.grown (by intro e; injection e with e; omega)).set 12 _)
  have HZ6 := Lib.hid (show Blk w6 w.heap.size 66 (OrdCells zOr none 0) by rw [← hw]; exact (Below.heap_setCell _ _ _ _ (show w.heap.size ≠ w.heap.size + 1 by omega)).trans (HZ5.out.kept hst.grown (by intro e; injection e with e; omega)))
  have hz6 : w.heap.size + 2 ≤ w6.heap.size := by rw [← hw]; simp only [World.setCell, Array.size_modify]; exact Nat.le_trans hz5 hst.size
  have HO6 : Hid (w6.ownsRow (w.heap.size + 2) 3 1 (.slice AA l.length dd) l.length (l.map (.int .i64))) := Lib.hid (by rw [← hw]; exact own_set (own_gr HO5.out (by omega) hst.grown) (by omega) _ _)
  rw [hw]
  clear hw hst hc hf hz5 HB5 HZ5 HO5
  go_upto_region 9 with (go_at_call 63; refine (num_any b _ _ HS6.out.st (HTB.out.below HS6.out.bel)).mono ?_; rintro e v7 (⟨n7, R7, _, rfl, hn7, rfl, rfl, hst⟩ | ⟨hno, rfl, hg⟩); have hc := (HB6.out.kept hst.grown (by intro e; injection e with e; omega)).cell (j := 13) rfl; have hf := (HB6.out.kept hst.grown (by intro e; injection e with e; omega)).frozen 13)
  rotate_left
  · refine ⟨rfl, .inr ⟨fun t R' ⟨q0, ⟨_, q2, q3, q4, q5, q6, q7, q8⟩, q1⟩ e => ?_, rfl, HS6.out.grown.trans hg⟩⟩
    simp only [orderW, List.cons_append, List.nil_append, List.cons.injEq] at e
    exact hno _ _ (q7) (e.2.2.2.2.2.2.2)
  obtain ⟨w7, hw⟩ : ∃ W, v7.setCell ⟨w.heap.size + 1, 13, none⟩ (.int .i64 n7) = W := ⟨_, rfl⟩
  have HS7 : Hid (RS w b R7 w7) := Lib.hid (by rw [← hw]; exact (HS6.out.next hst).set (by omega) _ _)
  have HB7 := Lib.hid (show Blk w7 (w.heap.size + 1) 66 (((((setL (setL (((OrdCells zOr none 0).set 0 (.string ⟨x.toArray⟩)).set 1 (.slice AA l.length dd)) 2 (StpCells p1)) 6 (StpCells p2)).set 10 (.int .i64 n4)).set 11 (.int .i64 n5)).set 12 (.int .i64 n6)).set 13 (.int .i64 n7)) by rw [← hw]; exact (HB6.out.kept hst.grown (by intro e; injection e with e; omega)).set 13 _)
  have HZ7 := Lib.hid (show Blk w7 w.heap.size 66 (OrdCells zOr none 0) by rw [← hw]; exact (Below.heap_setCell _ _ _ _ (show w.heap.size ≠ w.heap.size + 1 by omega)).trans (HZ6.out.kept hst.grown (by intro e; injection e with e; omega)))
  have hz7 : w.heap.size + 2 ≤ w7.heap.size := by rw [← hw]; simp only [World.setCell, Array.size_modify]; exact Nat.le_trans hz6 hst.size
  have HO7 : Hid (w7.ownsRow (w.heap.size + 2) 3 1 (.slice AA l.length dd) l.length (l.map (.int .i64))) := Lib.hid (by rw [← hw]; exact own_set (own_gr HO6.out (by omega) hst.grown) (by omega) _ _)
  rw [hw]
  clear hw hst hc hf hz6 HB6 HZ6 HO6
  go_upto_region 10 with (go_at_call 63; refine (num_any b _ _ HS7.out.st (HTB.out.below HS7.out.bel)).mono ?_; rintro e v8 (⟨n8, R8, _, rfl, hn8, rfl, rfl, hst⟩ | ⟨hno, rfl, hg⟩); have hc := (HB7.out.kept hst.grown (by intro e; injection e with e; omega)).cell (j := 14) rfl; have hf := (HB7.out.kept hst.grown (by intro e; injection e with e; omega)).frozen 14)
  rotate_left
  · refine ⟨rfl, .inr ⟨fun t R' ⟨q0, ⟨_, q2, q3, q4, q5, q6, q7, q8⟩, q1⟩ e => ?_, rfl, HS7.out.grown.trans hg⟩⟩
    simp only [orderW, List.cons_append, List.nil_append, List.cons.injEq] at e
    exact hno _ _ (q8) (e.2.2.2.2.2.2.2.2)
  obtain ⟨w8, hw⟩ : ∃ W, v8.setCell ⟨w.heap.size + 1, 14, none⟩ (.int .i64 n8) = W := ⟨_, rfl⟩
  have HS8 : Hid (RS w b R8 w8) := Lib.hid (by rw [← hw]; exact (HS7.out.next hst).set (by omega) _ _)
  have HB8 := Lib.hid (show Blk w8 (w.heap.size + 1) 66 ((((((setL (setL (((OrdCells zOr none 0).set 0 (.string ⟨x.toArray⟩)).set 1 (.slice AA l.length dd)) 2 (StpCells p1)) 6 (StpCells p2)).set 10 (.int .i64 n4)).set 11 (.int .i64 n5)).set 12 (.int .i64 n6)).set 13 (.int .i64 n7)).set 14 (.int .i64 n8)) by rw [← hw]; exact (HB7.out.kept hst.grown (by intro e; injection e with e; omega)).set 14 _)
  have HZ8 := Lib.hid (show Blk w8 w.heap.size 66 (OrdCells zOr none 0) by rw [← hw]; exact (Below.heap_setCell _ _ _ _ (show w.heap.size ≠ w.heap.size + 1 by omega)).trans (HZ7.out.kept hst.grown (by intro e; injection e with e; omega)))
  have hz8 : w.heap.size + 2 ≤ w8.heap.size := by rw [← hw]; simp only [World.setCell, Array.size_modify]; exact Nat.le_trans hz7 hst.size
  have HO8 : Hid (w8.ownsRow (w.heap.size + 2) 3 1 (.slice AA l.length dd) l.length (l.map (.int .i64))) := Lib.hid (by rw [← hw]; exact own_set (own_gr HO7.out (by omega) hst.grown) (by omega) _ _)
  rw [hw]
  clear hw hst hc hf hz7 HB7 HZ7 HO7
  go_upto_region 12 with (go_at_call 62; refine (word_any b _ _ HS8.out.st).mono ?_; rintro e v9 (⟨y, R9, _, rfl, hy, rfl, rfl, hst⟩ | ⟨hno, rfl, hg⟩))
  rotate_left
  · refine ⟨rfl, .inr ⟨fun t R' ⟨q0, ⟨_, q2, q3, q4, q5, q6, q7, q8⟩, q1⟩ e => ?_, rfl, HS8.out.grown.trans hg⟩⟩
    simp only [orderW, List.cons_append, List.nil_append, List.cons.injEq] at e
    exact hno _ _ (state_word _) e.2.2.2.2.2.2.2.2.2
  have HS9 := Lib.hid (HS8.out.next hst)
  have HB9 := Lib.hid (HB8.out.kept hst.grown (by intro e; injection e with e; omega))
  have HZ9 := Lib.hid (HZ8.out.kept hst.grown (by intro e; injection e with e; omega))
  have HO9 := Lib.hid (own_gr HO8.out (by omega) hst.grown)
  have hz9 : w.heap.size + 2 ≤ v9.heap.size := Nat.le_trans hz8 hst.size
  clear hst HB8 HZ8 HO8 hz8
  by_cases h1 : y = [111, 110]
  · subst h1
    obtain ⟨t, ht⟩ : ∃ t : Ord, t = ⟨⟨x.toArray⟩, l, p1, p2, n4, n5, n6, n7, n8, false⟩ := ⟨_, rfl⟩
    have HTW : Hid (x :: listF l :: stopF p1 :: stopF p2 :: Lib.itoa n4 :: Lib.itoa n5 :: Lib.itoa n6 :: Lib.itoa n7 :: Lib.itoa n8 :: stateW false :: R9 = orderW t ++ R9) := Lib.hid (by rw [ht]; simp [orderW])
    have HBT : Hid (Blk v9 (w.heap.size + 1) 66 (OrdCells t AA dd)) := Lib.hid (by rw [ht]; exact HB9.out)
    have hxz := HLN.out x (by simp)
    have HTO : Hid (ordOk t) := Lib.hid (by rw [ht]; exact ⟨by simpa using hx, ⟨by show (⟨x.toArray⟩ : ByteArray).size ≤ _; simp [ByteArray.size]; omega, hp1, hp2, hn4, hn5, hn6, hn7, hn8⟩, hl⟩)
    have HTC : Hid (t.load = l) := Lib.hid (by rw [ht])
    clear ht hxz
    go_wp2_with (first
      | ((with_reducible refine wpList_loadG sOrd _ rfl ⟨w.heap.size + 1, 0, none⟩ (OrdCells t AA dd) ?_ ?_ ?_ ?_ ?_); exact rfl; exact rfl; exact HBT.out.cells; exact rfl)
      | ((with_reducible refine wpList_storeL sOrd rfl _ _ rfl w.heap.size (OrdCells zOr none 0) (OrdCells t AA dd) ?_ ?_ ?_ ?_ ?_ (ord_one _ _ _) ?_); exact rfl; exact rfl; exact HZ9.out; exact rfl; exact rfl; intro wz k1 k2 k3 k4; have K := Lib.hid (And.intro k1 (And.intro k2 (And.intro k3 k4))); clear k1 k2 k3 k4))
    refine bodyPost_ret (v := .agg (OrdCells t AA dd).toArray) (big.res_cell sOrd Tryz.results66 rfl (Blk.cells K.out.1) rfl) rfl ?_
    refine .inl ⟨t, R9, _, HTW.out, HTO.out, rfl, ⟨AA, dd, rfl, ?_⟩, (HS9.out).store (Nat.le_refl _) K.out.2.1 K.out.2.2.2⟩
    rw [HTC.out]
    exact own_less (own_heap (HO9.out) (fun k hk => K.out.2.1 k (by omega))) (by omega)
  by_cases h2 : y = [111, 102, 102]
  · subst h2
    have hc := HB9.out.cell (j := 15) rfl
    have hf := HB9.out.frozen 15
    go_upto_region 15 with fail
    obtain ⟨w10, hw⟩ : ∃ W, v9.setCell ⟨w.heap.size + 1, 15, none⟩ (.bool true) = W := ⟨_, rfl⟩
    have HS10 : Hid (RS w b R9 w10) := Lib.hid (by rw [← hw]; exact HS9.out.set (by omega) _ _)
    have HB10 := Lib.hid (show Blk w10 (w.heap.size + 1) 66 (((((((setL (setL (((OrdCells zOr none 0).set 0 (.string ⟨x.toArray⟩)).set 1 (.slice AA l.length dd)) 2 (StpCells p1)) 6 (StpCells p2)).set 10 (.int .i64 n4)).set 11 (.int .i64 n5)).set 12 (.int .i64 n6)).set 13 (.int .i64 n7)).set 14 (.int .i64 n8)).set 15 (.bool true)) by rw [← hw]; exact HB9.out.set 15 _)
    have HZ10 := Lib.hid (show Blk w10 w.heap.size 66 (OrdCells zOr none 0) by rw [← hw]; exact (Below.heap_setCell _ _ _ _ (show w.heap.size ≠ w.heap.size + 1 by omega)).trans HZ9.out)
    have HO10 : Hid (w10.ownsRow (w.heap.size + 2) 3 1 (.slice AA l.length dd) l.length (l.map (.int .i64))) := Lib.hid (by rw [← hw]; exact own_set HO9.out (by omega) _ _)
    rw [hw]
    clear hw hc hf
    obtain ⟨t, ht⟩ : ∃ t : Ord, t = ⟨⟨x.toArray⟩, l, p1, p2, n4, n5, n6, n7, n8, true⟩ := ⟨_, rfl⟩
    have HTW : Hid (x :: listF l :: stopF p1 :: stopF p2 :: Lib.itoa n4 :: Lib.itoa n5 :: Lib.itoa n6 :: Lib.itoa n7 :: Lib.itoa n8 :: stateW true :: R9 = orderW t ++ R9) := Lib.hid (by rw [ht]; simp [orderW])
    have HBT : Hid (Blk w10 (w.heap.size + 1) 66 (OrdCells t AA dd)) := Lib.hid (by rw [ht]; exact HB10.out)
    have hxz := HLN.out x (by simp)
    have HTO : Hid (ordOk t) := Lib.hid (by rw [ht]; exact ⟨by simpa using hx, ⟨by show (⟨x.toArray⟩ : ByteArray).size ≤ _; simp [ByteArray.size]; omega, hp1, hp2, hn4, hn5, hn6, hn7, hn8⟩, hl⟩)
    have HTC : Hid (t.load = l) := Lib.hid (by rw [ht])
    clear ht hxz
    go_wp2_with (first
      | ((with_reducible refine wpList_loadG sOrd _ rfl ⟨w.heap.size + 1, 0, none⟩ (OrdCells t AA dd) ?_ ?_ ?_ ?_ ?_); exact rfl; exact rfl; exact HBT.out.cells; exact rfl)
      | ((with_reducible refine wpList_storeL sOrd rfl _ _ rfl w.heap.size (OrdCells zOr none 0) (OrdCells t AA dd) ?_ ?_ ?_ ?_ ?_ (ord_one _ _ _) ?_); exact rfl; exact rfl; exact HZ10.out; exact rfl; exact rfl; intro wz k1 k2 k3 k4; have K := Lib.hid (And.intro k1 (And.intro k2 (And.intro k3 k4))); clear k1 k2 k3 k4))
    refine bodyPost_ret (v := .agg (OrdCells t AA dd).toArray) (big.res_cell sOrd Tryz.results66 rfl (Blk.cells K.out.1) rfl) rfl ?_
    refine .inl ⟨t, R9, _, HTW.out, HTO.out, rfl, ⟨AA, dd, rfl, ?_⟩, (HS10.out).store (Nat.le_refl _) K.out.2.1 K.out.2.2.2⟩
    rw [HTC.out]
    exact own_less (own_heap (HO10.out) (fun k hk => K.out.2.1 k (by omega))) (by omega)
  have h1b : (y == [111, 110]) = false := beq_eq_false_iff_ne.2 h1
  have h2b : (y == [111, 102, 102]) = false := beq_eq_false_iff_ne.2 h2
  have HNE := Lib.hid (And.intro h1 h2)
  clear h1 h2
  go_wp2_with (go_at_call 67; refine (fail_any _).mono ?_; rintro e v10 ⟨rfl, rfl⟩)
  refine ⟨rfl, .inr ⟨fun t R' ⟨q0, ⟨_, q2, q3, q4, q5, q6, q7, q8⟩, q1⟩ e => ?_, rfl, HS9.out.grown⟩⟩
  simp only [orderW, List.cons_append, List.nil_append, List.cons.injEq] at e
  have h9 := e.2.2.2.2.2.2.2.2.2.1
  cases hq : t.off
  · rw [hq] at h9; exact HNE.out.1 h9
  · rw [hq] at h9; exact HNE.out.2 h9
end Go.Proofs.YthefooacfcagbaaGreatDoor.spc

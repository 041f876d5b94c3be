/- spec's reader: types and orders. -/
import Derived.Test.YthefooacfcagbaaGreatDoorSpcG
namespace Go.Proofs.YthefooacfcagbaaGreatDoor.spc
open Go.RowKit
open Go.Proofs.YthefooacfcagbaaGreatDoor.lib Go.Proofs.YthefooacfcagbaaGreatDoor.rd Go.Proofs.YthefooacfcagbaaGreatDoor.app Go.Proofs.YthefooacfcagbaaGreatDoor.els Go.Proofs.YthefooacfcagbaaGreatDoor.typ Go.Proofs.YthefooacfcagbaaGreatDoor.big Go.Proofs.YthefooacfcagbaaGreatDoor.gen
open Go.Proofs.YthefooacfcagbaaGreatDoor.txt (in64 By strV strV_of decW decW_any Tabs elem_str toList_data push_one Strs numL number_any num_dec dec_num)
set_option linter.unusedVariables false
set_option linter.unusedSimpArgs false

/-- Several words are read, as a thing of some kind; or the reading fails. -/
def ManyR {α : Type} (W : α → List By) (ok : α → Prop) (Q : α → Value → World → World → Prop) (b : Nat) (R : List By) (w : World) (e : Ending) (w' : World) : Prop :=
  (∃ a R' v, R = W a ++ R' ∧ ok a ∧ e = .returned v ∧ Q a v w w' ∧ RS w b R' w') ∨ ((∀ a R', ok a → R ≠ W a ++ R') ∧ e = .panicked [pnV] ∧ w.grownBy w' (some b))
abbrev TyR (t : Ty) (v : Value) (w w' : World) : Prop := ∃ A d, v = .agg (TyCells t A d).toArray ∧ w'.ownsRow w.heap.size 3 1 (.slice A t.cap.length d) t.cap.length (t.cap.map (.int .i64))
abbrev OrR (t : Ord) (v : Value) (w w' : World) : Prop := ∃ A d, v = .agg (OrdCells t A d).toArray ∧ w'.ownsRow w.heap.size 3 1 (.slice A t.load.length d) t.load.length (t.load.map (.int .i64))
def zTy : Ty := ⟨⟨#[]⟩, 0, 0, 0, [], 0, 0, 0, 0, 0, 0, 0, 0, 0⟩
def zOr : Ord := ⟨⟨#[]⟩, [], zStp, zStp, 0, 0, 0, 0, 0, false⟩
theorem own_set {w : World} {base q : Nat} {e : TypeId} {size n : Nat} {v : Value} {xs : List Value} (h : w.ownsRow base e size v n xs) (hq : q < base) (i : Nat) (u : Value) : (w.setCell ⟨q, i, none⟩ u).ownsRow base e size v n xs := ownsRow_setCell_below (a := ⟨q, i, none⟩) h hq u
theorem own_gr {w w' : World} {base p : Nat} {e : TypeId} {size n : Nat} {v : Value} {xs : List Value} (h : w.ownsRow base e size v n xs) (hp : p < base) (hg : w.grownBy w' (some p)) : w'.ownsRow base e size v n xs := by
  refine own_grown h hg (Or.inr (fun e => ?_))
  have := (World.ownsRow.lt h p e).1
  omega
theorem own_heap {w w' : World} {base : Nat} {e : TypeId} {size n : Nat} {v : Value} {xs : List Value} (h : w.ownsRow base e size v n xs) (hk : ∀ k, base ≤ k → w'.heap[k]? = w.heap[k]?) : w'.ownsRow base e size v n xs := by
  rcases h.2 with ⟨h1, h2⟩ | ⟨g, cap, cur, h1, h2, h3, h4⟩
  · exact ⟨h.1, .inl ⟨h1, h2⟩⟩
  · exact ⟨h.1, .inr ⟨g, cap, cur, h1, h2, (hk g h2).trans h3, h4⟩⟩
set_option maxRecDepth 20000 in
set_option maxHeartbeats 4000000 in
theorem kind_any (b : Nat) (R0 : List By) (w : World) (h : RdSt w b R0) (ht : TabsAt b w) :
    Calls Tryz.prog 65 #[.pointer (some ⟨b, 0, none⟩)] w (ManyR typeW tyOk TyR b R0 w) := by
  have HTB := Lib.hid ht
  have HLN := Lib.hid h.len
  have hbl := h.lt
  obtain ⟨w0, hw0⟩ : ∃ W0, (w.alloc (.cells (TyCells zTy none 0).toArray 63)).alloc (.cells (TyCells zTy none 0).toArray 63) = W0 := ⟨_, rfl⟩
  have HW0 := Lib.hid (show (w.alloc (.cells #[.string ⟨#[]⟩, .int .i64 0, .int .i64 0, .int .i64 0, .slice none 0 0, .int .i64 0, .int .i64 0, .int .i64 0, .int .i64 0, .int .i64 0, .int .i64 0, .int .i64 0, .int .i64 0, .int .i64 0] 63)).alloc (.cells #[.string ⟨#[]⟩, .int .i64 0, .int .i64 0, .int .i64 0, .slice none 0 0, .int .i64 0, .int .i64 0, .int .i64 0, .int .i64 0, .int .i64 0, .int .i64 0, .int .i64 0, .int .i64 0, .int .i64 0] 63) = w0 from hw0)
  have HZ0 : Hid (Blk w0 w.heap.size 63 (TyCells zTy none 0)) := Lib.hid (by rw [← hw0]; exact (Blk.new w _ _).kept (World.grownBy_alloc _ _ none) (by simp))
  have HB0 : Hid (Blk w0 (w.heap.size + 1) 63 (TyCells zTy none 0)) := Lib.hid (by
    have e := Blk.new (w.alloc (.cells (TyCells zTy none 0).toArray 63)) 63 (TyCells zTy none 0)
    rw [World.size_alloc, hw0] at e
    exact e)
  have HS0 : Hid (RS w b R0 w0) := Lib.hid (by rw [← hw0]; exact ((RS.start h).alloc _).alloc _)
  have hz0 : w.heap.size + 2 ≤ w0.heap.size := by rw [← hw0]; simp
  clear h ht hw0
  go_enter Tryz.func65, Tryz.ntmps65
  go_upto_region 2 with fail
  rw [HW0.out]
  clear HW0
  go_upto_region 3 with (go_at_call 62; refine (word_any b _ _ HS0.out.st).mono ?_; rintro e v1 (⟨x, R1, _, rfl, hx, rfl, rfl, hst⟩ | ⟨hno, rfl, hg⟩); have hc := (HB0.out.kept hst.grown (by intro e; injection e with e; omega)).cell (j := 0) rfl; have hf := (HB0.out.kept hst.grown (by intro e; injection e with e; omega)).frozen 0)
  rotate_left
  · refine ⟨rfl, .inr ⟨fun t R' ⟨q0, ⟨_, q1, q2, q3, q5, q6, q7, q8, q9, q10, q11, q12, q13⟩, q4⟩ e => ?_, rfl, HS0.out.grown.trans hg⟩⟩
    simp only [typeW, List.cons_append, List.nil_append, List.cons.injEq] at e
    exact hno _ _ (q0) (e)
  obtain ⟨w1, hw⟩ : ∃ W, v1.setCell ⟨w.heap.size + 1, 0, none⟩ (.string ⟨x.toArray⟩) = W := ⟨_, rfl⟩
  have HS1 : Hid (RS w b R1 w1) := Lib.hid (by rw [← hw]; exact (HS0.out.next hst).set (by omega) _ _)
  have HB1 := Lib.hid (show Blk w1 (w.heap.size + 1) 63 ((TyCells zTy none 0).set 0 (.string ⟨x.toArray⟩)) by rw [← hw]; exact (HB0.out.kept hst.grown (by intro e; injection e with e; omega)).set 0 _)
  have HZ1 := Lib.hid (show Blk w1 w.heap.size 63 (TyCells zTy none 0) by rw [← hw]; exact (Below.heap_setCell _ _ _ _ (show w.heap.size ≠ w.heap.size + 1 by omega)).trans (HZ0.out.kept hst.grown (by intro e; injection e with e; omega)))
  have hz1 : w.heap.size + 2 ≤ w1.heap.size := by rw [← hw]; simp only [World.setCell, Array.size_modify]; exact Nat.le_trans hz0 hst.size
  rw [hw]
  clear hw hst hc hf hz0 HB0 HZ0
  go_upto_region 4 with (go_at_call 63; refine (num_any b _ _ HS1.out.st (HTB.out.below HS1.out.bel)).mono ?_; rintro e v2 (⟨n1, R2, _, rfl, hn1, rfl, rfl, hst⟩ | ⟨hno, rfl, hg⟩); have hc := (HB1.out.kept hst.grown (by intro e; injection e with e; omega)).cell (j := 1) rfl; have hf := (HB1.out.kept hst.grown (by intro e; injection e with e; omega)).frozen 1)
  rotate_left
  · refine ⟨rfl, .inr ⟨fun t R' ⟨q0, ⟨_, q1, q2, q3, q5, q6, q7, q8, q9, q10, q11, q12, q13⟩, q4⟩ e => ?_, rfl, HS1.out.grown.trans hg⟩⟩
    simp only [typeW, List.cons_append, List.nil_append, List.cons.injEq] at e
    exact hno _ _ (q1) (e.2)
  obtain ⟨w2, hw⟩ : ∃ W, v2.setCell ⟨w.heap.size + 1, 1, none⟩ (.int .i64 n1) = W := ⟨_, rfl⟩
  have HS2 : Hid (RS w b R2 w2) := Lib.hid (by rw [← hw]; exact (HS1.out.next hst).set (by omega) _ _)
  have HB2 := Lib.hid (show Blk w2 (w.heap.size + 1) 63 (((TyCells zTy none 0).set 0 (.string ⟨x.toArray⟩)).set 1 (.int .i64 n1)) by rw [← hw]; exact (HB1.out.kept hst.grown (by intro e; injection e with e; omega)).set 1 _)
  have HZ2 := Lib.hid (show Blk w2 w.heap.size 63 (TyCells zTy none 0) by rw [← hw]; exact (Below.heap_setCell _ _ _ _ (show w.heap.size ≠ w.heap.size + 1 by omega)).trans (HZ1.out.kept hst.grown (by intro e; injection e with e; omega)))
  have hz2 : w.heap.size + 2 ≤ w2.heap.size := by rw [← hw]; simp only [World.setCell, Array.size_modify]; exact Nat.le_trans hz1 hst.size
  rw [hw]
  clear hw hst hc hf hz1 HB1 HZ1
  go_upto_region 5 with (go_at_call 63; refine (num_any b _ _ HS2.out.st (HTB.out.below HS2.out.bel)).mono ?_; rintro e v3 (⟨n2, R3, _, rfl, hn2, rfl, rfl, hst⟩ | ⟨hno, rfl, hg⟩); have hc := (HB2.out.kept hst.grown (by intro e; injection e with e; omega)).cell (j := 2) rfl; have hf := (HB2.out.kept hst.grown (by intro e; injection e with e; omega)).frozen 2)
  rotate_left
  · refine ⟨rfl, .inr ⟨fun t R' ⟨q0, ⟨_, q1, q2, q3, q5, q6, q7, q8, q9, q10, q11, q12, q13⟩, q4⟩ e => ?_, rfl, HS2.out.grown.trans hg⟩⟩
    simp only [typeW, List.cons_append, List.nil_append, List.cons.injEq] at e
    exact hno _ _ (q2) (e.2.2)
  obtain ⟨w3, hw⟩ : ∃ W, v3.setCell ⟨w.heap.size + 1, 2, none⟩ (.int .i64 n2) = W := ⟨_, rfl⟩
  have HS3 : Hid (RS w b R3 w3) := Lib.hid (by rw [← hw]; exact (HS2.out.next hst).set (by omega) _ _)
  have HB3 := Lib.hid (show Blk w3 (w.heap.size + 1) 63 ((((TyCells zTy none 0).set 0 (.string ⟨x.toArray⟩)).set 1 (.int .i64 n1)).set 2 (.int .i64 n2)) by rw [← hw]; exact (HB2.out.kept hst.grown (by intro e; injection e with e; omega)).set 2 _)
  have HZ3 := Lib.hid (show Blk w3 w.heap.size 63 (TyCells zTy none 0) by rw [← hw]; exact (Below.heap_setCell _ _ _ _ (show w.heap.size ≠ w.heap.size + 1 by omega)).trans (HZ2.out.kept hst.grown (by intro e; injection e with e; omega)))
  have hz3 : w.heap.size + 2 ≤ w3.heap.size := by rw [← hw]; simp only [World.setCell, Array.size_modify]; exact Nat.le_trans hz2 hst.size
  rw [hw]
  clear hw hst hc hf hz2 HB2 HZ2
  go_upto_region 6 with (go_at_call 63; refine (num_any b _ _ HS3.out.st (HTB.out.below HS3.out.bel)).mono ?_; rintro e v4 (⟨n3, R4, _, rfl, hn3, rfl, rfl, hst⟩ | ⟨hno, rfl, hg⟩); have hc := (HB3.out.kept hst.grown (by intro e; injection e with e; omega)).cell (j := 3) rfl; have hf := (HB3.out.kept hst.grown (by intro e; injection e with e; omega)).frozen 3)
  rotate_left
  · refine ⟨rfl, .inr ⟨fun t R' ⟨q0, ⟨_, q1, q2, q3, q5, q6, q7, q8, q9, q10, q11, q12, q13⟩, q4⟩ e => ?_, rfl, HS3.out.grown.trans hg⟩⟩
    simp only [typeW, List.cons_append, List.nil_append, List.cons.injEq] at e
    exact hno _ _ (q3) (e.2.2.2)
  obtain ⟨w4, hw⟩ : ∃ W, v4.setCell ⟨w.heap.size + 1, 3, none⟩ (.int .i64 n3) = W := ⟨_, rfl⟩
  have HS4 : Hid (RS w b R4 w4) := Lib.hid (by rw [← hw]; exact (HS3.out.next hst).set (by omega) _ _)
  have HB4 := Lib.hid (show Blk w4 (w.heap.size + 1) 63 (((((TyCells zTy none 0).set 0 (.string ⟨x.toArray⟩)).set 1 (.int .i64 n1)).set 2 (.int .i64 n2)).set 3 (.int .i64 n3)) by rw [← hw]; exact (HB3.out.kept hst.grown (by intro e; injection e with e; omega)).set 3 _)
  have HZ4 := Lib.hid (show Blk w4 w.heap.size 63 (TyCells zTy none 0) by rw [← hw]; exact (Below.heap_setCell _ _ _ _ (show w.heap.size ≠ w.heap.size + 1 by omega)).trans (HZ3.out.kept hst.grown (by intro e; injection e with e; omega)))
  have hz4 : w.heap.size + 2 ≤ w4.heap.size := by rw [← hw]; simp only [World.setCell, Array.size_modify]; exact Nat.le_trans hz3 hst.size
  rw [hw]
  clear hw hst hc hf hz3 HB3 HZ3
  go_upto_region 7 with (go_at_call 102; refine (rlist_any b _ _ HS4.out.st (HTB.out.below HS4.out.bel)).mono ?_; rintro e v5 (⟨l, R5, _, rfl, hl, rfl, ⟨AA, dd, rfl, hown⟩, hst⟩ | ⟨hno, rfl, hg⟩); have hc := (HB4.out.kept hst.grown (by intro e; injection e with e; omega)).cell (j := 4) rfl; have hf := (HB4.out.kept hst.grown (by intro e; injection e with e; omega)).frozen 4)
  rotate_left
  · refine ⟨rfl, .inr ⟨fun t R' ⟨q0, ⟨_, q1, q2, q3, q5, q6, q7, q8, q9, q10, q11, q12, q13⟩, q4⟩ e => ?_, rfl, HS4.out.grown.trans hg⟩⟩
    simp only [typeW, List.cons_append, List.nil_append, List.cons.injEq] at e
    exact hno _ _ (q4) (e.2.2.2.2)
  obtain ⟨w5, hw⟩ : ∃ W, v5.setCell ⟨w.heap.size + 1, 4, none⟩ (.slice AA l.length dd) = W := ⟨_, rfl⟩
  have HS5 : Hid (RS w b R5 w5) := Lib.hid (by rw [← hw]; exact (HS4.out.next hst).set (by omega) _ _)
  have HB5 := Lib.hid (show Blk w5 (w.heap.size + 1) 63 ((((((TyCells zTy none 0).set 0 (.string ⟨x.toArray⟩)).set 1 (.int .i64 n1)).set 2 (.int .i64 n2)).set 3 (.int .i64 n3)).set 4 (.slice AA l.length dd)) by rw [← hw]; exact (HB4.out.kept hst.grown (by intro e; injection e with e; omega)).set 4 _)
  have HZ5 := Lib.hid (show Blk w5 w.heap.size 63 (TyCells zTy none 0) by rw [← hw]; exact (Below.heap_setCell _ _ _ _ (show w.heap.size ≠ w.heap.size + 1 by omega)).trans (HZ4.out.kept hst.grown (by intro e; injection e with e; omega)))
  have hz5 : w.heap.size + 2 ≤ w5.heap.size := by rw [← hw]; simp only [World.setCell, Array.size_modify]; exact Nat.le_trans hz4 hst.size
  have HO5 : Hid (w5.ownsRow (w.heap.size + 2) 3 1 (.slice AA l.length dd) l.length (l.map (.int .i64))) := Lib.hid (by rw [← hw]; exact own_set (own_less hown (by omega)) (by omega) _ _)
  clear hown
  rw [hw]
  clear hw hst hc hf hz4 HB4 HZ4
  go_upto_region 8 with (go_at_call 63; refine (num_any b _ _ HS5.out.st (HTB.out.below HS5.out.bel)).mono ?_; rintro e v6 (⟨n5, R6, _, rfl, hn5, rfl, rfl, hst⟩ | ⟨hno, rfl, hg⟩); have hc := (HB5.out.kept hst.grown (by intro e; injection e with e; omega)).cell (j := 5) rfl; have hf := (HB5.out.kept hst.grown (by intro e; injection e with e; omega)).frozen 5)
  rotate_left
  · refine ⟨rfl, .inr ⟨fun t R' ⟨q0, ⟨_, q1, q2, q3, q5, q6, q7, q8, q9, q10, q11, q12, q13⟩, q4⟩ e => ?_, rfl, HS5.out.grown.trans hg⟩⟩
    simp only [typeW, List.cons_append, List.nil_append, List.cons.injEq] at e
    exact hno _ _ (q5) (e.2.2.2.2.2)
  obtain ⟨w6, hw⟩ : ∃ W, v6.setCell ⟨w.heap.size + 1, 5, none⟩ (.int .i64 n5) = W := ⟨_, rfl⟩
  have HS6 : Hid (RS w b R6 w6) := Lib.hid (by rw [← hw]; exact (HS5.out.next hst).set (by omega) _ _)
  have HB6 := Lib.hid (show Blk w6 (w.heap.size + 1) 63 (((((((TyCells zTy none 0).set 0 (.string ⟨x.toArray⟩)).set 1 (.int .i64 n1)).set 2 (.int .i64 n2)).set 3 (.int .i64 n3)).set 4 (.slice AA l.length dd)).set 5 (.int .i64 n5)) by rw [← hw]; exact (HB5.out.kept hst.grown (by intro e; injection e with e; omega)).set 5 _)
  have HZ6 := Lib.hid (show Blk w6 w.heap.size 63 (TyCells zTy none 0) by rw [← hw]; exact (Below.heap_setCell _ _ _ _ (show w.heap.size ≠ w.heap.size + 1 by omega)).trans (HZ5.out.kept hst.grown (by intro e; injection e with e; omega)))
  have hz6 : w.heap.size + 2 ≤ w6.heap.size := by rw [← hw]; simp only [World.setCell, Array.size_modify]; exact Nat.le_trans hz5 hst.size
  have HO6 : Hid (w6.ownsRow (w.heap.size + 2) 3 1 (.slice AA l.length dd) l.length (l.map (.int .i64))) := Lib.hid (by rw [← hw]; exact own_set (own_gr HO5.out (by omega) hst.grown) (by omega) _ _)
  rw [hw]
  clear hw hst hc hf hz5 HB5 HZ5 HO5
  go_upto_region 9 with (go_at_call 63; refine (num_any b _ _ HS6.out.st (HTB.out.below HS6.out.bel)).mono ?_; rintro e v7 (⟨n6, R7, _, rfl, hn6, rfl, rfl, hst⟩ | ⟨hno, rfl, hg⟩); have hc := (HB6.out.kept hst.grown (by intro e; injection e with e; omega)).cell (j := 6) rfl; have hf := (HB6.out.kept hst.grown (by intro e; injection e with e; omega)).frozen 6)
  rotate_left
  · refine ⟨rfl, .inr ⟨fun t R' ⟨q0, ⟨_, q1, q2, q3, q5, q6, q7, q8, q9, q10, q11, q12, q13⟩, q4⟩ e => ?_, rfl, HS6.out.grown.trans hg⟩⟩
    simp only [typeW, List.cons_append, List.nil_append, List.cons.injEq] at e
    exact hno _ _ (q6) (e.2.2.2.2.2.2)
  obtain ⟨w7, hw⟩ : ∃ W, v7.setCell ⟨w.heap.size + 1, 6, none⟩ (.int .i64 n6) = W := ⟨_, rfl⟩
  have HS7 : Hid (RS w b R7 w7) := Lib.hid (by rw [← hw]; exact (HS6.out.next hst).set (by omega) _ _)
  have HB7 := Lib.hid (show Blk w7 (w.heap.size + 1) 63 ((((((((TyCells zTy none 0).set 0 (.string ⟨x.toArray⟩)).set 1 (.int .i64 n1)).set 2 (.int .i64 n2)).set 3 (.int .i64 n3)).set 4 (.slice AA l.length dd)).set 5 (.int .i64 n5)).set 6 (.int .i64 n6)) by rw [← hw]; exact (HB6.out.kept hst.grown (by intro e; injection e with e; omega)).set 6 _)
  have HZ7 := Lib.hid (show Blk w7 w.heap.size 63 (TyCells zTy none 0) by rw [← hw]; exact (Below.heap_setCell _ _ _ _ (show w.heap.size ≠ w.heap.size + 1 by omega)).trans (HZ6.out.kept hst.grown (by intro e; injection e with e; omega)))
  have hz7 : w.heap.size + 2 ≤ w7.heap.size := by rw [← hw]; simp only [World.setCell, Array.size_modify]; exact Nat.le_trans hz6 hst.size
  have HO7 : Hid (w7.ownsRow (w.heap.size + 2) 3 1 (.slice AA l.length dd) l.length (l.map (.int .i64))) := Lib.hid (by rw [← hw]; exact own_set (own_gr HO6.out (by omega) hst.grown) (by omega) _ _)
  rw [hw]
  clear hw hst hc hf hz6 HB6 HZ6 HO6
  go_upto_region 10 with (go_at_call 63; refine (num_any b _ _ HS7.out.st (HTB.out.below HS7.out.bel)).mono ?_; rintro e v8 (⟨n7, R8, _, rfl, hn7, rfl, rfl, hst⟩ | ⟨hno, rfl, hg⟩); have hc := (HB7.out.kept hst.grown (by intro e; injection e with e; omega)).cell (j := 7) rfl; have hf := (HB7.out.kept hst.grown (by intro e; injection e with e; omega)).frozen 7)
  rotate_left
  · refine ⟨rfl, .inr ⟨fun t R' ⟨q0, ⟨_, q1, q2, q3, q5, q6, q7, q8, q9, q10, q11, q12, q13⟩, q4⟩ e => ?_, rfl, HS7.out.grown.trans hg⟩⟩
    simp only [typeW, List.cons_append, List.nil_append, List.cons.injEq] at e
    exact hno _ _ (q7) (e.2.2.2.2.2.2.2)
  obtain ⟨w8, hw⟩ : ∃ W, v8.setCell ⟨w.heap.size + 1, 7, none⟩ (.int .i64 n7) = W := ⟨_, rfl⟩
  have HS8 : Hid (RS w b R8 w8) := Lib.hid (by rw [← hw]; exact (HS7.out.next hst).set (by omega) _ _)
  have HB8 := Lib.hid (show Blk w8 (w.heap.size + 1) 63 (((((((((TyCells zTy none 0).set 0 (.string ⟨x.toArray⟩)).set 1 (.int .i64 n1)).set 2 (.int .i64 n2)).set 3 (.int .i64 n3)).set 4 (.slice AA l.length dd)).set 5 (.int .i64 n5)).set 6 (.int .i64 n6)).set 7 (.int .i64 n7)) by rw [← hw]; exact (HB7.out.kept hst.grown (by intro e; injection e with e; omega)).set 7 _)
  have HZ8 := Lib.hid (show Blk w8 w.heap.size 63 (TyCells zTy none 0) by rw [← hw]; exact (Below.heap_setCell _ _ _ _ (show w.heap.size ≠ w.heap.size + 1 by omega)).trans (HZ7.out.kept hst.grown (by intro e; injection e with e; omega)))
  have hz8 : w.heap.size + 2 ≤ w8.heap.size := by rw [← hw]; simp only [World.setCell, Array.size_modify]; exact Nat.le_trans hz7 hst.size
  have HO8 : Hid (w8.ownsRow (w.heap.size + 2) 3 1 (.slice AA l.length dd) l.length (l.map (.int .i64))) := Lib.hid (by rw [← hw]; exact own_set (own_gr HO7.out (by omega) hst.grown) (by omega) _ _)
  rw [hw]
  clear hw hst hc hf hz7 HB7 HZ7 HO7
  go_upto_region 11 with (go_at_call 63; refine (num_any b _ _ HS8.out.st (HTB.out.below HS8.out.bel)).mono ?_; rintro e v9 (⟨n8, R9, _, rfl, hn8, rfl, rfl, hst⟩ | ⟨hno, rfl, hg⟩); have hc := (HB8.out.kept hst.grown (by intro e; injection e with e; omega)).cell (j := 8) rfl; have hf := (HB8.out.kept hst.grown (by intro e; injection e with e; omega)).frozen 8)
  rotate_left
  · refine ⟨rfl, .inr ⟨fun t R' ⟨q0, ⟨_, q1, q2, q3, q5, q6, q7, q8, q9, q10, q11, q12, q13⟩, q4⟩ e => ?_, rfl, HS8.out.grown.trans hg⟩⟩
    simp only [typeW, List.cons_append, List.nil_append, List.cons.injEq] at e
    exact hno _ _ (q8) (e.2.2.2.2.2.2.2.2)
  obtain ⟨w9, hw⟩ : ∃ W, v9.setCell ⟨w.heap.size + 1, 8, none⟩ (.int .i64 n8) = W := ⟨_, rfl⟩
  have HS9 : Hid (RS w b R9 w9) := Lib.hid (by rw [← hw]; exact (HS8.out.next hst).set (by omega) _ _)
  have HB9 := Lib.hid (show Blk w9 (w.heap.size + 1) 63 ((((((((((TyCells zTy none 0).set 0 (.string ⟨x.toArray⟩)).set 1 (.int .i64 n1)).set 2 (.int .i64 n2)).set 3 (.int .i64 n3)).set 4 (.slice AA l.length dd)).set 5 (.int .i64 n5)).set 6 (.int .i64 n6)).set 7 (.int .i64 n7)).set 8 (.int .i64 n8)) by rw [← hw]; exact (HB8.out.kept hst.grown (by intro e; injection e with e; omega)).set 8 _)
  have HZ9 := Lib.hid (show Blk w9 w.heap.size 63 (TyCells zTy none 0) by rw [← hw]; exact (Below.heap_setCell _ _ _ _ (show w.heap.size ≠ w.heap.size + 1 by omega)).trans (HZ8.out.kept hst.grown (by intro e; injection e with e; omega)))
  have hz9 : w.heap.size + 2 ≤ w9.heap.size := by rw [← hw]; simp only [World.setCell, Array.size_modify]; exact Nat.le_trans hz8 hst.size
  have HO9 : Hid (w9.ownsRow (w.heap.size + 2) 3 1 (.slice AA l.length dd) l.length (l.map (.int .i64))) := Lib.hid (by rw [← hw]; exact own_set (own_gr HO8.out (by omega) hst.grown) (by omega) _ _)
  rw [hw]
  clear hw hst hc hf hz8 HB8 HZ8 HO8
  go_upto_region 12 with (go_at_call 63; refine (num_any b _ _ HS9.out.st (HTB.out.below HS9.out.bel)).mono ?_; rintro e v10 (⟨n9, R10, _, rfl, hn9, rfl, rfl, hst⟩ | ⟨hno, rfl, hg⟩); have hc := (HB9.out.kept hst.grown (by intro e; injection e with e; omega)).cell (j := 9) rfl; have hf := (HB9.out.kept hst.grown (by intro e; injection e with e; omega)).frozen 9)
  rotate_left
  · refine ⟨rfl, .inr ⟨fun t R' ⟨q0, ⟨_, q1, q2, q3, q5, q6, q7, q8, q9, q10, q11, q12, q13⟩, q4⟩ e => ?_, rfl, HS9.out.grown.trans hg⟩⟩
    simp only [typeW, List.cons_append, List.nil_append, List.cons.injEq] at e
    exact hno _ _ (q9) (e.2.2.2.2.2.2.2.2.2)
  obtain ⟨w10, hw⟩ : ∃ W, v10.setCell ⟨w.heap.size + 1, 9, none⟩ (.int .i64 n9) = W := ⟨_, rfl⟩
  have HS10 : Hid (RS w b R10 w10) := Lib.hid (by rw [← hw]; exact (HS9.out.next hst).set (by omega) _ _)
  have HB10 := Lib.hid (show Blk w10 (w.heap.size + 1) 63 (((((((((((TyCells zTy none 0).set 0 (.string ⟨x.toArray⟩)).set 1 (.int .i64 n1)).set 2 (.int .i64 n2)).set 3 (.int .i64 n3)).set 4 (.slice AA l.length dd)).set 5 (.int .i64 n5)).set 6 (.int .i64 n6)).set 7 (.int .i64 n7)).set 8 (.int .i64 n8)).set 9 (.int .i64 n9)) by rw [← hw]; exact (HB9.out.kept hst.grown (by intro e; injection e with e; omega)).set 9 _)
  have HZ10 := Lib.hid (show Blk w10 w.heap.size 63 (TyCells zTy none 0) by rw [← hw]; exact (Below.heap_setCell _ _ _ _ (show w.heap.size ≠ w.heap.size + 1 by omega)).trans (HZ9.out.kept hst.grown (by intro e; injection e with e; omega)))
  have hz10 : w.heap.size + 2 ≤ w10.heap.size := by rw [← hw]; simp only [World.setCell, Array.size_modify]; exact Nat.le_trans hz9 hst.size
  have HO10 : Hid (w10.ownsRow (w.heap.size + 2) 3 1 (.slice AA l.length dd) l.length (l.map (.int .i64))) := Lib.hid (by rw [← hw]; exact own_set (own_gr HO9.out (by omega) hst.grown) (by omega) _ _)
  rw [hw]
  clear hw hst hc hf hz9 HB9 HZ9 HO9
  go_upto_region 13 with (go_at_call 63; refine (num_any b _ _ HS10.out.st (HTB.out.below HS10.out.bel)).mono ?_; rintro e v11 (⟨n10, R11, _, rfl, hn10, rfl, rfl, hst⟩ | ⟨hno, rfl, hg⟩); have hc := (HB10.out.kept hst.grown (by intro e; injection e with e; omega)).cell (j := 10) rfl; have hf := (HB10.out.kept hst.grown (by intro e; injection e with e; omega)).frozen 10)
  rotate_left
  · refine ⟨rfl, .inr ⟨fun t R' ⟨q0, ⟨_, q1, q2, q3, q5, q6, q7, q8, q9, q10, q11, q12, q13⟩, q4⟩ e => ?_, rfl, HS10.out.grown.trans hg⟩⟩
    simp only [typeW, List.cons_append, List.nil_append, List.cons.injEq] at e
    exact hno _ _ (q10) (e.2.2.2.2.2.2.2.2.2.2)
  obtain ⟨w11, hw⟩ : ∃ W, v11.setCell ⟨w.heap.size + 1, 10, none⟩ (.int .i64 n10) = W := ⟨_, rfl⟩
  have HS11 : Hid (RS w b R11 w11) := Lib.hid (by rw [← hw]; exact (HS10.out.next hst).set (by omega) _ _)
  have HB11 := Lib.hid (show Blk w11 (w.heap.size + 1) 63 ((((((((((((TyCells zTy none 0).set 0 (.string ⟨x.toArray⟩)).set 1 (.int .i64 n1)).set 2 (.int .i64 n2)).set 3 (.int .i64 n3)).set 4 (.slice AA l.length dd)).set 5 (.int .i64 n5)).set 6 (.int .i64 n6)).set 7 (.int .i64 n7)).set 8 (.int .i64 n8)).set 9 (.int .i64 n9)).set 10 (.int .i64 n10)) by rw [← hw]; exact (HB10.out.kept hst.grown (by intro e; injection e with e; omega)).set 10 _)
  have HZ11 := Lib.hid (show Blk w11 w.heap.size 63 (TyCells zTy none 0) by rw [← hw]; exact (Below.heap_setCell _ _ _ _ (show w.heap.size ≠ w.heap.size + 1 by omega)).trans (HZ10.out.kept hst.grown (by intro e; injection e with e; omega)))
  have hz11 : w.heap.size + 2 ≤ w11.heap.size := by rw [← hw]; simp only [World.setCell, Array.size_modify]; exact Nat.le_trans hz10 hst.size
  have HO11 : Hid (w11.ownsRow (w.heap.size + 2) 3 1 (.slice AA l.length dd) l.length (l.map (.int .i64))) := Lib.hid (by rw [← hw]; exact own_set (own_gr HO10.out (by omega) hst.grown) (by omega) _ _)
  rw [hw]
  clear hw hst hc hf hz10 HB10 HZ10 HO10
  go_upto_region 14 with (go_at_call 63; refine (num_any b _ _ HS11.out.st (HTB.out.below HS11.out.bel)).mono ?_; rintro e v12 (⟨n11, R12, _, rfl, hn11, rfl, rfl, hst⟩ | ⟨hno, rfl, hg⟩); have hc := (HB11.out.kept hst.grown (by intro e; injection e with e; omega)).cell (j := 11) rfl; have hf := (HB11.out.kept hst.grown (by intro e; injection e with e; omega)).frozen 11)
  rotate_left
  · refine ⟨rfl, .inr ⟨fun t R' ⟨q0, ⟨_, q1, q2, q3, q5, q6, q7, q8, q9, q10, q11, q12, q13⟩, q4⟩ e => ?_, rfl, HS11.out.grown.trans hg⟩⟩
    simp only [typeW, List.cons_append, List.nil_append, List.cons.injEq] at e
    exact hno _ _ (q11) (e.2.2.2.2.2.2.2.2.2.2.2)
  obtain ⟨w12, hw⟩ : ∃ W, v12.setCell ⟨w.heap.size + 1, 11, none⟩ (.int .i64 n11) = W := ⟨_, rfl⟩
  have HS12 : Hid (RS w b R12 w12) := Lib.hid (by rw [← hw]; exact (HS11.out.next hst).set (by omega) _ _)
  have HB12 := Lib.hid (show Blk w12 (w.heap.size + 1) 63 (((((((((((((TyCells zTy none 0).set 0 (.string ⟨x.toArray⟩)).set 1 (.int .i64 n1)).set 2 (.int .i64 n2)).set 3 (.int .i64 n3)).set 4 (.slice AA l.length dd)).set 5 (.int .i64 n5)).set 6 (.int .i64 n6)).set 7 (.int .i64 n7)).set 8 (.int .i64 n8)).set 9 (.int .i64 n9)).set 10 (.int .i64 n10)).set 11 (.int .i64 n11)) by rw [← hw]; exact (HB11.out.kept hst.grown (by intro e; injection e with e; omega)).set 11 _)
  have HZ12 := Lib.hid (show Blk w12 w.heap.size 63 (TyCells zTy none 0) by rw [← hw]; exact (Below.heap_setCell _ _ _ _ (show w.heap.size ≠ w.heap.size + 1 by omega)).trans (HZ11.out.kept hst.grown (by intro e; injection e with e; omega)))
  have hz12 : w.heap.size + 2 ≤ w12.heap.size := by rw [← hw]; simp only [World.setCell, Array.size_modify]; exact Nat.le_trans hz11 hst.size
  have HO12 : Hid (w12.ownsRow (w.heap.size + 2) 3 1 (.slice AA l.length dd) l.length (l.map (.int .i64))) := Lib.hid (by rw [← hw]; exact own_set (own_gr HO11.out (by omega) hst.grown) (by omega) _ _)
  rw [hw]
  clear hw hst hc hf hz11 HB11 HZ11 HO11
  go_upto_region 15 with (go_at_call 63; refine (num_any b _ _ HS12.out.st (HTB.out.below HS12.out.bel)).mono ?_; rintro e v13 (⟨n12, R13, _, rfl, hn12, rfl, rfl, hst⟩ | ⟨hno, rfl, hg⟩); have hc := (HB12.out.kept hst.grown (by intro e; injection e with e; omega)).cell (j := 12) rfl; have hf := (HB12.out.kept hst.grown (by intro e; injection e with e; omega)).frozen 12)
  rotate_left
  · refine ⟨rfl, .inr ⟨fun t R' ⟨q0, ⟨_, q1, q2, q3, q5, q6, q7, q8, q9, q10, q11, q12, q13⟩, q4⟩ e => ?_, rfl, HS12.out.grown.trans hg⟩⟩
    simp only [typeW, List.cons_append, List.nil_append, List.cons.injEq] at e
    exact hno _ _ (q12) (e.2.2.2.2.2.2.2.2.2.2.2.2)
  obtain ⟨w13, hw⟩ : ∃ W, v13.setCell ⟨w.heap.size + 1, 12, none⟩ (.int .i64 n12) = W := ⟨_, rfl⟩
  have HS13 : Hid (RS w b R13 w13) := Lib.hid (by rw [← hw]; exact (HS12.out.next hst).set (by omega) _ _)
  have HB13 := Lib.hid (show Blk w13 (w.heap.size + 1) 63 ((((((((((((((TyCells zTy none 0).set 0 (.string ⟨x.toArray⟩)).set 1 (.int .i64 n1)).set 2 (.int .i64 n2)).set 3 (.int .i64 n3)).set 4 (.slice AA l.length dd)).set 5 (.int .i64 n5)).set 6 (.int .i64 n6)).set 7 (.int .i64 n7)).set 8 (.int .i64 n8)).set 9 (.int .i64 n9)).set 10 (.int .i64 n10)).set 11 (.int .i64 n11)).set 12 (.int .i64 n12)) by rw [← hw]; exact (HB12.out.kept hst.grown (by intro e; injection e with e; omega)).set 12 _)
  have HZ13 := Lib.hid (show Blk w13 w.heap.size 63 (TyCells zTy none 0) by rw [← hw]; exact (Below.heap_setCell _ _ _ _ (show w.heap.size ≠ w.heap.size + 1 by omega)).trans (HZ12.out.kept hst.grown (by intro e; injection e with e; omega)))
  have hz13 : w.heap.size + 2 ≤ w13.heap.size := by rw [← hw]; simp only [World.setCell, Array.size_modify]; exact Nat.le_trans hz12 hst.size
  have HO13 : Hid (w13.ownsRow (w.heap.size + 2) 3 1 (.slice AA l.length dd) l.length (l.map (.int .i64))) := Lib.hid (by rw [← hw]; exact own_set (own_gr HO12.out (by omega) hst.grown) (by omega) _ _)
  rw [hw]
  clear hw hst hc hf hz12 HB12 HZ12 HO12
  go_upto_region 16 with (go_at_call 63; refine (num_any b _ _ HS13.out.st (HTB.out.below HS13.out.bel)).mono ?_; rintro e v14 (⟨n13, R14, _, rfl, hn13, rfl, rfl, hst⟩ | ⟨hno, rfl, hg⟩); have hc := (HB13.out.kept hst.grown (by intro e; injection e with e; omega)).cell (j := 13) rfl; have hf := (HB13.out.kept hst.grown (by intro e; injection e with e; omega)).frozen 13)
  rotate_left
  · refine ⟨rfl, .inr ⟨fun t R' ⟨q0, ⟨_, q1, q2, q3, q5, q6, q7, q8, q9, q10, q11, q12, q13⟩, q4⟩ e => ?_, rfl, HS13.out.grown.trans hg⟩⟩
    simp only [typeW, List.cons_append, List.nil_append, List.cons.injEq] at e
    exact hno _ _ (q13) (e.2.2.2.2.2.2.2.2.2.2.2.2.2)
  obtain ⟨w14, hw⟩ : ∃ W, v14.setCell ⟨w.heap.size + 1, 13, none⟩ (.int .i64 n13) = W := ⟨_, rfl⟩
  have HS14 : Hid (RS w b R14 w14) := Lib.hid (by rw [← hw]; exact (HS13.out.next hst).set (by omega) _ _)
  have HB14 := Lib.hid (show Blk w14 (w.heap.size + 1) 63 (((((((((((((((TyCells zTy none 0).set 0 (.string ⟨x.toArray⟩)).set 1 (.int .i64 n1)).set 2 (.int .i64 n2)).set 3 (.int .i64 n3)).set 4 (.slice AA l.length dd)).set 5 (.int .i64 n5)).set 6 (.int .i64 n6)).set 7 (.int .i64 n7)).set 8 (.int .i64 n8)).set 9 (.int .i64 n9)).set 10 (.int .i64 n10)).set 11 (.int .i64 n11)).set 12 (.int .i64 n12)).set 13 (.int .i64 n13)) by rw [← hw]; exact (HB13.out.kept hst.grown (by intro e; injection e with e; omega)).set 13 _)
  have HZ14 := Lib.hid (show Blk w14 w.heap.size 63 (TyCells zTy none 0) by rw [← hw]; exact (Below.heap_setCell _ _ _ _ (show w.heap.size ≠ w.heap.size + 1 by omega)).trans (HZ13.out.kept hst.grown (by intro e; injection e with e; omega)))
  have hz14 : w.heap.size + 2 ≤ w14.heap.size := by rw [← hw]; simp only [World.setCell, Array.size_modify]; exact Nat.le_trans hz13 hst.size
  have HO14 : Hid (w14.ownsRow (w.heap.size + 2) 3 1 (.slice AA l.length dd) l.length (l.map (.int .i64))) := Lib.hid (by rw [← hw]; exact own_set (own_gr HO13.out (by omega) hst.grown) (by omega) _ _)
  rw [hw]
  clear hw hst hc hf hz13 HB13 HZ13 HO13
  obtain ⟨t, ht⟩ : ∃ t : Ty, t = ⟨⟨x.toArray⟩, n1, n2, n3, l, n5, n6, n7, n8, n9, n10, n11, n12, n13⟩ := ⟨_, rfl⟩
  have HTW : Hid (x :: Lib.itoa n1 :: Lib.itoa n2 :: Lib.itoa n3 :: listF l :: Lib.itoa n5 :: Lib.itoa n6 :: Lib.itoa n7 :: Lib.itoa n8 :: Lib.itoa n9 :: Lib.itoa n10 :: Lib.itoa n11 :: Lib.itoa n12 :: Lib.itoa n13 :: R14 = typeW t ++ R14) := Lib.hid (by rw [ht]; simp [typeW])
  have HBT : Hid (Blk w14 (w.heap.size + 1) 63 (TyCells t AA dd)) := Lib.hid (by rw [ht]; exact HB14.out)
  have hxz := HLN.out x (by simp)
  have HTO : Hid (tyOk t) := Lib.hid (by rw [ht]; exact ⟨by simpa using hx, ⟨by show (⟨x.toArray⟩ : ByteArray).size ≤ _; simp [ByteArray.size]; omega, hn1, hn2, hn3, hn5, hn6, hn7, hn8, hn9, hn10, hn11, hn12, hn13⟩, hl⟩)
  have HTC : Hid (t.cap = l) := Lib.hid (by rw [ht])
  clear HB14 ht
  go_wp2_with (first
    | ((with_reducible refine wpList_loadG sTy _ rfl ⟨w.heap.size + 1, 0, none⟩ (TyCells t AA dd) ?_ ?_ ?_ ?_ ?_); exact rfl; exact rfl; exact HBT.out.cells; exact rfl)
    | ((with_reducible refine wpList_storeL sTy rfl _ _ rfl w.heap.size (TyCells zTy none 0) (TyCells t AA dd) ?_ ?_ ?_ ?_ ?_ (ty_one _ _ _) ?_); exact rfl; exact rfl; exact HZ14.out; exact rfl; exact rfl; intro wz k1 k2 k3 k4; have K := Lib.hid (And.intro k1 (And.intro k2 (And.intro k3 k4))); clear k1 k2 k3 k4))
  refine bodyPost_ret (v := .agg (TyCells t AA dd).toArray) (big.res_cell sTy Tryz.results65 rfl (Blk.cells K.out.1) rfl) rfl ?_
  refine .inl ⟨t, R14, _, HTW.out, HTO.out, rfl, ⟨AA, dd, rfl, ?_⟩, HS14.out.store (Nat.le_refl _) K.out.2.1 K.out.2.2.2⟩
  rw [HTC.out]
  exact own_less (own_heap HO14.out (fun k hk => K.out.2.1 k (by omega))) (by omega)
end Go.Proofs.YthefooacfcagbaaGreatDoor.spc

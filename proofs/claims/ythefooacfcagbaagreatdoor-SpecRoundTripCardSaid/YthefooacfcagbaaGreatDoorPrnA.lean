import Derived.Test.YthefooacfcagbaaGreatDoorWrtX
import Derived.Test.YthefooacfcagbaaGreatDoorParA
import Derived.Test.YthefooacfcagbaaGreatDoorSpcY
/- spec.Print: what it writes; a line of the writer. -/
namespace Go.Proofs.YthefooacfcagbaaGreatDoor.spc
open Go.RowKit
open lib rd app els typ big gen off
open ins (InP InAt InV)
open txt (in64 By strV strV_of joinS Tabs)
set_option linter.unusedVariables false
set_option linter.unusedSimpArgs false
noncomputable def prnF (F : Ins → List Flt) (x : Ins) : By × Int := match F x with
 | f :: _ => ([], f.err)
 | [] => if 65536 < (textI x).length then ([], 4) else (textI x, 0)
theorem prnF_bad {F : Ins → List Flt} {x : Ins} {f : Flt} {fs : List Flt} (h : F x = f :: fs) : prnF F x = ([], f.err) := by unfold prnF; rw [h]
theorem prnF_big {F : Ins → List Flt} {x : Ins} (h : F x = []) (h1 : 65536 < (textI x).length) : prnF F x = ([], 4) := by unfold prnF; rw [h]; simp [h1]
theorem prnF_ok {F : Ins → List Flt} {x : Ins} (h : F x = []) (h1 : ¬ 65536 < (textI x).length) : prnF F x = (textI x, 0) := by unfold prnF; rw [h]; simp [h1]
structure PrOk (x : Ins) : Prop where
 ok : insOk x
 arcs : ∀ a ∈ x.net.arcs, a.travel.length ≤ 100000 ∧ a.slow.length ≤ 100000
 types : ∀ t ∈ x.types, t.cap.length ≤ 100000
 orders : ∀ o ∈ x.orders, o.load.length ≤ 100000
 big : (textI x).length ≤ 10000000
def allR (x : Ins) : List Lin := rowsI x ++ [.fin]
theorem linesB_app (L M : List Lin) : linesB (L ++ M) = linesB L ++ linesB M := by simp [linesB]
theorem linesB_take {L : List Lin} {m : Nat} {r : Lin} (h : L[m]? = some r) : linesB (L.take (m + 1)) = linesB (L.take m) ++ lineB r := by
 rw [List.take_add_one, h, Option.toList_some, linesB_app]
 simp [linesB]
theorem linesB_le (L : List Lin) (m : Nat) : (linesB (L.take m)).length ≤ (linesB L).length := by
 have h := congrArg List.length (congrArg linesB (List.take_append_drop m L))
 rw [linesB_app, List.length_append] at h
 omega
theorem word_len : ∀ {L : List By} {u : By}, u ∈ L → u.length ≤ (joinS L).length
 | [], _, h => by cases h
 | [x], u, h => by
  rw [List.mem_singleton] at h
  rw [h, txt.joinS_one]
  exact Nat.le_refl _
 | x :: y :: L, u, h => by
  rw [txt.joinS_cons, List.length_append, List.length_cons]
  rcases List.mem_cons.1 h with rfl | h
  ·omega
  ·have := word_len h
   omega
theorem word_text {x : Ins} {m : Nat} {r : Lin} (h : (allR x)[m]? = some r) {u : By} (hu : u ∈ r.words) : u.length ≤ (textI x).length := by
 have h1 := word_len hu
 have h2 := linesB_take h
 have h3 := linesB_le (allR x) (m + 1)
 rw [h2, List.length_append, lineB, List.length_append] at h3
 have : (textI x).length = (linesB (allR x)).length := rfl
 omega
theorem at0 {x : Ins} {k : Nat} {s : ByteArray} (h : x.net.places[k]? = some s) : (allR x)[0 + k]? = some (.place s) := by
 have hk := (List.getElem?_eq_some_iff.1 h).1
 unfold allR rowsI
 rw [Nat.zero_add, List.append_assoc, List.getElem?_append_left (by simpa using hk), List.getElem?_map, h]
 rfl
def o1 (x : Ins) : Nat := x.net.places.length
def o2 (x : Ins) : Nat := o1 x + x.net.arcs.length
def o3 (x : Ins) : Nat := o2 x + x.types.length
def o4 (x : Ins) : Nat := o3 x + x.orders.length
def o5 (x : Ins) : Nat := o4 x + x.apart.length
def o6 (x : Ins) : Nat := o5 x + x.before.length
theorem app_r {α : Type} {A B : List α} {n k : Nat} (h : A.length = n) : (A ++ B)[n + k]? = B[k]? := by
 subst h
 rw [List.getElem?_append_right (by omega)]
 congr 1
 omega
theorem app_l {α : Type} {A B : List α} {k : Nat} {u : α} (h : A[k]? = some u) : (A ++ B)[k]? = some u := by
 rw [List.getElem?_append_left (List.getElem?_eq_some_iff.1 h).1]
 exact h
theorem map_at {α β : Type} {f : α → β} {l : List α} {k : Nat} {u : α} (h : l[k]? = some u) : (l.map f)[k]? = some (f u) := by rw [List.getElem?_map, h]; rfl
theorem allR_eq (x : Ins) : allR x = x.net.places.map .place ++ (x.net.arcs.map .arc ++ (x.types.map .type ++ (x.orders.map .order ++ (x.apart.map .apart ++ (x.before.map .before ++ [.fin]))))) := by
 unfold allR rowsI
 simp only [List.append_assoc]
theorem at1 {x : Ins} {k : Nat} {s : Arc} (h : x.net.arcs[k]? = some s) : (allR x)[o1 x + k]? = some (.arc s) := by
 rw [allR_eq, app_r (by simp [o1])]
 exact app_l (map_at h)
theorem at2 {x : Ins} {k : Nat} {s : Ty} (h : x.types[k]? = some s) : (allR x)[o2 x + k]? = some (.type s) := by
 rw [allR_eq, o2, Nat.add_assoc, app_r (by simp [o1]), app_r (by simp)]
 exact app_l (map_at h)
theorem at3 {x : Ins} {k : Nat} {s : Ord} (h : x.orders[k]? = some s) : (allR x)[o3 x + k]? = some (.order s) := by
 rw [allR_eq, o3, o2, Nat.add_assoc, Nat.add_assoc, app_r (by simp [o1]), app_r (by simp), app_r (by simp)]
 exact app_l (map_at h)
theorem at4 {x : Ins} {k : Nat} {s : Int × Int} (h : x.apart[k]? = some s) : (allR x)[o4 x + k]? = some (.apart s) := by
 rw [allR_eq, o4, o3, o2, Nat.add_assoc, Nat.add_assoc, Nat.add_assoc, app_r (by simp [o1]), app_r (by simp), app_r (by simp), app_r (by simp)]
 exact app_l (map_at h)
theorem at5 {x : Ins} {k : Nat} {s : Int × Int} (h : x.before[k]? = some s) : (allR x)[o5 x + k]? = some (.before s) := by
 rw [allR_eq, o5, o4, o3, o2, Nat.add_assoc, Nat.add_assoc, Nat.add_assoc, Nat.add_assoc, app_r (by simp [o1]), app_r (by simp), app_r (by simp), app_r (by simp), app_r (by simp)]
 exact app_l (map_at h)
theorem at6 (x : Ins) : (allR x)[o6 x]? = some .fin := by
 have e : o6 x = o6 x + 0 := rfl
 rw [e, allR_eq, o6, o5, o4, o3, o2, Nat.add_assoc, Nat.add_assoc, Nat.add_assoc, Nat.add_assoc, Nat.add_assoc, app_r (by simp [o1]), app_r (by simp), app_r (by simp), app_r (by simp), app_r (by simp), app_r (by simp)]
 rfl
theorem len_all (x : Ins) : (allR x).length = o6 x + 1 := by
 rw [allR_eq]
 simp only [List.length_append, List.length_map, List.length_cons, List.length_nil, o6, o5, o4, o3, o2, o1]
 omega
theorem take_all (x : Ins) : linesB ((allR x).take (o6 x + 1)) = textI x := by
 rw [← len_all, List.take_length]
 rfl
def wrB (x : Ins) (m : Nat) : By := linesB ((allR x).take m)
theorem wrB_zero (x : Ins) : wrB x 0 = [] := by simp [wrB, linesB]
theorem wrB_all (x : Ins) : wrB x (o6 x + 1) = textI x := take_all x
def Wd.fit : Wd → Prop
 | .n z => in64 z
 | .s _ => True
theorem toList_len (y : ByteArray) : y.data.toList.length = y.size := Array.length_toList
set_option maxRecDepth 20000 in
theorem pline_any {x : Ins} (hx : PrOk x) (ws : List Wd) {r : Lin} {m b : Nat} (hr : (allR x)[m]? = some r) (hws : ws.map Wd.by = r.words) (hfit : ∀ u ∈ ws, u.fit) (n : Nat) (hn : n = ws.length) (h0 : 0 < n) (hn1 : n ≤ 100) (w : World) (ht : Tabs w) (hB : b ≤ w.heap.size) (hW : IsWrt b b (Lib.byteCells (wrB x m)) w) :
  Calls Tryz.prog 20 #[.pointer (some ⟨b, 0, none⟩), .slice (some ⟨w.heap.size, 0, none⟩) n n] (w.alloc (.cells (ws.map Wd.val).toArray 20)) fun e w' => e = .returned (.tuple #[]) ∧ IsWrt b b (Lib.byteCells (wrB x (m + 1))) w' ∧ Below b w w' ∧ ∀ (v0 : World), IsWrt b b (Lib.byteCells (wrB x m)) v0 → Below v0.heap.size v0 w → ∀ q, v0.heap.size ≤ q → q < w.heap.size → w'.heap[q]? = w.heap[q]? := by
 have hb0 : Below w.heap.size w (w.alloc (.cells (ws.map Wd.val).toArray 20)) := (Below.refl _ _).alloc (Nat.le_refl _) _
 have hI : Reads (w.alloc (.cells (ws.map Wd.val).toArray 20)) (w.alloc (.cells (ws.map Wd.val).toArray 20)).heap.size 1 (some ⟨w.heap.size, 0, none⟩) n (ws.map Wd.val) := by
  have hbk := Blk.new w 20 (ws.map Wd.val)
  refine ⟨by rw [List.length_map]; omega, fun _ => ⟨_, rfl, by simp, fun j u hu => hbk.cells j u hu⟩⟩
 have hok : ∀ u ∈ ws, u.ok := fun u hu => by
  have h1 := hfit u hu
  cases u with
  | n z => exact h1
  | s y =>
   have h2 : y.data.toList ∈ r.words := by rw [← hws]; exact List.mem_map.2 ⟨_, hu, rfl⟩
   have h3 := word_text hr h2
   have h4 := hx.big
   show y.size ≤ 10000000
   rw [toList_len] at h3
   omega
 have hle := linesB_le (allR x) m
 have hbig := hx.big
 have e : wrB x m ++ wdB ws = wrB x (m + 1) := by
  unfold wrB wdB
  rw [linesB_take hr, hws]
  rfl
 refine (wline_any ws (some ⟨w.heap.size, 0, none⟩) n n hn b b (wrB x m) _ (ht.below hb0) hI hok h0 hn1 (by have : (textI x).length = (linesB (allR x)).length := rfl; unfold wrB; omega) (isWrt_below hW hb0) (by rw [World.size_alloc]; omega)).mono ?_
 rintro en w' ⟨rfl, h1, h2, h3⟩
 rw [e] at h1
 refine ⟨rfl, .inr h1, (hb0.mono hB).trans h2, fun v0 hv0 hb q hq hqw => ?_⟩
 have hq0 : q ≠ b := by
  have : b < v0.heap.size := by rcases hv0 with h | h <;> exact h.lt
  omega
 obtain ⟨p, -, v, hk, hown, -⟩ : ∃ p, WrtAt b b p (Lib.byteCells (wrB x m)) v0 := by
  rcases hv0 with h | h
  ·exact ⟨_, h⟩
  ·exact ⟨_, h⟩
 have hc : v0.cell? ⟨b, 1, none⟩ = some v := by rw [Lib.cell_of_heap hk]; rfl
 have hbl : b < v0.heap.size := by rcases hv0 with h | h <;> exact h.lt
 refine (h3 q (by rw [World.size_alloc]; omega) hq0 fun u hu hg => ?_).trans (hb0.block q hqw)
 have e1 : (w.alloc (.cells (ws.map Wd.val).toArray 20)).cell? ⟨b, 1, none⟩ = some v := ((hb0.cell (p := ⟨b, 1, none⟩) (show b < _ by have := hb.size; omega)).trans (hb.cell (p := ⟨b, 1, none⟩) hbl)).trans hc
 rw [e1] at hu
 have e2 := Option.some.inj hu
 subst e2
 have := (hown.lt q hg).2
 omega
theorem Blk.sub {w : World} {b i : Nat} {t : TypeId} {cs ds : List Value} (h : Blk w b t cs) (hs : ∀ j u, ds[j]? = some u → cs[i + j]? = some u) : CellsAt w ⟨b, i, none⟩ ds := fun j u hu => by
 have := h.cell (hs j u hu)
 unfold Addr.add
 split
 ·next h0 => subst h0; exact this
 ·exact this
theorem exec_ld_int {ρ : Operand → Value} {o : Oper} {n : Nat} {ad : Addr} {w : World} {u : Value} (ho : o.op = .load 3 (.tmp n)) (hρ : ρ (.tmp n) = .pointer (some ad)) (hc : w.cell? ad = some u) :
  Sem.run Tryz.prog (execOp ρ o) w = .ok (.value u) w := by
 unfold execOp
 simp only [ho, hρ, Sem.run_bind]
 go_simp
theorem exec_ld_str {ρ : Operand → Value} {o : Oper} {n : Nat} {ad : Addr} {w : World} {u : Value} (ho : o.op = .load 9 (.tmp n)) (hρ : ρ (.tmp n) = .pointer (some ad)) (hc : w.cell? ad = some u) :
  Sem.run Tryz.prog (execOp ρ o) w = .ok (.value u) w := by
 unfold execOp
 simp only [ho, hρ, Sem.run_bind]
 go_simp
theorem exec_ld_ints {ρ : Operand → Value} {o : Oper} {n : Nat} {ad : Addr} {w : World} {u : Value} (ho : o.op = .load 61 (.tmp n)) (hρ : ρ (.tmp n) = .pointer (some ad)) (hc : w.cell? ad = some u) :
  Sem.run Tryz.prog (execOp ρ o) w = .ok (.value u) w := by
 unfold execOp
 simp only [ho, hρ, Sem.run_bind]
 go_simp
theorem exec_ld_pts {ρ : Operand → Value} {o : Oper} {n : Nat} {ad : Addr} {w : World} {u : Value} (ho : o.op = .load 42 (.tmp n)) (hρ : ρ (.tmp n) = .pointer (some ad)) (hc : w.cell? ad = some u) :
  Sem.run Tryz.prog (execOp ρ o) w = .ok (.value u) w := by
 unfold execOp
 simp only [ho, hρ, Sem.run_bind]
 go_simp
theorem fresh_wrt (w : World) : IsWrt w.heap.size w.heap.size (Lib.byteCells []) (w.alloc (.cells #[.pointer none, .slice none 0 0] 59)) := by
 refine .inl ⟨Nat.le_refl _, .slice none 0 0, World.alloc_heap_new w _, World.ownsRow_nil _ _ _ _, fun h => ?_⟩
 cases h
def PRel (x : Ins) (b : Nat) (W4 : World) (o n : Nat) (iv : Value) (wr : World) : Prop := ∃ k : Nat, k ≤ n ∧ iv = .int .i64 k ∧ Below b W4 wr ∧ Hid (IsWrt b b (Lib.byteCells (wrB x (o + k))) wr)
end Go.Proofs.YthefooacfcagbaaGreatDoor.spc

import Derived.Test.YthefooacfcagbaaGreatDoorStrX
import Derived.Shelf.Strings.Builder1
import Derived.Test.YthefooacfcagbaaGreatDoorBase
import Derived.Test.YthefooacfcagbaaGreatDoorSpcY
/- A strings.Builder that is the field of a writer of package spec: Len, WriteString, String. -/
namespace Go.Proofs.YthefooacfcagbaaGreatDoor.spc
open Go.RowKit
open lib
set_option linter.unusedVariables false
set_option linter.unusedSimpArgs false
abbrev WrtAt := Lib.BuilderAt 59 5
abbrev IsWrt := Lib.IsBuilder 59 5
theorem wrt_size : ((Tryz.prog).info? 57).map (·.size) = some 2 := by kernel_rfl
theorem wrt_lies : liesAt Tryz.prog (Tryz.prog).depth 59 (2 / (Tryz.prog).cellsOf 59) 0 57 1 = true := by kernel_rfl
theorem wrt_byte : ((Tryz.prog).info? 5).map (fun i => (i.zero, i.size, i.bytes)) = some (some (.int .u8 0), 1, 1) := by kernel_rfl
theorem wrt_ne : 59 ≠ 5 := by decide
set_option maxHeartbeats 1000000 in
set_option maxRecDepth 100000 in
theorem copyCheck_used (b : Nat) (w : World) (h0 : w.cell? ⟨b, 0, none⟩ = some (.pointer (some ⟨b, 0, none⟩))) :
  Calls Tryz.prog 89 #[.pointer (some ⟨b, 0, none⟩)] w fun e w' => e = .returned (.tuple #[]) ∧ w' = w := by
 obtain ⟨j, hj, _⟩ := Option.map_eq_some_iff.1 wrt_size
 go_enter Tryz.func89, Tryz.ntmps89
 go_wp2
 rw [Lib.run_neq_ptr_same w _ Tryz.underlying54 hj]
 go_wp2
 go_end0
 exact ⟨rfl, rfl⟩
set_option maxHeartbeats 1000000 in
set_option maxRecDepth 100000 in
theorem copyCheck_fresh (b : Nat) (w : World) (h0 : w.cell? ⟨b, 0, none⟩ = some (.pointer none)) (hsh : w.shape? b = some (59, 2)) (hfz : w.frozen? ⟨b, 0, none⟩ = false) :
  Calls Tryz.prog 89 #[.pointer (some ⟨b, 0, none⟩)] w fun e w' => e = .returned (.tuple #[]) ∧ w' = w.setCell ⟨b, 0, none⟩ (.pointer (some ⟨b, 0, none⟩)) := by
 obtain ⟨j, hj, hjs⟩ := Option.map_eq_some_iff.1 wrt_size
 go_enter Tryz.func89, Tryz.ntmps89
 go_wp2
 rw [Lib.run_to_unsafe w ⟨b, 0, none⟩ Tryz.underlying54 Tryz.underlying169 hj (by rw [hjs]; decide) hsh (Nat.zero_lt_succ 1)]
 simp only [Result.andThen]
 rw [Oper.upon_value]
 go_wp2
 rw [run_callFunc_extern Tryz.func132 (by kernel_rfl) (by kernel_rfl) (by kernel_rfl) (e := Extern.AbiNoEscape.same) (by kernel_rfl)]
 rw [Lib.run_noEscape]
 simp only [Result.andThen]
 rw [Oper.upon_value]
 go_wp2
 rw [Lib.run_from_unsafe w ⟨b, 0, none⟩ Tryz.underlying169 Tryz.underlying54 hj hsh wrt_lies]
 simp only [Result.andThen]
 rw [Oper.upon_value]
 go_wp2
 go_end0
 exact ⟨rfl, rfl⟩
theorem copyCheck_any (B b : Nat) (bs : List Value) (w : World) (h : IsWrt B b bs w) :
  Calls Tryz.prog 89 #[.pointer (some ⟨b, 0, none⟩)] w fun e w' => e = .returned (.tuple #[]) ∧ WrtAt B b (.pointer (some ⟨b, 0, none⟩)) bs w' ∧ Below B w w' ∧ w'.cell? ⟨b, 1, none⟩ = w.cell? ⟨b, 1, none⟩ ∧ w'.heap.size = w.heap.size ∧ ∀ j, j ≠ b → w'.heap[j]? = w.heap[j]? := by
 rcases h with h | h
 ·refine (copyCheck_fresh b w h.cell0 h.shape h.frozen0).mono ?_
  rintro e w' ⟨rfl, rfl⟩
  refine ⟨rfl, h.used _, (Below.refl B w).setCell (p := ⟨b, 0, none⟩) h.1 _, ?_, by simp [World.setCell], fun j hj => Below.heap_setCell w ⟨b, 0, none⟩ _ j hj⟩
  obtain ⟨-, v, hk, -⟩ := h.used (.pointer (some ⟨b, 0, none⟩))
  obtain ⟨-, v', hk', -⟩ := h
  have e1 := heap_setCell_same w b 0 _ _ (.pointer (some ⟨b, 0, none⟩)) hk'
  rw [e1] at hk
  have e2 : v = v' := by
   have := Option.some.inj hk
   simpa using this.symm
  rw [Lib.cell_of_heap e1, Lib.cell_of_heap hk']
  rfl
 ·refine (copyCheck_used b w h.cell0).mono ?_
  rintro e w' ⟨rfl, rfl⟩
  exact ⟨rfl, h, Below.refl B _, rfl, rfl, fun _ _ => rfl⟩
def Keeps (b : Nat) (w w' : World) : Prop := ∀ j, j < w.heap.size → j ≠ b → (∀ v, w.cell? ⟨b, 1, none⟩ = some v → v.ownBlock ≠ some j) → w'.heap[j]? = w.heap[j]?
set_option maxHeartbeats 1000000 in
set_option maxRecDepth 100000 in
theorem wlen_any (B b : Nat) (bs : List Value) (w : World) (h : IsWrt B b bs w) :
  Calls Tryz.prog 22 #[.pointer (some ⟨b, 0, none⟩)] w fun e w' => e = .returned (.int .i64 bs.length) ∧ w' = w := by
 obtain ⟨p, hB, v, hbk, hown, hne⟩ : ∃ p, WrtAt B b p bs w := by
  rcases h with h | h
  ·exact ⟨_, h⟩
  ·exact ⟨_, h⟩
 obtain ⟨ao, cap, rfl⟩ : ∃ ao cap, v = .slice ao bs.length cap := by
  rcases hown.2 with ⟨hv, h0⟩ | ⟨g, cap, cur, hv, _⟩
  ·exact ⟨none, 0, by rw [hv, h0]⟩
  ·exact ⟨_, _, hv⟩
 have c1 : w.cell? ⟨b, 1, none⟩ = some (.slice ao bs.length cap) := by rw [Lib.cell_of_heap hbk]; rfl
 go_enter Tryz.func22, Tryz.ntmps22
 go_wp2
 go_ret
 exact ⟨rfl, rfl⟩
set_option maxHeartbeats 2000000 in
set_option maxRecDepth 100000 in
theorem wstr_any (B b : Nat) (bs : List Value) (s : ByteArray) (w : World) (h : IsWrt B b bs w) (hlen : bs.length + s.size ≤ 140737488355328) (hBw : B ≤ w.heap.size) :
  Calls Tryz.prog 50 #[.pointer (some ⟨b, 0, none⟩), .string s] w fun e w' => e = .returned (.tuple #[.int .i64 s.size, .nilIface]) ∧ WrtAt B b (.pointer (some ⟨b, 0, none⟩)) (bs ++ Lib.strCells s) w' ∧ Below B w w' ∧ Keeps b w w' := by
 obtain ⟨i0, hi, hz0, hz1, hz2⟩ := info_parts wrt_byte
 go_enter Tryz.func50, Tryz.ntmps50
 go_wp2_with (go_at_call 89; refine (copyCheck_any B b bs _ h).mono ?_)
 rintro e w1 ⟨rfl, h1, hb1, hc1, hs1, hk1⟩
 have HK1 := Lib.hid (And.intro hc1 (And.intro hs1 hk1))
 clear hc1 hs1 hk1
 obtain ⟨hB, v, hbk, hown, hne⟩ := h1
 have c0 : w1.cell? ⟨b, 0, none⟩ = some (.pointer (some ⟨b, 0, none⟩)) := by rw [Lib.cell_of_heap hbk]; rfl
 have c1 : w1.cell? ⟨b, 1, none⟩ = some v := by rw [Lib.cell_of_heap hbk]; rfl
 go_wp2_with (at_builtin; refine Lib.wpList_append_own_string _ rfl _ _ 55 9 rfl B 5 i0 Tryz.underlying55 Tryz.underlying9 hi hz0 hz1 hz2 _ _ _ rfl hown s rfl ?c3 ?c4 ?c5 ?_)
 case c3 => unfold maxLen; omega
 case c4 => omega
 case c5 => have := hb1.size; omega
 intro v' w2 hown' hgrow _
 have hlt : b < w1.heap.size := by
  rcases Nat.lt_or_ge b w1.heap.size with h' | h'
  ·exact h'
  ·simp [Array.getElem?_eq_none h'] at hbk
 have hb2 : w2.heap[b]? = some (.cells #[.pointer (some ⟨b, 0, none⟩), v] 59 (0, 0)) := by
  rw [hgrow.block b hlt (fun e => hne e.symm)]
  exact hbk
 have d0 : w2.cell? ⟨b, 0, none⟩ = some (.pointer (some ⟨b, 0, none⟩)) := by rw [Lib.cell_of_heap hb2]; rfl
 have d1 : w2.cell? ⟨b, 1, none⟩ = some v := by rw [Lib.cell_of_heap hb2]; rfl
 have f1 : w2.frozen? ⟨b, 1, none⟩ = false := Lib.frozen_of_heap hb2 1
 obtain ⟨ao, n', cap, rfl⟩ : ∃ ao n' cap, v' = .slice ao n' cap := by
  rcases hown'.2 with ⟨hv, _⟩ | ⟨g, cap, cur, hv, _⟩
  ·exact ⟨_, _, _, hv⟩
  ·exact ⟨_, _, _, hv⟩
 go_wp2
 go_ret2
 refine ⟨rfl, ?_, ?_, ?_⟩
 rotate_left 2
 ·intro j hj hjb hjv
  obtain ⟨e1, e2, e3⟩ := HK1.out
  have e4 := hgrow.block j (by omega) (fun e => hjv v (by rw [← e1]; exact c1) e.symm)
  exact (Below.heap_setCell w2 ⟨b, 1, none⟩ _ j hjb).trans (e4.trans (e3 j hjb))
 ·exact Lib.BuilderAt.put (T := 59) (e := 5) hB hb2 (bs' := bs ++ Lib.strCells s) (by simpa [Lib.strCells_length] using hown') wrt_ne
 ·exact (hb1.grown hgrow (by have := hb1.size; omega) (fun k hk => (hown.lt k hk).1)).setCell (p := ⟨b, 1, none⟩) hB _
set_option maxHeartbeats 1000000 in
set_option maxRecDepth 100000 in
theorem wtext_any (B b : Nat) (l : List UInt8) (w : World) (h : IsWrt B b (Lib.byteCells l) w) (h0 : l ≠ []) :
  Calls Tryz.prog 23 #[.pointer (some ⟨b, 0, none⟩)] w fun e w' => e = .returned (.string ⟨l.toArray⟩) ∧ Below B w w' := by
 obtain ⟨p, hB, v, hbk, hown, hne⟩ : ∃ p, WrtAt B b p (Lib.byteCells l) w := by
  rcases h with h | h
  ·exact ⟨_, h⟩
  ·exact ⟨_, h⟩
 have hl0 : l.length ≠ 0 := by simpa using h0
 rw [Lib.byteCells_length] at hown
 obtain ⟨g, cap, cur, rfl, hbg, hg, hnc, hcm, hcs, htake⟩ : ∃ g cap cur, v = .slice (some ⟨g, 0, none⟩) l.length cap ∧ B ≤ g ∧ w.heap[g]? = some (.cells cur 5 (0, 0)) ∧ l.length ≤ cap ∧ cap ≤ maxLen ∧ cur.size = cap * 1 ∧ cur.toList.take (l.length * 1) = Lib.byteCells l := by
  rcases hown.2 with ⟨_, hz⟩ | ⟨g, cap, cur, hv, r⟩
  ·exact absurd hz hl0
  ·exact ⟨g, cap, cur, hv, r⟩
 have c1 : w.drew.cell? ⟨b, 1, none⟩ = some (.slice (some ⟨g, 0, none⟩) l.length cap) := by
  have : w.drew.heap[b]? = some (.cells #[p, .slice (some ⟨g, 0, none⟩) l.length cap] 59 (0, 0)) := hbk
  rw [Lib.cell_of_heap this]; rfl
 have hSD : (Builtin.unsafeSliceData_ #[55] 105 #[.slice (some ⟨g, 0, none⟩) l.length cap]).run Tryz.prog w.drew = .ok (.pointer (some ⟨g, 0, none⟩)) w.drew :=
  Lib.run_unsafeSliceData_row _ _ _ _ _ _ (by omega)
 have hUS : (Builtin.unsafeString_ #[105, 3] 9 #[.pointer (some ⟨g, 0, none⟩), .int .i64 l.length]).run Tryz.prog w.drew = .ok (.string ⟨l.toArray⟩) (w.drew.freeze ⟨g, 0, none⟩ l.length) := by
  refine Lib.run_unsafeString_row w.drew 105 3 9 5 Tryz.underlying105 (by kernel_rfl) g cur.size (by have hg' : w.drew.heap[g]? = some (.cells cur 5 (0, 0)) := hg; simp [World.shape?, hg']) l h0 (by omega) (by unfold maxLen at hcm; omega) ?_
  intro j x hx
  have := hown.cells (g := g) rfl j (.int .u8 x.toNat) (by simp [Lib.byteCells, hx])
  exact this
 go_enter Tryz.func23, Tryz.ntmps23
 go_wp2
 go_region
 all_goals (go_wp2; go_ret; exact ⟨rfl, Lib.below_freeze (Below.drew (Below.refl B w)) (p := ⟨g, 0, none⟩) hbg _⟩)
end Go.Proofs.YthefooacfcagbaaGreatDoor.spc

/- spec's writer: a line of words and numbers. -/
namespace Go.Proofs.YthefooacfcagbaaGreatDoor.spc
open Go.RowKit
open lib rd app els typ big gen
open txt (in64 By strV strV_of joinS decW decW_any Tabs elem_str toList_data push_one)
set_option linter.unusedVariables false
set_option linter.unusedSimpArgs false
theorem tjoin_any (L : List By) (g n c base : Nat) (w : World) (hn : n = L.length) (hown : w.ownsRow base 9 1 (.slice (some ⟨g, 0, none⟩) n c) n (L.map strV)) (h0 : 0 < n) (hn1 : n ≤ 100000) (hlen : (joinS L).length ≤ 140737488355328) :
  Calls Tryz.prog 51 #[.slice (some ⟨g, 0, none⟩) n c] w fun e w' => e = .returned (.string ⟨(joinS L).toArray⟩) ∧ Below w.heap.size w w' := by
 obtain ⟨xs, hxs⟩ : ∃ xs : List ByteArray, xs = L.map fun l => ⟨l.toArray⟩ := ⟨_, rfl⟩
 have hxl : xs.length = n := by rw [hxs, hn]; simp
 have hxm : xs.map (·.data.toList) = L := by rw [hxs, List.map_map]; exact List.map_id L
 have hcap : xs.length ≤ c := by
  rw [hxl]
  rcases hown.2 with ⟨h, hz⟩ | ⟨g0, cap0, cur, h, _, hg, hnc, _⟩
  ·cases h
  ·injection h with e1 e2 e3
   omega
 have hbk : g < w.heap.size := by
  obtain ⟨g1, c1, hv, _, hlt⟩ := hown.form h0
  injection hv with e1 e2 e3
  have e4 : g = g1 := congrArg Addr.block (Option.some.inj e1)
  omega
 have hcells : ∀ (j : Nat) x, xs[j]? = some x → w.cell? ⟨g, 0 + j, none⟩ = some (.string x) := by
  intro j x hx
  have hj : j < n := by rw [← hxl]; exact (List.getElem?_eq_some_iff.1 hx).1
  have h := hown.cellAt j (by omega)
  rw [Nat.zero_add, h, List.getElem?_map]
  rw [hxs, List.getElem?_map] at hx
  cases hL : L[j]? with
  | none => rw [hL] at hx; cases hx
  | some l =>
   rw [hL] at hx
   have hx2 := Option.some.inj hx
   show some (strV l) = some (Value.string x)
   rw [← hx2]; rfl
 have hc := Tryz.strings_Join g 0 c xs ⟨#[32]⟩ w hcells hbk (by omega) hcap (by rw [hxm]; exact hlen)
 rw [hxl, hxm] at hc
 have hc2 : Calls Tryz.prog 42 #[.slice (some ⟨g, 0, none⟩) n c, .string ⟨#[32]⟩] w fun e w' => e = .returned (.string ⟨(joinS L).toArray⟩) ∧ Below w.heap.size w w' := hc
 clear hc hcells hbk hcap hxm hxl hown hxs hlen hn
 go_enter Tryz.func51, Tryz.ntmps51
 go_wp2_with (go_at_call 42; refine hc2.mono ?_; rintro e w1 ⟨rfl, hb1⟩)
 go_ret
 exact ⟨rfl, hb1⟩
inductive Wd where
 | n (x : Int)
 | s (b : ByteArray)
def Wd.val : Wd → Value
 | .n x => .iface 3 (.int .i64 x)
 | .s b => .iface 9 (.string b)
def Wd.by : Wd → By
 | .n x => Lib.itoa x
 | .s b => b.data.toList
def Wd.ok : Wd → Prop
 | .n x => in64 x
 | .s b => b.size ≤ 10000000
theorem as_ii (w : World) (n : Int) : (Instr.typeAssert (.iface 3 (.int .i64 n)) 20 3 true).run Tryz.prog w = .ok (.tuple #[.int .i64 n, .bool true]) w := by kernel_rfl
theorem as_si (w : World) (s : ByteArray) : (Instr.typeAssert (.iface 9 (.string s)) 20 3 true).run Tryz.prog w = .ok (.tuple #[.int .i64 0, .bool false]) w := by kernel_rfl
theorem as_ss (w : World) (s : ByteArray) : (Instr.typeAssert (.iface 9 (.string s)) 20 9 true).run Tryz.prog w = .ok (.tuple #[.string s, .bool true]) w := by kernel_rfl
theorem wrt_below {B b : Nat} {bs : List Value} {p : Value} {w w' : World} (h : WrtAt B b p bs w) (hb : Below w.heap.size w w') : WrtAt B b p bs w' := by
 have hlt := h.lt
 obtain ⟨hB, v, hk, hown, hne⟩ := h
 exact ⟨hB, v, (hb.block b hlt).trans hk, own_below hown hb, hne⟩
theorem isWrt_below {B b : Nat} {bs : List Value} {w w' : World} (h : IsWrt B b bs w) (hb : Below w.heap.size w w') : IsWrt B b bs w' := by
 rcases h with h | h
 ·exact .inl (wrt_below h hb)
 ·exact .inr (wrt_below h hb)
theorem byteCells_app (a b : By) : Lib.byteCells (a ++ b) = Lib.byteCells a ++ Lib.byteCells b := by simp [Lib.byteCells]
theorem strCells_of (s : ByteArray) : Lib.strCells s = Lib.byteCells s.data.toList := rfl
def wdB (ws : List Wd) : By := joinS (ws.map Wd.by) ++ [10]
theorem wd_len {x : Wd} (h : x.ok) : x.by.length ≤ 10000000 := by
 cases x with
 | n z =>
  have := itoa_len h
  show (Lib.itoa z).length ≤ _
  omega
 | s b =>
  have h' : b.size ≤ 10000000 := h
  show b.data.toList.length ≤ _
  simpa using h'
theorem join_lens {L : List By} (h : ∀ x ∈ L, x.length ≤ 10000000) : (joinS L).length ≤ 10000001 * L.length := by
 induction L with
 | nil => simp [joinS, Lib.join_nil]
 | cons x r ih =>
  have h1 := h x (List.mem_cons_self ..)
  have h2 := ih fun y hy => h y (List.mem_cons_of_mem _ hy)
  cases r with
  | nil => rw [txt.joinS_one]; simp; omega
  | cons y r =>
   rw [txt.joinS_cons, List.length_append, List.length_cons, List.length_cons]
   omega
set_option maxRecDepth 20000 in
set_option maxHeartbeats 2000000 in
theorem wline_any (ws : List Wd) (A : Option Addr) (n c : Nat) (hn : n = ws.length) (B b : Nat) (bs : By) (w : World) (ht : Tabs w) (hI : Reads w w.heap.size 1 A n (ws.map Wd.val)) (hok : ∀ x ∈ ws, x.ok) (h0 : 0 < n) (hlen : n ≤ 100) (hsz : bs.length ≤ 1000000000000) (hW : IsWrt B b (Lib.byteCells bs) w) (hB : B ≤ w.heap.size) :
  Calls Tryz.prog 20 #[.pointer (some ⟨b, 0, none⟩), .slice A n c] w fun e w' => e = .returned (.tuple #[]) ∧ WrtAt B b (.pointer (some ⟨b, 0, none⟩)) (Lib.byteCells (bs ++ wdB ws)) w' ∧ Below B w w' ∧ Keeps b w w' := by
 have HI := Lib.hid (fun w' (h' : Below w.heap.size w w') => hI.below h')
 have HTb : Hid (∀ w', Below w.heap.size w w' → Tabs w') := Lib.hid (fun w' h => ht.below h)
 have HOK := Lib.hid hok
 have HN := Lib.hid hn
 have HWb := Lib.hid (fun w' (h' : Below w.heap.size w w') => isWrt_below hW h')
 have HJL : Hid ((joinS (ws.map Wd.by)).length ≤ 1000000100) := Lib.hid (by
  have := join_lens (L := ws.map Wd.by) (fun x hx => by
   obtain ⟨y, hy, rfl⟩ := List.mem_map.1 hx
   exact wd_len (hok y hy))
  rw [List.length_map] at this
  omega)
 have HWL : Hid (b < w.heap.size) := Lib.hid (by rcases hW with h | h <;> exact h.lt)
 obtain ⟨r, hr⟩ : ∃ r, bs ++ wdB ws = r := ⟨_, rfl⟩
 have HR := Lib.hid hr
 rw [hr]
 clear hI ht hok hr hW
 have hii := as_ii
 have hsi := as_si
 have hss := as_ss
 go_enter Tryz.func20, Tryz.ntmps20
 clear hn
 go_upto_region 2 with fail
 go_loopw [4, 11] (SRel w (ws.map Wd.by) n) (fun _ i _ => n - (intOf i).toNat)
 case atStart => exact ⟨Below.refl _ _, 0, 0, none, by omega, rfl, rfl, Lib.hid (World.ownsRow_nil _ _ _ _)⟩
 case round =>
  obtain ⟨hb, k, c1, A1, hk, rfl, rfl, hrow⟩ := hrel
  have HBV := Lib.hid hb
  have hbz := hb.size
  clear hb
  by_cases hlt : k < n
  ·obtain ⟨ad, u, hA, hadb, hu, hcell⟩ := (HI.out _ HBV.out).at_ (k := k) hlt
   obtain ⟨x, hx⟩ : ∃ x, ws[k]? = some x := ⟨_, List.getElem?_eq_getElem (by rw [← HN.out]; exact hlt)⟩
   have hxo := HOK.out _ (List.mem_of_getElem? hx)
   have HX := Lib.hid (show (ws.map Wd.by)[k]? = some x.by by rw [List.getElem?_map, hx]; rfl)
   rw [List.getElem?_map, hx] at hu
   have hu := Option.some.inj hu
   have hk0 : (0 : Int) ≤ (k : Int) := by omega
   have hkn : (k : Int) < (n : Int) := by omega
   have hT := HTb.out _ HBV.out
   subst hA
   clear hx
   cases x with
   | n z =>
    change Value.iface 3 (.int .i64 z) = u at hu
    subst hu
    have hz64 : in64 z := hxo
    have HZ := Lib.hid (show (ws.map Wd.by)[k]? = some (Lib.itoa z) from HX.out)
    clear hxo HX
    go_wp2_with (first
     | (go_at_call 41; refine (decW_any z hz64 _ hT).mono ?_; rintro e2 w2 ⟨rfl, hb2⟩; have hbz2 := hb2.size; have hrow2 := own_below hrow.out hb2)
     | (at_builtin; refine push_one elem_str rfl _ _ rfl w.heap.size _ k ((List.take k (ws.map Wd.by)).map strV) rfl hrow2 _ rfl rfl (by omega) (by omega) ?_; intro g' c' w3 hown3 hb4))
    go_roundw
    case rel => exact ⟨(HBV.out.trans (hb2.mono hbz)).trans hb4, k + 1, c', _, by omega, by go_num, rfl, Lib.hid (SRel.step HZ.out (by unfold decW; simp) hown3)⟩
    case measure => simp [intOf]; omega
   | s y =>
    change Value.iface 9 (.string y) = u at hu
    subst hu
    have HZ := Lib.hid (show (ws.map Wd.by)[k]? = some y.data.toList from HX.out)
    clear hxo HX
    have hrow2 := hrow.out
    go_wp2_with (at_builtin; refine push_one elem_str rfl _ _ rfl w.heap.size _ k ((List.take k (ws.map Wd.by)).map strV) rfl hrow2 _ rfl rfl (by omega) (by omega) ?_; intro g' c' w3 hown3 hb4)
    go_roundw
    case rel => exact ⟨HBV.out.trans hb4, k + 1, c', _, by omega, by go_num, rfl, Lib.hid (SRel.step HZ.out rfl hown3)⟩
    case measure => simp [intOf]; omega
  ·have hkn : ¬ (k : Int) < (n : Int) := by omega
   have hke : k = n := by omega
   subst hke
   obtain ⟨g, c2, hv, _, _⟩ := hrow.out.form (by omega)
   injection hv with e1 e2 e3
   subst e1
   have hall : (ws.map Wd.by).take k = ws.map Wd.by := List.take_of_length_le (by rw [List.length_map, ← HN.out]; exact Nat.le_refl _)
   have hjl := HJL.out
   have HJ : Hid (∀ w', Below wr.heap.size wr w' → Calls Tryz.prog 51 #[.slice (some ⟨g, 0, none⟩) k c1] w' fun e w'' => e = .returned (.string ⟨(joinS (ws.map Wd.by)).toArray⟩) ∧ Below w'.heap.size w' w'') := Lib.hid (fun w' h' => tjoin_any (ws.map Wd.by) g k c1 w.heap.size w' (by rw [List.length_map]; exact HN.out) (by rw [← hall]; exact own_below hrow.out h') h0 (by omega) (by omega))
   obtain ⟨J, hJ⟩ : ∃ J : ByteArray, ⟨(joinS (ws.map Wd.by)).toArray⟩ = J := ⟨_, rfl⟩
   have hJz : J.size ≤ 1000000100 := by rw [← hJ]; simpa [ByteArray.size] using hjl
   have HRJ : Hid (Lib.byteCells bs ++ Lib.strCells (J ++ ⟨#[10]⟩) = Lib.byteCells r) := Lib.hid (by
    rw [← HR.out, byteCells_app, strCells_of, wdB, ← hJ]
    simp [Lib.byteCells])
   rw [hJ] at HJ
   clear hall hjl e2 e3 hrow hJ
   go_upto_region 12 with fail
   (refine wp_region_held_drew (S := (fun w' => True)) (by kernel_rfl) ?_ (fun hHeld => ?_))
   ·trivial
   (refine lib.tk 0 ?_ rfl (by kernel_rfl) (fun _ _ _ h => h) ?_ (by assumption) ?_; rotate_left; (focus (intro w hSw; (try dsimp only at hSw); go_simp; all_goals with_reducible rfl)); (try simp only [lib.hly]))
   (refine lib.tk 1 ?_ rfl (by kernel_rfl) (fun _ _ _ h => h) ?_ (by assumption) ?_; rotate_left; (focus (intro w hSw; (try dsimp only at hSw); go_simp; all_goals with_reducible rfl)); (try simp only [lib.hly]))
   (refine lib.tk 2 ?_ rfl (by kernel_rfl) (fun _ _ _ h => h) ?_ (by assumption) ?_; rotate_left; (focus (intro w hSw; (try dsimp only at hSw); go_simp; all_goals with_reducible rfl)); (try simp only [lib.hly]))
   (refine lib.tk 3 ?_ rfl (by kernel_rfl) (fun _ _ _ h => h) ?_ (by assumption) ?_; rotate_left; (focus (intro w hSw; (try dsimp only at hSw); go_simp; all_goals with_reducible rfl)); (try simp only [lib.hly]))
   (refine wpAnyH_ready (rs := [4]) (by kernel_rfl) (by simp) ?_; refine AllReadyH.cons rfl (fun K hK => ?_) AllReadyH.nil)
   go_simp
   refine (HJ.out _ ((Below.refl _ _).drew)).mono ?_
   rintro e4 v4 ⟨rfl, b4⟩
   have HB4 := Lib.hid (HBV.out.trans ((((Below.refl wr.heap.size wr).drew).trans b4).mono hbz))
   clear b4
   refine hK.out _ _ (trivial) (fun hHeld => ?_)
   clear hK K
   (try simp only [lib.hly])
   (refine lib.tk 5 ?_ rfl (by kernel_rfl) (fun _ _ _ h => h) ?_ (by assumption) ?_; rotate_left; (focus (intro w hSw; (try dsimp only at hSw); go_simp; rw [if_neg (show ¬ 9223372036854775807 < J.size + 1 by omega)]; try with_reducible rfl)); (try simp only [lib.hly]))
   (refine wpAnyH_ready (rs := [6]) (by kernel_rfl) (by simp) ?_; refine AllReadyH.cons rfl (fun K hK => ?_) AllReadyH.nil)
   go_simp
   refine (wstr_any B b (Lib.byteCells bs) _ _ (HWb.out _ HB4.out) (by rw [Lib.byteCells_length, ByteArray.size_append]; show _ + (_ + 1) ≤ _; omega) (Nat.le_trans hB HB4.out.size)).mono ?_
   rintro e5 v5 ⟨rfl, h5, b5, k5⟩
   have HK5 : Hid (Keeps b w v5) := Lib.hid fun j hj hjb hjv => (k5 j (Nat.lt_of_lt_of_le hj HB4.out.size) hjb fun v hv => hjv v (by rw [← hv]; exact (HB4.out.cell (p := ⟨b, 1, none⟩) HWL.out).symm)).trans (HB4.out.block j hj)
   clear k5
   have HB5 := Lib.hid ((HB4.out.mono hB).trans b5)
   have HW5 : Hid (WrtAt B b (.pointer (some ⟨b, 0, none⟩)) (Lib.byteCells r) v5) := Lib.hid (by rw [← HRJ.out]; exact h5)
   clear b5 h5
   refine hK.out _ _ (trivial) (fun hHeld => ?_)
   clear hK K
   (try simp only [lib.hly])
   (refine wpAnyH_done (by kernel_rfl) ?_ _)
   go_wp2
   go_end0
   exact ⟨rfl, HW5.out, HB5.out, HK5.out⟩
end Go.Proofs.YthefooacfcagbaaGreatDoor.spc

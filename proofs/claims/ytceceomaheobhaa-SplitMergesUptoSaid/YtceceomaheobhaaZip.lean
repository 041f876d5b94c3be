/- Joined texts: RenA UndA RulA RulB RulC OrdF OrdG OrdH FltD FltG NetA NetB Trv NetC NetD Cat InsA InsC InsD InsE InsF InsH InsI InsJ OnlA OnlB LtlA InsG InsK Flat AddA AddB SamP. -/
import Derived.Test.YtceceomaheobhaaBase
import Derived.Deep.RegionHeld3
import Derived.Deep.RegionWith
import Derived.Deep.DeepCutAuto
import Derived.Outline
import Derived.OwnWalk
import Derived.Deep.QuietTactic
import Derived.RangeFuncBox
import Derived.Test.YtceceomaheobhaaFltX
import Derived.BigQuiet
import Derived.IntWalk
import Derived.Lib.AppendZeros
import Derived.Test.YtceceomaheobhaaOrdI
import Derived.BigRegion
import Derived.Great.BuildSlice
/- Pairs renumbered: renumber. -/
namespace Go.Proofs.Ytceceomaheobhaa.ren
open Go.RowKit
open Go.Proofs.Ytceceomaheobhaa.lib Go.Proofs.Ytceceomaheobhaa.rd Go.Proofs.Ytceceomaheobhaa.eqg Go.Proofs.Ytceceomaheobhaa.idx Go.Proofs.Ytceceomaheobhaa.app
set_option linter.unusedVariables false
set_option linter.unusedSimpArgs false

theorem two_elem : ElemOf 36 76 (.agg #[.int .i64 0, .int .i64 0]) 2 16 := ⟨Try.underlying36, by kernel_rfl, rfl, by decide, by decide⟩
def tcs (ps : List (Int × Int)) : List Value := ps.flatMap fun p => [.int .i64 p.1, .int .i64 p.2]
theorem tcs_snoc (ps : List (Int × Int)) (p : Int × Int) : tcs (ps ++ [p]) = tcs ps ++ [.int .i64 p.1, .int .i64 p.2] := by simp [tcs]
def TwosOut (w : World) (ps : List (Int × Int)) (e : Ending) (w' : World) : Prop := ∃ A c, e = .returned (.slice A ps.length c) ∧ w'.ownsRow w.heap.size 76 2 (.slice A ps.length c) ps.length (tcs ps) ∧ Below w.heap.size w w'
def renP (old : List Int) (p : Int × Int) : List (Int × Int) := if 0 ≤ idxI old p.1 ∧ 0 ≤ idxI old p.2 then [(idxI old p.1, idxI old p.2)] else []
def renL (old : List Int) (l : List (Int × Int)) : List (Int × Int) := l.flatMap (renP old)
theorem renL_take {old : List Int} {l : List (Int × Int)} {k : Nat} {x : Int × Int} (h : l[k]? = some x) : renL old (l.take (k + 1)) = renL old (l.take k) ++ renP old x := by
  obtain ⟨h1, h2⟩ := List.getElem?_eq_some_iff.1 h
  unfold renL
  rw [List.take_succ_eq_append_getElem h1, h2, List.flatMap_append]
  simp
theorem renL_len (old : List Int) : ∀ l : List (Int × Int), (renL old l).length ≤ l.length
  | [] => by simp [renL]
  | x :: l => by
    have ih := renL_len old l
    unfold renL at ih ⊢
    rw [List.flatMap_cons, List.length_append, List.length_cons]
    have : (renP old x).length ≤ 1 := by unfold renP; split <;> simp
    omega

end Go.Proofs.Ytceceomaheobhaa.ren

/- Violations with a word ahead of their places: under. -/
namespace Go.Proofs.Ytceceomaheobhaa.und
open Go.RowKit
open Go.Proofs.Ytceceomaheobhaa.lib Go.Proofs.Ytceceomaheobhaa.rd Go.Proofs.Ytceceomaheobhaa.typ Go.Proofs.Ytceceomaheobhaa.app Go.Proofs.Ytceceomaheobhaa.flts Go.Proofs.Ytceceomaheobhaa.note
set_option linter.unusedVariables false
set_option linter.unusedSimpArgs false

def undP (word : ByteArray) (f : Flt) : Flt := ⟨f.err, if f.at_.toList.isEmpty = true then word else word ++ (⟨#[32]⟩ ++ f.at_)⟩
def undL (word : ByteArray) (fs : List Flt) : List Flt := fs.map (undP word)
theorem undL_take {word : ByteArray} {fs : List Flt} {k : Nat} {f : Flt} (h : fs[k]? = some f) : undL word (fs.take (k + 1)) = undL word (fs.take k) ++ [undP word f] := by
  obtain ⟨h1, h2⟩ := List.getElem?_eq_some_iff.1 h
  unfold undL
  rw [List.take_succ_eq_append_getElem h1, h2, List.map_append]
  rfl
end Go.Proofs.Ytceceomaheobhaa.und

/- rules: decimal, the tests of pairs. -/
namespace Go.Proofs.Ytceceomaheobhaa.rul
open Go.RowKit
open Go.Proofs.Ytceceomaheobhaa.lib Go.Proofs.Ytceceomaheobhaa.rd Go.Proofs.Ytceceomaheobhaa.eqg Go.Proofs.Ytceceomaheobhaa.txt
set_option linter.unusedVariables false
set_option linter.unusedSimpArgs false

def looseB (x y : Int × Int) : Bool := twoEq x y || (x.1 == y.2 && x.2 == y.1)
theorem two_run (x y : Int × Int) (w : World) : (Op.equalIn 10000 76 (.agg #[.int .i64 x.1, .int .i64 x.2]) (.agg #[.int .i64 y.1, .int .i64 y.2])).run Try.prog w = .ok (twoEq x y) w := by
  obtain ⟨i0, hi, _⟩ := info_parts int_info
  have h := arr.run_eq_ints (t := 76) w 9998 Try.underlying76 hi [x.1, x.2] [y.1, y.2] rfl rfl
  have e : decide ([x.1, x.2] = [y.1, y.2]) = twoEq x y := by
    unfold twoEq
    rw [Bool.eq_iff_iff]
    simp
  rw [e] at h
  exact h
def rightB (n orders : Int) : Bool := decide (0 ≤ n) && decide (n < orders)
end Go.Proofs.Ytceceomaheobhaa.rul

/- rules: the violations of a list of pairs. -/
namespace Go.Proofs.Ytceceomaheobhaa.rul
open Go.RowKit
open Go.Proofs.Ytceceomaheobhaa.lib Go.Proofs.Ytceceomaheobhaa.rd Go.Proofs.Ytceceomaheobhaa.typ Go.Proofs.Ytceceomaheobhaa.app Go.Proofs.Ytceceomaheobhaa.flts Go.Proofs.Ytceceomaheobhaa.eqg Go.Proofs.Ytceceomaheobhaa.txt Go.Proofs.Ytceceomaheobhaa.note
set_option linter.unusedVariables false
set_option linter.unusedSimpArgs false

def atS (word : ByteArray) (i : Nat) : ByteArray := word ++ ⟨#[32]⟩ ++ decS i
def badB (orders : Int) (p : Int × Int) : Bool := !rightB p.1 orders || (!rightB p.2 orders || p.1 == p.2)
def pairP (orders : Int) (word : ByteArray) (same : Int × Int → Int × Int → Bool) (l : List (Int × Int)) (i : Nat) (p : Int × Int) : List Flt :=
  if badB orders p = true then [⟨2, atS word i⟩] else if (l.take i).any (same p) = true then [⟨6, atS word i⟩] else []
def pairAt (orders : Int) (word : ByteArray) (same : Int × Int → Int × Int → Bool) (l : List (Int × Int)) (i : Nat) : List Flt := match l[i]? with
  | some p => pairP orders word same l i p
  | none => []
/-- The violations of the pairs below j. -/
def pairsTo (orders : Int) (word : ByteArray) (same : Int × Int → Int × Int → Bool) (l : List (Int × Int)) : Nat → List Flt
  | 0 => if l.length ≤ 16 then [] else [⟨4, word⟩]
  | j + 1 => pairsTo orders word same l j ++ pairAt orders word same l j
theorem pairP_len (orders : Int) (word : ByteArray) (same : Int × Int → Int × Int → Bool) (l : List (Int × Int)) (i : Nat) (p : Int × Int) : (pairP orders word same l i p).length ≤ 1 := by
  unfold pairP
  split
  · simp
  · split <;> simp
theorem pairsTo_len (orders : Int) (word : ByteArray) (same : Int × Int → Int × Int → Bool) (l : List (Int × Int)) : ∀ j, (pairsTo orders word same l j).length ≤ 1 + j
  | 0 => by unfold pairsTo; split <;> simp
  | j + 1 => by
    have ih := pairsTo_len orders word same l j
    have h : (pairAt orders word same l j).length ≤ 1 := by
      unfold pairAt
      split
      · exact pairP_len _ _ _ _ _ _
      · exact Nat.zero_le _
    rw [pairsTo, List.length_append]
    omega
theorem pairsTo_succ {orders : Int} {word : ByteArray} {same : Int × Int → Int × Int → Bool} {l : List (Int × Int)} {j : Nat} {p : Int × Int} (h : l[j]? = some p) : pairsTo orders word same l (j + 1) = pairsTo orders word same l j ++ pairP orders word same l j p := by
  rw [pairsTo]
  unfold pairAt
  rw [h]

theorem take_anyP {α : Type} {p : α → Bool} {l : List α} {k : Nat} {x : α} (h : l[k]? = some x) : (l.take (k + 1)).any p = ((l.take k).any p || p x) := by
  obtain ⟨h1, h2⟩ := List.getElem?_eq_some_iff.1 h
  rw [List.take_succ_eq_append_getElem h1, h2, List.any_append]
  simp
theorem take_any_true {α : Type} {p : α → Bool} {l : List α} {k j : Nat} {b : Bool} (h : (l.take (k + 1)).any p = (b || true)) (hj : k + 1 ≤ j) : (l.take j).any p = true := by
  rw [Bool.or_true, List.any_eq_true] at h
  obtain ⟨x, hx, hp⟩ := h
  refine List.any_eq_true.2 ⟨x, ?_, hp⟩
  obtain ⟨n, hn⟩ := List.mem_iff_getElem?.1 hx
  rw [List.getElem?_take] at hn
  split at hn
  · exact List.mem_iff_getElem?.2 ⟨n, by rw [List.getElem?_take, if_pos (by omega)]; exact hn⟩
  · cases hn

end Go.Proofs.Ytceceomaheobhaa.rul

/- rules.Check: the violations of the pairs of an instance. -/
namespace Go.Proofs.Ytceceomaheobhaa.rul
open Go.RowKit
open Go.Proofs.Ytceceomaheobhaa.lib Go.Proofs.Ytceceomaheobhaa.rd Go.Proofs.Ytceceomaheobhaa.typ Go.Proofs.Ytceceomaheobhaa.app Go.Proofs.Ytceceomaheobhaa.flts Go.Proofs.Ytceceomaheobhaa.eqg Go.Proofs.Ytceceomaheobhaa.txt Go.Proofs.Ytceceomaheobhaa.note
set_option linter.unusedVariables false
set_option linter.unusedSimpArgs false

def apartS : ByteArray := ⟨#[97, 112, 97, 114, 116]⟩
def beforeS : ByteArray := ⟨#[98, 101, 102, 111, 114, 101]⟩
def rulesF (orders : Int) (a b : List (Int × Int)) : List Flt := pairsTo orders apartS looseB a a.length ++ pairsTo orders beforeS twoEq b b.length
theorem fcs_one (fs : List Flt) : ∀ u ∈ fcs fs, u.oneCell' = true := fun u hu => by
  unfold fcs at hu
  rw [List.mem_flatMap] at hu
  obtain ⟨f, _, hf⟩ := hu
  simp at hf
  rcases hf with rfl | rfl <;> rfl
theorem fcs_append (a b : List Flt) : fcs (a ++ b) = fcs a ++ fcs b := by simp [fcs]
end Go.Proofs.Ytceceomaheobhaa.rul

/- The parts of the errors of an order: the closure, names known, numbers. -/
namespace Go.Proofs.Ytceceomaheobhaa.ord
open Go.RowKit
open Go.Proofs.Ytceceomaheobhaa.lib Go.Proofs.Ytceceomaheobhaa.rd Go.Proofs.Ytceceomaheobhaa.typ Go.Proofs.Ytceceomaheobhaa.note
set_option linter.unusedVariables false
set_option linter.unusedSimpArgs false

/-- The numbers of an order are right. -/
def numB (o : Ord) (types : Int) : Bool :=
  inB o.penalty (-1) 1000000 && inB o.split 1 4 && (o.split == 1 || o.pick.place == -1 || o.drop.place == -1) && decide (-1 ≤ o.last) && decide (o.last < types) && decide (-1 ≤ o.now) && decide (o.now < types)
end Go.Proofs.Ytceceomaheobhaa.ord

/- The errors of an order. -/
namespace Go.Proofs.Ytceceomaheobhaa.ord
open Go.RowKit
open Go.Proofs.Ytceceomaheobhaa.lib Go.Proofs.Ytceceomaheobhaa.rd Go.Proofs.Ytceceomaheobhaa.typ Go.Proofs.Ytceceomaheobhaa.txt Go.Proofs.Ytceceomaheobhaa.note
set_option linter.unusedVariables false
set_option linter.unusedSimpArgs false

/-- Block k holds an order's cells. -/
def OrBlk (w : World) (k : Nat) (t : Ord) (C : Option Addr) (c : Nat) : Prop := w.heap[k]? = some (.cells (OrdCells t C c).toArray 75 (0, 0))
theorem OrBlk.cells {w : World} {k : Nat} {t : Ord} {C : Option Addr} {c : Nat} (h : OrBlk w k t C c) : w.cell? ⟨k, 0, none⟩ = some (.string t.name) ∧ w.cell? ⟨k, 1, none⟩ = some (.slice C t.load.length c) ∧ w.cell? ⟨k, 2, none⟩ = some (.int .i64 t.pick.place) ∧ w.cell? ⟨k, 3, none⟩ = some (.int .i64 t.pick.opn) ∧ w.cell? ⟨k, 4, none⟩ = some (.int .i64 t.pick.close) ∧ w.cell? ⟨k, 5, none⟩ = some (.int .i64 t.pick.service) ∧
    w.cell? ⟨k, 6, none⟩ = some (.int .i64 t.drop.place) ∧ w.cell? ⟨k, 7, none⟩ = some (.int .i64 t.drop.opn) ∧ w.cell? ⟨k, 8, none⟩ = some (.int .i64 t.drop.close) ∧ w.cell? ⟨k, 9, none⟩ = some (.int .i64 t.drop.service) ∧ w.cell? ⟨k, 10, none⟩ = some (.int .i64 t.skills) ∧ w.cell? ⟨k, 11, none⟩ = some (.int .i64 t.penalty) ∧ w.cell? ⟨k, 12, none⟩ = some (.int .i64 t.split) ∧ w.cell? ⟨k, 13, none⟩ = some (.int .i64 t.last) ∧ w.cell? ⟨k, 14, none⟩ = some (.int .i64 t.now) ∧ w.cell? ⟨k, 15, none⟩ = some (.bool t.off) := by
  refine ⟨?_, ?_, ?_, ?_, ?_, ?_, ?_, ?_, ?_, ?_, ?_, ?_, ?_, ?_, ?_, ?_⟩ <;> simp [World.cell?, show w.heap[k]? = _ from h, OrdCells]

/-- Where the walk of errors stands between two questions. -/
structure St (H : Nat) (w : World) (t : Ord) (C : Option Addr) (c : Nat) (xs : List Int) (wx : World) : Prop where
  box : BoxRow wx (H + 1) (H + 1 + 1 + 1) xs
  blk : OrBlk wx (H + 1 + 1) t C c
  bel : Below H w wx
  len : xs.length < 50
theorem St.size {H : Nat} {w : World} {t : Ord} {C : Option Addr} {c : Nat} {xs : List Int} {wx : World} (h : St H w t C c xs wx) : H + 1 + 1 + 1 ≤ wx.heap.size := by obtain ⟨_, _, _, _, _, h4, _⟩ := h.box; exact h4
theorem St.below {H : Nat} {w : World} {t : Ord} {C : Option Addr} {c : Nat} {xs : List Int} {wx wy : World} (h : St H w t C c xs wx) (hb : Below wx.heap.size wx wy) : St H w t C c xs wy := by
  have hs := h.size
  exact ⟨h.box.below hb, (hb.block _ (by omega)).trans h.blk, h.bel.trans (hb.mono (by omega)), h.len⟩
theorem St.add {H : Nat} {w : World} {t : Ord} {C : Option Addr} {c : Nat} {xs ys : List Int} {wx wy : World} {e : Ending} (h : St H w t C c xs wx) (ha : AddOut wx (H + 1) (H + 1 + 1 + 1) ys e wy) (hl : ys.length < 50) : St H w t C c ys wy := by
  obtain ⟨_, h1, h2, h3, _⟩ := ha
  exact ⟨h1, (h3 _ (by omega) (by omega)).trans h.blk, h.bel.trans (h2.mono (by omega)), hl⟩

/-- Both windows of an order are right. -/
def winB (o : Ord) : Bool := (win.chk o.pick.place o.pick.opn o.pick.close o.pick.service == 0) && (win.chk o.drop.place o.drop.opn o.drop.close o.drop.service == 0)
/-- The errors of an order, in order. -/
def errsO (places dims types : Int) (l : List Ord) (i : Nat) (o : Ord) : List Int :=
  pushIf (pushIf (pushIf (pushIf (pushIf (pushIf (pushIf (pushIf [] (nameB o.name) 5) (!((l.take i).any (fun x => sameS x.name o.name))) 6) (loads.rightB o.load dims) 17) (inB o.pick.place (-1) places && inB o.drop.place (-1) places) 11) ((o.pick.place != -1) || (o.drop.place != -1)) 19) (winB o) 14) (inB o.skills 0 1073741823) 18) (numB o types) 2

end Go.Proofs.Ytceceomaheobhaa.ord

/- The violations of orders: Check of the program. -/
namespace Go.Proofs.Ytceceomaheobhaa.ord
open Go.RowKit
open Go.Proofs.Ytceceomaheobhaa.lib Go.Proofs.Ytceceomaheobhaa.rd Go.Proofs.Ytceceomaheobhaa.typ Go.Proofs.Ytceceomaheobhaa.txt Go.Proofs.Ytceceomaheobhaa.app Go.Proofs.Ytceceomaheobhaa.note Go.Proofs.Ytceceomaheobhaa.flts
set_option linter.unusedVariables false

def ofltsAt (P dims types : Int) (l : List Ord) (i : Nat) : List Flt := match l[i]? with
  | some t => mkF i (errsO P dims types l i t)
  | none => []
/-- The violations of the orders below j. -/
def ofltsTo (P dims types : Int) (l : List Ord) : Nat → List Flt
  | 0 => if l.length ≤ 10 then [] else [⟨4, ⟨#[]⟩⟩]
  | j + 1 => ofltsTo P dims types l j ++ ofltsAt P dims types l j
theorem errsO_len (P dims types : Int) (l : List Ord) (i : Nat) (t : Ord) : (errsO P dims types l i t).length ≤ 8 := by
  unfold errsO
  repeat (refine Nat.le_trans (pushIf_len _ _ _) (Nat.add_le_add_right ?_ 1))
  exact Nat.le_refl _
theorem ofltsTo_len (P dims types : Int) (l : List Ord) : ∀ j, (ofltsTo P dims types l j).length ≤ 1 + 8 * j
  | 0 => by unfold ofltsTo; split <;> simp
  | j + 1 => by
    have ih := ofltsTo_len P dims types l j
    have h : (ofltsAt P dims types l j).length ≤ 8 := by
      unfold ofltsAt
      split
      · unfold mkF; rw [List.length_map]; exact errsO_len _ _ _ _ _ _
      · exact Nat.zero_le _
    rw [ofltsTo, List.length_append]
    omega
theorem ofltsTo_succ {P dims types : Int} {l : List Ord} {j : Nat} {t : Ord} (h : l[j]? = some t) : ofltsTo P dims types l (j + 1) = ofltsTo P dims types l j ++ mkF j (errsO P dims types l j t) := by
  rw [ofltsTo]
  unfold ofltsAt
  rw [h]

end Go.Proofs.Ytceceomaheobhaa.ord

/- The errors of a type. -/
namespace Go.Proofs.Ytceceomaheobhaa.flt
open Go.RowKit
open Go.Proofs.Ytceceomaheobhaa.lib Go.Proofs.Ytceceomaheobhaa.rd Go.Proofs.Ytceceomaheobhaa.typ Go.Proofs.Ytceceomaheobhaa.txt
set_option linter.unusedVariables false
set_option linter.unusedSimpArgs false

def pushIf (xs : List Int) (right : Bool) (u : Int) : List Int := if right then xs else xs ++ [u]
theorem pushIf_len (xs : List Int) (r : Bool) (u : Int) : (pushIf xs r u).length ≤ xs.length + 1 := by unfold pushIf; split <;> simp

/-- Block k holds a type's cells. -/
def TyBlk (w : World) (k : Nat) (t : Ty) (C : Option Addr) (c : Nat) : Prop := w.heap[k]? = some (.cells (TyCells t C c).toArray 94 (0, 0))
theorem TyBlk.cells {w : World} {k : Nat} {t : Ty} {C : Option Addr} {c : Nat} (h : TyBlk w k t C c) : w.cell? ⟨k, 0, none⟩ = some (.string t.name) ∧ w.cell? ⟨k, 1, none⟩ = some (.int .i64 t.count) ∧ w.cell? ⟨k, 2, none⟩ = some (.int .i64 t.frm) ∧ w.cell? ⟨k, 3, none⟩ = some (.int .i64 t.to) ∧ w.cell? ⟨k, 4, none⟩ = some (.slice C t.cap.length c) ∧
    w.cell? ⟨k, 5, none⟩ = some (.int .i64 t.skills) ∧ w.cell? ⟨k, 6, none⟩ = some (.int .i64 t.profile) ∧ w.cell? ⟨k, 7, none⟩ = some (.int .i64 t.opn) ∧ w.cell? ⟨k, 8, none⟩ = some (.int .i64 t.close) ∧ w.cell? ⟨k, 9, none⟩ = some (.int .i64 t.drive) ∧ w.cell? ⟨k, 10, none⟩ = some (.int .i64 t.rest) ∧ w.cell? ⟨k, 11, none⟩ = some (.int .i64 t.fixed) ∧ w.cell? ⟨k, 12, none⟩ = some (.int .i64 t.mile) ∧ w.cell? ⟨k, 13, none⟩ = some (.int .i64 t.tick) := by
  refine ⟨?_, ?_, ?_, ?_, ?_, ?_, ?_, ?_, ?_, ?_, ?_, ?_, ?_, ?_⟩ <;> simp [World.cell?, show w.heap[k]? = _ from h, TyCells]

/-- Where the walk of errors stands between two questions. -/
structure St (H : Nat) (w : World) (t : Ty) (C : Option Addr) (c : Nat) (xs : List Int) (wx : World) : Prop where
  box : BoxRow wx (H + 1) (H + 1 + 1 + 1) xs
  blk : TyBlk wx (H + 1 + 1) t C c
  bel : Below H w wx
  len : xs.length < 50
theorem St.size {H : Nat} {w : World} {t : Ty} {C : Option Addr} {c : Nat} {xs : List Int} {wx : World} (h : St H w t C c xs wx) : H + 1 + 1 + 1 ≤ wx.heap.size := by obtain ⟨_, _, _, _, _, h4, _⟩ := h.box; exact h4
theorem St.below {H : Nat} {w : World} {t : Ty} {C : Option Addr} {c : Nat} {xs : List Int} {wx wy : World} (h : St H w t C c xs wx) (hb : Below wx.heap.size wx wy) : St H w t C c xs wy := by
  have hs := h.size
  exact ⟨h.box.below hb, (hb.block _ (by omega)).trans h.blk, h.bel.trans (hb.mono (by omega)), h.len⟩
theorem St.add {H : Nat} {w : World} {t : Ty} {C : Option Addr} {c : Nat} {xs ys : List Int} {wx wy : World} {e : Ending} (h : St H w t C c xs wx) (ha : AddOut wx (H + 1) (H + 1 + 1 + 1) ys e wy) (hl : ys.length < 50) : St H w t C c ys wy := by
  obtain ⟨_, h1, h2, h3, _⟩ := ha
  exact ⟨h1, (h3 _ (by omega) (by omega)).trans h.blk, h.bel.trans (h2.mono (by omega)), hl⟩

/-- The errors of a type, in order. -/
def errsL (places : Int) (l : List Ty) (i : Nat) (t : Ty) (d : Nat) : List Int :=
  pushIf (pushIf (pushIf (pushIf (pushIf (pushIf (pushIf (pushIf (pushIf [] (nameB t.name) 5) (!((l.take i).any (fun x => sameS x.name t.name))) 6) (inB t.count 0 10) 22) (inB t.frm 0 places && inB t.to 0 places) 11) (capB t.cap d) 17) (inB t.skills 0 1073741823) 18)
    (inB t.opn 0 t.close && decide (t.close ≤ 4096)) 15) (inB t.drive 1 4096 && inB t.rest 0 4096) 16) (inB t.profile 0 7 && inB t.fixed 0 100000 && inB t.mile 0 100 && inB t.tick 0 100) 2

/-- A row of errors, handed back. -/
def ErrsOut (w : World) (xs : List Int) (e : Ending) (w' : World) : Prop :=
  ∃ A c, e = .returned (.slice A xs.length c) ∧ w'.ownsRow w.heap.size 24 1 (.slice A xs.length c) xs.length (xs.map (.int .i64)) ∧ Below w.heap.size w w'

end Go.Proofs.Ytceceomaheobhaa.flt

/- The violations of types: Check of the program. -/
namespace Go.Proofs.Ytceceomaheobhaa.flt
open Go.RowKit
open Go.Proofs.Ytceceomaheobhaa.lib Go.Proofs.Ytceceomaheobhaa.rd Go.Proofs.Ytceceomaheobhaa.typ Go.Proofs.Ytceceomaheobhaa.txt Go.Proofs.Ytceceomaheobhaa.app
set_option linter.unusedVariables false

theorem fault_elem : ElemOf 77 113 (.agg #[.int .i64 0, .string ⟨#[]⟩]) 2 24 := ⟨Try.underlying77, by kernel_rfl, rfl, by decide, by decide⟩
/-- The cells of violations. -/
def fcs (fs : List Flt) : List Value := fs.flatMap fun f => [.int .i64 f.err, .string f.at_]
theorem fcs_snoc (fs : List Flt) (f : Flt) : fcs (fs ++ [f]) = fcs fs ++ [.int .i64 f.err, .string f.at_] := by simp [fcs]
def Fown (w : World) (base : Nat) (A : Option Addr) (c : Nat) (fs : List Flt) : Prop := w.ownsRow base 113 2 (.slice A fs.length c) fs.length (fcs fs)

def fltsAt (P : Int) (l : List Ty) (i : Nat) : List Flt := match l[i]? with
  | some t => (errsL P l i t (dimsN l)).map fun e => ⟨e, decS i⟩
  | none => []
/-- The violations of the types below j. -/
def fltsTo (P : Int) (l : List Ty) : Nat → List Flt
  | 0 => if inB l.length 1 6 then [] else [⟨4, ⟨#[]⟩⟩]
  | j + 1 => fltsTo P l j ++ fltsAt P l j
theorem errsL_len (P : Int) (l : List Ty) (i : Nat) (t : Ty) (d : Nat) : (errsL P l i t d).length ≤ 9 := by
  unfold errsL
  repeat (refine Nat.le_trans (pushIf_len _ _ _) (Nat.add_le_add_right ?_ 1))
  exact Nat.le_refl _
theorem fltsTo_len (P : Int) (l : List Ty) : ∀ j, (fltsTo P l j).length ≤ 1 + 9 * j
  | 0 => by unfold fltsTo; split <;> simp
  | j + 1 => by
    have ih := fltsTo_len P l j
    have h : (fltsAt P l j).length ≤ 9 := by
      unfold fltsAt
      split
      · rw [List.length_map]; exact errsL_len _ _ _ _ _
      · exact Nat.zero_le _
    rw [fltsTo, List.length_append]
    omega

theorem row_place {w : World} {base c : Nat} {e : TypeId} {A : Option Addr} {l : List Int} (h : w.ownsRow base e 1 (.slice A l.length c) l.length (l.map (.int .i64))) :
    ∃ g, base ≤ g ∧ (0 < l.length → A = some ⟨g, 0, none⟩ ∧ g < w.heap.size) ∧ ∀ q, q < l.length → w.cell? ⟨g, q, none⟩ = some (.int .i64 (l[q]?.getD 0)) := by
  rcases h.2 with ⟨h1, h2⟩ | ⟨g, cap, cur, h1, h2, h3, h4⟩
  · exact ⟨base, Nat.le_refl _, fun hh => absurd hh (by omega), fun q hq => absurd hq (by omega)⟩
  · injection h1 with h1 _ _
    subst h1
    refine ⟨g, h2, fun _ => ⟨rfl, (Array.getElem?_eq_some_iff.1 h3).1⟩, fun q hq => ?_⟩
    rw [h.cellAt q (by omega), List.getElem?_map, List.getElem?_eq_getElem hq]
    rfl
theorem two_new (w : World) (a b : Value) (t : TypeId) (j : Nat) (u : Value) (h : [a, b][j]? = some u) : (w.alloc (.cells #[a, b] t)).cell? ((⟨w.heap.size, 0, none⟩ : Addr).add j) = some u :=
  World.news_of_block (w := w.alloc (.cells #[a, b] t)) (B := w.heap.size) (heap_alloc_new w _) j u (by simpa using h)

/-- What is appended: the violations of one type's errors. -/
def mkF (i : Nat) (E : List Int) : List Flt := E.map fun e => ⟨e, decS i⟩
theorem mkF_take {i : Nat} {E : List Int} {q : Nat} {x : Int} (h : E[q]? = some x) : mkF i (E.take (q + 1)) = mkF i (E.take q) ++ [⟨x, decS i⟩] := by
  obtain ⟨h1, h2⟩ := List.getElem?_eq_some_iff.1 h
  unfold mkF
  rw [List.take_succ_eq_append_getElem h1, h2, List.map_append]
  rfl
def FltsOut (w : World) (fs : List Flt) (e : Ending) (w' : World) : Prop := ∃ A c, e = .returned (.slice A fs.length c) ∧ Fown w' w.heap.size A c fs ∧ Below w.heap.size w w'

end Go.Proofs.Ytceceomaheobhaa.flt

/- network: places, ticks, ways, the errors of delays. -/
namespace Go.Proofs.Ytceceomaheobhaa.net
open Go.RowKit
open Go.Proofs.Ytceceomaheobhaa.lib Go.Proofs.Ytceceomaheobhaa.rd Go.Proofs.Ytceceomaheobhaa.typ Go.Proofs.Ytceceomaheobhaa.app Go.Proofs.Ytceceomaheobhaa.note Go.Proofs.Ytceceomaheobhaa.mrk
open Go.Proofs.Ytceceomaheobhaa.win (tickB tick_t tick_f)
set_option linter.unusedVariables false
set_option linter.unusedSimpArgs false

def placeB (n i : Int) : Bool := decide (0 ≤ i) && decide (i < n)
/-- Ways as keys. -/
abbrev wayV (k : Int × Int × Int) : Value := .agg #[.int .i64 k.1, .int .i64 k.2.1, .int .i64 k.2.2]
def wayOk (k : Int × Int × Int) : Prop := (-9223372036854775808 ≤ k.1 ∧ k.1 ≤ 9223372036854775807) ∧ (-9223372036854775808 ≤ k.2.1 ∧ k.2.1 ≤ 9223372036854775807) ∧ (-9223372036854775808 ≤ k.2.2 ∧ k.2.2 ≤ 9223372036854775807)
theorem way_laidOut : laidOutB Try.prog = true := by kernel_rfl
theorem int_cells : Try.prog.cellsOf 3 = 1 := by kernel_rfl
theorem types_pos : 0 < Try.prog.types.size := of_decide_eq_true (by kernel_rfl)
/-- The errors of delays. -/
def slBad (l : List Pt) (i : Nat) (p : Pt) : Bool := !tickB p.t || ((match i with
  | 0 => false
  | k + 1 => match l[k]? with
    | some q => decide (p.t ≤ q.t)
    | none => false) || !tickB p.a)
def slP (l : List Pt) (i : Nat) (p : Pt) : List Int := if slBad l i p = true then [2] else []
def slAt (l : List Pt) (i : Nat) : List Int := match l[i]? with
  | some p => slP l i p
  | none => []
def slTo (l : List Pt) : Nat → List Int
  | 0 => if 16 < l.length then [4] else []
  | j + 1 => slTo l j ++ slAt l j
theorem slP_len (l : List Pt) (i : Nat) (p : Pt) : (slP l i p).length ≤ 1 := by
  unfold slP
  split <;> simp
theorem slTo_len (l : List Pt) : ∀ j, (slTo l j).length ≤ 1 + j
  | 0 => by unfold slTo; split <;> simp
  | j + 1 => by
    have ih := slTo_len l j
    have h : (slAt l j).length ≤ 1 := by
      unfold slAt
      split
      · exact slP_len _ _ _
      · exact Nat.zero_le _
    rw [slTo, List.length_append]
    omega
theorem slTo_succ {l : List Pt} {j : Nat} {p : Pt} (h : l[j]? = some p) : slTo l (j + 1) = slTo l j ++ slP l j p := by
  rw [slTo]
  unfold slAt
  rw [h]
def EOwn (w : World) (base : Nat) (A : Option Addr) (c : Nat) (xs : List Int) : Prop := w.ownsRow base 24 1 (.slice A xs.length c) xs.length (xs.map (.int .i64))
end Go.Proofs.Ytceceomaheobhaa.net

/- network.slow: the errors of delays. -/
namespace Go.Proofs.Ytceceomaheobhaa.net
open Go.RowKit
open Go.Proofs.Ytceceomaheobhaa.lib Go.Proofs.Ytceceomaheobhaa.rd Go.Proofs.Ytceceomaheobhaa.typ Go.Proofs.Ytceceomaheobhaa.app Go.Proofs.Ytceceomaheobhaa.note Go.Proofs.Ytceceomaheobhaa.mrk
open Go.Proofs.Ytceceomaheobhaa.win (tickB tick_t tick_f)
set_option linter.unusedVariables false
set_option linter.unusedSimpArgs false

end Go.Proofs.Ytceceomaheobhaa.net

/- travel.Check: the violations of a travel function. -/
namespace Go.Proofs.Ytceceomaheobhaa.trv
open Go.RowKit
open Go.Proofs.Ytceceomaheobhaa.lib Go.Proofs.Ytceceomaheobhaa.rd Go.Proofs.Ytceceomaheobhaa.typ Go.Proofs.Ytceceomaheobhaa.app Go.Proofs.Ytceceomaheobhaa.flts Go.Proofs.Ytceceomaheobhaa.txt Go.Proofs.Ytceceomaheobhaa.note
set_option linter.unusedVariables false
set_option linter.unusedSimpArgs false

def tvBad (p : Pt) : Bool := !inB p.t 0 4096 || (decide (p.a < p.t) || decide (p.t + 4096 < p.a))
def tvFifo (l : List Pt) (i : Nat) (p : Pt) : Bool := match i with
  | 0 => false
  | k + 1 => match l[k]? with
    | some q => decide (p.t ≤ q.t) || decide (p.a < q.a)
    | none => false
def tvP (l : List Pt) (i : Nat) (p : Pt) : List Flt := (if tvBad p = true then [⟨2, decS i⟩] else []) ++ (if tvFifo l i p = true then [⟨13, decS i⟩] else [])
def szB (m : Nat) : Bool := decide (m = 0) || decide (16 < m)
def tvAt (l : List Pt) (i : Nat) : List Flt := match l[i]? with
  | some p => tvP l i p
  | none => []
/-- The violations of the points below j. -/
def tvTo (l : List Pt) : Nat → List Flt
  | 0 => if szB l.length = true then [⟨4, ⟨#[]⟩⟩] else []
  | j + 1 => tvTo l j ++ tvAt l j
theorem tvP_len (l : List Pt) (i : Nat) (p : Pt) : (tvP l i p).length ≤ 2 := by
  unfold tvP
  split <;> split <;> simp
theorem tvTo_len (l : List Pt) : ∀ j, (tvTo l j).length ≤ 1 + 2 * j
  | 0 => by unfold tvTo; split <;> simp
  | j + 1 => by
    have ih := tvTo_len l j
    have h : (tvAt l j).length ≤ 2 := by
      unfold tvAt
      split
      · exact tvP_len _ _ _
      · exact Nat.zero_le _
    rw [tvTo, List.length_append]
    omega
theorem tvTo_succ {l : List Pt} {j : Nat} {p : Pt} (h : l[j]? = some p) : tvTo l (j + 1) = tvTo l j ++ tvP l j p := by
  rw [tvTo]
  unfold tvAt
  rw [h]

end Go.Proofs.Ytceceomaheobhaa.trv

/- network.arc: the errors of an arc. -/
namespace Go.Proofs.Ytceceomaheobhaa.net
open Go.RowKit
open Go.Proofs.Ytceceomaheobhaa.lib Go.Proofs.Ytceceomaheobhaa.rd Go.Proofs.Ytceceomaheobhaa.typ Go.Proofs.Ytceceomaheobhaa.app Go.Proofs.Ytceceomaheobhaa.note Go.Proofs.Ytceceomaheobhaa.mrk Go.Proofs.Ytceceomaheobhaa.trv Go.Proofs.Ytceceomaheobhaa.flts Go.Proofs.Ytceceomaheobhaa.txt
set_option linter.unusedVariables false
set_option linter.unusedSimpArgs false

theorem errno_elem : ElemOf 116 24 (.int .i64 0) 1 8 := ⟨Try.underlying116, by kernel_rfl, rfl, by decide, by decide⟩
theorem flt_place {w : World} {base c : Nat} {A : Option Addr} {fs : List Flt} (h : Fown w base A c fs) :
    ∃ g, base ≤ g ∧ (0 < fs.length → A = some ⟨g, 0, none⟩ ∧ g < w.heap.size) ∧ ∀ (q : Nat) f, fs[q]? = some f → w.cell? ⟨g, q * 2, none⟩ = some (.int .i64 f.err) ∧ w.cell? ⟨g, q * 2 + 1, none⟩ = some (.string f.at_) := by
  unfold Fown at h
  rcases h.2 with ⟨h1, h2⟩ | ⟨g, cap, cur, h1, h2, h3, h4⟩
  · exact ⟨base, Nat.le_refl _, fun hh => absurd hh (by omega), fun q f hq => absurd (List.getElem?_eq_some_iff.1 hq).1 (by omega)⟩
  · injection h1 with h1 _ _
    subst h1
    refine ⟨g, h2, fun _ => ⟨rfl, (Array.getElem?_eq_some_iff.1 h3).1⟩, fun q f hq => ?_⟩
    have hlt := (List.getElem?_eq_some_iff.1 hq).1
    have hf := fun j hj => flat_at (g := fun f : Flt => [Value.int .i64 f.err, Value.string f.at_]) (s := 2) (fun _ => rfl) fs q f hq j hj
    have h0 := hf 0 (by decide)
    have h1' := hf 1 (by decide)
    refine ⟨?_, ?_⟩
    · rw [h.cellAt (q * 2) (by omega)]
      exact h0
    · rw [h.cellAt (q * 2 + 1) (by omega)]
      exact h1'
def arcOk (P : Int) (x : Arc) : Bool := placeB P x.frm && placeB P x.to
def arcBad (x : Arc) : Bool := decide (x.profile < 0) || (decide (7 < x.profile) || (decide (x.miles < 0) || (decide (10000 < x.miles) || (x.frm == x.to))))
def wayK (x : Arc) : Int × Int × Int := (x.frm, x.to, x.profile)
/-- The errors of an arc; ks: the ways before it. -/
def arcE (P : Int) (ks : List (Int × Int × Int)) (x : Arc) : List Int :=
  ((pushIf (pushIf (pushIf [] (arcOk P x) 11) (!arcBad x) 2) (!hasB ks (wayK x)) 6) ++ (tvTo x.travel x.travel.length).map (·.err)) ++ slTo x.slow x.slow.length
theorem pushIf_own {w w' : World} {base : Nat} {A : Option Addr} {c : Nat} {xs : List Int} {u : Int} (h : EOwn w base A c xs) (hb : Below w.heap.size w w') : EOwn w' base A c (pushIf xs true u) := own_below h hb
theorem wayOk_of {x : Arc} (h : ArcFits x) : wayOk (wayK x) := by
  unfold ArcFits at h
  exact ⟨h.1, h.2.1, h.2.2.1⟩

end Go.Proofs.Ytceceomaheobhaa.net

/- network.Check: the violations of a network. -/
namespace Go.Proofs.Ytceceomaheobhaa.net
open Go.RowKit
open Go.Proofs.Ytceceomaheobhaa.lib Go.Proofs.Ytceceomaheobhaa.rd Go.Proofs.Ytceceomaheobhaa.typ Go.Proofs.Ytceceomaheobhaa.app Go.Proofs.Ytceceomaheobhaa.note Go.Proofs.Ytceceomaheobhaa.mrk Go.Proofs.Ytceceomaheobhaa.trv Go.Proofs.Ytceceomaheobhaa.flts Go.Proofs.Ytceceomaheobhaa.txt Go.Proofs.Ytceceomaheobhaa.eqg
set_option linter.unusedVariables false
set_option linter.unusedSimpArgs false

def plcS (i : Nat) : ByteArray := ⟨#[112, 108, 97, 99, 101, 32]⟩ ++ decS i
def arcS (i : Nat) : ByteArray := ⟨#[97, 114, 99, 32]⟩ ++ decS i
def plP (l : List ByteArray) (i : Nat) (s : ByteArray) : List Flt := if nameB s = true then (if hasB (l.take i) s = true then [⟨6, plcS i⟩] else []) else [⟨5, plcS i⟩]
def plAt (l : List ByteArray) (i : Nat) : List Flt := match l[i]? with
  | some s => plP l i s
  | none => []
/-- The violations of the places below j. -/
def plTo (l : List ByteArray) : Nat → List Flt
  | 0 => if 24 < l.length then [⟨4, ⟨#[112, 108, 97, 99, 101, 115]⟩⟩] else []
  | j + 1 => plTo l j ++ plAt l j
theorem plP_len (l : List ByteArray) (i : Nat) (s : ByteArray) : (plP l i s).length ≤ 1 := by
  unfold plP
  split
  · split <;> simp
  · simp
theorem plTo_len (l : List ByteArray) : ∀ j, (plTo l j).length ≤ 1 + j
  | 0 => by unfold plTo; split <;> simp
  | j + 1 => by
    have ih := plTo_len l j
    have h : (plAt l j).length ≤ 1 := by
      unfold plAt
      split
      · exact plP_len _ _ _
      · exact Nat.zero_le _
    rw [plTo, List.length_append]
    omega
theorem plTo_succ {l : List ByteArray} {j : Nat} {s : ByteArray} (h : l[j]? = some s) : plTo l (j + 1) = plTo l j ++ plP l j s := by
  rw [plTo]
  unfold plAt
  rw [h]
theorem take_snoc' {α : Type} {l : List α} {k : Nat} {x : α} (h : l[k]? = some x) : l.take (k + 1) = l.take k ++ [x] := by
  obtain ⟨h1, h2⟩ := List.getElem?_eq_some_iff.1 h
  rw [List.take_succ_eq_append_getElem h1, h2]
def arFs (P : Int) (l : List Arc) (i : Nat) (x : Arc) : List Flt := (arcE P ((l.take i).map wayK) x).map fun e => ⟨e, arcS i⟩
def arAt (P : Int) (l : List Arc) (i : Nat) : List Flt := match l[i]? with
  | some x => arFs P l i x
  | none => []
/-- The violations of the places and of the arcs below j. -/
def netTo (n : Net) : Nat → List Flt
  | 0 => plTo n.places n.places.length ++ (if 1024 < n.arcs.length then [⟨4, ⟨#[97, 114, 99, 115]⟩⟩] else [])
  | j + 1 => netTo n j ++ arAt n.places.length n.arcs j
theorem netTo_succ {n : Net} {j : Nat} {x : Arc} (h : n.arcs[j]? = some x) : netTo n (j + 1) = netTo n j ++ arFs n.places.length n.arcs j x := by
  rw [netTo]
  unfold arAt
  rw [h]
theorem pushIf_le (xs : List Int) (r : Bool) (u : Int) (k : Nat) (h : xs.length ≤ k) : (pushIf xs r u).length ≤ k + 1 := Nat.le_trans (pushIf_len _ _ _) (Nat.add_le_add_right h 1)
theorem tv_le (l : List Pt) (h : l.length ≤ 100) : (tvTo l l.length).length ≤ 201 := by have := tvTo_len l l.length; omega
theorem sl_le (l : List Pt) (h : l.length ≤ 1000) : (slTo l l.length).length ≤ 1001 := by have := slTo_len l l.length; omega
theorem arcE_len (P : Int) (ks : List (Int × Int × Int)) (x : Arc) (h1 : x.travel.length ≤ 100) (h2 : x.slow.length ≤ 1000) : (arcE P ks x).length ≤ 1205 := by
  unfold arcE
  rw [List.length_append, List.length_append, List.length_map]
  have := pushIf_le _ (!hasB ks (wayK x)) 6 2 (pushIf_le _ (!arcBad x) 2 1 (pushIf_le [] (arcOk P x) 11 0 (Nat.le_refl _)))
  have := tv_le x.travel h1
  have := sl_le x.slow h2
  omega

theorem netTo_len (n : Net) (hs : ∀ a ∈ n.arcs, a.travel.length ≤ 100 ∧ a.slow.length ≤ 1000) : ∀ j, (netTo n j).length ≤ 2 + n.places.length + 1205 * j
  | 0 => by
    have := plTo_len n.places n.places.length
    unfold netTo
    rw [List.length_append]
    split <;> simp <;> omega
  | j + 1 => by
    have ih := netTo_len n hs j
    have h : (arAt n.places.length n.arcs j).length ≤ 1205 := by
      unfold arAt
      split
      · rename_i a ha
        obtain ⟨h1, h2⟩ := hs a (List.mem_of_getElem? ha)
        unfold arFs
        rw [List.length_map]
        exact arcE_len _ _ _ h1 h2
      · exact Nat.zero_le _
    rw [netTo, List.length_append]
    omega
/-- Where a row of numbers lies: not beyond the heap, whatever its length. -/
theorem row_place' {w : World} {base c : Nat} {e : TypeId} {A : Option Addr} {l : List Int} (P : Nat) (hP : P < w.heap.size) (h : w.ownsRow base e 1 (.slice A l.length c) l.length (l.map (.int .i64))) :
    ∃ g, g < w.heap.size ∧ (g = P ∨ base ≤ g) ∧ (0 < l.length → A = some ⟨g, 0, none⟩) ∧ ∀ q, q < l.length → w.cell? ⟨g, q, none⟩ = some (.int .i64 (l[q]?.getD 0)) := by
  obtain ⟨g, h1, h2, h3⟩ := row_place h
  by_cases h0 : 0 < l.length
  · exact ⟨g, (h2 h0).2, .inr h1, fun _ => (h2 h0).1, h3⟩
  · exact ⟨P, hP, .inl rfl, fun hh => absurd hh h0, fun q hq => absurd hq (by omega)⟩

end Go.Proofs.Ytceceomaheobhaa.net

/- slices.Concat of lists of violations. -/
namespace Go.Proofs.Ytceceomaheobhaa.cat
open Go.RowKit
open Go.Proofs.Ytceceomaheobhaa.lib Go.Proofs.Ytceceomaheobhaa.rd Go.Proofs.Ytceceomaheobhaa.typ Go.Proofs.Ytceceomaheobhaa.app Go.Proofs.Ytceceomaheobhaa.flts Go.Proofs.Ytceceomaheobhaa.note
set_option linter.unusedVariables false
set_option linter.unusedSimpArgs false

/-- 'append(nil, make([]Fault, n)...)'. -/
theorem wpList_zeros {ops : Array Oper} {rest : List Oper} {o : Oper} {a : Act} {Q : Exit → Act → World → Prop} {w : World} (hgd : o.guard = none) (s x : Operand)
    (ho : o.op = .call { callee := .builtin .append, args := #[s, x], argTypes := #[77, 3] }) (n : Nat) (h0 : 0 < n) (hn : n ≤ 1000000) (hs : a.eval s = .slice none 0 0) (hx : a.eval x = .int .i64 n)
    (h : ∀ c w', n ≤ c → w'.ownsRow w.heap.size 113 2 (.slice (some ⟨w.heap.size, 0, none⟩) 0 c) 0 [] → Below w.heap.size w w' → wpList Try.prog ops Q rest (a.put o.dst (.slice (some ⟨w.heap.size, 0, none⟩) n c)) w') : wpList Try.prog ops Q (o :: rest) a w := by
  refine wpList_plain hgd fun _ hK => ?_
  obtain ⟨i0, hi, hz0, hz1, hz2⟩ := info_parts fault_elem.info
  have hr := Lib.run_append_nil_zeros (P := Try.prog) w 77 3 o.type 113 i0 (.agg #[.int .i64 0, .string ⟨#[]⟩]) .i64 .i64 Try.underlying77 Try.underlying3 hi hz0 n h0 (by omega) (by omega) (by rw [hz2]; omega)
  unfold Oper.wp execOp
  simp only [ho, resolve, invoke, builtin, Sem.run_bind, Sem.run_pure, Result.andThen_ok, List.map_toArray, List.map_cons, List.map_nil, hs, hx, hr]
  have hge := grownCap_ge w n 0 113
  refine hK _ _ (h _ _ hge ⟨rfl, .inr ⟨w.heap.size, grownCap w n 0 113, _, rfl, Nat.le_refl _, World.alloc_heap_new w.drew _, Nat.zero_le _, grownCap_le_maxLen w n 0 _ (by unfold maxLen; omega), ?_, by simp⟩⟩ ?_)
  · rw [Array.size_append, size_zeroCells, size_zeroCells]
    simp [Value.cells]
    omega
  · exact ((Below.refl _ _).drew).alloc (Nat.le_refl _) _
def GrowOut (w : World) (e : Ending) (w' : World) : Prop := ∃ A c, e = .returned (.slice A 0 c) ∧ w'.ownsRow w.heap.size 113 2 (.slice A 0 c) 0 [] ∧ Below w.heap.size w w'
/-- Lists of violations in memory. -/
def FRows (w : World) (B : Nat) (A : Option Addr) (fss : List (List Flt)) : Prop :=
  ∀ (i : Nat) fs, fss[i]? = some fs → ∃ ad Ai ci, A = some ad ∧ ad.block < B ∧ w.cell? (ad.add i) = some (.slice Ai fs.length ci) ∧ Reads w B 2 Ai fs.length (fcs fs)
theorem FRows.below {w w' : World} {B : Nat} {A : Option Addr} {fss : List (List Flt)} (h : FRows w B A fss) (hb : Below B w w') : FRows w' B A fss := fun i fs hi => by
  obtain ⟨ad, Ai, ci, h1, h2, h3, h4⟩ := h i fs hi
  exact ⟨ad, Ai, ci, h1, h2, (hb.cell (by rw [block_of_add]; exact h2)).trans h3, h4.below hb⟩
def catL (fss : List (List Flt)) (k : Nat) : List Flt := (fss.take k).flatten
theorem catL_succ {fss : List (List Flt)} {k : Nat} {fs : List Flt} (h : fss[k]? = some fs) : catL fss (k + 1) = catL fss k ++ fs := by
  obtain ⟨h1, h2⟩ := List.getElem?_eq_some_iff.1 h
  unfold catL
  rw [List.take_succ_eq_append_getElem h1, h2, List.flatten_append]
  simp
theorem catL_le (fss : List (List Flt)) (k : Nat) : (catL fss k).length ≤ (catL fss fss.length).length := by
  have h : catL fss fss.length = (fss.take k).flatten ++ (fss.drop k).flatten := by unfold catL; rw [← List.flatten_append, List.take_append_drop, List.take_length]
  rw [h, List.length_append]
  exact Nat.le_add_right _ _
theorem catL_all (fss : List (List Flt)) : catL fss fss.length = fss.flatten := by unfold catL; rw [List.take_length]
theorem fcs_one (fs : List Flt) : ∀ u ∈ fcs fs, u.oneCell' = true := fun u hu => by
  unfold fcs at hu
  rw [List.mem_flatMap] at hu
  obtain ⟨f, _, hf⟩ := hu
  simp at hf
  rcases hf with rfl | rfl <;> rfl
theorem fcs_append (a b : List Flt) : fcs (a ++ b) = fcs a ++ fcs b := by simp [fcs]
end Go.Proofs.Ytceceomaheobhaa.cat

/- Instances: where they lie; the sets of all orders and of those that must be served. -/
namespace Go.Proofs.Ytceceomaheobhaa.ins
open Go.RowKit
open Go.Proofs.Ytceceomaheobhaa.lib Go.Proofs.Ytceceomaheobhaa.rd Go.Proofs.Ytceceomaheobhaa.typ Go.Proofs.Ytceceomaheobhaa.sch Go.Proofs.Ytceceomaheobhaa.sets
set_option linter.unusedVariables false
set_option linter.unusedSimpArgs false

/-- Where an instance's lists lie. -/
structure InP where
  a0 : Option Addr
  c0 : Nat
  a1 : Option Addr
  c1 : Nat
  a2 : Option Addr
  c2 : Nat
  a3 : Option Addr
  c3 : Nat
  a4 : Option Addr
  c4 : Nat
  a5 : Option Addr
  c5 : Nat
abbrev InV (x : Ins) (P : InP) : Value := .agg #[.slice P.a0 x.net.places.length P.c0, .slice P.a1 x.net.arcs.length P.c1, .slice P.a2 x.types.length P.c2, .slice P.a3 x.orders.length P.c3, .slice P.a4 x.apart.length P.c4, .slice P.a5 x.before.length P.c5]
structure InAt (w : World) (B : Nat) (x : Ins) (P : InP) : Prop where
  places : RowAt rStr w B P.a0 x.net.places
  arcs : RowAt rArc w B P.a1 x.net.arcs
  types : RowAt rTy w B P.a2 x.types
  orders : RowAt rOrd w B P.a3 x.orders
  apart : RowAt (rPair rInt rInt) w B P.a4 x.apart
  before : RowAt (rPair rInt rInt) w B P.a5 x.before
  capT : x.types.length ≤ P.c2
  capO : x.orders.length ≤ P.c3
  capA : x.apart.length ≤ P.c4
  capB : x.before.length ≤ P.c5
theorem InAt.below {w w' : World} {B : Nat} {x : Ins} {P : InP} (h : InAt w B x P) (hb : Below B w w') : InAt w' B x P := ⟨h.1.below hb, h.2.below hb, h.3.below hb, h.4.below hb, h.5.below hb, h.6.below hb, h.7, h.8, h.9, h.10⟩
theorem InAt.more {w : World} {B B' : Nat} {x : Ins} {P : InP} (h : InAt w B x P) (hB : B ≤ B') : InAt w B' x P := ⟨h.1.more hB, h.2.more hB, h.3.more hB, h.4.more hB, h.5.more hB, h.6.more hB, h.7, h.8, h.9, h.10⟩
theorem InAt.go {w w' : World} {x : Ins} {P : InP} (h : InAt w w.heap.size x P) (hb : Below w.heap.size w w') : InAt w' w'.heap.size x P := (h.below hb).more hb.size

def allP (o : Ord) : Bool := !o.off
def mustP (o : Ord) : Bool := !o.off && (o.penalty == -1)
theorem mustP_all (o : Ord) (h : mustP o = true) : allP o = true := by unfold mustP at h; unfold allP; simp only [Bool.and_eq_true] at h; exact h.1
theorem wrap_p2 {k : Nat} (h2 : p2 k ≤ 2305843009213693952) : wrap64 (2 ^ k) = (p2 k : Int) := by
  have e : ((2 : Int) ^ k) = (p2 k : Int) := by rw [p2_eq]; simp
  rw [e]
  generalize p2 k = z at *
  unfold wrap64
  omega
theorem or_small {s k : Nat} (h1 : s < p2 k) (h2 : p2 k ≤ 2305843009213693952) : bits .or .i64 (s : Int) (wrap64 (2 ^ k)) = ((s ||| p2 k : Nat) : Int) := by
  rw [wrap_p2 h2]
  generalize p2 k = z at *
  exact or_nat s z (by omega) (by omega)
theorem allF_any (o : Ord) (b : Bool) (C : Option Addr) (c : Nat) (w : World) : Calls Try.prog 64 #[.agg #[.string o.name, .slice C o.load.length c, .int .i64 o.pick.place, .int .i64 o.pick.opn, .int .i64 o.pick.close, .int .i64 o.pick.service, .int .i64 o.drop.place, .int .i64 o.drop.opn, .int .i64 o.drop.close, .int .i64 o.drop.service, .int .i64 o.skills, .int .i64 o.penalty, .int .i64 o.split, .int .i64 o.last, .int .i64 o.now, .bool b]] w fun e w' => e = .returned (.bool true) ∧ Below w.heap.size w w' := by
  go_enter Try.func64, Try.ntmps64
  go_wp2
  go_ret
  exact ⟨rfl, (Below.refl _ _).alloc (Nat.le_refl _) _⟩
set_option maxHeartbeats 2000000 in
theorem allSuch_any (x : Ins) (P : InP) (w : World) (h : InAt w w.heap.size x P) (hl : x.orders.length ≤ 61) :
    Calls Try.prog 63 #[InV x P, .func (.func 64) #[] #[]] w fun e w' => e = .returned (.int .i64 (suchN allP x.orders x.orders.length)) ∧ Below w.heap.size w w' := by
  obtain ⟨a0, c0, a1, c1, a2, c2, a3, c3, a4, c4, a5, c5⟩ := P
  have hL := h.orders
  obtain ⟨n, hn⟩ : ∃ n, x.orders.length = n := ⟨_, rfl⟩
  obtain ⟨l, hxl⟩ : ∃ l, x.orders = l := ⟨_, rfl⟩
  have HN : Hid (l.length = n) := Lib.hid (by rw [← hxl]; exact hn)
  rw [hn] at hl
  simp only [InV]
  rw [hn]
  rw [hxl] at hL ⊢
  clear hn hxl h
  go_enter Try.func63, Try.ntmps63
  go_wp2
  go_loopw [5, 6, 7, 11] (fun v _ _ i wr => ∃ k : Nat, k ≤ n ∧ i = .int .i64 k ∧ v = .int .i64 (suchN allP l k) ∧ Below w.heap.size w wr) (fun _ _ _ i _ => n - (intOf i).toNat)
  case atStart => exact ⟨0, by omega, rfl, by rw [such_zero]; rfl, by repeat (first | assumption | exact Below.refl _ _ | refine Below.drew ?_ | refine Below.alloc ?_ (by first | omega | (simp <;> omega)) _ | refine Below.setCell ?_ (by first | omega | (simp <;> omega)) _)⟩
  case round =>
    obtain ⟨k, hk, rfl, rfl, hb⟩ := hrel
    have hz := hb.size
    by_cases hlt : k < n
    · obtain ⟨o, ho⟩ : ∃ o, l[k]? = some o := ⟨_, List.getElem?_eq_getElem (by rw [HN.out]; exact hlt)⟩
      obtain ⟨ad, C0, c0, rfl, hadb, ⟨m0, m1, m2, m3, m4, m5, m6, m7, m8, m9, m10, m11, m12, m13, m14, m15⟩, _, _⟩ := row_Ord (hL.below hb) ho
      have hk0 : (0 : Int) ≤ (k : Int) := by omega
      have hkn : (k : Int) < (n : Int) := by omega
      have HB := Lib.hid (such_lt allP l k)
      have HY : Hid (allP o = true → suchN allP l (k + 1) = suchN allP l k ||| p2 k) := Lib.hid (fun hp => such_yes ho hp)
      have HNO : Hid (allP o = false → suchN allP l (k + 1) = suchN allP l k) := Lib.hid (fun hp => such_no ho hp)
      obtain ⟨s, hs⟩ : ∃ s, suchN allP l k = s := ⟨_, rfl⟩
      rw [hs] at HB HY HNO
      simp only [hs]
      have hpw := p2_le (k := k) (by omega)
      have HS : Hid (bits .or .i64 (s : Int) (wrap64 (2 ^ k)) = ((s ||| p2 k : Nat) : Int)) := Lib.hid (or_small HB.out hpw)
      clear ho hs
      cases hoff : o.off
      case false =>
        have HF : Hid (suchN allP l (k + 1) = s ||| p2 k) := Lib.hid (HY.out (by unfold allP; rw [hoff]; rfl))
        go_wp2_with (go_at_call 64; refine (allF_any o false _ _ _).mono ?_; rintro e w1 ⟨rfl, hb1⟩)
        go_roundw
        case rel => exact ⟨k + 1, by omega, by go_num, by first | (rw [HF.out]; done) | rw [HF.out, ← HS.out], (hb.alloc hz _).trans (hb1.mono (by simp; omega))⟩
        case measure => simp [intOf]; omega
      case true =>
        have HF : Hid (suchN allP l (k + 1) = s) := Lib.hid (HNO.out (by unfold allP; rw [hoff]; rfl))
        go_wp2
        go_roundw
        case rel => exact ⟨k + 1, by omega, by go_num, by rw [HF.out], hb.alloc hz _⟩
        case measure => simp [intOf]; omega
    · have hkn : k = n := by omega
      subst hkn
      go_wp2
      go_ret
      exact ⟨rfl, hb⟩
theorem all_any (x : Ins) (P : InP) (w : World) (h : InAt w w.heap.size x P) (hl : x.orders.length ≤ 61) :
    Calls Try.prog 40 #[InV x P] w fun e w' => e = .returned (.int .i64 (suchN allP x.orders x.orders.length)) ∧ Below w.heap.size w w' := by
  have H : Hid (∀ o, Calls Try.prog 63 #[InV x P, .func (.func 64) #[] #[]] (w.alloc o) fun e w' => e = .returned (.int .i64 (suchN allP x.orders x.orders.length)) ∧ Below (w.alloc o).heap.size (w.alloc o) w') := Lib.hid fun o => allSuch_any x P _ (h.go ((Below.refl _ _).alloc (Nat.le_refl _) _)) hl
  clear h hl
  go_enter Try.func40, Try.ntmps40
  go_wp2_with fail
  refine (H.out _).mono ?_
  rintro e w1 ⟨rfl, hb1⟩
  go_wp2
  go_ret
  exact ⟨rfl, ((Below.refl _ _).alloc (Nat.le_refl _) _).trans (hb1.mono (by simp))⟩
end Go.Proofs.Ytceceomaheobhaa.ins

/- Small instances. -/
namespace Go.Proofs.Ytceceomaheobhaa.ins
open Go.RowKit
open Go.Proofs.Ytceceomaheobhaa.lib Go.Proofs.Ytceceomaheobhaa.rd Go.Proofs.Ytceceomaheobhaa.typ
set_option linter.unusedVariables false
set_option linter.unusedSimpArgs false

structure SmallI (x : Ins) : Prop where
  places : x.net.places.length ≤ 12
  arcs : x.net.arcs.length ≤ 60
  types : x.types.length ≤ 8
  orders : x.orders.length ≤ 12
  apart : x.apart.length ≤ 24
  before : x.before.length ≤ 24
  arc : ∀ a ∈ x.net.arcs, a.travel.length ≤ 20 ∧ a.slow.length ≤ 20
  type : ∀ t ∈ x.types, t.cap.length ≤ 6
  order : ∀ o ∈ x.orders, o.load.length ≤ 6
def SmallOut (x : Ins) (w : World) (e : Ending) (w' : World) : Prop := ∃ b : Bool, e = .returned (.bool b) ∧ (b = true → SmallI x) ∧ Below w.heap.size w w'
def allTo {X : Type} (p : X → Prop) (l : List X) (k : Nat) : Prop := ∀ (j : Nat) o, j < k → l[j]? = some o → p o
theorem allTo_zero {X : Type} {p : X → Prop} {l : List X} : allTo p l 0 := fun j o hj => absurd hj (by omega)
theorem allTo_step {X : Type} {p : X → Prop} {l : List X} {k : Nat} {o : X} (h : allTo p l k) (ho : l[k]? = some o) (hs : p o) : allTo p l (k + 1) := by
  intro j x hj hx
  rcases Nat.lt_or_ge j k with h1 | h1
  · exact h j x h1 hx
  · obtain rfl : j = k := by omega
    rw [ho] at hx
    cases hx
    exact hs
theorem allTo_all {X : Type} {p : X → Prop} {l : List X} {n : Nat} (hn : l.length = n) (h : allTo p l n) : ∀ x ∈ l, p x := fun x hx => by
  obtain ⟨j, hj, rfl⟩ := List.getElem_of_mem hx
  exact h j _ (by omega) (List.getElem?_eq_getElem hj)

end Go.Proofs.Ytceceomaheobhaa.ins

/- Equal lists of texts, pairs, points; the same arcs. -/
namespace Go.Proofs.Ytceceomaheobhaa.ins
open Go.RowKit
open Go.Proofs.Ytceceomaheobhaa.lib Go.Proofs.Ytceceomaheobhaa.rd Go.Proofs.Ytceceomaheobhaa.typ Go.Proofs.Ytceceomaheobhaa.eqg Go.Proofs.Ytceceomaheobhaa.note
set_option linter.unusedVariables false
set_option linter.unusedSimpArgs false

def ptEq (x y : Pt) : Bool := x.t == y.t && x.a == y.a
theorem ptEq_comm (x y : Pt) : ptEq x y = ptEq y x := by unfold ptEq; rw [int_comm x.t, int_comm x.a]
theorem ptEq_self (x : Pt) : ptEq x x = true := by unfold ptEq; simp
theorem ptcase (x y : Pt) : (Hid (ptEq x y = false) ∧ (x.t == y.t) = false ∧ (x.t != y.t) = true) ∨ (Hid (ptEq x y = false) ∧ x.t = y.t ∧ (x.a == y.a) = false) ∨ (Hid (ptEq x y = true) ∧ x.t = y.t ∧ x.a = y.a) := by
  by_cases h1 : x.t = y.t
  · by_cases h2 : x.a = y.a
    · exact .inr (.inr ⟨Lib.hid (by simp [ptEq, h1, h2]), h1, h2⟩)
    · exact .inr (.inl ⟨Lib.hid (by simp [ptEq, h2]), h1, by simp [h2]⟩)
  · exact .inl ⟨Lib.hid (by simp [ptEq, h1]), by simp [h1], by simp [h1]⟩
theorem two_run (x y : Int × Int) (w : World) : (Op.equalIn 10000 76 (.agg #[.int .i64 x.1, .int .i64 x.2]) (.agg #[.int .i64 y.1, .int .i64 y.2])).run Try.prog w = .ok (twoEq x y) w := by
  obtain ⟨i0, hi, _⟩ := info_parts int_info
  have h := arr.run_eq_ints (t := 76) w 9998 Try.underlying76 hi [x.1, x.2] [y.1, y.2] rfl rfl
  have e : decide ([x.1, x.2] = [y.1, y.2]) = twoEq x y := by
    unfold twoEq
    rw [Bool.eq_iff_iff]
    simp
  rw [e] at h
  exact h

set_option maxHeartbeats 1000000 in
theorem rpairs_any (A : Option Addr) (c : Nat) (a : List _) (n : Nat) (hn : a.length = n) (A' : Option Addr) (c' : Nat) (b : List _) (m : Nat) (hm : b.length = m) (w : World) (B B' : Nat) (hB : B ≤ w.heap.size) (hB' : B' ≤ w.heap.size) (ha : RowAt (rPair rInt rInt) w B A a) (hb : RowAt (rPair rInt rInt) w B' A' b) :
    Calls Try.prog 58 #[.slice A n c, .slice A' m c'] w fun e w' => e = .returned (.bool (eqL twoEq a b)) ∧ Below w.heap.size w w' := by
  have hlen := ha.len
  rw [hn] at hlen
  by_cases h : n = m
  · subst h
    have HN := Lib.hid hn
    have HM := Lib.hid hm
    have HG := Lib.hid (eqL_go (p := twoEq) (hn.trans hm.symm))
    clear hn hm
    go_enter Try.func58, Try.ntmps58
    go_wp2
    go_loopw [5] (fun i wr => ∃ k : Nat, k ≤ n ∧ i = .int .i64 k ∧ Hid (eqL twoEq a b = eqGo twoEq (a.drop k) (b.drop k)) ∧ Below w.heap.size w wr) (fun i _ => n - (intOf i).toNat)
    case atStart => exact ⟨0, by omega, rfl, HG, Below.refl _ _⟩
    case round =>
      obtain ⟨k, hk, rfl, hr, hbel⟩ := hrel
      by_cases hlt : k < n
      · obtain ⟨x, hx⟩ : ∃ x, a[k]? = some x := ⟨_, List.getElem?_eq_getElem (by rw [HN.out]; exact hlt)⟩
        obtain ⟨y, hy⟩ : ∃ y, b[k]? = some y := ⟨_, List.getElem?_eq_getElem (by rw [HM.out]; exact hlt)⟩
        obtain ⟨ad, rfl, hadb, ⟨m0, m1⟩, _⟩ := row_Two (ha.below (hbel.mono hB)) hx
        obtain ⟨ad', rfl, hadb', ⟨k0, k1⟩, _⟩ := row_Two (hb.below (hbel.mono hB')) hy
        have HX := Lib.hid (eqGo_step (p := twoEq) hx hy)
        have hk0 : (0 : Int) ≤ (k : Int) := by omega
        have hkn : (k : Int) < (n : Int) := by omega
        clear hx hy
        have heq := two_run x y
        obtain ⟨q, hq⟩ : ∃ q, twoEq x y = q := ⟨_, rfl⟩
        have HP := Lib.hid hq
        rw [hq] at heq
        clear hq
        cases q
        all_goals go_wp2
        all_goals go_quiet (fail)
        all_goals go_wp2
        all_goals first
          | (go_ret; exact ⟨ret_bool (by rw [hr.out, HX.out, HP.out]; rfl), bel_drewN hbel _⟩)
          | skip
        go_roundw
        case rel => exact ⟨k + 1, by omega, by go_num, Lib.hid (by rw [hr.out, HX.out, HP.out, Bool.true_and]), bel_drewN hbel _⟩
        case measure => simp [intOf]; omega
      · have hkn : k = n := by omega
        subst hkn
        clear hlt
        go_wp2
        go_ret
        exact ⟨ret_bool (by rw [hr.out, eqGo_end (by rw [HN.out]; exact Nat.le_refl _)]), hbel⟩
  · have hd2 : ((n : Int) == (m : Int)) = false := by simp; omega
    have hd3 : ((n : Int) != (m : Int)) = true := by simp; omega
    have HD : Hid (eqL twoEq a b = false) := Lib.hid (eqL_no (by omega))
    clear h hn hm
    go_enter Try.func58, Try.ntmps58
    go_wp2
    go_ret
    exact ⟨ret_bool (by rw [HD.out]), Below.refl _ _⟩
set_option maxHeartbeats 1000000 in
theorem rpoints_any (A : Option Addr) (c : Nat) (a : List _) (n : Nat) (hn : a.length = n) (A' : Option Addr) (c' : Nat) (b : List _) (m : Nat) (hm : b.length = m) (w : World) (B B' : Nat) (hB : B ≤ w.heap.size) (hB' : B' ≤ w.heap.size) (ha : RowAt rPt w B A a) (hb : RowAt rPt w B' A' b) :
    Calls Try.prog 74 #[.slice A n c, .slice A' m c'] w fun e w' => e = .returned (.bool (eqL ptEq a b)) ∧ Below w.heap.size w w' := by
  have hlen := ha.len
  rw [hn] at hlen
  by_cases h : n = m
  · subst h
    have HN := Lib.hid hn
    have HM := Lib.hid hm
    have HG := Lib.hid (eqL_go (p := ptEq) (hn.trans hm.symm))
    clear hn hm
    go_enter Try.func74, Try.ntmps74
    go_wp2
    go_loopw [5] (fun i wr => ∃ k : Nat, k ≤ n ∧ i = .int .i64 k ∧ Hid (eqL ptEq a b = eqGo ptEq (a.drop k) (b.drop k)) ∧ Below w.heap.size w wr) (fun i _ => n - (intOf i).toNat)
    case atStart => exact ⟨0, by omega, rfl, HG, Below.refl _ _⟩
    case round =>
      obtain ⟨k, hk, rfl, hr, hbel⟩ := hrel
      by_cases hlt : k < n
      · obtain ⟨x, hx⟩ : ∃ x, a[k]? = some x := ⟨_, List.getElem?_eq_getElem (by rw [HN.out]; exact hlt)⟩
        obtain ⟨y, hy⟩ : ∃ y, b[k]? = some y := ⟨_, List.getElem?_eq_getElem (by rw [HM.out]; exact hlt)⟩
        obtain ⟨ad, rfl, hadb, ⟨m0, m1⟩, _⟩ := row_Pt (ha.below (hbel.mono hB)) hx
        obtain ⟨ad', rfl, hadb', ⟨k0, k1⟩, _⟩ := row_Pt (hb.below (hbel.mono hB')) hy
        have HX := Lib.hid (eqGo_step (p := ptEq) hx hy)
        have hk0 : (0 : Int) ≤ (k : Int) := by omega
        have hkn : (k : Int) < (n : Int) := by omega
        clear hx hy
        rcases ptcase x y with ⟨HP, e1, e2⟩ | ⟨HP, e1, e2⟩ | ⟨HP, e1, e2⟩
        all_goals go_wp2
        all_goals go_quiet (fail)
        all_goals go_wp2
        all_goals first
          | (go_ret; exact ⟨ret_bool (by rw [hr.out, HX.out, HP.out]; rfl), bel_drewN hbel _⟩)
          | skip
        go_roundw
        case rel => exact ⟨k + 1, by omega, by go_num, Lib.hid (by rw [hr.out, HX.out, HP.out, Bool.true_and]), bel_drewN hbel _⟩
        case measure => simp [intOf]; omega
      · have hkn : k = n := by omega
        subst hkn
        clear hlt
        go_wp2
        go_ret
        exact ⟨ret_bool (by rw [hr.out, eqGo_end (by rw [HN.out]; exact Nat.le_refl _)]), hbel⟩
  · have hd2 : ((n : Int) == (m : Int)) = false := by simp; omega
    have hd3 : ((n : Int) != (m : Int)) = true := by simp; omega
    have HD : Hid (eqL ptEq a b = false) := Lib.hid (eqL_no (by omega))
    clear h hn hm
    go_enter Try.func74, Try.ntmps74
    go_wp2
    go_ret
    exact ⟨ret_bool (by rw [HD.out]), Below.refl _ _⟩
end Go.Proofs.Ytceceomaheobhaa.ins

/- The same arcs; lists of arcs, types, orders that are the same. -/
namespace Go.Proofs.Ytceceomaheobhaa.ins
open Go.RowKit
open Go.Proofs.Ytceceomaheobhaa.lib Go.Proofs.Ytceceomaheobhaa.rd Go.Proofs.Ytceceomaheobhaa.typ Go.Proofs.Ytceceomaheobhaa.eqg
set_option linter.unusedVariables false
set_option linter.unusedSimpArgs false

def sameA (a b : Arc) : Bool := (a.frm == b.frm) && ((a.to == b.to) && ((a.profile == b.profile) && ((a.miles == b.miles) && (eqL ptEq a.travel b.travel && eqL ptEq a.slow b.slow))))
theorem sameA_comm (a b : Arc) : sameA a b = sameA b a := by unfold sameA; rw [int_comm a.frm, int_comm a.to, int_comm a.profile, int_comm a.miles, eqL_comm ptEq_comm a.travel, eqL_comm ptEq_comm a.slow]
theorem sameA_self (a : Arc) : sameA a a = true := by unfold sameA; rw [eqL_self ptEq_self, eqL_self ptEq_self]; simp
theorem Ints.go {w w' : World} {B : Nat} {A : Option Addr} {l : List Int} (h : Ints w B A l) (hB : B ≤ w.heap.size) (hb : Below w.heap.size w w') : Ints w' w'.heap.size A l := ((h.more hB).below hb).more hb.size
theorem rows_go {X : Type} {r : Rd X} {w w' : World} {B : Nat} {A : Option Addr} {l : List X} (h : RowAt r w B A l) (hB : B ≤ w.heap.size) (hb : Below w.heap.size w w') : RowAt r w' w'.heap.size A l := ((h.more hB).below hb).more hb.size
end Go.Proofs.Ytceceomaheobhaa.ins

/- Lists of orders that are the same. -/
namespace Go.Proofs.Ytceceomaheobhaa.ins
open Go.RowKit
open Go.Proofs.Ytceceomaheobhaa.lib Go.Proofs.Ytceceomaheobhaa.rd Go.Proofs.Ytceceomaheobhaa.typ Go.Proofs.Ytceceomaheobhaa.eqg Go.Proofs.Ytceceomaheobhaa.ord
set_option linter.unusedVariables false
set_option linter.unusedSimpArgs false

end Go.Proofs.Ytceceomaheobhaa.ins

/- The same instances: the program. -/
namespace Go.Proofs.Ytceceomaheobhaa.ins
open Go.RowKit
open Go.Proofs.Ytceceomaheobhaa.lib Go.Proofs.Ytceceomaheobhaa.rd Go.Proofs.Ytceceomaheobhaa.typ Go.Proofs.Ytceceomaheobhaa.eqg Go.Proofs.Ytceceomaheobhaa.note
set_option linter.unusedVariables false
set_option linter.unusedSimpArgs false

def sameI (a b : Ins) : Bool := eqL sameS a.net.places b.net.places && (eqL sameA a.net.arcs b.net.arcs && (eqL flt.sameT a.types b.types && (eqL ord.sameO a.orders b.orders && (eqL twoEq a.apart b.apart && (eqL twoEq a.before b.before)))))
end Go.Proofs.Ytceceomaheobhaa.ins

/- instance.Check: the violations of an instance. -/
namespace Go.Proofs.Ytceceomaheobhaa.ins
open Go.RowKit
open Go.Proofs.Ytceceomaheobhaa.lib Go.Proofs.Ytceceomaheobhaa.rd Go.Proofs.Ytceceomaheobhaa.typ Go.Proofs.Ytceceomaheobhaa.app Go.Proofs.Ytceceomaheobhaa.flts Go.Proofs.Ytceceomaheobhaa.note Go.Proofs.Ytceceomaheobhaa.txt Go.Proofs.Ytceceomaheobhaa.und Go.Proofs.Ytceceomaheobhaa.cat Go.Proofs.Ytceceomaheobhaa.rul Go.Proofs.Ytceceomaheobhaa.net
set_option linter.unusedVariables false
set_option linter.unusedSimpArgs false

/-- Violations of a common size. -/
def OkE (E : List Int) : Prop := ∀ e ∈ E, -100 ≤ e ∧ e ≤ 100
def OkF (fs : List Flt) : Prop := ∀ f ∈ fs, (-100 ≤ f.err ∧ f.err ≤ 100) ∧ f.at_.size ≤ 1000
theorem OkE.nil : OkE [] := fun e h => by cases h
theorem OkE.push {xs : List Int} {r : Bool} {u : Int} (h : OkE xs) (hu : -100 ≤ u ∧ u ≤ 100) : OkE (pushIf xs r u) := fun e he => by
  rcases pushIf_mem he with h1 | rfl
  · exact h e h1
  · exact hu
theorem OkE.append {xs ys : List Int} (h : OkE xs) (h' : OkE ys) : OkE (xs ++ ys) := fun e he => by
  rcases List.mem_append.1 he with h1 | h1
  · exact h e h1
  · exact h' e h1
theorem OkF.nil : OkF [] := fun e h => by cases h
theorem OkF.append {xs ys : List Flt} (h : OkF xs) (h' : OkF ys) : OkF (xs ++ ys) := fun e he => by
  rcases List.mem_append.1 he with h1 | h1
  · exact h e h1
  · exact h' e h1
theorem OkF.one {e : Int} {s : ByteArray} (h : -100 ≤ e ∧ e ≤ 100) (hs : s.size ≤ 1000) : OkF [⟨e, s⟩] := fun f hf => by
  rw [List.mem_singleton] at hf
  subst hf
  exact ⟨h, hs⟩
theorem OkF.of {E : List Int} {s : ByteArray} (h : OkE E) (hs : s.size ≤ 1000) : OkF (E.map fun e => ⟨e, s⟩) := fun f hf => by
  obtain ⟨e, he, rfl⟩ := List.mem_map.1 hf
  exact ⟨h e he, hs⟩
theorem OkF.fits {fs : List Flt} (h : OkF fs) : ∀ f ∈ fs, FltFits f := fun f hf => by
  obtain ⟨⟨h1, h2⟩, h3⟩ := h f hf
  unfold FltFits
  omega
theorem dec_sz (n : Nat) : (decS n).size ≤ 1000 := Nat.le_trans (decS_size n) (by decide)
theorem OkF.mk {i : Nat} {E : List Int} (h : OkE E) : OkF (mkF i E) := OkF.of h (dec_sz i)
theorem tvTo_ok (l : List Pt) : ∀ j, OkF (trv.tvTo l j)
  | 0 => by
    unfold trv.tvTo
    split
    · exact OkF.one (by decide) (by decide)
    · exact OkF.nil
  | j + 1 => by
    rw [trv.tvTo]
    refine (tvTo_ok l j).append ?_
    unfold trv.tvAt
    split
    · unfold trv.tvP
      refine OkF.append ?_ ?_
      all_goals
        split
        · exact OkF.one (by decide) (dec_sz j)
        · exact OkF.nil
    · exact OkF.nil
theorem slTo_ok (l : List Pt) : ∀ j, OkE (slTo l j)
  | 0 => by
    unfold slTo
    split
    · intro e he; simp at he; omega
    · exact OkE.nil
  | j + 1 => by
    rw [slTo]
    refine (slTo_ok l j).append ?_
    unfold slAt
    split
    · unfold slP
      split
      · intro e he; simp at he; omega
      · exact OkE.nil
    · exact OkE.nil
theorem arcE_ok (P : Int) (ks : List (Int × Int × Int)) (x : Arc) : OkE (arcE P ks x) := by
  unfold arcE
  refine ((((OkE.nil.push ?_).push ?_).push ?_).append ?_).append (slTo_ok _ _)
  · decide
  · decide
  · decide
  · intro e he
    obtain ⟨f, hf, rfl⟩ := List.mem_map.1 he
    exact (tvTo_ok _ _ f hf).1
theorem plc_sz (i : Nat) : (plcS i).size ≤ 1000 := by
  have := decS_size i
  unfold plcS
  rw [ByteArray.size_append]
  exact Nat.le_trans (Nat.add_le_add_left this _) (by decide)
theorem arc_sz (i : Nat) : (arcS i).size ≤ 1000 := by
  have := decS_size i
  unfold arcS
  rw [ByteArray.size_append]
  exact Nat.le_trans (Nat.add_le_add_left this _) (by decide)
theorem plTo_ok (l : List ByteArray) : ∀ j, OkF (plTo l j)
  | 0 => by
    unfold plTo
    split
    · exact OkF.one (by decide) (by decide)
    · exact OkF.nil
  | j + 1 => by
    rw [plTo]
    refine (plTo_ok l j).append ?_
    unfold plAt
    split
    · unfold plP
      split
      · split
        · exact OkF.one (by decide) (plc_sz j)
        · exact OkF.nil
      · exact OkF.one (by decide) (plc_sz j)
    · exact OkF.nil
theorem netTo_ok (n : Net) : ∀ j, OkF (netTo n j)
  | 0 => by
    unfold netTo
    refine (plTo_ok _ _).append ?_
    split
    · exact OkF.one (by decide) (by decide)
    · exact OkF.nil
  | j + 1 => by
    rw [netTo]
    refine (netTo_ok n j).append ?_
    unfold arAt
    split
    · exact OkF.of (arcE_ok _ _ _) (arc_sz j)
    · exact OkF.nil
theorem fltsTo_ok (P : Int) (l : List Ty) : ∀ j, OkF (flt.fltsTo P l j)
  | 0 => by
    unfold flt.fltsTo
    split
    · exact OkF.nil
    · exact OkF.one (by decide) (by decide)
  | j + 1 => by
    rw [flt.fltsTo]
    refine (fltsTo_ok P l j).append ?_
    unfold flt.fltsAt
    split
    · refine OkF.mk (i := j) ?_
      unfold flt.errsL
      repeat (refine OkE.push ?_ (by decide))
      exact OkE.nil
    · exact OkF.nil
theorem ofltsTo_ok (P dims types : Int) (l : List Ord) : ∀ j, OkF (ord.ofltsTo P dims types l j)
  | 0 => by
    unfold ord.ofltsTo
    split
    · exact OkF.nil
    · exact OkF.one (by decide) (by decide)
  | j + 1 => by
    rw [ord.ofltsTo]
    refine (ofltsTo_ok P dims types l j).append ?_
    unfold ord.ofltsAt
    split
    · refine OkF.mk (i := j) ?_
      unfold ord.errsO
      repeat (refine OkE.push ?_ (by decide))
      exact OkE.nil
    · exact OkF.nil
theorem at_sz (word : ByteArray) (hw : word.size ≤ 900) (i : Nat) : (atS word i).size ≤ 1000 := by
  have := decS_size i
  unfold atS
  rw [ByteArray.size_append, ByteArray.size_append]
  have h1 : (⟨#[32]⟩ : ByteArray).size = 1 := rfl
  omega
theorem pairsTo_ok (orders : Int) (word : ByteArray) (hw : word.size ≤ 900) (same : Int × Int → Int × Int → Bool) (l : List (Int × Int)) : ∀ j, OkF (pairsTo orders word same l j)
  | 0 => by
    unfold pairsTo
    split
    · exact OkF.nil
    · exact OkF.one (by decide) (by omega)
  | j + 1 => by
    rw [pairsTo]
    refine (pairsTo_ok orders word hw same l j).append ?_
    unfold pairAt
    split
    · unfold pairP
      split
      · exact OkF.one (by decide) (at_sz word hw j)
      · split
        · exact OkF.one (by decide) (at_sz word hw j)
        · exact OkF.nil
    · exact OkF.nil
theorem rulesF_ok (orders : Int) (a b : List (Int × Int)) : OkF (rulesF orders a b) := (pairsTo_ok _ _ (by decide) _ _ _).append (pairsTo_ok _ _ (by decide) _ _ _)

def netS : ByteArray := ⟨#[110, 101, 116]⟩
def typesS : ByteArray := ⟨#[116, 121, 112, 101, 115]⟩
def ordersS : ByteArray := ⟨#[111, 114, 100, 101, 114, 115]⟩
def rulesS : ByteArray := ⟨#[114, 117, 108, 101, 115]⟩
/-- The violations of an instance. -/
def insN (x : Ins) : List Flt := netTo x.net x.net.arcs.length
def insT (x : Ins) : List Flt := flt.fltsTo ((x.net.places.length : Int) - 1) x.types x.types.length
def insO (x : Ins) : List Flt := ord.ofltsTo ((x.net.places.length : Int) - 1) (flt.dimsN x.types) x.types.length x.orders x.orders.length
def insR (x : Ins) : List Flt := rulesF x.orders.length x.apart x.before
def insF (x : Ins) : List Flt := catL [undL netS (insN x), undL typesS (insT x), undL ordersS (insO x), undL rulesS (insR x)] 4
end Go.Proofs.Ytceceomaheobhaa.ins

/- instance.Check, walked. -/
namespace Go.Proofs.Ytceceomaheobhaa.ins
open Go.RowKit
open Go.Proofs.Ytceceomaheobhaa.lib Go.Proofs.Ytceceomaheobhaa.rd Go.Proofs.Ytceceomaheobhaa.typ Go.Proofs.Ytceceomaheobhaa.app Go.Proofs.Ytceceomaheobhaa.flts Go.Proofs.Ytceceomaheobhaa.note Go.Proofs.Ytceceomaheobhaa.txt Go.Proofs.Ytceceomaheobhaa.und Go.Proofs.Ytceceomaheobhaa.cat Go.Proofs.Ytceceomaheobhaa.rul Go.Proofs.Ytceceomaheobhaa.net
set_option linter.unusedVariables false
set_option linter.unusedSimpArgs false

/-- What Check is proved for. -/
structure Lim (x : Ins) : Prop where
  places : x.net.places.length ≤ 100
  arcs : x.net.arcs.length ≤ 10000
  points : ∀ a ∈ x.net.arcs, a.travel.length ≤ 100 ∧ a.slow.length ≤ 1000
  few : ∀ (j : Nat) a, x.net.arcs[j]? = some a → arcE x.net.places.length ((x.net.arcs.take j).map wayK) a ≠ [] → j < 100
  net : (insN x).length ≤ 200000
  types : x.types.length ≤ 20
  orders : x.orders.length ≤ 20
  apart : x.apart.length ≤ 24
  before : x.before.length ≤ 24
theorem undL_len (word : ByteArray) (fs : List Flt) : (undL word fs).length = fs.length := by unfold undL; rw [List.length_map]
theorem reads_flts {w w' : World} {base c : Nat} {A : Option Addr} {fs : List Flt} (h : Fown w base A c fs) (hb : Below w.heap.size w w') : Reads w' w.heap.size 2 A fs.length (fcs fs) := (Reads.of_own h).below hb

/-- Four rows, in a block written out. -/
theorem four_rows (w : World) {a b c d : List Flt} {A B C D : Option Addr} (ha : Reads w w.heap.size 2 A a.length (fcs a)) (hb : Reads w w.heap.size 2 B b.length (fcs b)) (hc : Reads w w.heap.size 2 C c.length (fcs c)) (hd : Reads w w.heap.size 2 D d.length (fcs d)) (ca cb cc cd : Nat) (t : TypeId) :
    FRows (w.alloc (.cells #[.slice A a.length ca, .slice B b.length cb, .slice C c.length cc, .slice D d.length cd] t)) (w.heap.size + 1) (some ⟨w.heap.size, 0, none⟩) [a, b, c, d] := fun i fs hi => by
  have hn := fun j u hu => World.news_of_block (w := w.alloc (.cells #[.slice A a.length ca, .slice B b.length cb, .slice C c.length cc, .slice D d.length cd] t)) (B := w.heap.size) (heap_alloc_new w _) j u hu
  have hk : ∀ {X : Option Addr} {x : List Flt}, Reads w w.heap.size 2 X x.length (fcs x) → Reads (w.alloc (.cells #[.slice A a.length ca, .slice B b.length cb, .slice C c.length cc, .slice D d.length cd] t)) (w.heap.size + 1) 2 X x.length (fcs x) := fun h => (h.alloc (Nat.le_refl _) _).more (by omega)
  rcases i with _ | _ | _ | _ | i
  · simp at hi
    subst hi
    exact ⟨_, A, ca, rfl, Nat.lt_succ_self _, hn 0 _ rfl, hk ha⟩
  · simp at hi
    subst hi
    exact ⟨_, B, cb, rfl, Nat.lt_succ_self _, hn 1 _ rfl, hk hb⟩
  · simp at hi
    subst hi
    exact ⟨_, C, cc, rfl, Nat.lt_succ_self _, hn 2 _ rfl, hk hc⟩
  · simp at hi
    subst hi
    exact ⟨_, D, cd, rfl, Nat.lt_succ_self _, hn 3 _ rfl, hk hd⟩
  · simp at hi
theorem keepF {w w' : World} {base c : Nat} {A : Option Addr} {fs : List Flt} (h : Fown w base A c fs) (hb : Below w.heap.size w w') : Fown w' base A c fs := own_below h hb
theorem rowF {w : World} {base c : Nat} {A : Option Addr} {fs : List Flt} (h : Fown w base A c fs) : Reads w w.heap.size 2 A fs.length (fcs fs) := Reads.of_own h
end Go.Proofs.Ytceceomaheobhaa.ins

/- Parts of instances: plain words, orders in a row of the call's own. -/
namespace Go.Proofs.Ytceceomaheobhaa.ins
open Go.RowKit
open Go.Proofs.Ytceceomaheobhaa.lib Go.Proofs.Ytceceomaheobhaa.rd Go.Proofs.Ytceceomaheobhaa.typ Go.Proofs.Ytceceomaheobhaa.app Go.Proofs.Ytceceomaheobhaa.els Go.Proofs.Ytceceomaheobhaa.ren Go.Proofs.Ytceceomaheobhaa.ord Go.Proofs.Ytceceomaheobhaa.sets
set_option linter.unusedVariables false
set_option linter.unusedSimpArgs false

theorem ord_elem : ElemOf 35 75 (.agg #[.string ⟨#[]⟩, .slice none 0 0, .int .i64 0, .int .i64 0, .int .i64 0, .int .i64 0, .int .i64 0, .int .i64 0, .int .i64 0, .int .i64 0, .int .i64 0, .int .i64 0, .int .i64 0, .int .i64 0, .int .i64 0, .bool false]) 16 152 := ⟨Try.underlying35, by kernel_rfl, rfl, by decide, by decide⟩
/-- The orders of a set below k. -/
def selO (s : Int) (l : List Ord) : Nat → List Ord
  | 0 => []
  | k + 1 => selO s l k ++ (match l[k]? with
    | some o => if hasN s k = true then [o] else []
    | none => [])
theorem selO_yes {s : Int} {l : List Ord} {k : Nat} {o : Ord} (h : l[k]? = some o) (hb : hasN s k = true) : selO s l (k + 1) = selO s l k ++ [o] := by
  rw [selO, h]
  simp [hb]
theorem selO_no {s : Int} {l : List Ord} {k : Nat} {o : Ord} (h : l[k]? = some o) (hb : hasN s k = false) : selO s l (k + 1) = selO s l k := by
  rw [selO, h]
  simp [hb]
theorem selO_len (s : Int) (l : List Ord) : ∀ k, (selO s l k).length ≤ k
  | 0 => Nat.le_refl _
  | k + 1 => by
    have ih := selO_len s l k
    rw [selO, List.length_append]
    split
    · split <;> simp <;> omega
    · simp; omega
theorem selO_mem {s : Int} {l : List Ord} : ∀ {k : Nat} {o : Ord}, o ∈ selO s l k → o ∈ l
  | 0, o, h => by cases h
  | k + 1, o, h => by
    rw [selO] at h
    rcases List.mem_append.1 h with h | h
    · exact selO_mem h
    · split at h
      · rename_i o' ho
        split at h
        · rw [List.mem_singleton] at h
          subst h
          exact List.mem_of_getElem? ho
        · cases h
      · cases h
/-- The part of an instance. -/
def onlyI (x : Ins) (s : Int) : Ins := ⟨x.net, x.types, selO s x.orders x.orders.length, renL (memTo s x.orders.length) x.apart, renL (memTo s x.orders.length) x.before⟩
def setBad (s : Int) (n : Nat) : Bool := decide (s < 0) || decide (s / 2 ^ n ≠ 0)
def nilI : Ins := ⟨⟨[], []⟩, [], [], [], []⟩
def nilP : InP := ⟨none, 0, none, 0, none, 0, none, 0, none, 0, none, 0⟩
/-- An order's cells but for its load. -/
def ordEl (o : Ord) : El := ⟨[.string o.name], o.load, [.int .i64 o.pick.place, .int .i64 o.pick.opn, .int .i64 o.pick.close, .int .i64 o.pick.service, .int .i64 o.drop.place, .int .i64 o.drop.opn, .int .i64 o.drop.close, .int .i64 o.drop.service, .int .i64 o.skills, .int .i64 o.penalty, .int .i64 o.split, .int .i64 o.last, .int .i64 o.now, .bool o.off]⟩
theorem ordEl_cells (o : Ord) (A : Option Addr) (c : Nat) : (ordEl o).cells A c = OrdCells o A c := rfl
/-- Rows of elements of two types lie in two blocks. -/
theorem own_ne_type {w : World} {base base' : Nat} {e e' : TypeId} {size size' n n' : Nat} {v v' : Value} {xs xs' : List Value} (h : w.ownsRow base e size v n xs) (h' : w.ownsRow base' e' size' v' n' xs') (hne : e ≠ e') : v.ownBlock = none ∨ v.ownBlock ≠ v'.ownBlock := by
  rcases h.2 with ⟨rfl, _⟩ | ⟨g, cap, cur, rfl, _, hg, _⟩
  · exact .inl rfl
  · right
    intro hb
    rcases h'.2 with ⟨rfl, _⟩ | ⟨g', cap', cur', rfl, _, hg', _⟩
    · cases hb
    · simp [Value.ownBlock] at hb
      subst hb
      rw [hg] at hg'
      injection hg' with hg'
      injection hg' with _ ht
      exact hne ht
theorem own_len_cap {w : World} {base : Nat} {e : TypeId} {size n c : Nat} {A : Option Addr} {xs : List Value} (h : w.ownsRow base e size (.slice A n c) n xs) : n ≤ c := by
  rcases h.2 with ⟨h1, h2⟩ | ⟨g, cap, cur, h1, _, _, h3, _⟩
  · omega
  · injection h1 with _ _ h1
    omega
/-- A block of six cells. -/
def SixAt (w : World) (k : Nat) (cs : List Value) : Prop := w.heap[k]? = some (.cells cs.toArray 38 (0, 0))
def insCs (x : Ins) (P : InP) : List Value := [.slice P.a0 x.net.places.length P.c0, .slice P.a1 x.net.arcs.length P.c1, .slice P.a2 x.types.length P.c2, .slice P.a3 x.orders.length P.c3, .slice P.a4 x.apart.length P.c4, .slice P.a5 x.before.length P.c5]
def nilCs : List Value := [.slice none 0 0, .slice none 0 0, .slice none 0 0, .slice none 0 0, .slice none 0 0, .slice none 0 0]
theorem SixAt.cell {w : World} {k : Nat} {cs : List Value} (h : SixAt w k cs) {j : Nat} {u : Value} (hu : cs[j]? = some u) : w.cell? ((⟨k, 0, none⟩ : Addr).add j) = some u := World.news_of_block (w := w) (B := k) h j u (by simpa using hu)
theorem SixAt.keep {w w' : World} {k : Nat} {cs : List Value} (h : SixAt w k cs) (e : w'.heap[k]? = w.heap[k]?) : SixAt w' k cs := e.trans h
theorem SixAt.below {w w' : World} {k : Nat} {cs : List Value} (h : SixAt w k cs) (hb : Below w.heap.size w w') : SixAt w' k cs := (hb.block k (Array.getElem?_eq_some_iff.1 h).1).trans h
theorem int_elem : ElemOf 22 3 (.int .i64 0) 1 8 := ⟨Try.underlying22, by kernel_rfl, rfl, by decide, by decide⟩
theorem ord_int : (75 : TypeId) ≠ 3 := by decide
theorem ordCells_one (o : Ord) (C : Option Addr) (c : Nat) : ∀ u ∈ OrdCells o C c, u.oneCell' = true := fun u hu => by
  simp only [OrdCells, List.mem_cons, List.not_mem_nil, or_false] at hu
  rcases hu with rfl | rfl | rfl | rfl | rfl | rfl | rfl | rfl | rfl | rfl | rfl | rfl | rfl | rfl | rfl | rfl <;> rfl
theorem ord_new (w : World) (o : Ord) (C : Option Addr) (c : Nat) (j : Nat) (u : Value) (h : (OrdCells o C c)[j]? = some u) : (w.alloc (.cells (OrdCells o C c).toArray 75)).cell? ((⟨w.heap.size, 0, none⟩ : Addr).add j) = some u :=
  World.news_of_block (w := w.alloc (.cells (OrdCells o C c).toArray 75)) (B := w.heap.size) (heap_alloc_new w _) j u (by simpa using h)
theorem own_ne_block {w : World} {base : Nat} {e : TypeId} {size n : Nat} {v : Value} {xs : List Value} {P : Nat} {o : Ord} {C : Option Addr} {c : Nat} (h : w.ownsRow base e size v n xs) (hb : OrBlk w P o C c) (hne : e ≠ 75) : v.ownBlock = none ∨ v.ownBlock ≠ some P := by
  rcases h.2 with ⟨rfl, _⟩ | ⟨g, cap, cur, rfl, _, hg, _⟩
  · exact .inl rfl
  · right
    intro hv
    simp [Value.ownBlock] at hv
    subst hv
    unfold OrBlk at hb
    rw [hg] at hb
    injection hb with hb
    injection hb with _ ht
    exact hne ht
/-- Where Only stands: the numbers ns and the orders os, in rows of its own. -/
structure OnlSt (H : Nat) (w : World) (bx : List Value) (ns : List Int) (os : List Ord) (wr : World) (B1 : Option Addr) (d1 : Nat) (B2 : Option Addr) (d2 : Nat) (cs : List Value) : Prop where
  own1 : wr.ownsRow (H + 1 + 1) 3 1 (.slice B1 ns.length d1) ns.length (ns.map (.int .i64))
  own2 : wr.ownsRow (H + 1 + 1) 75 16 (.slice B2 os.length d2) os.length cs
  els : ElsIn ordEl wr (· < H) cs os
  box : SixAt wr H bx
  res : SixAt wr (H + 1) nilCs
  bel : Below H w wr
  sz : H + 1 + 1 ≤ wr.heap.size
section
variable {H : Nat} {w : World} {bx : List Value} {ns : List Int} {os : List Ord} {wr wx : World} {B1 : Option Addr} {d1 : Nat} {B2 : Option Addr} {d2 : Nat} {cs : List Value}
theorem OnlSt.below (h : OnlSt H w bx ns os wr B1 d1 B2 d2 cs) (hb : Below wr.heap.size wr wx) : OnlSt H w bx ns os wx B1 d1 B2 d2 cs := by
  have := h.sz
  exact ⟨own_below h.own1 hb, own_below h.own2 hb, h.els.stay (row := none) (Stays.below hb) (fun b _ _ e => by cases e) (fun b _ hp => hp), h.box.below hb, h.res.below hb, h.bel.trans (hb.mono (by omega)), Nat.le_trans h.sz hb.size⟩
theorem OnlSt.push1 (h : OnlSt H w bx ns os wr B1 d1 B2 d2 cs) {k : Int} {A : Option Addr} {c : Nat}
    (hown : wx.ownsRow (H + 1 + 1) 3 1 (.slice A (ns.length + 1) c) (ns.length + 1) (ns.map (.int .i64) ++ [.int .i64 k])) (hg : wr.grownBy wx (Value.slice B1 ns.length d1).ownBlock) : OnlSt H w bx (ns ++ [k]) os wx A c B2 d2 cs := by
  have hb := fun q e => (World.ownsRow.lt h.own1 q e).1
  have hs := h.sz
  refine ⟨by rw [List.length_append, List.map_append]; exact hown, own_grown h.own2 hg (own_ne_type h.own2 h.own1 ord_int), h.els.stay (Stays.grown hg) (fun b _ hp e => ?_) (fun b _ hp => hp), h.box.keep (hg.block H (by omega) (fun e => ?_)), h.res.keep (hg.block (H + 1) (by omega) (fun e => ?_)), h.bel.grown hg (by omega) (fun q e => ?_), Nat.le_trans hs hg.size⟩
  · have h1 := hb b e.symm
    have h2 : b < H := hp
    omega
  · have := hb _ e.symm; omega
  · have := hb _ e.symm; omega
  · have := hb _ e; omega
theorem OnlSt.push2 (h : OnlSt H w bx ns os wr B1 d1 B2 d2 cs) {o : Ord} {C : Option Addr} {c0 : Nat} {A : Option Addr} {c : Nat} (hI : IntsOff wr (· < H) C o.load)
    (hown : wx.ownsRow (H + 1 + 1) 75 16 (.slice A (os.length + 1) c) (os.length + 1) (cs ++ OrdCells o C c0)) (hg : wr.grownBy wx (Value.slice B2 os.length d2).ownBlock) : OnlSt H w bx ns (os ++ [o]) wx B1 d1 A c (cs ++ OrdCells o C c0) := by
  have hb := fun q e => (World.ownsRow.lt h.own2 q e).1
  have hs := h.sz
  have hne : (Value.slice B1 ns.length d1).ownBlock = none ∨ (Value.slice B1 ns.length d1).ownBlock ≠ (Value.slice B2 os.length d2).ownBlock := own_ne_type h.own1 h.own2 (Ne.symm ord_int)
  have hst : ∀ b, b < wr.heap.size → b < H → some b ≠ (Value.slice B2 os.length d2).ownBlock := fun b _ hp e => by have := hb b e.symm; omega
  refine ⟨own_grown h.own1 hg hne, by rw [List.length_append]; exact hown, ElsIn.snoc c0 (h.els.stay (Stays.grown hg) hst (fun b _ hp => hp)) (hI.stay (Stays.grown hg) hst (fun b _ hp => hp)), h.box.keep (hg.block H (by omega) (fun e => ?_)), h.res.keep (hg.block (H + 1) (by omega) (fun e => ?_)), h.bel.grown hg (by omega) (fun q e => ?_), Nat.le_trans hs hg.size⟩
  · have := hb _ e.symm; omega
  · have := hb _ e.symm; omega
  · have := hb _ e; omega
end
theorem grownBy_set (W : World) (b i : Nat) (v : Value) : W.grownBy (W.setCell ⟨b, i, none⟩ v) (some b) :=
  ⟨rfl, rfl, rfl, (KeepsWalks.setCell W _ v).size, fun k _ hk => Below.heap_setCell _ _ _ k (fun e => hk (by rw [e]))⟩
theorem SixAt.set {w : World} {k : Nat} {cs : List Value} (h : SixAt w k cs) (i : Nat) (u : Value) : SixAt (w.setCell ⟨k, i, none⟩ u) k (cs.set i u) := by
  have h1 := heap_setCell_same w k i cs.toArray 38 u h
  simpa [SixAt] using h1
theorem SixAt.frozen {w : World} {k : Nat} {cs : List Value} (h : SixAt w k cs) (i : Nat) : w.frozen? ⟨k, i, none⟩ = false := by simp [World.frozen?, show w.heap[k]? = _ from h]
section
variable {H : Nat} {w : World} {bx : List Value} {ns : List Int} {os : List Ord} {wr wx : World} {B1 : Option Addr} {d1 : Nat} {B2 : Option Addr} {d2 : Nat} {cs : List Value}
theorem OnlSt.store (h : OnlSt H w bx ns os wr B1 d1 B2 d2 cs) (i : Nat) (u : Value) : OnlSt H w (bx.set i u) ns os (wr.setCell ⟨H, i, none⟩ u) B1 d1 B2 d2 cs := by
  have hs := h.sz
  have hg := grownBy_set wr H i u
  refine ⟨ownsRow_setCell_below h.own1 (by show H < _; omega) u, ownsRow_setCell_below h.own2 (by show H < _; omega) u, h.els.stay (Stays.grown hg) (fun b _ hp e => ?_) (fun b _ hp => hp), h.box.set i u, h.res.keep (Below.heap_setCell _ _ _ _ (by show H + 1 ≠ H; omega)), h.bel.setCell (p := ⟨H, i, none⟩) (Nat.le_refl _) u, Nat.le_trans hs hg.size⟩
  have h2 : b < H := hp
  injection e with e
  omega
theorem OnlSt.ints (h : OnlSt H w bx ns os wr B1 d1 B2 d2 cs) (hl : ns.length ≤ 1000) : Ints wr wr.heap.size B1 ns := Ints.of_own h.own1 (by omega)
theorem OnlSt.orders (h : OnlSt H w bx ns os wr B1 d1 B2 d2 cs) (hl : os.length ≤ 1000) (hf : ∀ o ∈ os, OrdFits o) : RowAt rOrd wr wr.heap.size B2 os :=
  h.els.row (r := rOrd) (fun o A c => rfl) h.own2 (fun o ho A c hi => rOrd_mk hi (hf o ho)) (by omega)
end
theorem two_fits {ps : List (Int × Int)} {w : World} {base c : Nat} {A : Option Addr} (h : w.ownsRow base 76 2 (.slice A ps.length c) ps.length (tcs ps)) (hf : ∀ p ∈ ps, (-100 ≤ p.1 ∧ p.1 ≤ 100000000) ∧ (-100 ≤ p.2 ∧ p.2 ≤ 100000000)) (hl : ps.length ≤ 17592186043904) : RowAt (rPair rInt rInt) w w.heap.size A ps :=
  rowAt_own (r := rPair rInt rInt) (cells := fun p => [.int .i64 p.1, .int .i64 p.2]) (fun _ => rfl) h (fun p hp => ⟨_, _, rfl, ⟨rfl, by have := hf p hp; omega⟩, ⟨rfl, by have := hf p hp; omega⟩⟩) hl (by decide)
/-- What the end keeps. -/
structure OnlT (H : Nat) (w : World) (ns : List Int) (os : List Ord) (ps qs : List (Int × Int)) (wr : World) (B1 : Option Addr) (d1 : Nat) (B2 : Option Addr) (d2 : Nat) (cs : List Value) (E1 : Option Addr) (f1 : Nat) (E2 : Option Addr) (f2 : Nat) : Prop where
  own1 : wr.ownsRow (H + 1 + 1) 3 1 (.slice B1 ns.length d1) ns.length (ns.map (.int .i64))
  own2 : wr.ownsRow (H + 1 + 1) 75 16 (.slice B2 os.length d2) os.length cs
  els : ElsIn ordEl wr (· < H) cs os
  own3 : wr.ownsRow (H + 1 + 1) 76 2 (.slice E1 ps.length f1) ps.length (tcs ps)
  own4 : wr.ownsRow (H + 1 + 1) 76 2 (.slice E2 qs.length f2) qs.length (tcs qs)
  bel : Below H w wr
  sz : H + 1 + 1 ≤ wr.heap.size
section
variable {H : Nat} {w : World} {bx : List Value} {ns : List Int} {os : List Ord} {ps qs : List (Int × Int)} {wr wx : World} {B1 : Option Addr} {d1 : Nat} {B2 : Option Addr} {d2 : Nat} {cs : List Value} {E1 : Option Addr} {f1 : Nat} {E2 : Option Addr} {f2 : Nat}
theorem OnlT.set (h : OnlT H w ns os ps qs wr B1 d1 B2 d2 cs E1 f1 E2 f2) {b : Nat} (hb1 : H ≤ b) (hb2 : b < H + 1 + 1) (i : Nat) (u : Value) : OnlT H w ns os ps qs (wr.setCell ⟨b, i, none⟩ u) B1 d1 B2 d2 cs E1 f1 E2 f2 := by
  have hs := h.sz
  have hg := grownBy_set wr b i u
  refine ⟨ownsRow_setCell_below h.own1 hb2 u, ownsRow_setCell_below h.own2 hb2 u, h.els.stay (Stays.grown hg) (fun b' _ hp e => ?_) (fun b _ hp => hp), ownsRow_setCell_below h.own3 hb2 u, ownsRow_setCell_below h.own4 hb2 u, h.bel.setCell (p := ⟨b, i, none⟩) hb1 u, Nat.le_trans hs hg.size⟩
  have h2 : b' < H := hp
  injection e with e
  omega
theorem OnlT.orders (h : OnlT H w ns os ps qs wr B1 d1 B2 d2 cs E1 f1 E2 f2) (hl : os.length ≤ 1000) (hf : ∀ o ∈ os, OrdFits o) : RowAt rOrd wr wr.heap.size B2 os :=
  h.els.row (r := rOrd) (fun o A c => rfl) h.own2 (fun o ho A c hi => rOrd_mk hi (hf o ho)) (by omega)
end
theorem idxGo_bd (n : Int) : ∀ (l : List Int) (k : Int), 0 ≤ k → -1 ≤ idx.idxGo n l k ∧ idx.idxGo n l k ≤ k + l.length
  | [], k, h => by unfold idx.idxGo; simp; omega
  | x :: l, k, h => by
    unfold idx.idxGo
    split
    · simp; omega
    · have := idxGo_bd n l (k + 1) (by omega)
      simp
      omega
theorem renL_bd {old : List Int} {l : List (Int × Int)} (h : old.length ≤ 1000) : ∀ p ∈ renL old l, (-100 ≤ p.1 ∧ p.1 ≤ 100000000) ∧ (-100 ≤ p.2 ∧ p.2 ≤ 100000000) := fun p hp => by
  unfold renL at hp
  rw [List.mem_flatMap] at hp
  obtain ⟨q, _, hq⟩ := hp
  unfold renP at hq
  split at hq
  · rw [List.mem_singleton] at hq
    subst hq
    have h1 := idxGo_bd q.1 old 0 (by omega)
    have h2 := idxGo_bd q.2 old 0 (by omega)
    unfold idx.idxI
    omega
  · cases hq
end Go.Proofs.Ytceceomaheobhaa.ins

/- instance.Only, walked. -/
namespace Go.Proofs.Ytceceomaheobhaa.ins
open Go.RowKit
open Go.Proofs.Ytceceomaheobhaa.lib Go.Proofs.Ytceceomaheobhaa.rd Go.Proofs.Ytceceomaheobhaa.typ Go.Proofs.Ytceceomaheobhaa.app Go.Proofs.Ytceceomaheobhaa.els Go.Proofs.Ytceceomaheobhaa.ren Go.Proofs.Ytceceomaheobhaa.ord Go.Proofs.Ytceceomaheobhaa.sets
set_option linter.unusedVariables false
set_option linter.unusedSimpArgs false

def OnlyBad (w : World) (e : Ending) (w' : World) : Prop := e = .returned (.tuple #[InV nilI nilP, .slice none 0 0, .int .i64 2]) ∧ Below w.heap.size w w'
def OnlyGood (y : Ins) (old : List Int) (w : World) (e : Ending) (w' : World) : Prop := ∃ P A c, e = .returned (.tuple #[InV y P, .slice A old.length c, .int .i64 0]) ∧ InAt w' w'.heap.size y P ∧ w'.ownsRow w.heap.size 3 1 (.slice A old.length c) old.length (old.map (.int .i64)) ∧ Below w.heap.size w w'
theorem and_bit (s : Int) (k : Nat) : (bits .and .i64 (s / 2 ^ k) 1 == 1) = hasN s k := by
  rw [i64_and1]
  unfold hasN pow2
  rw [Bool.eq_iff_iff]
  simp
def insCs' (x : Ins) (n : Nat) (A0 : Option Addr) (c0 : Nat) (A1 : Option Addr) (c1 : Nat) (A2 : Option Addr) (c2 : Nat) (A3 : Option Addr) (c3 : Nat) (A4 : Option Addr) (c4 : Nat) (A5 : Option Addr) (c5 : Nat) : List Value := [.slice A0 x.net.places.length c0, .slice A1 x.net.arcs.length c1, .slice A2 x.types.length c2, .slice A3 n c3, .slice A4 x.apart.length c4, .slice A5 x.before.length c5]
end Go.Proofs.Ytceceomaheobhaa.ins

/- The examples of layer 13: little. -/
namespace Go.Proofs.Ytceceomaheobhaa.ins
open Go.RowKit
open Go.Proofs.Ytceceomaheobhaa.lib Go.Proofs.Ytceceomaheobhaa.rd Go.Proofs.Ytceceomaheobhaa.typ
set_option linter.unusedVariables false
set_option linter.unusedSimpArgs false

/-- Elements in a block that is written out. -/
theorem row_blk {X : Type} {r : Rd X} {w : World} {B g : Nat} {cs : List Value} {x : X} {t : TypeId} {fr : Nat × Nat} (h : w.heap[g]? = some (.cells cs.toArray t fr)) (hg : g < B) (hr : r.at_ w B cs x) : RowAt r w B (some ⟨g, 0, none⟩) [x] := by
  refine ⟨by simp, fun i y hi => ?_⟩
  rcases i with _ | i
  · simp at hi
    subst hi
    refine ⟨_, cs, rfl, hg, hr, fun j u hu => ?_⟩
    rw [Nat.zero_mul, Nat.zero_add]
    exact World.news_of_block (w := w) (B := g) h j u (by simpa using hu)
  · simp at hi
theorem row_blk2 {X : Type} {r : Rd X} {w : World} {B g : Nat} {cs cs' : List Value} {x x' : X} {t : TypeId} {fr : Nat × Nat} (h : w.heap[g]? = some (.cells (cs ++ cs').toArray t fr)) (hg : g < B) (hr : r.at_ w B cs x) (hr' : r.at_ w B cs' x') : RowAt r w B (some ⟨g, 0, none⟩) [x, x'] := by
  have hl := r.len hr
  have hl' := r.len hr'
  have hnew := fun j u hu => World.news_of_block (w := w) (B := g) h j u hu
  refine ⟨by simp, fun i y hi => ?_⟩
  rcases i with _ | _ | i
  · simp at hi
    subst hi
    refine ⟨_, cs, rfl, hg, hr, fun j u hu => ?_⟩
    rw [Nat.zero_mul, Nat.zero_add]
    exact hnew j u (by rw [List.getElem?_append_left (List.getElem?_eq_some_iff.1 hu).1]; exact hu)
  · simp at hi
    subst hi
    refine ⟨_, cs', rfl, hg, hr', fun j u hu => ?_⟩
    rw [Nat.zero_add, Nat.one_mul]
    exact hnew (r.size + j) u (by rw [List.getElem?_append_right (by omega), hl, Nat.add_sub_cancel_left]; exact hu)
  · simp at hi
theorem ints_blk {w : World} {B g : Nat} {l : List Int} {t : TypeId} {fr : Nat × Nat} (h : w.heap[g]? = some (.cells (l.map (.int .i64)).toArray t fr)) (hg : g < B) (hl : l.length ≤ 17592186043904) : Ints w B (some ⟨g, 0, none⟩) l :=
  ⟨⟨by simp, fun _ => ⟨_, rfl, hg, fun j u hu => World.news_of_block (w := w) (B := g) h j u (by simpa using hu)⟩⟩, hl⟩

def oaO : Ord := ⟨⟨#[111, 97]⟩, [1], ⟨-1, 0, 0, 0⟩, ⟨0, 0, 50, 0⟩, 0, -1, 1, -1, -1, false⟩
def obO : Ord := ⟨⟨#[111, 98]⟩, [1], ⟨-1, 0, 0, 0⟩, ⟨0, 0, 50, 0⟩, 0, 0, 1, -1, -1, false⟩
def vanI : Ty := ⟨⟨#[118, 97, 110]⟩, 1, 0, 0, [5], 0, 0, 0, 100, 50, 0, 0, 0, 0⟩
def hubS : ByteArray := ⟨#[104, 117, 98]⟩
def littleI : Ins := ⟨⟨[hubS], []⟩, [vanI], [oaO, obO], [(0, 1)], []⟩
theorem oa_fits : OrdFits oaO := by unfold OrdFits StpFits oaO; decide
theorem ob_fits : OrdFits obO := by unfold OrdFits StpFits obO; decide
theorem van_fits : TyFits vanI := by unfold TyFits vanI; decide
def littleP (k : Nat) : InP := ⟨some ⟨k + 1 + 1 + 1 + 1 + 1 + 1, 0, none⟩, 1, none, 0, some ⟨k + 1 + 1 + 1 + 1 + 1 + 1 + 1, 0, none⟩, 1, some ⟨k + 1 + 1 + 1 + 1 + 1 + 1 + 1 + 1, 0, none⟩, 2, some ⟨k + 1 + 1 + 1 + 1 + 1 + 1 + 1 + 1 + 1, 0, none⟩, 1, none, 0⟩
def littleCells (k : Nat) : List Value := [.slice (some ⟨k + 1 + 1 + 1 + 1 + 1 + 1, 0, none⟩) 1 1, .slice none 0 0, .slice (some ⟨k + 1 + 1 + 1 + 1 + 1 + 1 + 1, 0, none⟩) 1 1, .slice (some ⟨k + 1 + 1 + 1 + 1 + 1 + 1 + 1 + 1, 0, none⟩) 2 2, .slice (some ⟨k + 1 + 1 + 1 + 1 + 1 + 1 + 1 + 1 + 1, 0, none⟩) 1 1, .slice none 0 0]
def LittleOut (w : World) (e : Ending) (w' : World) : Prop := ∃ P : InP, e = .returned (InV littleI P) ∧ InAt w' w'.heap.size littleI P ∧ Below w.heap.size w w'
end Go.Proofs.Ytceceomaheobhaa.ins

/- The examples of layer 13: little. -/
namespace Go.Proofs.Ytceceomaheobhaa.ins
open Go.RowKit
open Go.Proofs.Ytceceomaheobhaa.lib Go.Proofs.Ytceceomaheobhaa.rd Go.Proofs.Ytceceomaheobhaa.typ Go.Proofs.Ytceceomaheobhaa.big Go.Proofs.Ytceceomaheobhaa.app
set_option linter.unusedVariables false
set_option linter.unusedSimpArgs false

theorem sOrd : StructOf 75 16 := ⟨⟨_, Try.underlying75⟩, by kernel_rfl⟩
theorem sTy : StructOf 94 14 := ⟨⟨_, Try.underlying94⟩, by kernel_rfl⟩
theorem sIns : StructOf 38 6 := ⟨⟨_, Try.underlying38⟩, by kernel_rfl⟩
def zOrd : List Value := [.string ⟨#[]⟩, .slice none 0 0, .int .i64 0, .int .i64 0, .int .i64 0, .int .i64 0, .int .i64 0, .int .i64 0, .int .i64 0, .int .i64 0, .int .i64 0, .int .i64 0, .int .i64 0, .int .i64 0, .int .i64 0, .bool false]
def zTy : List Value := [.string ⟨#[]⟩, .int .i64 0, .int .i64 0, .int .i64 0, .slice none 0 0, .int .i64 0, .int .i64 0, .int .i64 0, .int .i64 0, .int .i64 0, .int .i64 0, .int .i64 0, .int .i64 0, .int .i64 0]
theorem bOrd : BuildOf 75 (.agg zOrd.toArray) #[(0, 1), (1, 1), (2, 4), (6, 4), (10, 1), (11, 1), (12, 1), (13, 1), (14, 1), (15, 1)] := ⟨⟨_, Try.underlying75, fun w => by kernel_rfl⟩, fun w => by kernel_rfl⟩
theorem bTy : BuildOf 94 (.agg zTy.toArray) #[(0, 1), (1, 1), (2, 1), (3, 1), (4, 1), (5, 1), (6, 1), (7, 1), (8, 1), (9, 1), (10, 1), (11, 1), (12, 1), (13, 1)] := ⟨⟨_, Try.underlying94, fun w => by kernel_rfl⟩, fun w => by kernel_rfl⟩
theorem heap_old (W : World) (o : Obj) (k : Nat) (hk : k < W.heap.size) : (W.alloc o).heap[k]? = W.heap[k]? := Below.heap_alloc _ _ _ hk
def TBlk (w : World) (k : Nat) (t : Ty) (C : Option Addr) (c : Nat) : Prop := w.heap[k]? = some (.cells (TyCells t C c).toArray 94 (0, 0))
def IBlk (w : World) (k : Nat) (x : Int) : Prop := w.heap[k]? = some (.cells #[.int .i64 x] 3 (0, 0))
/-- Where little stands: the blocks that lie. -/
structure LtlA (w wx : World) : Prop where
  res : SixAt wx w.heap.size nilCs
  ld : IBlk wx (w.heap.size + 1) 1
  oa : ord.OrBlk wx (w.heap.size + 1 + 1) oaO (some ⟨w.heap.size + 1, 0, none⟩) 1
  bel : Below w.heap.size w wx
structure LtlB (o : Ord) (w wx : World) : Prop where
  a : LtlA w wx
  ob : ord.OrBlk wx (w.heap.size + 1 + 1 + 1) o (some ⟨w.heap.size + 1, 0, none⟩) 1
structure LtlC (w wx : World) : Prop where
  b : LtlB obO w wx
  cp : IBlk wx (w.heap.size + 1 + 1 + 1 + 1) 5
  ty : TBlk wx (w.heap.size + 1 + 1 + 1 + 1 + 1) vanI (some ⟨w.heap.size + 1 + 1 + 1 + 1, 0, none⟩) 1
theorem LtlA.keep {w wx wy : World} (h : LtlA w wx) (hk : ∀ k, k < w.heap.size + 1 + 1 + 1 → wy.heap[k]? = wx.heap[k]?) (hb : Below w.heap.size w wy) : LtlA w wy :=
  ⟨(hk _ (by omega)).trans h.res, (hk _ (by omega)).trans h.ld, (hk _ (by omega)).trans h.oa, hb⟩
def ob1O : Ord := { oaO with name := ⟨#[111, 98]⟩ }
theorem ordBlk_frozen {w : World} {k : Nat} {o : Ord} {C : Option Addr} {c : Nat} (h : ord.OrBlk w k o C c) (i : Nat) : w.frozen? ⟨k, i, none⟩ = false := by simp [World.frozen?, show w.heap[k]? = _ from h]
theorem tyCells_one (o : Ty) (C : Option Addr) (c : Nat) : ∀ u ∈ TyCells o C c, u.oneCell' = true := fun u hu => by
  simp only [TyCells, List.mem_cons, List.not_mem_nil, or_false] at hu
  rcases hu with rfl | rfl | rfl | rfl | rfl | rfl | rfl | rfl | rfl | rfl | rfl | rfl | rfl | rfl <;> rfl
theorem LtlB.set {w wx : World} {o o' : Ord} (h : LtlB o w wx) (i : Nat) (u : Value) (hs : wx.heap.size = w.heap.size + 1 + 1 + 1 + 1) (e : ((OrdCells o (some ⟨w.heap.size + 1, 0, none⟩) 1).toArray.setIfInBounds i u) = (OrdCells o' (some ⟨w.heap.size + 1, 0, none⟩) 1).toArray) : LtlB o' w (wx.setCell ⟨w.heap.size + 1 + 1 + 1, i, none⟩ u) := by
  refine ⟨h.a.keep (fun k hk => Below.heap_setCell _ _ _ _ (show k ≠ w.heap.size + 1 + 1 + 1 by omega)) (h.a.bel.setCell (p := ⟨w.heap.size + 1 + 1 + 1, i, none⟩) (show w.heap.size ≤ w.heap.size + 1 + 1 + 1 by omega) u), ?_⟩
  have h1 := heap_setCell_same wx (w.heap.size + 1 + 1 + 1) i _ _ u h.ob
  rw [e] at h1
  exact h1
theorem oa_fill (ad : Addr) : Instr.fill ((#[(0, 1), (1, 1), (2, 4), (6, 4), (10, 1), (11, 1), (12, 1), (13, 1), (14, 1), (15, 1)] : Array (Nat × Nat))[·]?) (Value.agg zOrd.toArray).cells [(0, .string ⟨#[111, 97]⟩), (1, .slice (some ad) 1 1), (2, .agg #[.int .i64 (-1), .int .i64 0, .int .i64 0, .int .i64 0]), (3, .agg #[.int .i64 0, .int .i64 0, .int .i64 50, .int .i64 0]), (5, .int .i64 (-1)), (6, .int .i64 1), (7, .int .i64 (-1)), (8, .int .i64 (-1))] = some (OrdCells oaO (some ad) 1).toArray := by kernel_rfl
theorem van_fill (ad : Addr) : Instr.fill ((#[(0, 1), (1, 1), (2, 1), (3, 1), (4, 1), (5, 1), (6, 1), (7, 1), (8, 1), (9, 1), (10, 1), (11, 1), (12, 1), (13, 1)] : Array (Nat × Nat))[·]?) (Value.agg zTy.toArray).cells [(0, .string ⟨#[118, 97, 110]⟩), (1, .int .i64 1), (4, .slice (some ad) 1 1), (8, .int .i64 100), (9, .int .i64 50)] = some (TyCells vanI (some ad) 1).toArray := by kernel_rfl
def ltlCs (k : Nat) : List Value := [.slice (some ⟨k, 0, none⟩) 1 1, .slice none 0 0, .slice (some ⟨k + 1, 0, none⟩) 1 1, .slice (some ⟨k + 1 + 1, 0, none⟩) 2 2, .slice (some ⟨k + 1 + 1 + 1, 0, none⟩) 1 1, .slice none 0 0]
theorem ltlCs_one (k : Nat) : ∀ u ∈ ltlCs k, u.oneCell' = true := fun u hu => by
  simp only [ltlCs, List.mem_cons, List.not_mem_nil, or_false] at hu
  rcases hu with rfl | rfl | rfl | rfl | rfl | rfl <;> rfl
def ltlP (k : Nat) : InP := ⟨some ⟨k, 0, none⟩, 1, none, 0, some ⟨k + 1, 0, none⟩, 1, some ⟨k + 1 + 1, 0, none⟩, 2, some ⟨k + 1 + 1 + 1, 0, none⟩, 1, none, 0⟩
theorem ty_elem : ElemOf 34 94 (.agg zTy.toArray) 14 136 := ⟨Try.underlying34, by kernel_rfl, rfl, by decide, by decide⟩
theorem ord_elem' : ElemOf 35 75 (.agg zOrd.toArray) 16 152 := ⟨Try.underlying35, by kernel_rfl, rfl, by decide, by decide⟩
theorem ty_range : (List.range (1 * 14)).map (fun i => (Value.agg zTy.toArray).cells[i % (Value.agg zTy.toArray).cells.size]!) = zTy := by kernel_rfl
theorem ord_range : (List.range (2 * 16)).map (fun i => (Value.agg zOrd.toArray).cells[i % (Value.agg zOrd.toArray).cells.size]!) = zOrd ++ zOrd := by kernel_rfl
theorem ty_fill (ad : Addr) : Instr.fill (fun i => some (i * 14, 14)) zTy.toArray [(0, .agg (TyCells vanI (some ad) 1).toArray)] = some (TyCells vanI (some ad) 1).toArray := by kernel_rfl
theorem ord_fill (ad : Addr) : Instr.fill (fun i => some (i * 16, 16)) (zOrd ++ zOrd).toArray [(0, .agg (OrdCells oaO (some ad) 1).toArray), (1, .agg (OrdCells obO (some ad) 1).toArray)] = some (OrdCells oaO (some ad) 1 ++ OrdCells obO (some ad) 1).toArray := by kernel_rfl
end Go.Proofs.Ytceceomaheobhaa.ins

/- The examples of layer 13: awake. -/
namespace Go.Proofs.Ytceceomaheobhaa.ins
open Go.RowKit
open Go.Proofs.Ytceceomaheobhaa.lib Go.Proofs.Ytceceomaheobhaa.rd Go.Proofs.Ytceceomaheobhaa.typ Go.Proofs.Ytceceomaheobhaa.big Go.Proofs.Ytceceomaheobhaa.app Go.Proofs.Ytceceomaheobhaa.flts
set_option linter.unusedVariables false
set_option linter.unusedSimpArgs false

def netI : Ins := ⟨littleI.net, [], [], [], []⟩
def onlyY : Ins := ⟨littleI.net, littleI.types, [obO], [], []⟩
theorem little_only : onlyI littleI 2 = onlyY := by rfl
theorem little_mem : sets.memTo 2 littleI.orders.length = [1] := by rfl
theorem little_check : insF littleI = [] := by kernel_rfl
theorem net_check : insF netI = [⟨4, ⟨#[116, 121, 112, 101, 115]⟩⟩] := by kernel_rfl
theorem little_all : sch.suchN allP littleI.orders littleI.orders.length = 3 := by kernel_rfl
theorem little_must : sch.suchN mustP littleI.orders littleI.orders.length = 1 := by kernel_rfl
theorem little_same : sameI littleI littleI = true := by kernel_rfl
theorem little_lim : Lim littleI := ⟨by decide, by decide, fun a h => (by cases h), fun j a h => (by simp [littleI] at h), by rw [show insN littleI = [] by kernel_rfl]; decide, by decide, by decide, by decide, by decide⟩
theorem net_lim : Lim netI := ⟨by decide, by decide, fun a h => (by cases h), fun j a h => (by simp [netI, littleI] at h), by rw [show insN netI = [] by kernel_rfl]; decide, by decide, by decide, by decide, by decide⟩
theorem awk_all (P : InP) (w : World) (h : InAt w w.heap.size littleI P) : Calls Try.prog 40 #[InV littleI P] w fun e w' => e = .returned (.int .i64 3) ∧ Below w.heap.size w w' := by
  have h := all_any littleI P w h (by decide)
  rw [little_all] at h
  exact h
theorem insCs_one (x : Ins) (P : InP) : ∀ u ∈ insCs x P, u.oneCell' = true := fun u hu => by
  simp only [insCs, List.mem_cons, List.not_mem_nil, or_false] at hu
  rcases hu with rfl | rfl | rfl | rfl | rfl | rfl <;> rfl
end Go.Proofs.Ytceceomaheobhaa.ins

/- Rows as lists of cells; rows that are copied into a block of the call's own. Portable. -/
namespace Go.Proofs.Ytceceomaheobhaa.rd
open Go.RowKit
open Go.Proofs.Ytceceomaheobhaa.lib Go.Proofs.Ytceceomaheobhaa.big
set_option linter.unusedVariables false

/-- The cells CS are those of the elements l. -/
def CellsOf {X : Type} (r : Rd X) (w : World) (B : Nat) (l : List X) (CS : List Value) : Prop :=
  CS.length = l.length * r.size ∧ ∀ (i : Nat) (x : X), l[i]? = some x → ∃ cs, r.at_ w B cs x ∧ ∀ (j : Nat) (u : Value), cs[j]? = some u → CS[i * r.size + j]? = some u
theorem CellsOf.nil {X : Type} {r : Rd X} {w : World} {B : Nat} : CellsOf r w B [] [] := ⟨by simp, fun i x h => by simp at h⟩
theorem CellsOf.snoc {X : Type} {r : Rd X} {w : World} {B : Nat} {l : List X} {CS cs : List Value} {x : X} (h : CellsOf r w B l CS) (hx : r.at_ w B cs x) : CellsOf r w B (l ++ [x]) (CS ++ cs) := by
  have hs := r.len hx
  refine ⟨by rw [List.length_append, List.length_append, h.1, hs]; simp [Nat.add_mul], fun i y hy => ?_⟩
  rcases Nat.lt_or_ge i l.length with hi | hi
  · rw [List.getElem?_append_left hi] at hy
    obtain ⟨cs', h1, h2⟩ := h.2 i y hy
    refine ⟨cs', h1, fun j u hu => ?_⟩
    have := h2 j u hu
    rw [List.getElem?_append_left (List.getElem?_eq_some_iff.1 this).1]
    exact this
  · rw [List.getElem?_append_right hi] at hy
    rcases Nat.eq_or_lt_of_le hi with e | hlt
    · rw [← e, Nat.sub_self] at hy
      simp at hy
      subst hy
      refine ⟨cs, hx, fun j u hu => ?_⟩
      rw [List.getElem?_append_right (by rw [h.1, e]; omega), h.1, e, Nat.add_sub_cancel_left]
      exact hu
    · rw [List.getElem?_eq_none (by simp; omega)] at hy
      cases hy
theorem CellsOf.keep {X : Type} {r : Rd X} {w w' : World} {B : Nat} {l : List X} {CS : List Value} (h : CellsOf r w B l CS) (hb : Below B w w') : CellsOf r w' B l CS :=
  ⟨h.1, fun i x hi => by obtain ⟨cs, h1, h2⟩ := h.2 i x hi; exact ⟨cs, r.keep (fun _ hp => hb.cell hp) h1, h2⟩⟩
theorem CellsOf.more {X : Type} {r : Rd X} {w : World} {B B' : Nat} {l : List X} {CS : List Value} (h : CellsOf r w B l CS) (hB : B ≤ B') : CellsOf r w B' l CS :=
  ⟨h.1, fun i x hi => by obtain ⟨cs, h1, h2⟩ := h.2 i x hi; exact ⟨cs, r.more hB h1, h2⟩⟩
/-- The cells of a row. -/
theorem RowAt.cells {X : Type} {r : Rd X} {w : World} {B : Nat} {A : Option Addr} {l : List X} (hpos : 0 < r.size) (h : RowAt r w B A l) :
    ∃ CS, CellsOf r w B l CS ∧ (∀ ad, A = some ad → CellsAt w ad CS) ∧ (0 < l.length → ∃ ad, A = some ad ∧ ad.block < B) ∧ ∀ P : Value → Prop, (∀ cs x, r.at_ w B cs x → ∀ u ∈ cs, P u) → ∀ u ∈ CS, P u := by
  obtain ⟨L, hL, hp⟩ := choose_list (n := l.length) (p := fun i cs => ∃ x ad, l[i]? = some x ∧ A = some ad ∧ ad.block < B ∧ r.at_ w B cs x ∧ ∀ (j : Nat) (u : Value), cs[j]? = some u → w.cell? (ad.add (i * r.size + j)) = some u) fun i hi => by
    obtain ⟨ad, cs, h1, h2, h3, h4⟩ := h.2 i _ (List.getElem?_eq_getElem hi)
    exact ⟨cs, _, ad, List.getElem?_eq_getElem hi, h1, h2, h3, h4⟩
  have hlen : ∀ (i : Nat) cs, L[i]? = some cs → cs.length = r.size := fun i cs hi => by
    obtain ⟨x, ad, _, _, _, h3, _⟩ := hp i cs hi
    exact r.len h3
  have key : ∀ (M : List (List Value)), (∀ (i : Nat) cs, M[i]? = some cs → cs.length = r.size) → M.flatten.length = M.length * r.size ∧ ∀ (i : Nat) cs, M[i]? = some cs → ∀ j, j < r.size → M.flatten[i * r.size + j]? = cs[j]? := by
    intro M
    induction M with
    | nil => intro _; exact ⟨by simp, fun i cs hi => by simp at hi⟩
    | cons c M ih =>
      intro hM
      obtain ⟨h1, h2⟩ := ih fun i cs hi => hM (i + 1) cs (by simpa using hi)
      have h0 := hM 0 c rfl
      refine ⟨by rw [List.flatten_cons, List.length_append, h1, h0, List.length_cons, Nat.add_mul]; omega, fun i cs hi j hj => ?_⟩
      rw [List.flatten_cons]
      rcases i with _ | i
      · simp at hi
        subst hi
        rw [Nat.zero_mul, Nat.zero_add, List.getElem?_append_left (by omega)]
      · rw [List.getElem?_append_right (by rw [h0, Nat.succ_mul]; omega), h0]
        have e : (i + 1) * r.size + j - r.size = i * r.size + j := by rw [Nat.succ_mul]; omega
        rw [e]
        exact h2 i cs (by simpa using hi) j hj
  obtain ⟨k1, k2⟩ := key L hlen
  refine ⟨L.flatten, ⟨by rw [k1, hL], fun i x hi => ?_⟩, fun ad hA j u hu => ?_, fun h0 => ?_, fun P hP u hu => ?_⟩
  · have hil := (List.getElem?_eq_some_iff.1 hi).1
    obtain ⟨cs, hcs⟩ : ∃ cs, L[i]? = some cs := ⟨_, List.getElem?_eq_getElem (by omega)⟩
    obtain ⟨x', ad, h1, _, _, h3, _⟩ := hp i cs hcs
    rw [hi] at h1
    obtain rfl := Option.some.inj h1
    refine ⟨cs, h3, fun j u hu => ?_⟩
    have hj : j < r.size := by rw [← r.len h3]; exact (List.getElem?_eq_some_iff.1 hu).1
    rw [k2 i cs hcs j hj]
    exact hu
  · have hjl : j < l.length * r.size := by have := (List.getElem?_eq_some_iff.1 hu).1; rw [k1, hL] at this; exact this
    have hdm := Nat.div_add_mod j r.size
    have hmod := Nat.mod_lt j hpos
    have hil : j / r.size < l.length := Nat.div_lt_of_lt_mul (by rw [Nat.mul_comm]; exact hjl)
    obtain ⟨cs, hcs⟩ : ∃ cs, L[j / r.size]? = some cs := ⟨_, List.getElem?_eq_getElem (by omega)⟩
    obtain ⟨x', ad', _, hA', _, h3, h4⟩ := hp _ cs hcs
    rw [hA] at hA'
    obtain rfl := Option.some.inj hA'
    have e : j / r.size * r.size + j % r.size = j := by rw [Nat.mul_comm]; exact hdm
    have h5 := k2 _ cs hcs (j % r.size) hmod
    rw [e, hu] at h5
    have h6 := h4 (j % r.size) u h5.symm
    rw [e] at h6
    exact h6
  · obtain ⟨ad, cs, h1, h2, _⟩ := h.2 0 _ (List.getElem?_eq_getElem h0)
    exact ⟨ad, h1, h2⟩
  · obtain ⟨cs, hcs, hu⟩ := List.mem_flatten.1 hu
    obtain ⟨i, hi⟩ := List.mem_iff_getElem?.1 hcs
    obtain ⟨x', ad, _, _, _, h3, _⟩ := hp i cs hi
    exact hP cs x' h3 u hu
/-- A row of the cells of elements. -/
theorem RowAt.of_cells {X : Type} {r : Rd X} {w : World} {B : Nat} {ad : Addr} {l : List X} {CS : List Value} (hl : l.length ≤ 17592186043904) (hb : ad.block < B) (h : CellsOf r w B l CS) (hc : CellsAt w ad CS) : RowAt r w B (some ad) l :=
  ⟨hl, fun i x hi => by
    obtain ⟨cs, h1, h2⟩ := h.2 i x hi
    exact ⟨ad, cs, rfl, hb, h1, fun j u hu => hc _ u (h2 j u hu)⟩⟩
/-- The same, in a row of the call's own. -/
theorem RowAt.of_own {X : Type} {r : Rd X} {w : World} {base c : Nat} {e : TypeId} {A : Option Addr} {l : List X} {CS : List Value} (h : CellsOf r w w.heap.size l CS) (hown : w.ownsRow base e r.size (.slice A l.length c) l.length CS) (hl : l.length ≤ 17592186043904) : RowAt r w w.heap.size A l := by
  rcases hown.2 with ⟨h1, h2⟩ | ⟨g, cap, cur, h1, h2, h3, h4⟩
  · injection h1 with h1 _ _
    subst h1
    have : l = [] := List.eq_nil_of_length_eq_zero h2
    subst this
    exact RowAt.nil
  · injection h1 with h1 _ _
    subst h1
    exact RowAt.of_cells hl (Array.getElem?_eq_some_iff.1 h3).1 h fun j u hu => hown.cells (g := g) rfl j u hu
end Go.Proofs.Ytceceomaheobhaa.rd

/- An order appended to an instance's orders: the program. -/
namespace Go.Proofs.Ytceceomaheobhaa.ins
open Go.RowKit
open Go.Proofs.Ytceceomaheobhaa.lib Go.Proofs.Ytceceomaheobhaa.rd Go.Proofs.Ytceceomaheobhaa.typ Go.Proofs.Ytceceomaheobhaa.app Go.Proofs.Ytceceomaheobhaa.big Go.Proofs.Ytceceomaheobhaa.flts Go.Proofs.Ytceceomaheobhaa.ord
set_option linter.unusedVariables false
set_option linter.unusedSimpArgs false

section
variable {t e : TypeId} {z : Value} {size bytes : Nat} (E : ElemOf t e z size bytes)
include E
/-- A slice without room is appended to: the row is new. -/
theorem run_appClip (w : World) (A : Option Addr) (n : Nat) (CS : List Value) (hl : CS.length = n * size) (hA : 0 < n → ∃ ad, A = some ad) (hC : ∀ ad, A = some ad → CellsAt w ad CS) (ad2 : Addr) (c2 : Nat) (news : List Value) (hn2 : news.length = size) (hC2 : CellsAt w ad2 news) (h1 : ∀ u ∈ news, u.oneCell' = true) (hn : n ≤ 1000000) (ty : TypeId) :
    ∃ A' c' w', (Builtin.append_ #[t, t] ty #[.slice A n n, .slice (some ad2) 1 c2]).run Try.prog w = .ok (.slice A' (n + 1) c') w' ∧ w'.ownsRow w.heap.size e size (.slice A' (n + 1) c') (n + 1) (CS ++ news) ∧ w.grownBy w' none := by
  obtain ⟨i0, hi, hz0, hz1, hz2⟩ := info_parts E.info
  have hb := E.by_
  have hmul : (n + 1) * bytes ≤ (n + 1) * 100000 := Nat.mul_le_mul_left _ hb
  rcases A with _ | ad
  · have h0 : n = 0 := by
      rcases Nat.eq_zero_or_pos n with h | h
      · exact h
      · obtain ⟨ad, h⟩ := hA h
        cases h
    subst h0
    obtain rfl : CS = [] := List.eq_nil_of_length_eq_zero (by simpa using hl)
    obtain ⟨g', c', w', h2, h3, h4, _⟩ := run_app E w w.heap.size none 0 0 [] (World.ownsRow_nil _ _ _ _) ad2 c2 news hn2 hC2 h1 (by omega) (by unfold maxLen; omega) (Nat.le_refl _) ty
    exact ⟨_, c', w', h2, h3, h4⟩
  · obtain ⟨v', w', h2, h3, h4⟩ := run_append_arg_grows (P := Try.prog) w t ty e i0 z size bytes E.sl hi hz0 hz1 hz2 E.zs E.pos ad n n CS hl (hC ad rfl) ad2 1 c2 news (by omega) hC2 (by omega) (by unfold maxLen; omega) (by omega)
    obtain ⟨A', c', rfl⟩ := own_form h3
    exact ⟨A', c', w', h2, h3, h4⟩
theorem step_appClip {o : Oper} {a : Act} {w : World} {ops : Array Oper} {K : Act → World → Prop} {Q : Exit → Act → World → Prop} {E' : Prop} (hgd : o.guard = none) (s x : Operand)
    (ho : o.op = .call { callee := .builtin .append, args := #[s, x], argTypes := #[t, t] }) (A : Option Addr) (n : Nat) (CS : List Value) (hs : a.eval s = .slice A n n) (hl : CS.length = n * size) (hA : 0 < n → ∃ ad, A = some ad) (hC : ∀ ad, A = some ad → CellsAt w ad CS)
    (ad2 : Addr) (c2 : Nat) (news : List Value) (hx : a.eval x = .slice (some ad2) 1 c2) (hn2 : news.length = size) (hC2 : CellsAt w ad2 news) (h1 : ∀ u ∈ news, u.oneCell' = true) (hn : n ≤ 1000000)
    (h : ∀ A' c' w', w'.ownsRow w.heap.size e size (.slice A' (n + 1) c') (n + 1) (CS ++ news) → w.grownBy w' none → K (a.put o.dst (.slice A' (n + 1) c')) w') :
    if Region.wanted o (yielded ops a.tmps) = true then Oper.wp Try.prog o a w K Q else E' := by
  have hw : Region.wanted o (yielded ops a.tmps) = true := by simp [Region.wanted, hgd]
  rw [if_pos hw]
  obtain ⟨A', c', w', hr, h2, h3⟩ := run_appClip E w A n CS hl hA hC ad2 c2 news hn2 hC2 h1 hn o.type
  unfold Oper.wp execOp
  simp only [ho, resolve, invoke, builtin, Sem.run_bind, Sem.run_pure, Result.andThen_ok, List.map_toArray, List.map_cons, List.map_nil, hs, hx, hr]
  exact h A' c' w' h2 h3
/-- A slice literal of one struct. -/
theorem step_lit1 {o : Oper} {a : Act} {w : World} {ops : Array Oper} {K : Act → World → Prop} {Q : Exit → Act → World → Prop} {E' : Prop} (hgd : o.guard = none) (x : Operand) (ho : o.op = .buildSlice t 1 #[(0, x)])
    (cs : List Value) (zs : List Value) (hx : a.eval x = .agg cs.toArray) (hs : size ≤ 1000) (hz : (List.range (1 * size)).map (fun i => z.cells[i % z.cells.size]!) = zs) (hf : Instr.fill (fun i => some (i * size, size)) zs.toArray [(0, .agg cs.toArray)] = some cs.toArray)
    (h : K (a.put o.dst (.slice (some ⟨w.heap.size, 0, none⟩) 1 1)) (w.alloc (.cells cs.toArray e))) :
    if Region.wanted o (yielded ops a.tmps) = true then Oper.wp Try.prog o a w K Q else E' := by
  have hw : Region.wanted o (yielded ops a.tmps) = true := by simp [Region.wanted, hgd]
  rw [if_pos hw]
  obtain ⟨i0, hi, hz0, hz1, hz2⟩ := info_parts E.info
  have hp := E.pos
  refine wp_buildSlice t e 1 #[(0, x)] ho cs.toArray i0 z E.sl hi hz0 (by rw [hz1]; omega) (by rw [hz1]; omega) ?_ h
  have e1 : (Array.range (1 * i0.size)).map (fun i => z.cells[i % z.cells.size]!) = zs.toArray := by
    rw [hz1, ← hz]
    apply Array.ext'
    simp
  rw [e1, hz1]
  have e2 : (Array.map (fun x => match x with | (i, x) => (i, a.eval x)) #[(0, x)]).toList = [(0, .agg cs.toArray)] := by simp [hx]
  rw [e2]
  exact hf
end
def ordZs : List Value := [.string ⟨#[]⟩, .slice none 0 0, .int .i64 0, .int .i64 0, .int .i64 0, .int .i64 0, .int .i64 0, .int .i64 0, .int .i64 0, .int .i64 0, .int .i64 0, .int .i64 0, .int .i64 0, .int .i64 0, .int .i64 0, .bool false]
theorem ord_zs : (List.range (1 * 16)).map (fun i => (Value.agg #[.string ⟨#[]⟩, .slice none 0 0, .int .i64 0, .int .i64 0, .int .i64 0, .int .i64 0, .int .i64 0, .int .i64 0, .int .i64 0, .int .i64 0, .int .i64 0, .int .i64 0, .int .i64 0, .int .i64 0, .int .i64 0, .bool false]).cells[i % (Value.agg #[.string ⟨#[]⟩, .slice none 0 0, .int .i64 0, .int .i64 0, .int .i64 0, .int .i64 0, .int .i64 0, .int .i64 0, .int .i64 0, .int .i64 0, .int .i64 0, .int .i64 0, .int .i64 0, .int .i64 0, .int .i64 0, .bool false]).cells.size]!) = ordZs := by kernel_rfl
theorem ord_fill1 (o : Ord) (C : Option Addr) (c : Nat) : Instr.fill (fun i => some (i * 16, 16)) ordZs.toArray [(0, .agg (OrdCells o C c).toArray)] = some (OrdCells o C c).toArray := by kernel_rfl
/-- An instance with one more order. -/
def addI (x : Ins) (o : Ord) : Ins := ⟨x.net, x.types, x.orders ++ [o], x.apart, x.before⟩
def addR (x : Ins) (o : Ord) : Ins × Int := if 10 ≤ x.orders.length then (nilI, 4) else match insF (addI x o) with
  | [] => (addI x o, 0)
  | f :: _ => (nilI, f.err)
theorem addR_full {x : Ins} {o : Ord} (h : 10 ≤ x.orders.length) : addR x o = (nilI, 4) := by unfold addR; rw [if_pos h]
theorem addR_good {x : Ins} {o : Ord} (h : ¬ 10 ≤ x.orders.length) (hf : insF (addI x o) = []) : addR x o = (addI x o, 0) := by unfold addR; rw [if_neg h, hf]
theorem addR_bad {x : Ins} {o : Ord} {f : Flt} {fs : List Flt} (h : ¬ 10 ≤ x.orders.length) (hf : insF (addI x o) = f :: fs) : addR x o = (nilI, f.err) := by unfold addR; rw [if_neg h, hf]
/-- What Add hands back. -/
def AddOutI (x : Ins) (o : Ord) (w : World) (e : Ending) (w' : World) : Prop := ∃ P, e = .returned (.tuple #[InV (addR x o).1 P, .int .i64 (addR x o).2]) ∧ InAt w' w'.heap.size (addR x o).1 P ∧ Below w.heap.size w w'
theorem nil_at (w : World) : InAt w w.heap.size nilI nilP := ⟨RowAt.nil, RowAt.nil, RowAt.nil, RowAt.nil, RowAt.nil, RowAt.nil, Nat.le_refl _, Nat.le_refl _, Nat.le_refl _, Nat.le_refl _⟩
end Go.Proofs.Ytceceomaheobhaa.ins

/- instance.Add. -/
namespace Go.Proofs.Ytceceomaheobhaa.ins
open Go.RowKit
open Go.Proofs.Ytceceomaheobhaa.lib Go.Proofs.Ytceceomaheobhaa.rd Go.Proofs.Ytceceomaheobhaa.typ Go.Proofs.Ytceceomaheobhaa.app Go.Proofs.Ytceceomaheobhaa.big Go.Proofs.Ytceceomaheobhaa.flts Go.Proofs.Ytceceomaheobhaa.ord
set_option linter.unusedVariables false
set_option linter.unusedSimpArgs false

theorem orBlk_at {w : World} {k : Nat} {o : Ord} {C : Option Addr} {c : Nat} (h : OrBlk w k o C c) : CellsAt w ⟨k, 0, none⟩ (OrdCells o C c) := fun j u hu => World.news_of_block (w := w) (B := k) h j u (by simpa using hu)
theorem insCs_add (x : Ins) (o : Ord) (P : InP) (A : Option Addr) (c : Nat) : (insCs x P).set 3 (.slice A (x.orders.length + 1) c) = insCs (addI x o) ⟨P.a0, P.c0, P.a1, P.c1, P.a2, P.c2, A, c, P.a4, P.c4, P.a5, P.c5⟩ := by
  simp [insCs, addI]
theorem cellsAt_set {w : World} {g : Nat} {cs : List Value} (h : CellsAt w ⟨g, 0, none⟩ cs) (b i : Nat) {v : Value} (hne : g ≠ b) : CellsAt (w.setCell ⟨b, i, none⟩ v) ⟨g, 0, none⟩ cs := h.heap (Below.heap_setCell _ _ _ _ hne)
theorem own_other {w w' : World} {base : Nat} {e : TypeId} {size n : Nat} {v : Value} {xs : List Value} {b : Nat} (h : w.ownsRow base e size v n xs) (hk : ∀ k, k ≠ b → w'.heap[k]? = w.heap[k]?) (hb : b < base) : w'.ownsRow base e size v n xs := by
  rcases h.2 with ⟨h1, h2⟩ | ⟨g, cap, cur, h1, h2, h3, h4⟩
  · exact ⟨h.1, .inl ⟨h1, h2⟩⟩
  · exact ⟨h.1, .inr ⟨g, cap, cur, h1, h2, (hk g (by omega)).trans h3, h4⟩⟩
theorem step_storeL {t : TypeId} {n : Nat} (T : StructOf t n) {o : Oper} {a : Act} {w : World} {ops : Array Oper} {K : Act → World → Prop} {Q : Exit → Act → World → Prop} {E' : Prop} (hgd : o.guard = none) (p v : Operand) (ho : o.op = Op.store t p v)
    (g : Nat) (old cs : List Value) (hp : a.eval p = .pointer (some ⟨g, 0, none⟩)) (hv : a.eval v = .agg cs.toArray) (hb : w.heap[g]? = some (.cells old.toArray t (0, 0))) (hold : old.length = n) (hn : cs.length = n) (h1 : ∀ u ∈ cs, u.oneCell' = true)
    (h : ∀ w', w'.heap[g]? = some (.cells cs.toArray t (0, 0)) → (∀ k, k ≠ g → w'.heap[k]? = w.heap[k]?) → w'.heap.size = w.heap.size → Below g w w' → K (a.put o.dst undef) w') :
    if Region.wanted o (yielded ops a.tmps) = true then Oper.wp Try.prog o a w K Q else E' := by
  have hw : Region.wanted o (yielded ops a.tmps) = true := by simp [Region.wanted, hgd]
  rw [if_pos hw]
  have hr := run_storeVar_row (P := Try.prog) w g t t old.toArray cs.toArray hb (by rw [T.size]; simp [hn]) (by simp [hold, hn]) (Array.all_eq_true_iff_forall_mem.2 fun u hu => h1 u (by simpa using hu))
  have hr2 : (Instr.storeAt t (.pointer (some ⟨g, 0, none⟩)) (.agg cs.toArray)).run Try.prog w = .ok () (w.setRow g cs.toArray) := by
    simp only [Instr.storeAt, Instr.sureAddr, Sem.run_bind, Sem.run_pure, Result.andThen]
    exact hr
  have hot : ∀ k, k ≠ g → (w.setRow g cs.toArray).heap[k]? = w.heap[k]? := fun k hk => by
    simp only [World.setRow, Array.getElem?_modify]
    rw [if_neg (fun e => hk e.symm)]
  have hsz : (w.setRow g cs.toArray).heap.size = w.heap.size := by simp [World.setRow]
  unfold Oper.wp execOp
  simp only [ho, hp, hv, Sem.run_bind, hr2, Result.andThen_ok, Sem.run_pure]
  exact h _ (setRow_heap w g old.toArray cs.toArray t (0, 0) hb) hot hsz ⟨rfl, rfl, rfl, Nat.le_of_eq hsz.symm, fun k hk => hot k (by omega)⟩
theorem nilCs_one : ∀ u ∈ nilCs, u.oneCell' = true := fun u hu => by
  simp only [nilCs, List.mem_cons, List.not_mem_nil, or_false] at hu
  rcases hu with rfl | rfl | rfl | rfl | rfl | rfl <;> rfl
theorem mrk_cell {w w' : World} {q o : Nat} {v : Option Value} (e : w'.heap[q]? = w.heap[q]?) (h : w.cell? ⟨q, o, none⟩ = v) : w'.cell? ⟨q, o, none⟩ = v := by
  rw [← h]
  unfold World.cell?
  simp only [e]
theorem stOrd' : StructOf 75 16 := ⟨⟨_, Try.underlying75⟩, by kernel_rfl⟩
end Go.Proofs.Ytceceomaheobhaa.ins

/- The same instances: symmetry; an instance's block. -/
namespace Go.Proofs.Ytceceomaheobhaa.ins
open Go.RowKit
open Go.Proofs.Ytceceomaheobhaa.lib Go.Proofs.Ytceceomaheobhaa.rd Go.Proofs.Ytceceomaheobhaa.typ Go.Proofs.Ytceceomaheobhaa.eqg Go.Proofs.Ytceceomaheobhaa.note Go.Proofs.Ytceceomaheobhaa.big Go.Proofs.Ytceceomaheobhaa.eqs
set_option linter.unusedVariables false
set_option linter.unusedSimpArgs false

theorem sameS_comm (a b : ByteArray) : sameS a b = sameS b a := by unfold sameS; rw [Bool.eq_iff_iff, beq_iff_eq, beq_iff_eq]; exact eq_comm
theorem sameS_self (a : ByteArray) : sameS a a = true := by simp [sameS]
theorem sameB_comm (a b : List Int) : sameB a b = sameB b a := by unfold sameB; rw [Bool.eq_iff_iff, decide_eq_true_eq, decide_eq_true_eq]; exact eq_comm
theorem stpEq_comm (a b : Stp) : ord.stpEq a b = ord.stpEq b a := by unfold ord.stpEq; rw [int_comm a.place, int_comm a.opn, int_comm a.close, int_comm a.service]
theorem sameO_comm (a b : Ord) : ord.sameO a b = ord.sameO b a := by
  unfold ord.sameO
  have h2 : ord.numsO a b = ord.numsO b a := by
    unfold ord.numsO
    rw [Bool.eq_iff_iff]
    simp only [decide_eq_true_eq]
    constructor <;> (rintro ⟨h1, h2, h3, h4, h5⟩; exact ⟨h1.symm, h2.symm, h3.symm, h4.symm, h5.symm⟩)
  have h3 : (a.off == b.off) = (b.off == a.off) := by cases a.off <;> cases b.off <;> rfl
  rw [sameS_comm a.name, sameB_comm a.load, stpEq_comm a.pick, stpEq_comm a.drop, h2, h3]
theorem sameO_self (a : Ord) : ord.sameO a a = true := by simp [ord.sameO, sameB, sameS, ord.numsO, ord.stpEq]
theorem sameT_comm (a b : Ty) : flt.sameT a b = flt.sameT b a := by
  unfold flt.sameT
  have h2 : flt.numsB a b = flt.numsB b a := by
    unfold flt.numsB
    rw [Bool.eq_iff_iff]
    simp only [decide_eq_true_eq]
    constructor <;> (rintro ⟨h1, h2, h3, h4, h5, h6, h7, h8, h9, h10, h11, h12⟩; exact ⟨h1.symm, h2.symm, h3.symm, h4.symm, h5.symm, h6.symm, h7.symm, h8.symm, h9.symm, h10.symm, h11.symm, h12.symm⟩)
  rw [show flt.sameB a.cap b.cap = flt.sameB b.cap a.cap from sameB_comm _ _, show flt.sameS a.name b.name = flt.sameS b.name a.name from sameS_comm _ _, h2]
theorem sameT_self (a : Ty) : flt.sameT a a = true := by simp [flt.sameT, flt.sameB, flt.sameS, flt.numsB]
theorem sameI_comm (a b : Ins) : sameI a b = sameI b a := by
  unfold sameI
  rw [eqL_comm sameS_comm a.net.places, eqL_comm sameA_comm a.net.arcs, eqL_comm sameT_comm a.types, eqL_comm sameO_comm a.orders, eqL_comm twoEq_comm a.apart, eqL_comm twoEq_comm a.before]
theorem sameI_self (a : Ins) : sameI a a = true := by
  unfold sameI
  rw [eqL_self sameS_self, eqL_self sameA_self, eqL_self sameT_self, eqL_self sameO_self, eqL_self twoEq_self, eqL_self twoEq_self]
  rfl
theorem stIns : StructOf 38 6 := ⟨⟨_, Try.underlying38⟩, by kernel_rfl⟩
theorem SixAt.cells {w : World} {k : Nat} {cs : List Value} (h : SixAt w k cs) : CellsAt w ⟨k, 0, none⟩ cs := fun j u hu => h.cell hu
end Go.Proofs.Ytceceomaheobhaa.ins

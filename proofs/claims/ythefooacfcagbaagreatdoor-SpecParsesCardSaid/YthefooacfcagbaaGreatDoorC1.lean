/- Joined texts: UndA RulA RulB RulC OrdF OrdG OrdH. -/
import Derived.Test.YthefooacfcagbaaGreatDoorBase
import Derived.OwnWalk
import Derived.Deep.QuietTactic
import Derived.RangeFuncBox
import Derived.Deep.DeepCutAuto
import Derived.Deep.RegionHeld3
import Derived.Outline
namespace Go.Proofs.YthefooacfcagbaaGreatDoor.und
open Go.RowKit
open lib rd typ app flts note
set_option linter.unusedVariables false
set_option linter.unusedSimpArgs false
def undP (word : ByteArray) (f : Flt) : Flt := ⟨f.err, if f.at_.toList.isEmpty = true then word else word ++ (⟨#[32]⟩ ++ f.at_)⟩
def undL (word : ByteArray) (fs : List Flt) : List Flt := fs.map (undP word)
theorem undL_take {word : ByteArray} {fs : List Flt} {k : Nat} {f : Flt} (h : fs[k]? = some f) : undL word (fs.take (k + 1)) = undL word (fs.take k) ++ [undP word f] := by
 obtain ⟨h1, h2⟩ := List.getElem?_eq_some_iff.1 h
 unfold undL
 rw [List.take_succ_eq_append_getElem h1, h2, List.map_append]
 rfl
set_option maxRecDepth 20000 in
set_option maxHeartbeats 4000000 in
theorem under_any (word : ByteArray) (A : Option Addr) (c : Nat) (fs : List Flt) (w : World) (hL : RowAt rFlt w w.heap.size A fs) (hl : fs.length ≤ 1000000) (hws : word.size ≤ 1000000) (hfs : ∀ f ∈ fs, f.at_.size ≤ 1000000) :
  Calls Tryz.prog 44 #[.string word, .slice A fs.length c] w (FltsOut w (undL word fs)) := by
 obtain ⟨n, hn⟩ : ∃ n, fs.length = n := ⟨_, rfl⟩
 have HN := Lib.hid hn
 rw [hn] at hl ⊢
 clear hn
 obtain ⟨i0, hi, hz0, hz1, hz2⟩ := info_parts fault_elem.info
 have HI := Lib.hid (And.intro hi (And.intro hz0 (And.intro hz1 hz2)))
 clear hi hz0 hz1 hz2
 go_enter Tryz.func44, Tryz.ntmps44
 go_wp2_with (at_make; refine wpList_make_own _ rfl _ _ 50 rfl w.heap.size 53 i0 (.agg #[.int .i64 0, .string ⟨#[]⟩]) 2 Tryz.underlying50 HI.out.1 HI.out.2.1 HI.out.2.2.1 .i64 .i64 n n rfl rfl rfl (by rw [HI.out.2.2.2]; omega) (by unfold maxLen; omega) (Nat.le_refl _) ?_; intro w1 hown1 hg1; have hb1 : Below w.heap.size w w1 := (Below.refl _ _).grown hg1 (Nat.le_refl _) (by intro k hk; cases hk))
 go_loopw [5, 7, 8, 14] (fun v _ _ i wr => ∃ (k : Nat) (A2 : Option Addr) (c2 : Nat), k ≤ n ∧ i = .int .i64 k ∧ v = .slice A2 k c2 ∧ wr.ownsRow w.heap.size 53 2 (.slice A2 k c2) k (fcs (undL word (fs.take k))) ∧ Below w.heap.size w wr) (fun _ _ _ i _ => n - (intOf i).toNat)
 case atStart => exact ⟨0, _, _, by omega, rfl, rfl, hown1, hb1⟩
 case round =>
  obtain ⟨k, A2, c2, hk, rfl, rfl, hown, hb⟩ := hrel
  have hz := hb.size
  by_cases hlt : k < n
  ·obtain ⟨f, hf⟩ : ∃ f, fs[k]? = some f := ⟨_, List.getElem?_eq_getElem (by rw [HN.out]; exact hlt)⟩
   obtain ⟨ad, rfl, hadb, ⟨m0, m1⟩, _⟩ := row_Flt (hL.below hb) hf
   have hk0 : (0 : Int) ≤ (k : Int) := by omega
   have hkn : (k : Int) < (n : Int) := by omega
   have HT := Lib.hid (undL_take (word := word) hf)
   have HP : Hid (undP word f = ⟨f.err, if f.at_.toList.isEmpty = true then word else word ++ (⟨#[32]⟩ ++ f.at_)⟩) := Lib.hid rfl
   have hsz := hfs f (List.mem_of_getElem? hf)
   clear hf
   have s1 : ¬ 9223372036854775807 < 1 + f.at_.size := by omega
   have s2 : ¬ 9223372036854775807 < word.size + (1 + f.at_.size) := by omega
   obtain ⟨q, hq⟩ : ∃ q, f.at_.toList.isEmpty = q := ⟨_, rfl⟩
   rw [hq] at HP
   cases q
   ·have HE : Hid (undL word (fs.take (k + 1)) = undL word (fs.take k) ++ [⟨f.err, word ++ (⟨#[32]⟩ ++ f.at_)⟩]) := Lib.hid (by rw [HT.out, HP.out]; rfl)
    go_wp2_with (at_builtin; refine wpList_app fault_elem _ _ rfl w.heap.size A2 k c2 (fcs (undL word (fs.take k))) rfl ((hown.alloc _).alloc _) ⟨wr.heap.size + 1, 0, none⟩ 1 [.int .i64 f.err, .string (word ++ (⟨#[32]⟩ ++ f.at_))] rfl rfl (fun j u hu => by have h := two_new (wr.alloc (.cells #[.int .i64 f.err, .string f.at_] 53)) (.int .i64 f.err) (.string (word ++ (⟨#[32]⟩ ++ f.at_))) 53 j u hu; rw [World.size_alloc] at h; exact h) (by simp [Value.oneCell']) (by omega) (by simp; omega) rfl ?_; intro g3 c3 w3 hown3 hg3 hd3)
    go_roundw
    case rel => exact ⟨k + 1, some ⟨g3, 0, none⟩, c3, by omega, by go_num, rfl, by rw [HE.out, fcs_snoc]; exact hown3, ((hb.alloc hz _).alloc (by simp; omega) _).grown hg3 (by simp; omega) (fun q e => (World.ownsRow.lt hown q e).1)⟩
    case measure => simp [intOf]; omega
   ·have HE : Hid (undL word (fs.take (k + 1)) = undL word (fs.take k) ++ [⟨f.err, word⟩]) := Lib.hid (by rw [HT.out, HP.out]; rfl)
    go_wp2_with (at_builtin; refine wpList_app fault_elem _ _ rfl w.heap.size A2 k c2 (fcs (undL word (fs.take k))) rfl ((hown.alloc _).alloc _) ⟨wr.heap.size + 1, 0, none⟩ 1 [.int .i64 f.err, .string (word)] rfl rfl (fun j u hu => by have h := two_new (wr.alloc (.cells #[.int .i64 f.err, .string f.at_] 53)) (.int .i64 f.err) (.string (word)) 53 j u hu; rw [World.size_alloc] at h; exact h) (by simp [Value.oneCell']) (by omega) (by simp; omega) rfl ?_; intro g3 c3 w3 hown3 hg3 hd3)
    go_roundw
    case rel => exact ⟨k + 1, some ⟨g3, 0, none⟩, c3, by omega, by go_num, rfl, by rw [HE.out, fcs_snoc]; exact hown3, ((hb.alloc hz _).alloc (by simp; omega) _).grown hg3 (by simp; omega) (fun q e => (World.ownsRow.lt hown q e).1)⟩
    case measure => simp [intOf]; omega
  ·have hkn : k = n := by omega
   subst hkn
   have HE : Hid (fs.take k = fs) := Lib.hid (List.take_of_length_le (by rw [HN.out]; exact Nat.le_refl _))
   have HU : Hid ((undL word fs).length = k) := Lib.hid (by unfold undL; rw [List.length_map]; exact HN.out)
   go_wp2
   go_ret
   rw [HE.out] at hown
   exact ⟨A2, c2, by rw [HU.out]; rfl, by unfold Fown; rw [HU.out]; exact hown, hb⟩
end Go.Proofs.YthefooacfcagbaaGreatDoor.und
namespace Go.Proofs.YthefooacfcagbaaGreatDoor.rul
open Go.RowKit
open lib rd eqg txt
set_option linter.unusedVariables false
set_option linter.unusedSimpArgs false
set_option maxHeartbeats 2000000 in
theorem dec1_any (n : Nat) (hn : n < 10) (w : World) : Calls Tryz.prog 131 #[.int .i64 n] w fun e w' => e = .returned (.string (decS n)) ∧ w = w' := by
 have : n = 0 ∨ n = 1 ∨ n = 2 ∨ n = 3 ∨ n = 4 ∨ n = 5 ∨ n = 6 ∨ n = 7 ∨ n = 8 ∨ n = 9 := by omega
 rcases this with rfl | rfl | rfl | rfl | rfl | rfl | rfl | rfl | rfl | rfl
 all_goals
  go_enter Tryz.func131, Tryz.ntmps131
  go_wp2
  go_ret
  exact ⟨rfl, rfl⟩
def looseB (x y : Int × Int) : Bool := twoEq x y || (x.1 == y.2 && x.2 == y.1)
theorem two_run (x y : Int × Int) (w : World) : (Op.equalIn 10000 67 (.agg #[.int .i64 x.1, .int .i64 x.2]) (.agg #[.int .i64 y.1, .int .i64 y.2])).run Tryz.prog w = .ok (twoEq x y) w := by
 obtain ⟨i0, hi, _⟩ := info_parts int_info
 have h := arr.run_eq_ints (t := 67) w 9998 Tryz.underlying67 hi [x.1, x.2] [y.1, y.2] rfl rfl
 have e : decide ([x.1, x.2] = [y.1, y.2]) = twoEq x y := by
  unfold twoEq
  rw [Bool.eq_iff_iff]
  simp
 rw [e] at h
 exact h
theorem exact_any (x y : Int × Int) (w : World) : Calls Tryz.prog 88 #[.agg #[.int .i64 x.1, .int .i64 x.2], .agg #[.int .i64 y.1, .int .i64 y.2]] w fun e w' => e = .returned (.bool (twoEq x y)) ∧ Below w.heap.size w w' := by
 have heq := two_run x y
 obtain ⟨q, hq⟩ : ∃ q, twoEq x y = q := ⟨_, rfl⟩
 rw [hq] at heq ⊢
 clear hq
 go_enter Tryz.func88, Tryz.ntmps88
 go_wp2
 go_ret
 exact ⟨rfl, by repeat (first | assumption | exact Below.refl _ _ | refine Below.drew ?_ | refine Below.alloc ?_ (by first | omega | (simp <;> omega)) _ | refine Below.setCell ?_ (by first | omega | (simp <;> omega)) _)⟩
theorem loose_any (x y : Int × Int) (w : World) : Calls Tryz.prog 87 #[.agg #[.int .i64 x.1, .int .i64 x.2], .agg #[.int .i64 y.1, .int .i64 y.2]] w fun e w' => e = .returned (.bool (looseB x y)) ∧ Below w.heap.size w w' := by
 have heq := two_run x y
 have HR : Hid (looseB x y = (twoEq x y || (x.1 == y.2 && x.2 == y.1))) := Lib.hid rfl
 obtain ⟨q, hq⟩ : ∃ q, twoEq x y = q := ⟨_, rfl⟩
 rw [hq] at heq HR
 clear hq
 cases q
 ·cases h1 : (x.1 == y.2)
  case true =>
   have HT : Hid (looseB x y = (x.2 == y.1)) := Lib.hid (by rw [HR.out, h1]; rfl)
   go_enter Tryz.func87, Tryz.ntmps87
   go_wp2
   go_ret
   exact ⟨ret_bool HT.out.symm, by repeat (first | assumption | exact Below.refl _ _ | refine Below.drew ?_ | refine Below.alloc ?_ (by first | omega | (simp <;> omega)) _ | refine Below.setCell ?_ (by first | omega | (simp <;> omega)) _)⟩
  case false =>
   have HT : Hid (looseB x y = false) := Lib.hid (by rw [HR.out, h1]; rfl)
   go_enter Tryz.func87, Tryz.ntmps87
   go_wp2
   go_ret
   exact ⟨ret_bool HT.out.symm, by repeat (first | assumption | exact Below.refl _ _ | refine Below.drew ?_ | refine Below.alloc ?_ (by first | omega | (simp <;> omega)) _ | refine Below.setCell ?_ (by first | omega | (simp <;> omega)) _)⟩
 ·have HT : Hid (looseB x y = true) := Lib.hid (by rw [HR.out]; rfl)
  go_enter Tryz.func87, Tryz.ntmps87
  go_wp2
  go_ret
  exact ⟨ret_bool HT.out.symm, by repeat (first | assumption | exact Below.refl _ _ | refine Below.drew ?_ | refine Below.alloc ?_ (by first | omega | (simp <;> omega)) _ | refine Below.setCell ?_ (by first | omega | (simp <;> omega)) _)⟩
def rightB (n orders : Int) : Bool := decide (0 ≤ n) && decide (n < orders)
theorem right_any (n orders : Int) (b : Nat) (w : World) (hb : b < w.heap.size) (hc : w.cell? ⟨b, 0, none⟩ = some (.int .i64 orders)) : Calls Tryz.prog 130 #[.int .i64 n, .pointer (some ⟨b, 0, none⟩)] w fun e w' => e = .returned (.bool (rightB n orders)) ∧ w = w' := by
 by_cases h : 0 ≤ n
 all_goals
  go_enter Tryz.func130, Tryz.ntmps130
  go_wp2
  go_ret
  exact ⟨ret_bool (by unfold rightB; first | (simp [h]; done) | (simp; omega)), rfl⟩
end Go.Proofs.YthefooacfcagbaaGreatDoor.rul
namespace Go.Proofs.YthefooacfcagbaaGreatDoor.rul
open Go.RowKit
open lib rd typ app flts eqg txt note
set_option linter.unusedVariables false
set_option linter.unusedSimpArgs false
def atS (word : ByteArray) (i : Nat) : ByteArray := word ++ ⟨#[32]⟩ ++ decS i
def badB (orders : Int) (p : Int × Int) : Bool := !rightB p.1 orders || (!rightB p.2 orders || p.1 == p.2)
def pairP (orders : Int) (word : ByteArray) (same : Int × Int → Int × Int → Bool) (l : List (Int × Int)) (i : Nat) (p : Int × Int) : List Flt :=
 if badB orders p = true then [⟨2, atS word i⟩] else if (l.take i).any (same p) = true then [⟨6, atS word i⟩] else []
def pairAt (orders : Int) (word : ByteArray) (same : Int × Int → Int × Int → Bool) (l : List (Int × Int)) (i : Nat) : List Flt := match l[i]? with
 | some p => pairP orders word same l i p
 | none => []
def pairsTo (orders : Int) (word : ByteArray) (same : Int × Int → Int × Int → Bool) (l : List (Int × Int)) : Nat → List Flt
 | 0 => if l.length ≤ 16 then [] else [⟨4, word⟩]
 | j + 1 => pairsTo orders word same l j ++ pairAt orders word same l j
theorem pairP_len (orders : Int) (word : ByteArray) (same : Int × Int → Int × Int → Bool) (l : List (Int × Int)) (i : Nat) (p : Int × Int) : (pairP orders word same l i p).length ≤ 1 := by
 unfold pairP
 split
 ·simp
 ·split <;> simp
theorem pairsTo_len (orders : Int) (word : ByteArray) (same : Int × Int → Int × Int → Bool) (l : List (Int × Int)) : ∀ j, (pairsTo orders word same l j).length ≤ 1 + j
 | 0 => by unfold pairsTo; split <;> simp
 | j + 1 => by
  have ih := pairsTo_len orders word same l j
  have h : (pairAt orders word same l j).length ≤ 1 := by
   unfold pairAt
   split
   ·exact pairP_len _ _ _ _ _ _
   ·exact Nat.zero_le _
  rw [pairsTo, List.length_append]
  omega
theorem pairsTo_succ {orders : Int} {word : ByteArray} {same : Int × Int → Int × Int → Bool} {l : List (Int × Int)} {j : Nat} {p : Int × Int} (h : l[j]? = some p) : pairsTo orders word same l (j + 1) = pairsTo orders word same l j ++ pairP orders word same l j p := by
 rw [pairsTo]
 unfold pairAt
 rw [h]
theorem take_anyP {α : Type} {p : α → Bool} {l : List α} {k : Nat} {x : α} (h : l[k]? = some x) : (l.take (k + 1)).any p = ((l.take k).any p || p x) := by
 obtain ⟨h1, h2⟩ := List.getElem?_eq_some_iff.1 h
 rw [List.take_succ_eq_append_getElem h1, h2, List.any_append]
 simp
theorem take_any_true {α : Type} {p : α → Bool} {l : List α} {k j : Nat} {b : Bool} (h : (l.take (k + 1)).any p = (b || true)) (hj : k + 1 ≤ j) : (l.take j).any p = true := by
 rw [Bool.or_true, List.any_eq_true] at h
 obtain ⟨x, hx, hp⟩ := h
 refine List.any_eq_true.2 ⟨x, ?_, hp⟩
 obtain ⟨n, hn⟩ := List.mem_iff_getElem?.1 hx
 rw [List.getElem?_take] at hn
 split at hn
 ·exact List.mem_iff_getElem?.2 ⟨n, by rw [List.getElem?_take, if_pos (by omega)]; exact hn⟩
 ·cases hn
end Go.Proofs.YthefooacfcagbaaGreatDoor.rul
namespace Go.Proofs.YthefooacfcagbaaGreatDoor.rul
open Go.RowKit
open lib rd typ app flts eqg txt note
set_option linter.unusedVariables false
set_option linter.unusedSimpArgs false
def apartS : ByteArray := ⟨#[97, 112, 97, 114, 116]⟩
def beforeS : ByteArray := ⟨#[98, 101, 102, 111, 114, 101]⟩
def rulesF (orders : Int) (a b : List (Int × Int)) : List Flt := pairsTo orders apartS looseB a a.length ++ pairsTo orders beforeS twoEq b b.length
theorem fcs_one (fs : List Flt) : ∀ u ∈ fcs fs, u.oneCell' = true := fun u hu => by
 unfold fcs at hu
 rw [List.mem_flatMap] at hu
 obtain ⟨f, _, hf⟩ := hu
 simp at hf
 rcases hf with rfl | rfl <;> rfl
theorem fcs_append (a b : List Flt) : fcs (a ++ b) = fcs a ++ fcs b := by simp [fcs]
end Go.Proofs.YthefooacfcagbaaGreatDoor.rul
namespace Go.Proofs.YthefooacfcagbaaGreatDoor.ord
open Go.RowKit
open lib rd typ note
set_option linter.unusedVariables false
set_option linter.unusedSimpArgs false
theorem add_yes (b base : Nat) (xs : List Int) (u : Int) (w : World) (h : BoxRow w b base xs) :
  Calls Tryz.prog 123 #[.bool true, .int .i64 u, .pointer (some ⟨b, 0, none⟩)] w (AddOut w b base xs) := by
 go_enter Tryz.func123, Tryz.ntmps123
 go_wp2
 refine bodyPost_ret (v := .tuple #[]) (by simp [results, Tryz.results123, go_sem]) rfl ⟨rfl, h, Below.refl _ _, fun _ _ _ => rfl, Nat.le_refl _⟩
theorem add_no (b base : Nat) (xs : List Int) (u : Int) (w : World) (h : BoxRow w b base xs) (hx : xs.length < 100) :
  Calls Tryz.prog 123 #[.bool false, .int .i64 u, .pointer (some ⟨b, 0, none⟩)] w (AddOut w b base (xs ++ [u])) := by
 obtain ⟨A, c, h1, h2, h3, h4, h5⟩ := h
 have hc := h1.cell
 have hf := h1.frozen
 go_enter Tryz.func123, Tryz.ntmps123
 go_wp2_with (at_builtin; refine push_errno rfl _ _ rfl base _ xs.length xs rfl h2 u rfl (by omega) h4 ?_; intro A1 c1 w1 hown1 hb1 hz1; have hbx : Boxed w1 b 126 (.slice A xs.length c) := (hb1.block b h3).trans h1; have hc1 := hbx.cell; have hf1 := hbx.frozen)
 go_end0
 refine ⟨rfl, ⟨A1, c1, by rw [List.length_append]; exact hbx.set _, ?_, h3, ?_, by simp; omega⟩, ?_, ?_, ?_⟩
 ·rw [List.length_append]
  exact ownsRow_setCell_below (a := ⟨b, 0, none⟩) hown1 h3 _
 ·simp; omega
 ·have hb2 : Below b w w1 := hb1.mono (by omega)
  exact hb2.setCell (p := ⟨b, 0, none⟩) (Nat.le_refl _) _
 ·intro k hk1 hk2
  exact (Below.heap_setCell w1 ⟨b, 0, none⟩ _ k (show k ≠ b by omega)).trans (hb1.block k hk2)
 ·simp; omega
theorem add_any (b base : Nat) (xs : List Int) (right : Bool) (u : Int) (w : World) (h : BoxRow w b base xs) (hx : xs.length < 100) :
  Calls Tryz.prog 123 #[.bool right, .int .i64 u, .pointer (some ⟨b, 0, none⟩)] w (AddOut w b base (pushIf xs right u)) := by
 cases right
 ·exact add_no b base xs u w h hx
 ·exact add_yes b base xs u w h
theorem named_any (x : Ord) (C : Option Addr) (c : Nat) (bt : Nat) (nm : ByteArray) (w : World) (hbt : bt < w.heap.size) (hc : w.cell? ⟨bt, 0, none⟩ = some (.string nm)) :
  Calls Tryz.prog 125 #[.agg #[.string x.name, .slice C x.load.length c, .int .i64 x.pick.place, .int .i64 x.pick.opn, .int .i64 x.pick.close, .int .i64 x.pick.service, .int .i64 x.drop.place, .int .i64 x.drop.opn, .int .i64 x.drop.close, .int .i64 x.drop.service, .int .i64 x.skills, .int .i64 x.penalty, .int .i64 x.split, .int .i64 x.last, .int .i64 x.now, .bool x.off], .pointer (some ⟨bt, 0, none⟩)] w fun e w' => e = .returned (.bool (sameS x.name nm)) ∧ Below w.heap.size w w' := by
 go_enter Tryz.func125, Tryz.ntmps125
 go_wp2
 go_ret
 exact ⟨rfl, (Below.refl _ _).alloc (Nat.le_refl _) _⟩
set_option maxHeartbeats 1000000 in
theorem idxOrds_any (A : Option Addr) (c : Nat) (l : List Ord) (n : Nat) (hn : l.length = n) (bt : Nat) (nm : ByteArray) (w : World) (B : Nat) (hB : B ≤ w.heap.size) (hL : RowAt rOrd w B A l) (hbt : bt < w.heap.size) (hc : w.cell? ⟨bt, 0, none⟩ = some (.string nm)) :
  Calls Tryz.prog 165 #[.slice A n c, .func (.func 125) #[] #[.pointer (some ⟨bt, 0, none⟩)]] w (IdxOut (l.any (fun x => sameS x.name nm)) w) := by
 obtain ⟨R, hR⟩ : ∃ R, l.any (fun x => sameS x.name nm) = R := ⟨_, rfl⟩
 have HR : Hid ((l.drop 0).any (fun x => sameS x.name nm) = R) := Lib.hid hR
 rw [hR]
 clear hR
 have hlen := hL.len
 rw [hn] at hlen
 have HN := Lib.hid hn
 clear hn
 go_enter Tryz.func165, Tryz.ntmps165
 go_wp2
 go_loopw [5, 8] (fun _ i wr => ∃ k : Nat, k ≤ n ∧ i = .int .i64 k ∧ Hid ((l.drop k).any (fun x => sameS x.name nm) = R) ∧ Below w.heap.size w wr) (fun _ i _ => n - (intOf i).toNat)
 case atStart => exact ⟨0, by omega, rfl, HR, Below.refl _ _⟩
 case round =>
  obtain ⟨k, hk, rfl, hr, hb⟩ := hrel
  have hz := hb.size
  by_cases hlt : k < n
  ·obtain ⟨x, hx⟩ : ∃ x, l[k]? = some x := ⟨_, List.getElem?_eq_getElem (by rw [HN.out]; exact hlt)⟩
   obtain ⟨ad, C0, c0, rfl, hadb, ⟨m0, m1, m2, m3, m4, m5, m6, m7, m8, m9, m10, m11, m12, m13, m14, m15⟩, _, _⟩ := row_Ord (hL.below (hb.mono hB)) hx
   have hst := Lib.hid (any_at (p := fun x : Ord => sameS x.name nm) hx)
   have hk0 : (0 : Int) ≤ (k : Int) := by omega
   have hkn : (k : Int) < (n : Int) := by omega
   have hc' : wr.cell? ⟨bt, 0, none⟩ = some (.string nm) := (hb.cell (p := ⟨bt, 0, none⟩) hbt).trans hc
   clear hx
   cases hs : sameS x.name nm
   ·have HT : Hid ((l.drop (k + 1)).any (fun x => sameS x.name nm) = R) := Lib.hid (by have h := hst.out; rw [hr.out, hs] at h; exact h.symm)
    go_wp2_with (go_at_call 125; refine (named_any x C0 c0 bt nm _ (by omega) hc').mono ?_; rintro e w1 ⟨rfl, hb1⟩)
    go_roundw
    case rel => exact ⟨k + 1, by omega, by go_num, HT, hb.trans (hb1.mono hz)⟩
    case measure => simp [intOf]; omega
   ·have HT : Hid (R = true) := Lib.hid (by rw [← hr.out, hst.out, hs]; rfl)
    go_wp2_with (go_at_call 125; refine (named_any x C0 c0 bt nm _ (by omega) hc').mono ?_; rintro e w1 ⟨rfl, hb1⟩)
    go_ret
    exact ⟨k, rfl, by rw [HT.out]; simp, hb.trans (hb1.mono hz)⟩
  ·have HT : Hid (R = false) := Lib.hid (by rw [← hr.out, any_end (by rw [HN.out]; omega)])
   go_wp2
   go_ret
   exact ⟨-1, rfl, by rw [HT.out]; simp, hb⟩
theorem hasOrds_any (A : Option Addr) (c : Nat) (l : List Ord) (n : Nat) (hn : l.length = n) (bt : Nat) (nm : ByteArray) (w : World) (B : Nat) (hB : B ≤ w.heap.size) (hL : RowAt rOrd w B A l) (hbt : bt < w.heap.size) (hc : w.cell? ⟨bt, 0, none⟩ = some (.string nm)) :
  Calls Tryz.prog 124 #[.slice A n c, .func (.func 125) #[] #[.pointer (some ⟨bt, 0, none⟩)]] w fun e w' => e = .returned (.bool (l.any (fun x => sameS x.name nm))) ∧ Below w.heap.size w w' := by
 go_enter Tryz.func124, Tryz.ntmps124
 go_wp2_with fail
 refine (idxOrds_any A c l n hn bt nm w B hB hL hbt hc).mono ?_
 rintro e w1 ⟨r, rfl, hr, hb⟩
 have HR := Lib.hid hr
 clear hr
 go_wp2
 go_ret
 exact ⟨ret_bool HR.out, hb⟩
def numB (o : Ord) (types : Int) : Bool :=
 inB o.penalty (-1) 1000000 && inB o.split 1 4 && (o.split == 1 || o.pick.place == -1 || o.drop.place == -1) && decide (-1 ≤ o.last) && decide (o.last < types) && decide (-1 ≤ o.now) && decide (o.now < types)
theorem winB_any (a b c : Int) (w : World) : Calls Tryz.prog 127 #[.int .i64 a, .int .i64 b, .int .i64 c] w fun e w' => e = .returned (.bool (inB a b c)) ∧ w = w' := within_any a b c w
set_option maxHeartbeats 4000000 in
theorem numbers_any (o : Ord) (C : Option Addr) (c : Nat) (types : Int) (w : World) :
  Calls Tryz.prog 129 #[.agg #[.string o.name, .slice C o.load.length c, .int .i64 o.pick.place, .int .i64 o.pick.opn, .int .i64 o.pick.close, .int .i64 o.pick.service, .int .i64 o.drop.place, .int .i64 o.drop.opn, .int .i64 o.drop.close, .int .i64 o.drop.service, .int .i64 o.skills, .int .i64 o.penalty, .int .i64 o.split, .int .i64 o.last, .int .i64 o.now, .bool o.off], .int .i64 types] w fun e w' => e = .returned (.bool (numB o types)) ∧ Below w.heap.size w w' := by
 have hw4 : inB o.penalty (-1) 1000000 = false ∨ (inB o.penalty (-1) 1000000 = true ∧ inB o.split 1 4 = false) ∨ (inB o.penalty (-1) 1000000 = true ∧ inB o.split 1 4 = true) := by
  cases inB o.penalty (-1) 1000000 <;> cases inB o.split 1 4 <;> simp
 have HN : Hid (numB o types = (inB o.penalty (-1) 1000000 && inB o.split 1 4 && (o.split == 1 || o.pick.place == -1 || o.drop.place == -1) && decide (-1 ≤ o.last) && decide (o.last < types) && decide (-1 ≤ o.now) && decide (o.now < types))) := Lib.hid rfl
 rcases hw4 with hq | ⟨hq, hq2⟩ | ⟨hq, hq2⟩
 ·go_enter Tryz.func129, Tryz.ntmps129
  go_wp2_with (go_at_call 127; refine (winB_any _ _ _ _).mono ?_; rintro e w1 ⟨rfl, rfl⟩)
  all_goals go_ret
  all_goals exact ⟨ret_bool (by rw [HN.out, hq]; rfl), (Below.refl _ _).alloc (Nat.le_refl _) _⟩
 ·go_enter Tryz.func129, Tryz.ntmps129
  go_wp2_with (go_at_call 127; refine (winB_any _ _ _ _).mono ?_; rintro e w1 ⟨rfl, rfl⟩)
  all_goals go_ret
  all_goals exact ⟨ret_bool (by rw [HN.out, hq, hq2]; rfl), (Below.refl _ _).alloc (Nat.le_refl _) _⟩
 ·have HN2 : Hid (numB o types = ((o.split == 1 || o.pick.place == -1 || o.drop.place == -1) && decide (-1 ≤ o.last) && decide (o.last < types) && decide (-1 ≤ o.now) && decide (o.now < types))) := Lib.hid (by rw [HN.out, hq, hq2]; rfl)
  go_enter Tryz.func129, Tryz.ntmps129
  go_wp2_with (go_at_call 127; refine (winB_any _ _ _ _).mono ?_; rintro e w1 ⟨rfl, rfl⟩)
  all_goals go_ret
  all_goals refine ⟨ret_bool ?_, (Below.refl _ _).alloc (Nat.le_refl _) _⟩
  all_goals rw [HN2.out]
  all_goals clear HN HN2 hq hq2
  all_goals (first | (simp [*]; done) | (simp [*]; omega) | (simp; omega))
end Go.Proofs.YthefooacfcagbaaGreatDoor.ord
namespace Go.Proofs.YthefooacfcagbaaGreatDoor.ord
open Go.RowKit
open lib rd typ txt note
set_option linter.unusedVariables false
set_option linter.unusedSimpArgs false
def OrBlk (w : World) (k : Nat) (t : Ord) (C : Option Addr) (c : Nat) : Prop := w.heap[k]? = some (.cells (OrdCells t C c).toArray 66 (0, 0))
theorem OrBlk.cells {w : World} {k : Nat} {t : Ord} {C : Option Addr} {c : Nat} (h : OrBlk w k t C c) : w.cell? ⟨k, 0, none⟩ = some (.string t.name) ∧ w.cell? ⟨k, 1, none⟩ = some (.slice C t.load.length c) ∧ w.cell? ⟨k, 2, none⟩ = some (.int .i64 t.pick.place) ∧ w.cell? ⟨k, 3, none⟩ = some (.int .i64 t.pick.opn) ∧ w.cell? ⟨k, 4, none⟩ = some (.int .i64 t.pick.close) ∧ w.cell? ⟨k, 5, none⟩ = some (.int .i64 t.pick.service) ∧
  w.cell? ⟨k, 6, none⟩ = some (.int .i64 t.drop.place) ∧ w.cell? ⟨k, 7, none⟩ = some (.int .i64 t.drop.opn) ∧ w.cell? ⟨k, 8, none⟩ = some (.int .i64 t.drop.close) ∧ w.cell? ⟨k, 9, none⟩ = some (.int .i64 t.drop.service) ∧ w.cell? ⟨k, 10, none⟩ = some (.int .i64 t.skills) ∧ w.cell? ⟨k, 11, none⟩ = some (.int .i64 t.penalty) ∧ w.cell? ⟨k, 12, none⟩ = some (.int .i64 t.split) ∧ w.cell? ⟨k, 13, none⟩ = some (.int .i64 t.last) ∧ w.cell? ⟨k, 14, none⟩ = some (.int .i64 t.now) ∧ w.cell? ⟨k, 15, none⟩ = some (.bool t.off) := by
 refine ⟨?_, ?_, ?_, ?_, ?_, ?_, ?_, ?_, ?_, ?_, ?_, ?_, ?_, ?_, ?_, ?_⟩ <;> simp [World.cell?, show w.heap[k]? = _ from h, OrdCells]
structure St (H : Nat) (w : World) (t : Ord) (C : Option Addr) (c : Nat) (xs : List Int) (wx : World) : Prop where
 box : BoxRow wx (H + 1) (H + 1 + 1 + 1) xs
 blk : OrBlk wx (H + 1 + 1) t C c
 bel : Below H w wx
 len : xs.length < 50
theorem St.size {H : Nat} {w : World} {t : Ord} {C : Option Addr} {c : Nat} {xs : List Int} {wx : World} (h : St H w t C c xs wx) : H + 1 + 1 + 1 ≤ wx.heap.size := by obtain ⟨_, _, _, _, _, h4, _⟩ := h.box; exact h4
theorem St.below {H : Nat} {w : World} {t : Ord} {C : Option Addr} {c : Nat} {xs : List Int} {wx wy : World} (h : St H w t C c xs wx) (hb : Below wx.heap.size wx wy) : St H w t C c xs wy := by
 have hs := h.size
 exact ⟨h.box.below hb, (hb.block _ (by omega)).trans h.blk, h.bel.trans (hb.mono (by omega)), h.len⟩
theorem St.add {H : Nat} {w : World} {t : Ord} {C : Option Addr} {c : Nat} {xs ys : List Int} {wx wy : World} {e : Ending} (h : St H w t C c xs wx) (ha : AddOut wx (H + 1) (H + 1 + 1 + 1) ys e wy) (hl : ys.length < 50) : St H w t C c ys wy := by
 obtain ⟨_, h1, h2, h3, _⟩ := ha
 exact ⟨h1, (h3 _ (by omega) (by omega)).trans h.blk, h.bel.trans (h2.mono (by omega)), hl⟩
def winB (o : Ord) : Bool := (win.chk o.pick.place o.pick.opn o.pick.close o.pick.service == 0) && (win.chk o.drop.place o.drop.opn o.drop.close o.drop.service == 0)
def errsO (places dims types : Int) (l : List Ord) (i : Nat) (o : Ord) : List Int :=
 pushIf (pushIf (pushIf (pushIf (pushIf (pushIf (pushIf (pushIf [] (nameB o.name) 5) (!((l.take i).any (fun x => sameS x.name o.name))) 6) (loads.rightB o.load dims) 17) (inB o.pick.place (-1) places && inB o.drop.place (-1) places) 11) ((o.pick.place != -1) || (o.drop.place != -1)) 19) (winB o) 14) (inB o.skills 0 1073741823) 18) (numB o types) 2
set_option maxRecDepth 100000 in
set_option maxHeartbeats 4000000 in
theorem errors_any (n : Nat) (A0 : Option Addr) (d0 : Nat) (A1 : Option Addr) (n1 d1 : Nat) (dims types : Int) (A : Option Addr) (c : Nat) (l : List Ord) (i : Nat) (t : Ord) (w : World) (hL : RowAt rOrd w w.heap.size A l) (hi : l[i]? = some t) (hl : l.length ≤ 5000) (hcap : l.length ≤ c) (hn : n ≤ 17592186043904) :
  Calls Tryz.prog 85 #[.agg #[.slice A0 n d0, .slice A1 n1 d1], .int .i64 dims, .int .i64 types, .slice A l.length c, .int .i64 i] w (ErrsOut w (errsO ((n : Int) - 1) dims types l i t)) := by
 obtain ⟨ad, C, cc, rfl, hadb, ⟨m0, m1, m2, m3, m4, m5, m6, m7, m8, m9, m10, m11, m12, m13, m14, m15⟩, hIC, hfit⟩ := row_Ord hL hi
 have hil : i < l.length := (List.getElem?_eq_some_iff.1 hi).1
 have hi0 : (0 : Int) ≤ (i : Int) := by omega
 have hin : (i : Int) < (l.length : Int) := by omega
 have hnp : (n : Int) ≤ 17592186043904 := by omega
 have hb0 : (ad.add (i * 16)).block < w.heap.size := by rw [block_of_add]; exact hadb
 have hb1 : (ad.add (i * 16)).block < w.heap.size + 1 := by omega
 have hb2 : (ad.add (i * 16)).block < w.heap.size + 1 + 1 := by omega
 go_enter Tryz.func85, Tryz.ntmps85
 go_upto_region 5 with fail
 obtain ⟨W0, hW0⟩ : ∃ W0, ((w.alloc (.cells #[.slice A0 n d0, .slice A1 n1 d1] 25)).alloc (.cells #[.slice none 0 0] 126)).alloc (.cells (OrdCells t C cc).toArray 66) = W0 := ⟨_, rfl⟩
 have st0 : St w.heap.size w t C cc [] W0 := by
  rw [← hW0]
  refine ⟨⟨none, 0, ?_, World.ownsRow_nil _ _ _ _, by omega, by simp, by simp⟩, ?_, ?_, by simp⟩
  ·have h := (Boxed.new (w.alloc (.cells #[.slice A0 n d0, .slice A1 n1 d1] 25)) 126 (.slice none 0 0)).alloc (.cells (OrdCells t C cc).toArray 66)
   simpa using h
  ·have h := World.alloc_heap_new ((w.alloc (.cells #[.slice A0 n d0, .slice A1 n1 d1] 25)).alloc (.cells #[.slice none 0 0] 126)) (.cells (OrdCells t C cc).toArray 66)
   simpa [OrBlk] using h
  ·exact (((Below.refl _ _).alloc (Nat.le_refl _) _).alloc (by simp) _).alloc (by simp; omega) _
 have hW1 : ((w.alloc (.cells #[.slice A0 n d0, .slice A1 n1 d1] 25)).alloc (.cells #[.slice none 0 0] 126)).alloc (.cells #[.string t.name, .slice C t.load.length cc, .int .i64 t.pick.place, .int .i64 t.pick.opn, .int .i64 t.pick.close, .int .i64 t.pick.service, .int .i64 t.drop.place, .int .i64 t.drop.opn, .int .i64 t.drop.close, .int .i64 t.drop.service, .int .i64 t.skills, .int .i64 t.penalty, .int .i64 t.split, .int .i64 t.last, .int .i64 t.now, .bool t.off] 66) = W0 := hW0
 rw [hW1]
 clear hW0 hW1 m0 m1 m2 m3 m4 m5 m6 m7 m8 m9 m10 m11 m12 m13 m14 m15
 obtain ⟨x0, hx0⟩ : ∃ x : List Int, [] = x := ⟨_, rfl⟩
 have lx0 : x0.length ≤ 0 := by rw [← hx0]; exact Nat.le_refl _
 rw [hx0] at st0
 have HX0 := Lib.hid hx0
 clear hx0
 obtain ⟨x1, hx1⟩ : ∃ x, pushIf x0 (nameB t.name) 5 = x := ⟨_, rfl⟩
 have lx1 : x1.length ≤ 1 := by have h := pushIf_len x0 (nameB t.name) 5; rw [hx1] at h; omega
 have HX1 := Lib.hid hx1
 clear hx1
 go_upto_region 5 with fail
 go_cut [] (fun wx => St w.heap.size w t C cc x1 wx)
 case first =>
  have stx := st0
  have hbx := stx.box
  obtain ⟨m0, m1, m2, m3, m4, m5, m6, m7, m8, m9, m10, m11, m12, m13, m14, m15⟩ := stx.blk.cells
  have hn1 := hfit.1
  all_goals go_wp2_with (first | (go_at_call 80; refine (name_any _ hn1 _).mono ?_; rintro e w1 ⟨rfl, rfl⟩) | (go_at_call 123; refine (add_any _ _ _ _ _ _ hbx (by omega)).mono ?_; rintro e w1 hadd; have hadd' := hadd; obtain ⟨rfl, _⟩ := hadd'))
  all_goals go_meet
  all_goals exact stx.add (by rw [← HX1.out]; exact hadd) (by omega)
 have st1 := hcut
 clear hcut st0
 obtain ⟨x2, hx2⟩ : ∃ x, pushIf x1 (!((l.take i).any (fun x => sameS x.name t.name))) 6 = x := ⟨_, rfl⟩
 have lx2 : x2.length ≤ 2 := by have h := pushIf_len x1 (!((l.take i).any (fun x => sameS x.name t.name))) 6; rw [hx2] at h; omega
 have HX2 := Lib.hid hx2
 clear hx2
 go_upto_region 6 with fail
 go_cut [] (fun wx => St w.heap.size w t C cc x2 wx)
 case first =>
  have stx := st1
  have hbx := stx.box
  obtain ⟨m0, m1, m2, m3, m4, m5, m6, m7, m8, m9, m10, m11, m12, m13, m14, m15⟩ := stx.blk.cells
  have hsz := stx.size; have hic : (i : Int) ≤ (c : Int) := (by omega); have HA := Lib.hid (And.intro ((hL.below stx.bel).take i) (show (l.take i).length = i by rw [List.length_take]; omega)); have hsz2 := stx.bel.size
  all_goals go_wp2_with (first | (go_at_call 124; refine (hasOrds_any _ _ (l.take i) i HA.out.2 _ t.name _ w.heap.size hsz2 HA.out.1 (by omega) m0).mono ?_; rintro e w2 ⟨rfl, hb2⟩; have stx := stx.below hb2; have hbx := stx.box) | (go_at_call 123; refine (add_any _ _ _ _ _ _ hbx (by omega)).mono ?_; rintro e w1 hadd; have hadd' := hadd; obtain ⟨rfl, _⟩ := hadd'))
  all_goals go_meet
  all_goals exact stx.add (by rw [← HX2.out]; exact hadd) (by omega)
 have st2 := hcut
 clear hcut st1
 obtain ⟨x3, hx3⟩ : ∃ x, pushIf x2 (loads.rightB t.load dims) 17 = x := ⟨_, rfl⟩
 have lx3 : x3.length ≤ 3 := by have h := pushIf_len x2 (loads.rightB t.load dims) 17; rw [hx3] at h; omega
 have HX3 := Lib.hid hx3
 clear hx3
 go_upto_region 7 with fail
 go_cut [] (fun wx => St w.heap.size w t C cc x3 wx)
 case first =>
  have stx := st2
  have hbx := stx.box
  obtain ⟨m0, m1, m2, m3, m4, m5, m6, m7, m8, m9, m10, m11, m12, m13, m14, m15⟩ := stx.blk.cells
  have hIC2 := hIC.below stx.bel
  all_goals go_wp2_with (first | (go_at_call 126; refine (loads.right_any _ _ _ _ _ _ hIC2).mono ?_; rintro e w1 ⟨rfl, rfl⟩) | (go_at_call 123; refine (add_any _ _ _ _ _ _ hbx (by omega)).mono ?_; rintro e w1 hadd; have hadd' := hadd; obtain ⟨rfl, _⟩ := hadd'))
  all_goals go_meet
  all_goals exact stx.add (by rw [← HX3.out]; exact hadd) (by omega)
 have st3 := hcut
 clear hcut st2
 obtain ⟨x4, hx4⟩ : ∃ x, pushIf x3 (inB t.pick.place (-1) ((n : Int) - 1) && inB t.drop.place (-1) ((n : Int) - 1)) 11 = x := ⟨_, rfl⟩
 have lx4 : x4.length ≤ 4 := by have h := pushIf_len x3 (inB t.pick.place (-1) ((n : Int) - 1) && inB t.drop.place (-1) ((n : Int) - 1)) 11; rw [hx4] at h; omega
 have HX4 := Lib.hid hx4
 clear hx4
 go_upto_region 8 with fail
 go_cut [] (fun wx => St w.heap.size w t C cc x4 wx)
 case first =>
  have stx := st3
  have hbx := stx.box
  obtain ⟨m0, m1, m2, m3, m4, m5, m6, m7, m8, m9, m10, m11, m12, m13, m14, m15⟩ := stx.blk.cells
  cases hq : inB t.pick.place (-1) ((n : Int) - 1)
  all_goals go_wp2_with (first | (go_at_call 127; refine (winB_any _ _ _ _).mono ?_; rintro e w1 ⟨rfl, rfl⟩) | (go_at_call 123; refine (add_any _ _ _ _ _ _ hbx (by omega)).mono ?_; rintro e w1 hadd; have hadd' := hadd; obtain ⟨rfl, _⟩ := hadd'))
  all_goals go_meet
  all_goals exact stx.add (by rw [← HX4.out]; rw [hq]; exact hadd) (by omega)
 have st4 := hcut
 clear hcut st3
 obtain ⟨x5, hx5⟩ : ∃ x, pushIf x4 ((t.pick.place != -1) || (t.drop.place != -1)) 19 = x := ⟨_, rfl⟩
 have lx5 : x5.length ≤ 5 := by have h := pushIf_len x4 ((t.pick.place != -1) || (t.drop.place != -1)) 19; rw [hx5] at h; omega
 have HX5 := Lib.hid hx5
 clear hx5
 go_upto_region 9 with fail
 go_cut [] (fun wx => St w.heap.size w t C cc x5 wx)
 case first =>
  have stx := st4
  have hbx := stx.box
  obtain ⟨m0, m1, m2, m3, m4, m5, m6, m7, m8, m9, m10, m11, m12, m13, m14, m15⟩ := stx.blk.cells
  cases hq : (t.pick.place != -1)
  all_goals go_wp2_with (first | fail | (go_at_call 123; refine (add_any _ _ _ _ _ _ hbx (by omega)).mono ?_; rintro e w1 hadd; have hadd' := hadd; obtain ⟨rfl, _⟩ := hadd'))
  all_goals go_meet
  all_goals exact stx.add (by rw [← HX5.out]; rw [hq]; exact hadd) (by omega)
 have st5 := hcut
 clear hcut st4
 obtain ⟨x6, hx6⟩ : ∃ x, pushIf x5 (winB t) 14 = x := ⟨_, rfl⟩
 have lx6 : x6.length ≤ 6 := by have h := pushIf_len x5 (winB t) 14; rw [hx6] at h; omega
 have HX6 := Lib.hid hx6
 clear hx6
 go_upto_region 10 with fail
 go_cut [] (fun wx => St w.heap.size w t C cc x6 wx)
 case first =>
  have stx := st5
  have hbx := stx.box
  obtain ⟨m0, m1, m2, m3, m4, m5, m6, m7, m8, m9, m10, m11, m12, m13, m14, m15⟩ := stx.blk.cells
  cases hq : (win.chk t.pick.place t.pick.opn t.pick.close t.pick.service == 0)
  all_goals go_wp2_with (first | (go_at_call 128; refine (win.check_any _ _ _ _ _).mono ?_; rintro e w2 ⟨rfl, hb2⟩; have stx := stx.below hb2; have hbx := stx.box; obtain ⟨m0, m1, m2, m3, m4, m5, m6, m7, m8, m9, m10, m11, m12, m13, m14, m15⟩ := stx.blk.cells) | (go_at_call 123; refine (add_any _ _ _ _ _ _ hbx (by omega)).mono ?_; rintro e w1 hadd; have hadd' := hadd; obtain ⟨rfl, _⟩ := hadd'))
  all_goals go_meet
  all_goals exact stx.add (by rw [← HX6.out]; unfold winB; rw [hq]; exact hadd) (by omega)
 have st6 := hcut
 clear hcut st5
 obtain ⟨x7, hx7⟩ : ∃ x, pushIf x6 (inB t.skills 0 1073741823) 18 = x := ⟨_, rfl⟩
 have lx7 : x7.length ≤ 7 := by have h := pushIf_len x6 (inB t.skills 0 1073741823) 18; rw [hx7] at h; omega
 have HX7 := Lib.hid hx7
 clear hx7
 go_upto_region 11 with fail
 go_cut [] (fun wx => St w.heap.size w t C cc x7 wx)
 case first =>
  have stx := st6
  have hbx := stx.box
  obtain ⟨m0, m1, m2, m3, m4, m5, m6, m7, m8, m9, m10, m11, m12, m13, m14, m15⟩ := stx.blk.cells
  skip
  all_goals go_wp2_with (first | (go_at_call 127; refine (winB_any _ _ _ _).mono ?_; rintro e w1 ⟨rfl, rfl⟩) | (go_at_call 123; refine (add_any _ _ _ _ _ _ hbx (by omega)).mono ?_; rintro e w1 hadd; have hadd' := hadd; obtain ⟨rfl, _⟩ := hadd'))
  all_goals go_meet
  all_goals exact stx.add (by rw [← HX7.out]; exact hadd) (by omega)
 have st7 := hcut
 clear hcut st6
 obtain ⟨x8, hx8⟩ : ∃ x, pushIf x7 (numB t types) 2 = x := ⟨_, rfl⟩
 have lx8 : x8.length ≤ 8 := by have h := pushIf_len x7 (numB t types) 2; rw [hx8] at h; omega
 have HX8 := Lib.hid hx8
 clear hx8
 go_upto_region 12 with fail
 go_cut [] (fun wx => St w.heap.size w t C cc x8 wx)
 case first =>
  have stx := st7
  have hbx := stx.box
  obtain ⟨m0, m1, m2, m3, m4, m5, m6, m7, m8, m9, m10, m11, m12, m13, m14, m15⟩ := stx.blk.cells
  skip
  all_goals go_wp2_with (first | (go_at_call 129; refine (numbers_any t C cc types _).mono ?_; rintro e w2 ⟨rfl, hb2⟩; have stx := stx.below hb2; have hbx := stx.box) | (go_at_call 123; refine (add_any _ _ _ _ _ _ hbx (by omega)).mono ?_; rintro e w1 hadd; have hadd' := hadd; obtain ⟨rfl, _⟩ := hadd'))
  all_goals go_meet
  all_goals exact stx.add (by rw [← HX8.out]; exact hadd) (by omega)
 have st8 := hcut
 clear hcut st7
 have EL : Hid (x8 = errsO ((n : Int) - 1) dims types l i t) := Lib.hid (by
  rw [← HX8.out, ← HX7.out, ← HX6.out, ← HX5.out, ← HX4.out, ← HX3.out, ← HX2.out, ← HX1.out, ← HX0.out]
  rfl)
 obtain ⟨⟨A9, c9, hbox, hown, _, _, _⟩, _, hbel, _⟩ := st8
 have hcb := hbox.cell
 go_wp2
 go_ret
 rw [← EL.out]
 refine ⟨A9, c9, rfl, ?_, hbel⟩
 rcases hown.2 with ⟨h6, h7⟩ | ⟨g, cap, cur, h6, h7, h8⟩
 ·exact ⟨hown.1, .inl ⟨h6, h7⟩⟩
 ·exact ⟨hown.1, .inr ⟨g, cap, cur, h6, by omega, h8⟩⟩
end Go.Proofs.YthefooacfcagbaaGreatDoor.ord
namespace Go.Proofs.YthefooacfcagbaaGreatDoor.ord
open Go.RowKit
open lib rd typ txt app note flts
set_option linter.unusedVariables false
def ofltsAt (P dims types : Int) (l : List Ord) (i : Nat) : List Flt := match l[i]? with
 | some t => mkF i (errsO P dims types l i t)
 | none => []
def ofltsTo (P dims types : Int) (l : List Ord) : Nat → List Flt
 | 0 => if l.length ≤ 10 then [] else [⟨4, ⟨#[]⟩⟩]
 | j + 1 => ofltsTo P dims types l j ++ ofltsAt P dims types l j
theorem errsO_len (P dims types : Int) (l : List Ord) (i : Nat) (t : Ord) : (errsO P dims types l i t).length ≤ 8 := by
 unfold errsO
 repeat (refine Nat.le_trans (pushIf_len _ _ _) (Nat.add_le_add_right ?_ 1))
 exact Nat.le_refl _
theorem ofltsTo_len (P dims types : Int) (l : List Ord) : ∀ j, (ofltsTo P dims types l j).length ≤ 1 + 8 * j
 | 0 => by unfold ofltsTo; split <;> simp
 | j + 1 => by
  have ih := ofltsTo_len P dims types l j
  have h : (ofltsAt P dims types l j).length ≤ 8 := by
   unfold ofltsAt
   split
   ·unfold mkF; rw [List.length_map]; exact errsO_len _ _ _ _ _ _
   ·exact Nat.zero_le _
  rw [ofltsTo, List.length_append]
  omega
theorem ofltsTo_succ {P dims types : Int} {l : List Ord} {j : Nat} {t : Ord} (h : l[j]? = some t) : ofltsTo P dims types l (j + 1) = ofltsTo P dims types l j ++ mkF j (errsO P dims types l j t) := by
 rw [ofltsTo]
 unfold ofltsAt
 rw [h]
end Go.Proofs.YthefooacfcagbaaGreatDoor.ord

import Derived.Test.YthefooacfcagbaaGreatDoorBase
import Derived.Lib.AtoiAllCases
import Derived.Lib.ItoaNum
import Derived.Lib.Join
import Derived.Lib.Strings
import Derived.Test.YthefooacfcagbaaGreatDoorShelf
import Derived.Lib.LaidTab
import Derived.Lib.AtoiErrMem
import Derived.Deep.DeepCutAuto
import Derived.Outline
import Derived.Deep.QuietTactic
import Derived.BigQuiet
import Derived.OwnWalk
import Derived.Lib.IndexLaws
/- Plain: numbers in decimal form and back; lines of words. -/
namespace Go.Proofs.YthefooacfcagbaaGreatDoor.txt
open Go Go.RowKit
set_option linter.unusedVariables false
abbrev By := List UInt8
def isD (c : UInt8) : Bool := decide (48 ≤ c.toNat ∧ c.toNat ≤ 57)
def valD (acc : Nat) : By → Nat
 | [] => acc
 | c :: r => valD (acc * 10 + (c.toNat - 48)) r
theorem valD_app (acc : Nat) (a b : By) : valD acc (a ++ b) = valD (valD acc a) b := by
 induction a generalizing acc with
 | nil => rfl
 | cons c r ih => exact ih _
theorem valD_ge (acc : Nat) (l : By) : acc ≤ valD acc l := by
 induction l generalizing acc with
 | nil => exact Nat.le_refl _
 | cons c r ih => exact Nat.le_trans (by omega) (ih _)
theorem parse_digs : ∀ (l : By) (acc : Nat), acc < 18446744073709551616 → l.all isD = true → Lib.parseUint10 acc l = if valD acc l < 18446744073709551616 then .ok (valD acc l) else .range
 | [], acc, ha, _ => by
  show Lib.parseUint10 acc [] = if acc < _ then Lib.NumEnd.ok acc else _
  rw [if_pos ha]; rfl
 | c :: r, acc, ha, h => by
  rw [List.all_cons, Bool.and_eq_true] at h
  have hc : 48 ≤ c.toNat ∧ c.toNat ≤ 57 := of_decide_eq_true h.1
  have hge := valD_ge (acc * 10 + (c.toNat - 48)) r
  have hv : valD acc (c :: r) = valD (acc * 10 + (c.toNat - 48)) r := rfl
  rw [hv]
  unfold Lib.parseUint10
  rw [if_pos hc]
  split
  ·rw [if_neg (by omega)]
  ·split
   ·rw [if_neg (by omega)]
   ·exact parse_digs r _ (by omega) h.2
def in64 (n : Int) : Prop := -9223372036854775808 ≤ n ∧ n ≤ 9223372036854775807
def decW (n : Int) : ByteArray := ⟨(Lib.itoa n).toArray⟩
theorem decW_list (n : Int) : (decW n).data.toList = Lib.itoa n := by unfold decW; simp
def sgn (l : By) : Bool := decide (l.head? = some 45)
def dgs (l : By) : By := if sgn l then l.drop 1 else l
def goodD (l : By) : Bool := decide (l ≠ []) && (decide (l.head? ≠ some 48) || decide (l = [48])) && l.all isD
def numL (l : By) : Int × Int :=
 let d := dgs l
 if d = [] ∨ (d.head? = some 48 ∧ l ≠ [48]) then (0, 3)
 else if d.all isD = false then (0, 3)
 else if sgn l then (if valD 0 d ≤ 9223372036854775808 then (-(valD 0 d : Int), 0) else (0, 4))
 else (if valD 0 d ≤ 9223372036854775807 then ((valD 0 d : Int), 0) else (0, 4))
theorem dec_val : ∀ (u : Nat), valD 0 (Lib.decDigits u) = u := by
 intro u
 induction u using Nat.strongRecOn with
 | _ u ih =>
  rw [Lib.decDigits]
  split
  ·rename_i h
   show 0 * 10 + ((UInt8.ofNat (48 + u)).toNat - 48) = u
   rw [UInt8.toNat_ofNat']
   omega
  ·rename_i h
   rw [valD_app, ih (u / 10) (by omega)]
   show u / 10 * 10 + ((UInt8.ofNat (48 + u % 10)).toNat - 48) = u
   rw [UInt8.toNat_ofNat']
   omega
theorem dec_all : ∀ (u : Nat), (Lib.decDigits u).all isD = true := by
 intro u
 induction u using Nat.strongRecOn with
 | _ u ih =>
  rw [Lib.decDigits]
  split
  ·rename_i h
   rw [List.all_cons, List.all_nil, Bool.and_true]
   unfold isD
   rw [UInt8.toNat_ofNat', decide_eq_true_eq]
   omega
  ·rename_i h
   rw [List.all_append, ih (u / 10) (by omega), Bool.true_and, List.all_cons, List.all_nil, Bool.and_true]
   unfold isD
   rw [UInt8.toNat_ofNat', decide_eq_true_eq]
   omega
theorem dec_ne : ∀ (u : Nat), Lib.decDigits u ≠ [] := by
 intro u h
 have := Lib.decDigits_length u
 rw [h] at this
 have := Lib.nDigits_pos u
 simp at *
 omega
theorem u8_48 {u : Nat} (h : u < 10) (e : UInt8.ofNat (48 + u) = 48) : u = 0 := by
 have := congrArg UInt8.toNat e
 rw [UInt8.toNat_ofNat'] at this
 have h48 : (48 : UInt8).toNat = 48 := rfl
 omega
theorem dec_head : ∀ (u : Nat), 0 < u → (Lib.decDigits u).head? ≠ some 48 := by
 intro u
 induction u using Nat.strongRecOn with
 | _ u ih =>
  intro h0
  rw [Lib.decDigits]
  split
  ·rename_i h
   rw [List.head?_cons]
   intro e
   have := u8_48 h (Option.some.inj e)
   omega
  ·rename_i h
   have h1 := ih (u / 10) (by omega) (by omega)
   cases hd : Lib.decDigits (u / 10) with
   | nil => exact absurd hd (dec_ne _)
   | cons x r =>
    rw [hd] at h1
    simpa using h1
theorem dec_zero : Lib.decDigits 0 = [48] := by rw [Lib.decDigits]; rfl
theorem canonR : ∀ (l : By), l ≠ [] → l.head? ≠ some 48 → l.all isD = true → 0 < valD 0 l ∧ Lib.decDigits (valD 0 l) = l := by
 intro l
 induction hn : l.length using Nat.strongRecOn generalizing l with
 | _ n ih =>
  intro h0 h1 h2
  obtain ⟨r, c, rfl⟩ : ∃ r c, l = r ++ [c] := ⟨l.dropLast, l.getLast h0, (List.dropLast_concat_getLast h0).symm⟩
  rw [List.all_append, Bool.and_eq_true, List.all_cons, List.all_nil, Bool.and_true] at h2
  have hc : 48 ≤ c.toNat ∧ c.toNat ≤ 57 := of_decide_eq_true h2.2
  rw [valD_app]
  have hlast : ∀ a, valD a [c] = a * 10 + (c.toNat - 48) := fun a => rfl
  rw [hlast]
  have hcb : UInt8.ofNat (48 + (c.toNat - 48)) = c := by
   apply UInt8.toNat_inj.1
   rw [UInt8.toNat_ofNat']
   omega
  cases r with
  | nil =>
   have hne : c ≠ 48 := by intro e; subst e; exact h1 rfl
   have hne2 : c.toNat ≠ 48 := fun e => hne (UInt8.toNat_inj.1 e)
   show 0 < 0 * 10 + (c.toNat - 48) ∧ Lib.decDigits (0 * 10 + (c.toNat - 48)) = [c]
   refine ⟨by omega, ?_⟩
   rw [Nat.zero_mul, Nat.zero_add, Lib.decDigits_one (by omega), hcb]
  | cons x t =>
   have hr := ih (x :: t).length (by rw [← hn]; simp) (x :: t) rfl (by simp) (by simpa using h1) h2.1
   obtain ⟨hp, hd⟩ := hr
   generalize hV : valD 0 (x :: t) = V at hp hd ⊢
   refine ⟨by omega, ?_⟩
   rw [Lib.decDigits, dif_neg (by omega)]
   rw [show (V * 10 + (c.toNat - 48)) / 10 = V by omega, show (V * 10 + (c.toNat - 48)) % 10 = c.toNat - 48 by omega, hd, hcb]
theorem canon {l : By} (h : goodD l = true) : Lib.decDigits (valD 0 l) = l := by
 unfold goodD at h
 rw [Bool.and_eq_true, Bool.and_eq_true, Bool.or_eq_true, decide_eq_true_eq, decide_eq_true_eq, decide_eq_true_eq] at h
 obtain ⟨⟨h0, h1⟩, h2⟩ := h
 rcases h1 with h1 | rfl
 ·exact (canonR l h0 h1 h2).2
 ·exact dec_zero
theorem good_dec (u : Nat) : goodD (Lib.decDigits u) = true := by
 unfold goodD
 rw [Bool.and_eq_true, Bool.and_eq_true, Bool.or_eq_true, decide_eq_true_eq, decide_eq_true_eq, decide_eq_true_eq]
 refine ⟨⟨dec_ne u, ?_⟩, dec_all u⟩
 rcases Nat.eq_zero_or_pos u with rfl | h
 ·exact .inr dec_zero
 ·exact .inl (dec_head u h)
theorem head_dig {l : By} (h : goodD l = true) : l.head? ≠ some 45 := by
 unfold goodD at h
 rw [Bool.and_eq_true, Bool.and_eq_true] at h
 cases l with
 | nil => simp
 | cons c r =>
  have h2 := h.2
  rw [List.all_cons, Bool.and_eq_true] at h2
  intro e
  have e2 : c = 45 := Option.some.inj e
  subst e2
  exact absurd h2.1 (by decide)
theorem num_dec {n : Int} (h : in64 n) : numL (Lib.itoa n) = (n, 0) := by
 obtain ⟨h0, h1⟩ := h
 unfold Lib.itoa
 by_cases hn : n < 0
 ·rw [if_pos hn]
  have hg := good_dec n.natAbs
  have hv := dec_val n.natAbs
  have hgd := hg
  unfold goodD at hg
  rw [Bool.and_eq_true, Bool.and_eq_true, Bool.or_eq_true, decide_eq_true_eq, decide_eq_true_eq, decide_eq_true_eq] at hg
  have hne : (Lib.decDigits n.natAbs).head? ≠ some 48 := dec_head _ (by omega)
  have hs : sgn (45 :: Lib.decDigits n.natAbs) = true := rfl
  have hd : dgs (45 :: Lib.decDigits n.natAbs) = Lib.decDigits n.natAbs := by unfold dgs; rw [if_pos hs]; rfl
  unfold numL
  simp only [hd, hs]
  rw [if_neg (by rintro (e | e); exact hg.1.1 e; exact hne e.1), if_neg (by rw [hg.2]; decide), if_pos trivial, hv, if_pos (by omega)]
  congr 1
  omega
 ·rw [if_neg hn]
  have hg := good_dec n.toNat
  have hv := dec_val n.toNat
  have hs : sgn (Lib.decDigits n.toNat) = false := decide_eq_false (head_dig hg)
  unfold goodD at hg
  rw [Bool.and_eq_true, Bool.and_eq_true, Bool.or_eq_true, decide_eq_true_eq, decide_eq_true_eq, decide_eq_true_eq] at hg
  have hd : dgs (Lib.decDigits n.toNat) = Lib.decDigits n.toNat := by unfold dgs; rw [if_neg (by rw [hs]; decide)]
  unfold numL
  simp only [hd, hs]
  rw [if_neg (by rintro (e | e); exact hg.1.1 e; rcases hg.1.2 with h | h; exact h e.1; exact e.2 h), if_neg (by rw [hg.2]; decide), if_neg (by decide), hv, if_pos (by omega)]
  congr 1
  omega
theorem dec_num {l : By} {n : Int} (h : numL l = (n, 0)) : l = Lib.itoa n ∧ in64 n := by
 unfold numL at h
 simp only [] at h
 split at h
 ·cases h
 rename_i hA
 split at h
 ·cases h
 rename_i hB
 have hB' : (dgs l).all isD = true := by simpa using hB
 rw [not_or] at hA
 obtain ⟨hA1, hA2⟩ := hA
 split at h
 ·rename_i hs
  have hs' : l.head? = some 45 := of_decide_eq_true hs
  split at h
  ·rename_i hle
   injection h with h _
   have hd : dgs l = l.drop 1 := by unfold dgs; rw [if_pos hs]
   obtain ⟨c, r, rfl⟩ : ∃ c r, l = c :: r := by cases l with | nil => cases hs' | cons c r => exact ⟨c, r, rfl⟩
   obtain rfl : c = 45 := Option.some.inj hs'
   rw [hd] at hA1 hA2 hB' hle h
   rw [List.drop_one, List.tail_cons] at hA1 hA2 hB' hle h
   have hne : r.head? ≠ some 48 := fun e => hA2 ⟨e, by intro e2; injection e2 with e3 _; exact absurd e3 (by decide)⟩
   have hc := canonR r hA1 hne hB'
   have hp := hc.1
   refine ⟨?_, by unfold in64; omega⟩
   unfold Lib.itoa
   rw [if_pos (by omega), show n.natAbs = valD 0 r by omega, hc.2]
  ·cases h
 ·rename_i hs
  have hs' : l.head? ≠ some 45 := by intro e; exact hs (decide_eq_true e)
  have hd : dgs l = l := by unfold dgs; rw [if_neg hs]
  rw [hd] at hA1 hA2 hB' h
  split at h
  ·rename_i hle
   injection h with h _
   refine ⟨?_, by unfold in64; omega⟩
   unfold Lib.itoa
   rw [if_neg (by omega), show n.toNat = valD 0 l by omega]
   refine (canon ?_).symm
   unfold goodD
   rw [Bool.and_eq_true, Bool.and_eq_true, Bool.or_eq_true, decide_eq_true_eq, decide_eq_true_eq, decide_eq_true_eq]
   refine ⟨⟨hA1, ?_⟩, hB'⟩
   by_cases e : l.head? = some 48
   ·right
    by_cases e2 : l = [48]
    ·exact e2
    ·exact absurd ⟨e, e2⟩ hA2
   ·exact .inl e
  ·cases h
theorem atoi_num {l : By} (h0 : ¬ (dgs l = [] ∨ ((dgs l).head? = some 48 ∧ l ≠ [48]))) (h1 : (dgs l).all isD = true) : (∃ v, Lib.atoiAll l = .ok v ∧ numL l = (v, 0)) ∨ (Lib.atoiAll l = .range ∧ numL l = (0, 4)) := by
 rw [not_or] at h0
 obtain ⟨hA1, hA2⟩ := h0
 unfold numL
 simp only []
 rw [if_neg (by rw [not_or]; exact ⟨hA1, hA2⟩), if_neg (by rw [h1]; decide)]
 cases hl : l with
 | nil => rw [hl] at hA1; exact absurd rfl hA1
 | cons c r =>
  subst hl
  by_cases hc : c = 45
  ·subst hc
   have hs : sgn (45 :: r) = true := rfl
   have hd : dgs (45 :: r) = r := by unfold dgs; rw [if_pos hs]; rfl
   rw [hd] at hA1 h1 ⊢
   rw [if_pos hs, Lib.atoiAll_minus]
   unfold Lib.parseMag
   rw [if_neg hA1, parse_digs r 0 (by omega) h1]
   generalize valD 0 r = V
   by_cases hV : V < 18446744073709551616
   ·rw [if_pos hV]
    by_cases hV2 : V ≤ 9223372036854775808
    ·left
     refine ⟨-(V : Int), ?_, by rw [if_pos hV2]⟩
     unfold Lib.signed
     simp only []
     rw [if_neg (by omega)]
    ·right
     refine ⟨?_, by rw [if_neg hV2]⟩
     unfold Lib.signed
     simp only []
     rw [if_pos (by omega)]
   ·right
    rw [if_neg hV]
    exact ⟨rfl, by rw [if_neg (by omega)]⟩
  ·have hc45 : c.toNat ≠ 45 := fun e => hc (UInt8.toNat_inj.1 e)
   have hs : sgn (c :: r) = false := decide_eq_false (by intro e; exact hc (Option.some.inj e))
   have hd : dgs (c :: r) = c :: r := by unfold dgs; rw [if_neg (by rw [hs]; decide)]
   rw [hd] at hA1 h1 ⊢
   have hcd : 48 ≤ c.toNat := by
    rw [List.all_cons, Bool.and_eq_true] at h1
    exact (of_decide_eq_true h1.1).1
   rw [if_neg (by rw [hs]; decide), Lib.atoiAll_plain c r (by omega) hc45]
   unfold Lib.parseMag
   rw [if_neg (by simp), parse_digs (c :: r) 0 (by omega) h1]
   generalize valD 0 (c :: r) = V
   by_cases hV : V < 18446744073709551616
   ·rw [if_pos hV]
    by_cases hV2 : V ≤ 9223372036854775807
    ·left
     refine ⟨(V : Int), ?_, by rw [if_pos hV2]⟩
     unfold Lib.signless
     simp only []
     rw [if_neg (by omega)]
    ·right
     refine ⟨?_, by rw [if_neg hV2]⟩
     unfold Lib.signless
     simp only []
     rw [if_pos (by omega)]
   ·right
    rw [if_neg hV]
    exact ⟨rfl, by rw [if_neg (by omega)]⟩
end Go.Proofs.YthefooacfcagbaaGreatDoor.txt

/- The tables of the library; text.Decimal and text.Number. -/
namespace Go.Proofs.YthefooacfcagbaaGreatDoor.txt
open Go.RowKit
open lib
set_option linter.unusedVariables false
theorem var_below {P : Program} {w w' : World} {n : String} {cs : Array Value} (h : w.var? P n = some cs) (hb : Below w.heap.size w w') : w'.var? P n = some cs := by
 unfold World.var? at h ⊢
 cases hg : P.globalNamed n with
 | none => rw [hg] at h; cases h
 | some g =>
  rw [hg] at h
  simp only [Option.bind_some] at h ⊢
  have hlt : g < w.heap.size := by
   by_cases hh : g < w.heap.size
   ·exact hh
   ·rw [Array.getElem?_eq_none (by omega)] at h; cases h
  rw [hb.block g hlt]; exact h
structure Tabs (w : World) : Prop where
 pow : Lib.TabIs Tryz.prog w "internal/strconv.uint64pow10" .u64 Lib.pow10Tab
 rng : ∃ tp p, w.var? Tryz.prog "strconv.ErrRange" = some #[.iface tp p]
theorem Tabs.below {w w' : World} (h : Tabs w) (hb : Below w.heap.size w w') : Tabs w' :=
 ⟨var_below h.pow hb, h.rng.elim fun tp ⟨p, hp⟩ => ⟨tp, p, var_below hp hb⟩⟩
theorem below_grow (w : World) (k : Nat) (os : Array Obj) : Below w.heap.size w (Go.Sort.grow (w.drewN k) os) :=
 ⟨rfl, rfl, rfl, by show w.heap.size ≤ (w.heap ++ os).size; simp, fun j hj => by show (w.heap ++ os)[j]? = _; rw [Array.getElem?_append_left hj]⟩
theorem decW_any (n : Int) (h : in64 n) (w : World) (ht : Tabs w) : Calls Tryz.prog 41 #[.int .i64 n] w fun e w' => e = .returned (.string (decW n)) ∧ Below w.heap.size w w' := by
 have hc := Tryz.strconv_Itoa n h.1 h.2 w ht.pow
 clear h
 go_enter Tryz.func41, Tryz.ntmps41
 go_wp2_with (go_at_call 77; refine hc.mono ?_; rintro e w1 ⟨rfl, k, os, rfl⟩)
 go_ret
 exact ⟨rfl, below_grow _ _ _⟩
theorem trim_dgs (l : By) : Lib.trimPrefix l [45] = dgs l := by
 unfold dgs sgn Lib.trimPrefix
 cases l with
 | nil => rfl
 | cons c r =>
  by_cases hc : c = 45
  ·subst hc; rfl
  ·have h2 : ¬ decide ((c :: r).head? = some 45) = true := by intro h; exact hc (Option.some.inj (of_decide_eq_true h))
   rw [if_neg h2, if_neg]
   intro h
   unfold Lib.hasPrefix at h
   simp at h
   exact hc h.symm
theorem loop_list (s : ByteArray) : ∀ (m i : Nat) (r : List UInt8), s.size - i = m → ByteArray.toList.loop s i r = r.reverse ++ s.data.toList.drop i
 | 0, i, r, h => by
  rw [ByteArray.toList.loop, if_neg (by omega), List.drop_of_length_le (by simp; omega)]
  simp
 | m + 1, i, r, h => by
  have hl : i < s.data.toList.length := by simp; omega
  rw [ByteArray.toList.loop, if_pos (by omega), loop_list s m (i + 1) _ (by omega), List.drop_eq_getElem_cons hl]
  simp [ByteArray.get!]
  have hs : i < s.data.size := by simpa using hl
  exact getElem!_pos s.data i hs
theorem toList_data (s : ByteArray) : s.toList = s.data.toList := by
 show ByteArray.toList.loop s 0 [] = _
 rw [loop_list s s.size 0 [] (by omega)]
 simp
def badH (l : By) : Bool := decide (dgs l = [] ∨ ((dgs l).head? = some 48 ∧ l ≠ [48]))
theorem badH_no {l : By} (h : badH l = false) : ¬ (dgs l = [] ∨ ((dgs l).head? = some 48 ∧ l ≠ [48])) := of_decide_eq_false h
theorem numL_bad {l : By} (h : badH l = true) : numL l = (0, 3) := by
 unfold numL
 simp only []
 rw [if_pos (of_decide_eq_true h)]
theorem numL_dig {l : By} (h : badH l = false) (h2 : (dgs l).all isD = false) : numL l = (0, 3) := by
 unfold numL
 simp only []
 rw [if_neg (badH_no h), if_pos h2]
theorem isD_digB (c : UInt8) : isD c = digB (c.toNat : Int) := by
 unfold isD digB
 rw [Bool.eq_iff_iff, decide_eq_true_eq, decide_eq_true_eq]
 omega
theorem at_list {d : ByteArray} {l : By} (h : d.toList = l) (k : Nat) (hk : k < d.size) : l[k]? = some d[k] := by
 rw [← h, toList_data]
 exact List.getElem?_eq_getElem (l := d.data.toList) (by simpa using hk)
theorem size_list {d : ByteArray} {l : By} (h : d.toList = l) : d.size = l.length := by
 rw [← h, toList_data]
 simp
theorem ret_nn {a b c d : Int} (h : a = b) (h' : c = d) : Ending.returned (.tuple #[.int .i64 a, .int .i64 c]) = .returned (.tuple #[.int .i64 b, .int .i64 d]) := by rw [h, h']
set_option maxRecDepth 100000 in
theorem number_any (s : ByteArray) (hm : s.size ≤ 140737488351232) (w : World) (ht : Tabs w) : Calls Tryz.prog 151 #[.string s] w fun e w' => e = .returned (.tuple #[.int .i64 (numL s.data.toList).1, .int .i64 (numL s.data.toList).2]) ∧ Below w.heap.size w w' := by
 have hT := Tryz.strings_TrimPrefix s ⟨#[45]⟩ w
 have hd : Lib.trimPrefix s.data.toList [45] = dgs s.data.toList := trim_dgs _
 have hT : Calls Tryz.prog 172 #[.string s, .string ⟨#[45]⟩] w fun e w' => ∃ d : ByteArray, e = .returned (.string d) ∧ w' = w ∧ d.toList = dgs s.data.toList ∧ d.size ≤ s.size := hT.mono (by
  rintro e w' ⟨rfl, rfl⟩
  refine ⟨_, rfl, rfl, ?_, ?_⟩
  ·rw [toList_data]
   show (Lib.trimPrefix s.data.toList [45]).toArray.toList = _
   rw [hd]
  ·show (Lib.trimPrefix s.data.toList [45]).toArray.size ≤ s.size
   have := Lib.trimPrefix_le s.data.toList [45]
   simpa using this)
 have hsl := toList_data s
 obtain ⟨l, hl⟩ : ∃ l, s.data.toList = l := ⟨_, rfl⟩
 obtain ⟨D, hD⟩ : ∃ D, dgs l = D := ⟨_, rfl⟩
 rw [hl] at hsl
 rw [hl, hD] at hT
 rw [hl]
 have HD := Lib.hid hD
 have HL := Lib.hid hl
 have HA : Hid (badH l = false → D.all isD = true → (∃ v, Lib.atoiAll l = .ok v ∧ numL l = (v, 0)) ∨ (Lib.atoiAll l = .range ∧ numL l = (0, 4))) := Lib.hid (fun h1 h2 => atoi_num (badH_no h1) (by rw [HD.out]; exact h2))
 clear hd hD hl
 go_enter Tryz.func151, Tryz.ntmps151
 go_upto_region 2 with (go_at_call 172; refine hT.mono ?_; rintro e w1 ⟨d, rfl, rfl, hdl, hds⟩)
 clear hT
 go_cut [20] (fun v wx => v = .bool (badH l) ∧ w1 = wx)
 case first => as_aux_lemma =>
  cases D with
  | nil =>
   have hB : badH l = true := decide_eq_true (.inl HD.out)
   have HB := Lib.hid hB; clear hB
   go_wp2
   go_meet
   exact ⟨by rw [HB.out]; try rfl, rfl⟩
  | cons c r =>
   have hz : 0 < d.size := by rw [size_list hdl]; simp
   have h0 : d[0] = c := by have := at_list hdl 0 hz; exact (Option.some.inj this).symm
   by_cases hc : c = 48
   ·by_cases hl : l = [48]
    ·have hB : badH l = false := by
      refine decide_eq_false ?_
      rw [HD.out]
      rintro (h | h)
      ·cases h
      ·exact h.2 hl
     have HB := Lib.hid hB; clear hB
     rw [hl] at hsl
     have hc2 : (c.toNat : Int) = 48 := by rw [hc]; rfl
     go_wp2
     go_meet
     exact ⟨by rw [HB.out]; try rfl, rfl⟩
    ·have hB : badH l = true := by
      refine decide_eq_true ?_
      rw [HD.out]
      exact .inr ⟨by rw [hc]; rfl, hl⟩
     have HB := Lib.hid hB; clear hB
     have hl2 : (s.toList == [48]) = false := by rw [hsl]; simpa using hl
     have hc2 : (c.toNat : Int) = 48 := by rw [hc]; rfl
     clear hsl
     go_wp2
     go_meet
     exact ⟨by rw [HB.out]; try rfl, rfl⟩
   ·have hB : badH l = false := by
     refine decide_eq_false ?_
     rw [HD.out]
     rintro (h | h)
     ·cases h
     ·exact hc (Option.some.inj h.1)
    have HB := Lib.hid hB; clear hB
    have hc2 : (c.toNat : Int) ≠ 48 := by intro e; apply hc; apply UInt8.toNat_inj.1; have : (48 : UInt8).toNat = 48 := rfl; omega
    go_wp2
    go_meet
    exact ⟨by rw [HB.out]; try rfl, rfl⟩
 obtain ⟨rfl, rfl⟩ := hcut
 cases hB : badH l
 case true =>
  have hN := Lib.hid (numL_bad hB)
  clear hB
  go_wp2
  refine bodyPost_ret (v := .tuple #[.int .i64 (0), .int .i64 3]) (by simp [results, Tryz.results151, go_sem]) rfl ?_
  exact ⟨ret_nn (by rw [hN.out]) (by rw [hN.out]), Below.refl _ _⟩
 have HB := Lib.hid hB
 clear hB
 go_upto_region 5 with fail
 go_loop [5, 23] (fun _ i => ∃ k : Nat, k ≤ d.size ∧ i = .int .i64 k ∧ Hid (D.all isD = (D.drop k).all isD)) (fun _ i => d.size - (intOf i).toNat)
 case atStart => exact ⟨0, by omega, rfl, Lib.hid rfl⟩
 case round =>
  obtain ⟨k, hk, rfl, hr⟩ := hrel
  by_cases hlt : k < d.size
  ·have hst : Hid ((D.drop k).all isD = (digB (d[k].toNat : Int) && (D.drop (k + 1)).all isD)) := Lib.hid (by
    rw [drop_at' (at_list hdl k hlt), List.all_cons, isD_digB])
   cases hg : digB (d[k].toNat : Int)
   ·have HF : Hid (numL l = (0, 3)) := Lib.hid (numL_dig HB.out (by rw [HD.out, hr.out, hst.out, hg]; rfl))
    go_wp2_with (go_at_call 114; refine (digit_any _ _).mono ?_; rintro e w2 ⟨rfl, rfl⟩)
    refine bodyPost_ret (v := .tuple #[.int .i64 (0), .int .i64 3]) (by simp [results, Tryz.results151, go_sem]) rfl ?_
    exact ⟨ret_nn (by rw [HF.out]) (by rw [HF.out]), Below.refl _ _⟩
   ·have HF : Hid (D.all isD = (D.drop (k + 1)).all isD) := Lib.hid (by rw [hr.out, hst.out, hg]; rfl)
    go_wp2_with (go_at_call 114; refine (digit_any _ _).mono ?_; rintro e w2 ⟨rfl, rfl⟩)
    go_round
    case rel => exact ⟨k + 1, by omega, by go_num, HF⟩
    case measure => simp [intOf]; omega
  ·have HF : D.all isD = true := by rw [hr.out, List.drop_of_length_le (by rw [← size_list hdl]; omega)]; rfl
   obtain ⟨tp, p, hvar⟩ := ht.rng
   rcases HA.out HB.out HF with ⟨v, h1, h2⟩ | ⟨h1, h2⟩
   ·have HN := Lib.hid h2
    have hc := Tryz.strconv_Atoi_ok s (by omega) v (by rw [HL.out]; exact h1) w1
    clear h1 h2 HF
    go_wp2_with (go_at_call 173; refine hc.mono ?_; rintro e w2 ⟨rfl, hw2⟩)
    refine bodyPost_ret (v := .tuple #[.int .i64 (v), .int .i64 0]) (by simp [results, Tryz.results151, go_sem]) rfl ?_
    refine ⟨ret_nn (by rw [HN.out]) (by rw [HN.out]), ?_⟩
    rcases hw2 with rfl | ⟨t, rfl⟩
    ·exact Below.refl _ _
    ·exact Lib.bytesWorld_below _ _ _
   ·have HN := Lib.hid h2
    have hc := Tryz.strconv_Atoi_range_var s (by omega) (by rw [HL.out]; exact h1) tp p w1 hvar
    clear h1 h2 HF
    go_wp2_with (go_at_call 173; refine hc.mono ?_; rintro e w2 ⟨N, rfl, hN1, hN2, hb2⟩)
    refine bodyPost_ret (v := .tuple #[.int .i64 (0), .int .i64 4]) (by simp [results, Tryz.results151, go_sem]) rfl ?_
    exact ⟨ret_nn (by rw [HN.out]) (by rw [HN.out]), hb2⟩
end Go.Proofs.YthefooacfcagbaaGreatDoor.txt

/- Plain: lines of words. -/
namespace Go.Proofs.YthefooacfcagbaaGreatDoor.txt
open Go Go.RowKit
set_option linter.unusedVariables false
def isW (c : UInt8) : Bool := decide (33 ≤ c.toNat ∧ c.toNat ≤ 126 ∧ c.toNat ≠ 34)
def wordB (l : By) : Bool := decide (l ≠ []) && l.all isW
def notSp (c : UInt8) : Bool := decide (c ≠ 32)
def fstW (l : By) : By := l.takeWhile notSp
def joinS (L : List By) : By := Lib.join L [32]
theorem isW_sp {c : UInt8} (h : isW c = true) : notSp c = true := by
 have h1 : 33 ≤ c.toNat ∧ c.toNat ≤ 126 ∧ c.toNat ≠ 34 := of_decide_eq_true h
 refine decide_eq_true ?_
 rintro rfl
 exact absurd h1.1 (by decide)
theorem joinS_cons (x y : By) (r : List By) : joinS (x :: y :: r) = x ++ 32 :: joinS (y :: r) := by
 unfold joinS Lib.join
 rw [List.intercalate, List.intercalate]
 simp [List.intersperse]
theorem joinS_one (x : By) : joinS [x] = x := Lib.join_one x _
theorem take_all {p : UInt8 → Bool} : ∀ {l : By}, l.all p = true → ∀ r, (r = [] ∨ ∃ c t, r = c :: t ∧ p c = false) → (l ++ r).takeWhile p = l
 | [], _, r, hr => by
  rcases hr with rfl | ⟨c, t, rfl, hc⟩
  ·rfl
  ·rw [List.nil_append, List.takeWhile_cons, hc]; rfl
 | x :: l, h, r, hr => by
  rw [List.all_cons, Bool.and_eq_true] at h
  rw [List.cons_append, List.takeWhile_cons, h.1]
  simp [take_all h.2 r hr]
theorem all_mono {p q : UInt8 → Bool} (h : ∀ c, p c = true → q c = true) : ∀ {l : By}, l.all p = true → l.all q = true
 | [], _ => rfl
 | x :: l, hl => by
  rw [List.all_cons, Bool.and_eq_true] at hl ⊢
  exact ⟨h x hl.1, all_mono h hl.2⟩
theorem fst_join {x : By} {r : List By} (hx : wordB x = true) : fstW (joinS (x :: r)) = x ∧ (joinS (x :: r)).takeWhile isW = x := by
 have hx2 : x.all isW = true := by unfold wordB at hx; rw [Bool.and_eq_true] at hx; exact hx.2
 have hx3 : x.all notSp = true := all_mono (fun c => isW_sp) hx2
 cases r with
 | nil =>
  rw [joinS_one]
  have h1 := take_all hx3 [] (.inl rfl)
  have h2 := take_all hx2 [] (.inl rfl)
  rw [List.append_nil] at h1 h2
  exact ⟨h1, h2⟩
 | cons y r =>
  rw [joinS_cons]
  exact ⟨take_all hx3 _ (.inr ⟨32, _, rfl, rfl⟩), take_all hx2 _ (.inr ⟨32, _, rfl, rfl⟩)⟩
theorem word_ne {x : By} (h : wordB x = true) : x ≠ [] := by
 unfold wordB at h
 rw [Bool.and_eq_true, decide_eq_true_eq] at h
 exact h.1
theorem word_all {x : By} (h : wordB x = true) : x.all isW = true := by
 unfold wordB at h
 rw [Bool.and_eq_true] at h
 exact h.2
theorem join_head {x : By} {r : List By} (h : wordB x = true) : ∃ c t, joinS (x :: r) = c :: t ∧ isW c = true := by
 have ha := word_all h
 cases x with
 | nil => exact absurd rfl (word_ne h)
 | cons c t =>
  rw [List.all_cons, Bool.and_eq_true] at ha
  cases r with
  | nil => exact ⟨c, t, joinS_one _, ha.1⟩
  | cons y r => exact ⟨c, _, joinS_cons _ _ _, ha.1⟩
def PartOk (s : By) (n : Nat) : Prop := n ≤ s.length ∧ (∀ x r, wordB x = true → s = joinS (x :: r) → n = x.length) ∧ (n ≠ 0 → wordB (s.take n) = true ∨ s.head? = some 34)
def partB (x : By) : Prop := wordB x = true ∨ x.head? = some 34
theorem PartOk.part {s : By} {n : Nat} (h : PartOk s n) (h0 : n ≠ 0) : partB (s.take n) := by
 rcases h.2.2 h0 with h | h
 ·exact .inl h
 ·exact .inr (by rw [List.head?_take, if_neg h0]; exact h)
structure WInv (s : By) (L : List By) (rest : By) : Prop where
 pre : s = (L.map (· ++ [32])).flatten ++ rest
 on : ∀ M : List By, M ≠ [] → (∀ x ∈ M, wordB x = true) → s = joinS M → ∃ N, M = L ++ N ∧ N ≠ [] ∧ rest = joinS N
 parts : ∀ x ∈ L, partB x
theorem WInv.start (s : By) : WInv s [] s := ⟨rfl, fun M h _ e => ⟨M, rfl, h, e⟩, fun x hx => nomatch hx⟩
structure WordsOk (s : By) (r : Option (List By)) : Prop where
 join : ∀ L, r = some L → L ≠ [] ∧ s = joinS L ∨ L = [] ∧ s = []
 words : ∀ M : List By, M ≠ [] → (∀ x ∈ M, wordB x = true) → s = joinS M → r = some M
 parts : ∀ L, r = some L → ∀ x ∈ L, partB x
theorem WordsOk.nil : WordsOk [] (some []) := by
 refine ⟨fun L h => .inr ⟨(Option.some.inj h).symm, rfl⟩, fun M h hw e => ?_, fun L h x hx => ?_⟩
 ·cases M with
  | nil => exact absurd rfl h
  | cons x r =>
   obtain ⟨c, t, h1, _⟩ := join_head (r := r) (hw x (List.mem_cons_self ..))
   rw [h1] at e
   cases e
 ·obtain rfl := Option.some.inj h
  cases hx
theorem pre_join : ∀ (L : List By) (x : By), (L.map (· ++ [32])).flatten ++ x = joinS (L ++ [x])
 | [], x => by rw [List.nil_append, joinS_one]; rfl
 | [a], x => by
  rw [List.cons_append, List.nil_append, joinS_cons, joinS_one]
  simp
 | a :: b :: L, x => by
  have h := pre_join (b :: L) x
  rw [List.cons_append, List.cons_append, joinS_cons, ← List.cons_append, ← h]
  simp
section
variable {s rest : By} {L : List By} {n : Nat}
theorem WInv.last (h : WInv s L rest) (hp : PartOk rest rest.length) (hn : rest ≠ []) : WordsOk s (some (L ++ [rest])) := by
 refine ⟨fun M e => ?_, fun M hM hw e => ?_, fun M e x hx => ?_⟩
 rotate_left 2
 ·obtain rfl := Option.some.inj e
  rcases List.mem_append.1 hx with hx | hx
  ·exact h.parts x hx
  ·rw [List.mem_singleton] at hx
   subst hx
   have := hp.part (by intro e; exact hn (List.length_eq_zero_iff.1 e))
   rwa [List.take_length] at this
 ·obtain rfl := Option.some.inj e
  left
  exact ⟨by simp, by rw [h.pre, pre_join]⟩
 ·obtain ⟨N, rfl, hN, hr⟩ := h.on M hM hw e
  cases N with
  | nil => exact absurd rfl hN
  | cons x r =>
   have hx : wordB x = true := hw x (by simp)
   have hl := hp.2.1 x r hx hr
   cases r with
   | nil => rw [hr, joinS_one]
   | cons y r =>
    rw [hr, joinS_cons] at hl
    simp at hl
theorem WInv.next (h : WInv s L rest) (hp : PartOk rest n) (h0 : n ≠ 0) (hs : rest[n]? = some 32) (hm : n + 1 ≠ rest.length) : WInv s (L ++ [rest.take n]) (rest.drop (n + 1)) := by
 obtain ⟨hn, he⟩ := List.getElem?_eq_some_iff.1 hs
 have hsplit : rest = rest.take n ++ 32 :: rest.drop (n + 1) := by
  conv => lhs; rw [← List.take_append_drop n rest, List.drop_eq_getElem_cons hn, he]
 refine ⟨?_, fun M hM hw e => ?_, fun x hx => ?_⟩
 rotate_left 2
 ·rcases List.mem_append.1 hx with hx | hx
  ·exact h.parts x hx
  ·rw [List.mem_singleton] at hx
   rw [hx]
   exact hp.part h0
 ·rw [h.pre]
  conv => lhs; rw [hsplit]
  simp
 ·obtain ⟨N, rfl, hN, hr⟩ := h.on M hM hw e
  cases N with
  | nil => exact absurd rfl hN
  | cons x r =>
   have hx : wordB x = true := hw x (by simp)
   have hl := hp.2.1 x r hx hr
   cases r with
   | nil =>
    rw [joinS_one] at hr
    subst hr
    omega
   | cons y r =>
    rw [joinS_cons] at hr
    have e1 : rest.take n = x := by rw [hr, hl]; simp
    have e2 : rest.drop (n + 1) = joinS (y :: r) := by rw [hr, hl]; simp [List.drop_append]
    refine ⟨y :: r, ?_, by simp, e2⟩
    rw [e1, List.append_assoc]; rfl
theorem WInv.none_ (h : WInv s L rest) (hp : PartOk rest 0) : WordsOk s none := by
 refine ⟨fun M e => (by cases e), fun M hM hw e => ?_, fun M e => (by cases e)⟩
 obtain ⟨N, rfl, hN, hr⟩ := h.on M hM hw e
 cases N with
 | nil => exact absurd rfl hN
 | cons x r =>
  have hx : wordB x = true := hw x (by simp)
  have hl := hp.2.1 x r hx hr
  exact absurd (List.length_eq_zero_iff.1 hl.symm) (word_ne hx)
theorem WInv.bad (h : WInv s L rest) (hp : PartOk rest n) {c : UInt8} (hs : rest[n]? = some c) (hc : c ≠ 32) : WordsOk s none := by
 refine ⟨fun M e => (by cases e), fun M hM hw e => ?_, fun M e => (by cases e)⟩
 obtain ⟨N, rfl, hN, hr⟩ := h.on M hM hw e
 cases N with
 | nil => exact absurd rfl hN
 | cons x r =>
  have hx : wordB x = true := hw x (by simp)
  have hl := hp.2.1 x r hx hr
  cases r with
  | nil =>
   rw [joinS_one] at hr
   subst hr
   rw [hl, List.getElem?_eq_none (Nat.le_refl _)] at hs
   cases hs
  | cons y r =>
   rw [hr, joinS_cons, hl] at hs
   rw [List.getElem?_append_right (Nat.le_refl _), Nat.sub_self] at hs
   exact absurd (Option.some.inj hs).symm hc
theorem WInv.ends (h : WInv s L rest) (hp : PartOk rest n) (hm : n + 1 = rest.length) (h0 : n ≠ 0) (hs : rest[n]? = some 32) : WordsOk s none := by
 refine ⟨fun M e => (by cases e), fun M hM hw e => ?_, fun M e => (by cases e)⟩
 obtain ⟨N, rfl, hN, hr⟩ := h.on M hM hw e
 cases N with
 | nil => exact absurd rfl hN
 | cons x r =>
  have hx : wordB x = true := hw x (by simp)
  have hl := hp.2.1 x r hx hr
  cases r with
  | nil =>
   rw [joinS_one] at hr
   subst hr
   omega
  | cons y r =>
   have hy : wordB y = true := hw y (by simp)
   obtain ⟨c, t, h1, _⟩ := join_head (r := r) hy
   rw [hr, joinS_cons, h1] at hm
   simp at hm
   omega
end
theorem part_word {s : By} (h : s.head? ≠ some 34) : PartOk s (if wordB (fstW s) then (fstW s).length else 0) := by
 refine ⟨?_, ?_, ?_⟩
 rotate_left 2
 ·intro h0
  by_cases hw : wordB (fstW s) = true
  ·left
   rw [if_pos hw]
   have e : s.take (fstW s).length = fstW s := List.prefix_iff_eq_take.1 (List.takeWhile_prefix _) |>.symm
   rw [e]
   exact hw
  ·rw [if_neg hw] at h0
   exact absurd rfl h0
 ·split
  ·exact (List.takeWhile_prefix _).length_le
  ·exact Nat.zero_le _
 ·rintro x r hx rfl
  rw [(fst_join hx).1, if_pos hx]
theorem part_quot {s : By} {n : Nat} (h : s.head? = some 34) (hn : n ≤ s.length) : PartOk s n := by
 refine ⟨hn, fun x r hx e => ?_, fun _ => .inr h⟩
 obtain ⟨c, t, h1, h2⟩ := join_head (r := r) hx
 rw [← e] at h1
 rw [h1] at h
 obtain rfl := Option.some.inj h
 exact absurd h2 (by decide)
theorem part_isW {s : By} (hn : s.takeWhile isW ≠ []) : PartOk s (s.takeWhile isW).length := by
 refine ⟨(List.takeWhile_prefix _).length_le, fun x r hx e => ?_, fun _ => .inl ?_⟩
 rotate_left 1
 ·have e : s.take (s.takeWhile isW).length = s.takeWhile isW := List.prefix_iff_eq_take.1 (List.takeWhile_prefix _) |>.symm
  rw [e]
  unfold wordB
  rw [Bool.and_eq_true]
  exact ⟨decide_eq_true hn, List.all_takeWhile⟩
 subst e
 rw [(fst_join hx).2]
theorem part_no {s : By} (h : s.takeWhile isW = []) {n : Nat} (hn : n ≤ s.length) (hq : n ≠ 0 → s.head? = some 34) : PartOk s n := by
 refine ⟨hn, fun x r hx e => ?_, fun h0 => .inr (hq h0)⟩
 subst e
 rw [(fst_join hx).2] at h
 exact absurd h (word_ne hx)
end Go.Proofs.YthefooacfcagbaaGreatDoor.txt

/- The parts of a line: text.quoted, text.word, text.escaped, text.Unquote, text.part. -/
namespace Go.Proofs.YthefooacfcagbaaGreatDoor.txt
open Go.RowKit
open lib app
set_option linter.unusedVariables false
theorem quoted_any (s : ByteArray) (hm : s.size ≤ 140737488351232) (w : World) : Calls Tryz.prog 146 #[.string s] w fun e w' => ∃ n : Nat, e = .returned (.int .i64 n) ∧ n ≤ s.size ∧ w = w' := by
 go_enter Tryz.func146, Tryz.ntmps146
 go_upto_region 2 with fail
 go_loop [3] (fun i => ∃ k : Nat, 1 ≤ k ∧ k ≤ s.size + 1 ∧ i = .int .i64 k) (fun i => s.size + 2 - (intOf i).toNat)
 case atStart => exact ⟨1, by omega, by omega, rfl⟩
 case round =>
  obtain ⟨k, hk1, hk, rfl⟩ := hrel
  by_cases hlt : k < s.size
  ·by_cases h1 : (s[k].toNat : Int) = 92
   ·go_wp2
    go_round
    case rel => exact ⟨k + 2, by omega, by omega, by go_num⟩
    case measure => simp [intOf]; omega
   ·by_cases h2 : (s[k].toNat : Int) = 34
    ·go_wp2
     go_ret
     exact ⟨k + 1, by go_num, by omega, rfl⟩
    ·go_wp2
     go_round
     case rel => exact ⟨k + 1, by omega, by omega, by go_num⟩
     case measure => simp [intOf]; omega
  ·go_wp2
   go_ret
   exact ⟨0, rfl, by omega, rfl⟩
theorem isW_int (c : UInt8) : isW c = decide (33 ≤ (c.toNat : Int) ∧ (c.toNat : Int) ≤ 126 ∧ (c.toNat : Int) ≠ 34) := by
 unfold isW
 rw [Bool.eq_iff_iff, decide_eq_true_eq, decide_eq_true_eq]
 omega
theorem isW_no {c : UInt8} (h : isW c = false) : (c.toNat : Int) ≤ 32 ∨ 126 < (c.toNat : Int) ∨ (c.toNat : Int) = 34 := by
 rw [isW_int, decide_eq_false_iff_not] at h
 omega
theorem isW_yes {c : UInt8} (h : isW c = true) : ¬ (c.toNat : Int) ≤ 32 ∧ ¬ 126 < (c.toNat : Int) ∧ ¬ (c.toNat : Int) = 34 := by
 rw [isW_int, decide_eq_true_eq] at h
 omega
theorem at_data (s : ByteArray) (k : Nat) (hk : k < s.size) : s.data.toList[k]? = some s[k] := at_list (toList_data s) k hk
theorem word_any (s : ByteArray) (hm : s.size ≤ 140737488351232) (w : World) : Calls Tryz.prog 149 #[.string s] w fun e w' => e = .returned (.bool (wordB s.data.toList)) ∧ w = w' := by
 have hsl := toList_data s
 obtain ⟨R, hR⟩ : ∃ R, wordB s.data.toList = R := ⟨_, rfl⟩
 rw [hR]
 have HR := Lib.hid hR
 clear hR
 go_enter Tryz.func149, Tryz.ntmps149
 go_upto_region 2 with fail
 go_loop [3, 6] (fun _ i => ∃ k : Nat, k ≤ s.size ∧ i = .int .i64 k ∧ Hid (s.data.toList.all isW = (s.data.toList.drop k).all isW)) (fun _ i => s.size - (intOf i).toNat)
 case atStart => exact ⟨0, by omega, rfl, Lib.hid rfl⟩
 case round =>
  obtain ⟨k, hk, rfl, hr⟩ := hrel
  by_cases hlt : k < s.size
  ·have hst : Hid ((s.data.toList.drop k).all isW = (isW s[k] && (s.data.toList.drop (k + 1)).all isW)) := Lib.hid (by
    rw [drop_at' (at_data s k hlt), List.all_cons])
   cases hg : isW s[k]
   ·have HF : Hid (R = false) := Lib.hid (by rw [← HR.out]; unfold wordB; rw [hr.out, hst.out, hg]; simp)
    have hno := isW_no hg
    clear hg hsl
    rcases hno with h | h | h
    ·go_wp2
     go_ret
     exact ⟨ret_bool HF.out.symm, rfl⟩
    ·have h2 : ¬ (s[k].toNat : Int) ≤ 32 := by omega
     go_wp2
     go_ret
     exact ⟨ret_bool HF.out.symm, rfl⟩
    ·go_wp2
     go_ret
     exact ⟨ret_bool HF.out.symm, rfl⟩
   ·have HF : Hid (s.data.toList.all isW = (s.data.toList.drop (k + 1)).all isW) := Lib.hid (by rw [hr.out, hst.out, hg]; rfl)
    obtain ⟨h1, h2, h3⟩ := isW_yes hg
    clear hg hsl
    go_wp2
    go_round
    case rel => exact ⟨k + 1, by omega, by go_num, HF⟩
    case measure => simp [intOf]; omega
  ·have HF : Hid (R = !s.toList.isEmpty) := Lib.hid (by
    rw [← HR.out]
    unfold wordB
    rw [hr.out, List.drop_of_length_le (by simp; omega), hsl]
    cases s.data.toList <;> rfl)
   clear hsl
   go_wp2
   go_ret
   exact ⟨ret_bool HF.out.symm, rfl⟩
def hexL : By := [48, 49, 50, 51, 52, 53, 54, 55, 56, 57, 97, 98, 99, 100, 101, 102]
theorem index_lt : ∀ (l : By) (c : UInt8), Lib.indexByte l c < l.length
 | [], _ => by unfold Lib.indexByte; decide
 | b :: l, c => by
  have h := index_lt l c
  unfold Lib.indexByte
  rw [List.length_cons]
  split
  ·omega
  ·split
   ·omega
   ·omega
theorem hex_any (c : UInt8) : ∃ i : Int, -1 ≤ i ∧ i ≤ 15 ∧ ∀ w, Calls Tryz.prog 148 #[.string ⟨#[48, 49, 50, 51, 52, 53, 54, 55, 56, 57, 97, 98, 99, 100, 101, 102]⟩, .int .u8 (c.toNat : Int)] w fun e w' => e = .returned (.int .i64 i) ∧ w' = w :=
 ⟨Lib.indexByte hexL _, Lib.indexByte_ge _ _, by have := index_lt hexL ((c.toNat : Int).toNat.toUInt8); have h : hexL.length = 16 := rfl; omega, fun w => Tryz.strings_IndexByte _ _ w⟩
theorem escaped_any (s : ByteArray) (hm : s.size ≤ 140737488351232) (w : World) : Calls Tryz.prog 171 #[.string s] w fun e w' => ∃ (b : UInt8) (n : Nat), e = .returned (.tuple #[.int .u8 (b.toNat : Int), .int .i64 n]) ∧ n ≤ s.size ∧ Below w.heap.size w w' := by
 have hsl := toList_data s
 by_cases h0 : s.size = 0
 ·have hE : s.toList = [] := by rw [hsl]; apply List.eq_nil_of_length_eq_zero; simp [h0]
  clear hsl
  go_enter Tryz.func171, Tryz.ntmps171
  go_wp2
  refine bodyPost_ret (v := .tuple #[.int .u8 0, .int .i64 0]) (by simp [results, Tryz.results171, go_sem]) rfl ?_
  exact ⟨0, 0, rfl, by omega, Below.refl _ _⟩
 ·have hE : ¬ s.toList = [] := by rw [hsl]; intro e; have := congrArg List.length e; rw [← size_list hsl] at this; exact h0 this
  have hE2 : s.toList.isEmpty = false := by rw [List.isEmpty_eq_false_iff]; exact hE
  have hz : 0 < s.size := by omega
  clear hsl
  by_cases h1 : (s[0].toNat : Int) = 34 ∨ (s[0].toNat : Int) = 92
  ·obtain ⟨b, hb⟩ : ∃ b, s[0] = b := ⟨_, rfl⟩
   rw [hb] at h1
   rcases h1 with h1 | h1
   ·go_enter Tryz.func171, Tryz.ntmps171
    go_wp2
    refine bodyPost_ret (v := .tuple #[.int .u8 (b.toNat : Int), .int .i64 1]) (by rw [h1]; simp [results, Tryz.results171, go_sem]) rfl ?_
    exact ⟨b, 1, rfl, by omega, Below.refl _ _⟩
   ·go_enter Tryz.func171, Tryz.ntmps171
    go_wp2
    refine bodyPost_ret (v := .tuple #[.int .u8 (b.toNat : Int), .int .i64 1]) (by rw [h1]; simp [results, Tryz.results171, go_sem]) rfl ?_
    exact ⟨b, 1, rfl, by omega, Below.refl _ _⟩
  ·rw [not_or] at h1
   obtain ⟨h1, h2⟩ := h1
   by_cases h3 : (s[0].toNat : Int) = 110
   ·go_enter Tryz.func171, Tryz.ntmps171
    go_wp2
    refine bodyPost_ret (v := .tuple #[.int .u8 10, .int .i64 1]) (by simp [results, Tryz.results171, go_sem]) rfl ?_
    exact ⟨10, 1, rfl, by omega, Below.refl _ _⟩
   ·by_cases h4 : (s[0].toNat : Int) = 120
    ·by_cases h5 : s.size < 3
     ·go_enter Tryz.func171, Tryz.ntmps171
      go_wp2
      refine bodyPost_ret (v := .tuple #[.int .u8 0, .int .i64 0]) (by simp [results, Tryz.results171, go_sem]) rfl ?_
      exact ⟨0, 0, rfl, by omega, Below.refl _ _⟩
     ·have k1 : 1 < s.size := by omega
      have k2 : 2 < s.size := by omega
      have k3 : (1 : Int) < (s.size : Int) := by omega
      have k4 : (2 : Int) < (s.size : Int) := by omega
      obtain ⟨c1, hc1⟩ : ∃ c, s[1] = c := ⟨_, rfl⟩
      obtain ⟨c2, hc2⟩ : ∃ c, s[2] = c := ⟨_, rfl⟩
      obtain ⟨hi, a1, a2, hI⟩ := hex_any c1
      obtain ⟨lo, b1, b2, hJ⟩ := hex_any c2
      go_enter Tryz.func171, Tryz.ntmps171
      go_upto_region 12 with fail
      go_cut [4, 5] (fun a b wx => a = .int .i64 hi ∧ b = .int .i64 lo ∧ ∃ nq, wx = w.drewN nq)
      case first =>
       go_quiet (((with_reducible first | refine (hI _).mono ?_ | refine (hJ _).mono ?_); rintro e w2 ⟨rfl, rfl⟩; exact ⟨rfl, _, rfl⟩))
       go_wp2
       go_meet
       exact ⟨rfl, rfl, _, rfl⟩
      obtain ⟨rfl, rfl, nq, rfl⟩ := hcut
      go_upto_region 14 with fail
      obtain ⟨X, hX⟩ : ∃ X, bits BinOp.or IntKind.i64 (hi * 16) lo % 256 = X := ⟨_, rfl⟩
      rw [hX]
      obtain ⟨b, hb⟩ : ∃ b : UInt8, (b.toNat : Int) = X := ⟨UInt8.ofNat X.toNat, by rw [UInt8.toNat_ofNat']; omega⟩
      rw [← hb]
      clear hX hb X hI hJ
      go_wp2
      all_goals first
       | (refine bodyPost_ret (v := .tuple #[.int .u8 0, .int .i64 0]) ?_ rfl ⟨0, 0, rfl, by omega, bel_drewN (Below.refl _ _) _⟩; simp [results, Tryz.results171, go_sem]; done)
       | (refine bodyPost_ret (v := .tuple #[.int .u8 (b.toNat : Int), .int .i64 3]) ?_ rfl ⟨b, 3, rfl, by omega, bel_drewN (Below.refl _ _) _⟩; simp [results, Tryz.results171, go_sem]; done)
    ·go_enter Tryz.func171, Tryz.ntmps171
     go_wp2
     refine bodyPost_ret (v := .tuple #[.int .u8 0, .int .i64 0]) (by simp [results, Tryz.results171, go_sem]) rfl ?_
     exact ⟨0, 0, rfl, by omega, Below.refl _ _⟩
end Go.Proofs.YthefooacfcagbaaGreatDoor.txt

/- text.Unquote, text.part and text.Words of the program. -/
namespace Go.Proofs.YthefooacfcagbaaGreatDoor.txt
open Go.RowKit
open lib app
set_option linter.unusedVariables false
theorem push_one {t e : TypeId} {z : Value} {bytes : Nat} (E : ElemOf t e z 1 bytes) {ops : Array Oper} {rest : List Oper} {o : Oper} {a : Act} {Q : Exit → Act → World → Prop} {w : World} (hgd : o.guard = none) (s x : Operand)
  (ho : o.op = .call { callee := .builtin .append, args := #[s, x], argTypes := #[t, t] })
  (base : Nat) (v : Value) (n : Nat) (xs : List Value) (hs : a.eval s = v) (hown : w.ownsRow base e 1 v n xs)
  (u : Value) (hu : u.oneCell' = true) (hx : a.eval x = .slice (some ⟨w.heap.size, 0, none⟩) 1 1) (hn : n < 1000000000) (hbase : base ≤ w.heap.size)
  (h : ∀ g c w', w'.ownsRow base e 1 (.slice (some ⟨g, 0, none⟩) (n + 1) c) (n + 1) (xs ++ [u]) → Below base w w' → wpList Tryz.prog ops Q rest (a.put o.dst (.slice (some ⟨g, 0, none⟩) (n + 1) c)) w') :
  wpList Tryz.prog ops Q (o :: rest) a (w.alloc (.cells #[u] e)) := by
 obtain ⟨A, c, rfl⟩ := own_form hown
 refine wpList_app E s x ho base A n c xs hs (hown.alloc _) ⟨w.heap.size, 0, none⟩ 1 [u] hx rfl (cell_one_new _ _ _) ?_ (by omega) (by simp; omega) hgd ?_
 ·intro v hv
  simp at hv
  subst hv
  exact hu
 intro g' c' w1 hown' hg _
 exact h g' c' w1 hown' (((Below.refl base w).alloc hbase _).grown hg (by simp; omega) (own_base hown))
theorem elem_u8 : ElemOf 55 5 (.int .u8 0) 1 1 := ⟨Tryz.underlying55, by kernel_rfl, rfl, by omega, by omega⟩
theorem elem_str : ElemOf 22 9 (.string ⟨#[]⟩) 1 16 := ⟨Tryz.underlying22, by kernel_rfl, rfl, by omega, by omega⟩
def u8s (l : By) : List Value := l.map fun b => .int .u8 (b.toNat : Int)
theorem conv_u8 {w : World} {base g n c : Nat} {l : By} (hl : l.length = n) (h : w.ownsRow base 5 1 (.slice (some ⟨g, 0, none⟩) n c) n (u8s l)) : (convert 55 9 (.slice (some ⟨g, 0, none⟩) n c)).run Tryz.prog w = .ok (.string ⟨l.toArray⟩) w := by
 subst hl
 refine run_convert_bytes_back (P := Tryz.prog) _ 55 9 5 ⟨g, 0, none⟩ c l Tryz.underlying55 Tryz.underlying5 Tryz.underlying9 ?_
 intro j hj
 have hc := h.cells (g := g) rfl j _ (by unfold u8s; rw [List.getElem?_map, List.getElem?_eq_getElem hj]; rfl)
 exact hc
def UqOut (w : World) (e : Ending) (w' : World) : Prop := ∃ (t : ByteArray) (n : Int), e = .returned (.tuple #[.string t, .int .i64 n]) ∧ Below w.heap.size w w'
set_option maxRecDepth 100000 in
theorem unquote_any (s : ByteArray) (hm : s.size ≤ 100000) (w : World) : Calls Tryz.prog 147 #[.string s] w (UqOut w) := by
 have hB0 := Below.refl w.heap.size w
 have hno : ∀ w', Below w.heap.size w w' → UqOut w (Ending.returned (.tuple #[.string ⟨#[]⟩, .int .i64 3])) w' := fun w' h => ⟨_, _, rfl, h⟩
 by_cases h0 : s.size < 2
 ·go_enter Tryz.func147, Tryz.ntmps147
  go_wp2
  refine bodyPost_ret (v := .tuple #[.string ⟨#[]⟩, .int .i64 3]) (by simp [results, Tryz.results147, go_sem]) rfl ?_
  exact hno _ hB0
 have hz : 0 < s.size := by omega
 have hl1 : s.size - 1 < s.size := by omega
 have hj1 : IntKind.i64.wrap ((s.size : Int) - 1) = ((s.size - 1 : Nat) : Int) := by rw [IntWalk.i64_in _ (by omega)]; omega
 obtain ⟨c0, hc0⟩ : ∃ c, s[0] = c := ⟨_, rfl⟩
 obtain ⟨c1, hc1⟩ : ∃ c, s[s.size - 1] = c := ⟨_, rfl⟩
 by_cases h1 : (c0.toNat : Int) = 34
 case neg =>
  have h1b : ((c0.toNat : Int) != 34) = true := by simpa using h1
  go_enter Tryz.func147, Tryz.ntmps147
  go_wp2
  refine bodyPost_ret (v := .tuple #[.string ⟨#[]⟩, .int .i64 3]) (by simp [results, Tryz.results147, go_sem]) rfl ?_
  exact hno _ hB0
 by_cases h2 : (c1.toNat : Int) = 34
 case neg =>
  have h2b : ((c1.toNat : Int) != 34) = true := by simpa using h2
  go_enter Tryz.func147, Tryz.ntmps147
  go_wp2
  refine bodyPost_ret (v := .tuple #[.string ⟨#[]⟩, .int .i64 3]) (by simp [results, Tryz.results147, go_sem]) rfl ?_
  exact hno _ hB0
 go_enter Tryz.func147, Tryz.ntmps147
 go_upto_region 4 with fail
 obtain ⟨t, ht⟩ : ∃ t, s.extract 1 (s.size - 1) = t := ⟨_, rfl⟩
 rw [ht]
 have hts : t.size ≤ s.size := by rw [← ht, ByteArray.size_extract]; omega
 clear ht hc0 hc1 hj1 h1 h2 hl1
 obtain ⟨i0, hi, hz0, hz1, hz2⟩ := info_parts elem_u8.info
 go_upto_region 6 with (at_make; refine wpList_make_own _ rfl _ _ _ rfl w.heap.size 5 i0 (.int .u8 0) 1 elem_u8.sl hi hz0 hz1 .i64 .i64 _ t.size rfl rfl rfl (by rw [hz2]; omega) (by unfold maxLen; omega) (Nat.le_refl _) ?_; intro w1 hown hg1)
 have hb1 : Below w.heap.size w w1 := (Below.refl _ w).grown hg1 (Nat.le_refl _) (by intro k hk; cases hk)
 have hown1 := Lib.hid hown
 have hno2 := Lib.hid hno
 clear hg1 hown hi hz0 hz1 hz2 hno
 go_loopw [4, 5] (fun b i wr => Below w.heap.size w wr ∧ ∃ (k m g c : Nat) (bs : By), k ≤ t.size ∧ i = .int .i64 k ∧ bs.length = m ∧ m ≤ k ∧ b = .slice (some ⟨g, 0, none⟩) m c ∧ Hid (wr.ownsRow w.heap.size 5 1 (.slice (some ⟨g, 0, none⟩) m c) m (u8s bs))) (fun _ i _ => t.size - (intOf i).toNat)
 case atStart => exact ⟨hb1, 0, 0, _, _, [], by omega, rfl, rfl, by omega, rfl, hown1⟩
 case round =>
  obtain ⟨hb, k, m, g, c, bs, hk, rfl, hbl, hmk, rfl, hrow⟩ := hrel
  have hbz := hb.size
  clear hb1 hown1 hB0
  by_cases hlt : k < t.size
  case neg =>
   have kc := conv_u8 hbl hrow.out
   go_wp2
   refine bodyPost_ret (v := .tuple #[.string ⟨bs.toArray⟩, .int .i64 0]) (by simp [results, Tryz.results147, go_sem]) rfl ?_
   exact ⟨_, _, rfl, hb⟩
  obtain ⟨x, hx⟩ : ∃ x, t[k] = x := ⟨_, rfl⟩
  by_cases c1 : (x.toNat : Int) = 34
  ·go_wp2
   refine bodyPost_ret (v := .tuple #[.string ⟨#[]⟩, .int .i64 3]) (by simp [results, Tryz.results147, go_sem]) rfl ?_
   exact hno2.out _ hb
  by_cases c2 : (x.toNat : Int) < 32
  ·go_wp2
   refine bodyPost_ret (v := .tuple #[.string ⟨#[]⟩, .int .i64 3]) (by simp [results, Tryz.results147, go_sem]) rfl ?_
   exact hno2.out _ hb
  by_cases c3 : 126 < (x.toNat : Int)
  ·go_wp2
   refine bodyPost_ret (v := .tuple #[.string ⟨#[]⟩, .int .i64 3]) (by simp [results, Tryz.results147, go_sem]) rfl ?_
   exact hno2.out _ hb
  have c1b : ((x.toNat : Int) == 34) = false := by simpa using c1
  by_cases c4 : (x.toNat : Int) = 92
  ·have hsz : (t.extract (k + 1) t.size).size = t.size - (k + 1) := by rw [ByteArray.size_extract]; omega
   go_upto_region 13 with (go_at_call 171; refine (escaped_any _ (by omega) _).mono ?_; rintro e w2 ⟨d, n, rfl, hn, hb2⟩)
   have hrow2 := own_below hrow.out hb2
   have hbz2 := hb2.size
   have hb3 : Below w.heap.size w w2 := hb.trans (hb2.mono hbz)
   clear hrow hb hb2
   by_cases hn0 : n = 0
   ·subst hn0
    go_wp2
    refine bodyPost_ret (v := .tuple #[.string ⟨#[]⟩, .int .i64 3]) (by simp [results, Tryz.results147, go_sem]) rfl ?_
    exact hno2.out _ hb3
   ·have hn1 : ¬ (n : Int) = 0 := by omega
    go_wp2_with (at_builtin; refine push_one elem_u8 rfl _ _ rfl w.heap.size _ m (u8s bs) rfl hrow2 _ rfl rfl (by omega) (by omega) ?_; intro g' c' w3 hown3 hb4)
    go_roundw
    case rel => exact ⟨hb3.trans hb4, k + n + 1, m + 1, g', c', bs ++ [d], by omega, by go_num, by simp [hbl], by omega, rfl, Lib.hid (by unfold u8s; rw [List.map_append]; exact hown3)⟩
    case measure => simp [intOf]; omega
  ·go_wp2_with (at_builtin; refine push_one elem_u8 rfl _ _ rfl w.heap.size _ m (u8s bs) rfl hrow.out _ rfl rfl (by omega) (by omega) ?_; intro g' c' w3 hown3 hb4)
   go_roundw
   case rel => exact ⟨hb.trans hb4, k + 1, m + 1, g', c', bs ++ [x], by omega, by go_num, by simp [hbl], by omega, rfl, Lib.hid (by unfold u8s; rw [List.map_append]; exact hown3)⟩
   case measure => simp [intOf]; omega
end Go.Proofs.YthefooacfcagbaaGreatDoor.txt

/- text.part and text.Words of the program. -/
namespace Go.Proofs.YthefooacfcagbaaGreatDoor.txt
open Go.RowKit
open lib app
set_option linter.unusedVariables false
theorem ext_data (s : ByteArray) (a b : Nat) : (s.extract a b).data.toList = (s.data.toList.drop a).take (b - a) := by
 exact Lib.extract_data s a b
theorem index_fst : ∀ (l : By) (i : Int), Lib.indexByte l 32 = i → (i < 0 → fstW l = l) ∧ ∀ o : Nat, i = o → fstW l = l.take o ∧ o ≤ l.length
 | [], i, h => by
  unfold Lib.indexByte at h
  refine ⟨fun _ => rfl, fun o ho => ?_⟩
  omega
 | b :: l, i, h => by
  have ih := index_fst l _ rfl
  unfold Lib.indexByte at h
  by_cases hb : b = 32
  ·subst hb
   rw [if_pos (by rfl)] at h
   refine ⟨fun h2 => by omega, fun o ho => ?_⟩
   obtain rfl : o = 0 := by omega
   exact ⟨rfl, Nat.zero_le _⟩
  ·rw [if_neg (by simpa using hb)] at h
   have hf : fstW (b :: l) = b :: fstW l := by
    unfold fstW
    rw [List.takeWhile_cons, show notSp b = true from decide_eq_true hb]
    rfl
   rw [hf]
   have hge := Lib.indexByte_ge l 32
   by_cases hm : Lib.indexByte l 32 = -1
   ·rw [if_pos (by simpa using hm)] at h
    refine ⟨fun _ => by rw [ih.1 (by omega)], fun o ho => by omega⟩
   ·rw [if_neg (by simpa using hm)] at h
    refine ⟨fun h2 => by omega, fun o ho => ?_⟩
    obtain ⟨h3, h4⟩ := ih.2 (o - 1) (by omega)
    obtain ⟨o', rfl⟩ : ∃ o', o = o' + 1 := ⟨o - 1, by omega⟩
    rw [show o' + 1 - 1 = o' by omega] at h3 h4
    rw [h3]
    exact ⟨rfl, by rw [List.length_cons]; omega⟩
def PtOut (s : ByteArray) (w : World) (e : Ending) (w' : World) : Prop := ∃ n : Nat, e = .returned (.int .i64 n) ∧ PartOk s.data.toList n ∧ Below w.heap.size w w'
theorem part_any (s : ByteArray) (hm : s.size ≤ 100000) (hz : 0 < s.size) (w : World) : Calls Tryz.prog 97 #[.string s] w (PtOut s w) := by
 have hsl := toList_data s
 have hE : ¬ s.toList = [] := by rw [hsl]; intro e; have := congrArg List.length e; rw [← size_list hsl] at this; rw [List.length_nil] at this; omega
 have hE2 : s.toList.isEmpty = false := by rw [List.isEmpty_eq_false_iff]; exact hE
 obtain ⟨c0, hc0⟩ : ∃ c, s[0] = c := ⟨_, rfl⟩
 have hhead : s.data.toList.head? = some c0 := by rw [List.head?_eq_getElem?, at_data s 0 hz, hc0]
 have hB0 := Below.refl w.heap.size w
 clear hsl
 by_cases h1 : (c0.toNat : Int) = 34
 ·have hq : s.data.toList.head? = some 34 := by rw [hhead]; congr 1; apply UInt8.toNat_inj.1; have : (34 : UInt8).toNat = 34 := rfl; omega
  have HP : Hid (∀ n, n ≤ s.size → PartOk s.data.toList n) := Lib.hid (fun n hn => part_quot hq (by simpa using hn))
  clear hhead hq
  go_enter Tryz.func97, Tryz.ntmps97
  go_upto_region 3 with (go_at_call 146; refine (quoted_any _ (by omega) _).mono ?_; rintro e w2 ⟨n, rfl, hn, rfl⟩)
  have hsz : (s.extract 0 n).size ≤ 100000 := by rw [ByteArray.size_extract]; omega
  go_upto_region 4 with (go_at_call 147; refine (unquote_any _ hsz _).mono ?_; rintro e w3 ⟨t, m, rfl, hb3⟩)
  by_cases hm0 : m = 0
  ·subst hm0
   go_wp2
   go_ret
   exact ⟨n, rfl, HP.out n hn, hb3⟩
  ·have hm1 : (m == 0) = false := by simpa using hm0
   go_wp2
   go_ret
   exact ⟨0, rfl, HP.out 0 (by omega), hb3⟩
 ·have hq : s.data.toList.head? ≠ some 34 := by rw [hhead]; intro e; apply h1; rw [Option.some.inj e]; rfl
  have HP := Lib.hid (part_word hq)
  clear hhead hq
  obtain ⟨i, hi⟩ : ∃ i, Lib.indexByte s.data.toList 32 = i := ⟨_, rfl⟩
  obtain ⟨hneg, hpos⟩ := index_fst _ _ hi
  have hge := Lib.indexByte_ge s.data.toList 32
  rw [hi] at hge
  have hI : ∀ w, Calls Tryz.prog 148 #[.string s, .int .u8 32] w fun e w' => e = .returned (.int .i64 i) ∧ w' = w := fun w => (Tryz.strings_IndexByte s 32 w).mono fun e w' ⟨h1, h2⟩ => ⟨by rw [h1]; show Ending.returned (.int .i64 (Lib.indexByte s.data.toList 32)) = _; rw [hi], h2⟩
  have hfin : ∀ n : Nat, n ≤ s.size → s.data.toList.take n = fstW s.data.toList → Hid (PartOk s.data.toList (if wordB (s.extract 0 n).data.toList = true then n else 0)) := fun n hn hf => Lib.hid (by
   have h := HP.out
   rw [ext_data, List.drop_zero, Nat.sub_zero, hf]
   have hl : (fstW s.data.toList).length = n := by rw [← hf, List.length_take]; simp; omega
   rw [hl] at h
   exact h)
  by_cases hin : i < 0
  ·have hx : s.extract 0 s.size = s := by rw [Lib.extract_eq, List.drop_zero, Nat.sub_zero, List.take_of_length_le (by simp), Lib.mk_data]
   have HF := hfin s.size (Nat.le_refl _) (by rw [hneg hin, List.take_of_length_le (by simp)])
   rw [hx] at HF
   have hsz : s.size ≤ 140737488351232 := by omega
   clear hneg hpos hi HP hfin hge hx
   cases hw : wordB s.data.toList
   ·have HF2 : Hid (PartOk s.data.toList 0) := Lib.hid (by have := HF.out; rw [hw] at this; simpa using this)
    have HW := Lib.hid hw
    clear hw
    go_enter Tryz.func97, Tryz.ntmps97
    go_wp2_with (first | (go_at_call 148; refine (hI _).mono ?_; rintro e w2 ⟨rfl, rfl⟩) | (go_at_call 149; refine (word_any _ hsz _).mono ?_; rintro e w3 ⟨rfl, rfl⟩; rw [HW.out]))
    go_ret
    exact ⟨0, rfl, HF2.out, Below.refl _ _⟩
   ·have HF2 : Hid (PartOk s.data.toList s.size) := Lib.hid (by have := HF.out; rw [hw] at this; simpa using this)
    have HW := Lib.hid hw
    clear hw
    go_enter Tryz.func97, Tryz.ntmps97
    go_wp2_with (first | (go_at_call 148; refine (hI _).mono ?_; rintro e w2 ⟨rfl, rfl⟩) | (go_at_call 149; refine (word_any _ hsz _).mono ?_; rintro e w3 ⟨rfl, rfl⟩; rw [HW.out]))
    go_ret
    exact ⟨s.size, rfl, HF2.out, Below.refl _ _⟩
  ·obtain ⟨o, rfl⟩ : ∃ o : Nat, i = o := ⟨i.toNat, by omega⟩
   obtain ⟨hp1, hp2⟩ := hpos o rfl
   have ho : o ≤ s.size := by simpa using hp2
   have HF := hfin o ho hp1.symm
   have hsz : (s.extract 0 o).size ≤ 140737488351232 := by rw [ByteArray.size_extract]; omega
   have ho0 : ¬ (o : Int) < 0 := by omega
   clear hneg hpos hi HP hfin hge hp1 hp2 hin
   cases hw : wordB (s.extract 0 o).data.toList
   ·have HF2 : Hid (PartOk s.data.toList 0) := Lib.hid (by have := HF.out; rw [hw] at this; simpa using this)
    have HW := Lib.hid hw
    clear hw
    go_enter Tryz.func97, Tryz.ntmps97
    go_wp2_with (first | (go_at_call 148; refine (hI _).mono ?_; rintro e w2 ⟨rfl, rfl⟩) | (go_at_call 149; refine (word_any _ hsz _).mono ?_; rintro e w3 ⟨rfl, rfl⟩; rw [HW.out]))
    go_ret
    exact ⟨0, rfl, HF2.out, Below.refl _ _⟩
   ·have HF2 : Hid (PartOk s.data.toList o) := Lib.hid (by have := HF.out; rw [hw] at this; simpa using this)
    have HW := Lib.hid hw
    clear hw
    go_enter Tryz.func97, Tryz.ntmps97
    go_wp2_with (first | (go_at_call 148; refine (hI _).mono ?_; rintro e w2 ⟨rfl, rfl⟩) | (go_at_call 149; refine (word_any _ hsz _).mono ?_; rintro e w3 ⟨rfl, rfl⟩; rw [HW.out]))
    go_ret
    exact ⟨o, rfl, HF2.out, Below.refl _ _⟩
end Go.Proofs.YthefooacfcagbaaGreatDoor.txt

/- text.Words of the program. -/
namespace Go.Proofs.YthefooacfcagbaaGreatDoor.txt
open Go.RowKit
open lib app
set_option linter.unusedVariables false
def strV (b : By) : Value := .string ⟨b.toArray⟩
theorem strV_of (s : ByteArray) : Value.string s = strV s.data.toList := by unfold strV; rw [Lib.mk_data]
def Strs (w : World) (B : Nat) (A : Option Addr) (L : List By) : Prop := Reads w B 1 A L.length (L.map strV) ∧ L.length ≤ 1000000
theorem Strs.at_ {w : World} {B : Nat} {A : Option Addr} {L : List By} (h : Strs w B A L) {k : Nat} (hk : k < L.length) : ∃ ad x, A = some ad ∧ ad.block < B ∧ L[k]? = some x ∧ w.cell? (ad.add k) = some (.string ⟨x.toArray⟩) := by
 obtain ⟨ad, u, hA, hb, hx, hc⟩ := h.1.at_ hk
 rw [List.getElem?_map, List.getElem?_eq_getElem hk] at hx
 injection hx with hx
 subst hx
 exact ⟨ad, L[k], hA, hb, List.getElem?_eq_getElem hk, hc⟩
theorem Strs.below {w w' : World} {B : Nat} {A : Option Addr} {L : List By} (h : Strs w B A L) (hb : Below B w w') : Strs w' B A L := ⟨h.1.below hb, h.2⟩
theorem Strs.more {w : World} {B B' : Nat} {A : Option Addr} {L : List By} (h : Strs w B A L) (hB : B ≤ B') : Strs w B' A L := ⟨h.1.more hB, h.2⟩
theorem Strs.nil {w : World} {B : Nat} : Strs w B none [] := ⟨Reads.none_, by simp⟩
theorem Strs.of_own {w : World} {base c : Nat} {A : Option Addr} {L : List By} (h : w.ownsRow base 9 1 (.slice A L.length c) L.length (L.map strV)) (hl : L.length ≤ 1000000) : Strs w w.heap.size A L := ⟨Reads.of_own h, hl⟩
theorem own_cap {w : World} {base : Nat} {e : TypeId} {size n c : Nat} {A : Option Addr} {xs : List Value} (h : w.ownsRow base e size (.slice A n c) n xs) : n ≤ c := by
 rcases h.2 with ⟨h1, hz⟩ | ⟨g0, cap0, cur, h1, _, hg, hnc, _⟩
 ·omega
 ·injection h1 with e1 e2 e3
  omega
def WdOut (s : By) (w : World) (e : Ending) (w' : World) : Prop := Below w.heap.size w w' ∧
 ((e = .returned (.tuple #[.slice none 0 0, .int .i64 3]) ∧ WordsOk s none) ∨ ∃ (L : List By) (A : Option Addr) (c : Nat), e = .returned (.tuple #[.slice A L.length c, .int .i64 0]) ∧ WordsOk s (some L) ∧ L.length ≤ c ∧ Strs w' w'.heap.size A L)
set_option maxRecDepth 100000 in
theorem words_any (s : ByteArray) (hm : s.size ≤ 100000) (w : World) : Calls Tryz.prog 61 #[.string s] w (WdOut s.data.toList w) := by
 obtain ⟨S, hS⟩ : ∃ S, s.data.toList = S := ⟨_, rfl⟩
 have H0 : Hid (WInv S [] s.data.toList) := Lib.hid (by rw [hS]; exact WInv.start S)
 have hE0 : Hid (s.data.toList = S) := Lib.hid hS
 rw [hS]
 clear hS
 go_enter Tryz.func61, Tryz.ntmps61
 go_upto_region 2 with fail
 go_loopw [0, 4] (fun sv ov wr => Below w.heap.size w wr ∧ ∃ (r : ByteArray) (L : List By) (A : Option Addr) (n c : Nat), sv = .string r ∧ ov = .slice A n c ∧ Hid (n = L.length) ∧ n + r.size ≤ 100000 ∧ Hid (WInv S L r.data.toList) ∧ Hid (L ≠ [] → r.size ≠ 0) ∧ Hid (wr.ownsRow w.heap.size 9 1 (.slice A n c) n (L.map strV))) (fun sv _ _ => match sv with | .string r => r.size | _ => 0)
 case atStart => exact ⟨Below.refl _ _, s, [], none, 0, 0, rfl, rfl, Lib.hid rfl, by simpa using hm, H0, Lib.hid (fun h => absurd rfl h), Lib.hid (World.ownsRow_nil _ _ _ _)⟩
 case round =>
  obtain ⟨hb, r, L, A, n, c, rfl, rfl, hn, hl, HW, HN, hrow⟩ := hrel
  have hbz := hb.size
  have hn1 : n ≤ 100000 := by omega
  clear H0 hE0
  by_cases hz : r.size = 0
  ·have hE : r.toList = [] := by rw [toList_data]; apply List.eq_nil_of_length_eq_zero; simpa using hz
   have hL : L = [] := by by_cases h : L = []; exact h; exact absurd hz (HN.out h)
   subst hL
   have hn0 : n = 0 := hn.out
   subst hn0
   clear hn
   have HO : Hid (WordsOk S (some [])) := Lib.hid (by
    have hp := HW.out.pre
    rw [← toList_data, hE] at hp
    rw [show S = [] from hp]
    exact WordsOk.nil)
   go_wp2
   refine bodyPost_ret (v := .tuple #[.slice A 0 c, .int .i64 0]) (by simp [results, Tryz.results61, go_sem]) rfl ?_
   exact ⟨hb, .inr ⟨[], A, c, rfl, HO.out, Nat.zero_le _, Strs.of_own hrow.out (by simp)⟩⟩
  have hE : ¬ r.toList = [] := by rw [toList_data]; intro e; have := congrArg List.length e; rw [← size_list (toList_data r)] at this; exact hz this
  have hE2 : r.toList.isEmpty = false := by rw [List.isEmpty_eq_false_iff]; exact hE
  have hrz : 0 < r.size := by omega
  go_upto_region 4 with (go_at_call 97; refine (part_any _ (by omega) hrz _).mono ?_; rintro e w2 ⟨k, rfl, hp, hb2⟩)
  have HP := Lib.hid hp
  have hk : k ≤ r.size := by have := hp.1; simpa using this
  have hrow2 := own_below hrow.out hb2
  have hbz2 := hb2.size
  have hb3 : Below w.heap.size w w2 := hb.trans (hb2.mono hbz)
  clear hp hrow hb hb2
  by_cases hk0 : k = 0
  ·subst hk0
   have HO : Hid (WordsOk S none) := Lib.hid (HW.out.none_ HP.out)
   clear HW HN HP hrow2
   go_wp2
   refine bodyPost_ret (v := .tuple #[.slice none 0 0, .int .i64 3]) (by simp [results, Tryz.results61, go_sem]) rfl ?_
   exact ⟨hb3, .inl ⟨rfl, HO.out⟩⟩
  have hk1 : ¬ (k : Int) = 0 := by omega
  by_cases hke : k = r.size
  ·have HO : Hid (WordsOk S (some (L ++ [r.data.toList]))) := Lib.hid (by
    refine HW.out.last ?_ ?_
    ·have h := HP.out
     rw [hke] at h
     have e : r.size = r.data.toList.length := by simp
     rw [← e]; exact h
    ·rw [← toList_data]; exact hE)
   have hke1 : (k : Int) = (r.size : Int) := by omega
   clear HW HN HP hke
   go_wp2_with (at_builtin; refine push_one elem_str rfl _ _ rfl w.heap.size _ n (L.map strV) rfl hrow2 _ rfl rfl (by omega) (by omega) ?_; intro g' c' w3 hown3 hb4)
   refine bodyPost_ret (v := .tuple #[.slice (some ⟨g', 0, none⟩) (n + 1) c', .int .i64 0]) (by simp [results, Tryz.results61, go_sem]) rfl ?_
   refine ⟨hb3.trans hb4, .inr ⟨L ++ [r.data.toList], some ⟨g', 0, none⟩, c', by rw [hn.out]; simp, HO.out, by have := own_cap hown3; rw [List.length_append, ← hn.out]; exact this, ?_⟩⟩
   refine Strs.of_own (base := w.heap.size) (c := c') ?_ (by rw [List.length_append, ← hn.out, List.length_singleton]; omega)
   rw [List.map_append, List.length_append, ← hn.out]
   show w3.ownsRow _ _ 1 (.slice _ (n + 1) c') (n + 1) (L.map strV ++ [strV r.data.toList])
   rw [← strV_of]
   exact hown3
  have hk2 : k < r.size := by omega
  have hke1 : ¬ (k : Int) = (r.size : Int) := by omega
  obtain ⟨x, hx⟩ : ∃ x, r[k] = x := ⟨_, rfl⟩
  have hxl : Hid (r.data.toList[k]? = some x) := Lib.hid (by rw [at_data r k hk2, hx])
  by_cases hx32 : (x.toNat : Int) = 32
  case neg =>
   have hx32b : ((x.toNat : Int) != 32) = true := by simpa using hx32
   have HO : Hid (WordsOk S none) := Lib.hid (HW.out.bad HP.out hxl.out (by intro e; apply hx32; rw [e]; rfl))
   clear HW HN HP hrow2 hxl
   go_wp2
   refine bodyPost_ret (v := .tuple #[.slice none 0 0, .int .i64 3]) (by simp [results, Tryz.results61, go_sem]) rfl ?_
   exact ⟨hb3, .inl ⟨rfl, HO.out⟩⟩
  have hx32b : ((x.toNat : Int) != 32) = false := by simpa using hx32
  have hxe : x = 32 := by apply UInt8.toNat_inj.1; have : (32 : UInt8).toNat = 32 := rfl; omega
  have hlen : r.data.toList.length = r.size := by simp
  by_cases hke2 : k + 1 = r.size
  ·have HO : Hid (WordsOk S none) := Lib.hid (HW.out.ends HP.out (by rw [hlen]; exact hke2) hk0 (by rw [hxl.out, hxe]))
   have hke3 : (k : Int) + 1 = (r.size : Int) := by omega
   clear HW HN HP hrow2 hxl hxe hlen
   go_wp2
   refine bodyPost_ret (v := .tuple #[.slice none 0 0, .int .i64 3]) (by simp [results, Tryz.results61, go_sem]) rfl ?_
   exact ⟨hb3, .inl ⟨rfl, HO.out⟩⟩
  ·have HW2 : Hid (WInv S (L ++ [r.data.toList.take k]) (r.data.toList.drop (k + 1))) := Lib.hid (HW.out.next HP.out hk0 (by rw [hxl.out, hxe]) (by rw [hlen]; exact hke2))
   have hke3 : ¬ (k : Int) + 1 = (r.size : Int) := by omega
   clear HW HN HP hxl hxe hlen
   go_wp2_with (at_builtin; refine push_one elem_str rfl _ _ rfl w.heap.size _ n (L.map strV) rfl hrow2 _ rfl rfl (by omega) (by omega) ?_; intro g' c' w3 hown3 hb4)
   go_roundw
   case rel =>
    refine ⟨hb3.trans hb4, r.extract (k + 1) r.size, L ++ [r.data.toList.take k], some ⟨g', 0, none⟩, n + 1, c', rfl, rfl, Lib.hid (by rw [hn.out]; simp), ?_, ?_, ?_, ?_⟩
    ·rw [ByteArray.size_extract]; omega
    ·rw [ext_data r (k + 1) r.size, List.take_of_length_le (l := r.data.toList.drop (k + 1)) (by rw [List.length_drop, ← Lib.size_eq]; exact Nat.le_refl _)]; exact HW2
    ·exact Lib.hid (fun _ => by rw [ByteArray.size_extract]; omega)
    ·refine Lib.hid ?_
     rw [List.map_append]
     have e := strV_of (r.extract 0 k)
     rw [ext_data, List.drop_zero, Nat.sub_zero] at e
     show w3.ownsRow _ _ 1 _ (n + 1) (L.map strV ++ [strV (r.data.toList.take k)])
     rw [← e]
     exact hown3
   case measure => simp; omega
end Go.Proofs.YthefooacfcagbaaGreatDoor.txt

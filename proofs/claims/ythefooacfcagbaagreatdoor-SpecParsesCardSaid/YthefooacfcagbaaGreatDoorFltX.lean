/- Joined texts: FltA FltB FltC FltE FltK FltL. -/
import Derived.Test.YthefooacfcagbaaGreatDoorBase
import Derived.RangeFuncBox
import Derived.Deep.QuietTactic
import Derived.BigQuiet
namespace Go.Proofs.YthefooacfcagbaaGreatDoor.flt
open Go.RowKit
open lib
set_option linter.unusedVariables false
def inB (n a b : Int) : Bool := decide (a ≤ n ∧ n ≤ b)
theorem within_any (n a b : Int) (w : World) : Calls Tryz.prog 83 #[.int .i64 n, .int .i64 a, .int .i64 b] w fun e w' => e = .returned (.bool (inB n a b)) ∧ w = w' := by
 have HR : Hid (inB n a b = decide (a ≤ n ∧ n ≤ b)) := Lib.hid rfl
 by_cases h : n < a
 ·go_enter Tryz.func83, Tryz.ntmps83
  go_wp2
  go_ret
  exact ⟨ret_bool (by rw [HR.out]; rw [Bool.eq_iff_iff]; simp; omega), rfl⟩
 ·go_enter Tryz.func83, Tryz.ntmps83
  go_wp2
  go_ret
  exact ⟨ret_bool (by rw [HR.out]; rw [Bool.eq_iff_iff]; simp; omega), rfl⟩
theorem in_any (n a b : Int) (w : World) : Calls Tryz.prog 92 #[.int .i64 n, .int .i64 a, .int .i64 b] w fun e w' => e = .returned (.bool (inB n a b)) ∧ w = w' := by
 have HR : Hid (inB n a b = decide (a ≤ n ∧ n ≤ b)) := Lib.hid rfl
 by_cases h : n < a
 ·go_enter Tryz.func92, Tryz.ntmps92
  go_wp2
  go_ret
  exact ⟨ret_bool (by rw [HR.out]; rw [Bool.eq_iff_iff]; simp; omega), rfl⟩
 ·go_enter Tryz.func92, Tryz.ntmps92
  go_wp2
  go_ret
  exact ⟨ret_bool (by rw [HR.out]; rw [Bool.eq_iff_iff]; simp; omega), rfl⟩
def capB (l : List Int) (m : Nat) : Bool := decide (1 ≤ l.length ∧ l.length ≤ 3 ∧ l.length = m) && l.all (fun x => inB x 0 1000)
theorem capF_any (x : Int) (w : World) : Calls Tryz.prog 164 #[.int .i64 x] w fun e w' => e = .returned (.bool (!inB x 0 1000)) ∧ w = w' := by
 go_enter Tryz.func164, Tryz.ntmps164
 go_wp2_with (go_at_call 83; refine (within_any _ _ _ _).mono ?_; rintro e w1 ⟨rfl, rfl⟩)
 go_ret
 exact ⟨rfl, rfl⟩
def IdxOut (b : Bool) (w : World) (e : Ending) (w' : World) : Prop := ∃ r : Int, e = .returned (.int .i64 r) ∧ decide (0 ≤ r) = b ∧ Below w.heap.size w w'
theorem any_at {α : Type} {p : α → Bool} {l : List α} {k : Nat} {x : α} (h : l[k]? = some x) : (l.drop k).any p = (p x || (l.drop (k + 1)).any p) := by rw [drop_at' h]; rfl
theorem any_end {α : Type} {p : α → Bool} {l : List α} {k : Nat} (h : l.length ≤ k) : (l.drop k).any p = false := by rw [List.drop_of_length_le h]; rfl
theorem idxInts_any (A : Option Addr) (c : Nat) (l : List Int) (w : World) (hL : Ints w w.heap.size A l) :
  Calls Tryz.prog 179 #[.slice A l.length c, .func (.func 164) #[] #[]] w (IdxOut (l.any (fun x => !inB x 0 1000)) w) := by
 obtain ⟨R, hR⟩ : ∃ R, l.any (fun x => !inB x 0 1000) = R := ⟨_, rfl⟩
 have HR : Hid ((l.drop 0).any (fun x => !inB x 0 1000) = R) := Lib.hid hR
 rw [hR]
 clear hR
 have hlen := hL.len
 go_enter Tryz.func179, Tryz.ntmps179
 go_wp2
 go_loop [5, 8] (fun _ i => ∃ k : Nat, k ≤ l.length ∧ i = .int .i64 k ∧ Hid ((l.drop k).any (fun x => !inB x 0 1000) = R)) (fun _ i => l.length - (intOf i).toNat)
 case atStart => exact ⟨0, by omega, rfl, HR⟩
 case round =>
  obtain ⟨k, hk, rfl, hr⟩ := hrel
  by_cases hlt : k < l.length
  ·obtain ⟨ad, x, rfl, hadb, hx, hcell⟩ := hL.at_ hlt
   have hst := Lib.hid (any_at (p := fun x => !inB x 0 1000) hx)
   have hk0 : (0 : Int) ≤ (k : Int) := by omega
   have hkn : (k : Int) < (l.length : Int) := by omega
   clear hx
   cases hb : inB x 0 1000
   ·have HT : Hid (R = true) := Lib.hid (by rw [← hr.out, hst.out, hb]; rfl)
    go_wp2_with (go_at_call 164; refine (capF_any _ _).mono ?_; rintro e w1 ⟨rfl, rfl⟩)
    go_ret
    exact ⟨k, rfl, by rw [HT.out]; simp, Below.refl _ _⟩
   ·have HT : Hid ((l.drop (k + 1)).any (fun x => !inB x 0 1000) = R) := Lib.hid (by rw [← hr.out, hst.out, hb]; rfl)
    go_wp2_with (go_at_call 164; refine (capF_any _ _).mono ?_; rintro e w1 ⟨rfl, rfl⟩)
    go_round
    case rel => exact ⟨k + 1, by omega, by go_num, HT⟩
    case measure => simp [intOf]; omega
  ·have HT : Hid (R = false) := Lib.hid (by rw [← hr.out, any_end (by omega)])
   go_wp2
   go_ret
   exact ⟨-1, rfl, by rw [HT.out]; simp, Below.refl _ _⟩
theorem hasInts_any (A : Option Addr) (c : Nat) (l : List Int) (w : World) (hL : Ints w w.heap.size A l) :
  Calls Tryz.prog 163 #[.slice A l.length c, .func (.func 164) #[] #[]] w fun e w' => e = .returned (.bool (l.any (fun x => !inB x 0 1000))) ∧ Below w.heap.size w w' := by
 go_enter Tryz.func163, Tryz.ntmps163
 go_wp2_with fail
 refine (idxInts_any A c l w hL).mono ?_
 rintro e w1 ⟨r, rfl, hr, hb⟩
 have HR := Lib.hid hr
 clear hr
 go_wp2
 go_ret
 exact ⟨ret_bool HR.out, hb⟩
end Go.Proofs.YthefooacfcagbaaGreatDoor.flt
namespace Go.Proofs.YthefooacfcagbaaGreatDoor.flt
open Go.RowKit
open lib rd typ
set_option linter.unusedVariables false
theorem any_not (l : List Int) : l.any (fun x => !inB x 0 1000) = !(l.all (fun x => inB x 0 1000)) := by
 induction l with
 | nil => rfl
 | cons x l ih => simp only [List.any_cons, List.all_cons, ih, Bool.not_and]
set_option maxHeartbeats 1000000 in
theorem capacity_any (A : Option Addr) (c : Nat) (l : List Int) (A' : Option Addr) (m c' : Nat) (w : World) (hL : Ints w w.heap.size A l) :
  Calls Tryz.prog 122 #[.slice A l.length c, .slice A' m c'] w fun e w' => e = .returned (.bool (capB l m)) ∧ Below w.heap.size w w' := by
 obtain ⟨R, hR⟩ : ∃ R, capB l m = R := ⟨_, rfl⟩
 rw [hR]
 have HR : Hid (capB l m = R) := Lib.hid hR
 clear hR
 have hi := Lib.hid (show inB (l.length : Int) 1 3 = decide (1 ≤ (l.length : Int) ∧ (l.length : Int) ≤ 3) from rfl)
 cases h1 : inB (l.length : Int) 1 3
 ·have HT : Hid (R = false) := Lib.hid (by
   rw [← HR.out]; unfold capB
   have h2 := hi.out
   rw [h1] at h2
   have h3 := of_decide_eq_false h2.symm
   rw [decide_eq_false (by omega)]; rfl)
  go_enter Tryz.func122, Tryz.ntmps122
  go_wp2_with (go_at_call 83; refine (within_any _ _ _ _).mono ?_; rintro e w1 ⟨rfl, rfl⟩)
  go_ret
  exact ⟨ret_bool HT.out.symm, Below.refl _ _⟩
 ·by_cases h2 : l.length = m
  ·have HT : Hid (R = !(l.any (fun x => !inB x 0 1000))) := Lib.hid (by
    rw [← HR.out]; unfold capB
    have h4 := hi.out
    rw [h1] at h4
    have h3 := of_decide_eq_true h4.symm
    rw [decide_eq_true (by omega), any_not]; simp)
   subst h2
   have hL' := hL
   go_enter Tryz.func122, Tryz.ntmps122
   go_wp2_with (first | (go_at_call 83; refine (within_any _ _ _ _).mono ?_; rintro e w1 ⟨rfl, rfl⟩) | (go_at_call 163; refine (hasInts_any A c l _ hL').mono ?_; rintro e w1 ⟨rfl, hb1⟩))
   go_ret
   exact ⟨ret_bool HT.out.symm, hb1⟩
  ·have HT : Hid (R = false) := Lib.hid (by
    rw [← HR.out]; unfold capB
    rw [decide_eq_false (by omega)]; rfl)
   have hne : ((l.length : Int) != (m : Int)) = true := by simp; omega
   have hne2 : ((l.length : Int) == (m : Int)) = false := by simp; omega
   clear h2
   go_enter Tryz.func122, Tryz.ntmps122
   go_wp2_with (go_at_call 83; refine (within_any _ _ _ _).mono ?_; rintro e w1 ⟨rfl, rfl⟩)
   go_ret
   exact ⟨ret_bool HT.out.symm, Below.refl _ _⟩
theorem all_at {α : Type} {p : α → Bool} {l : List α} {k : Nat} {x : α} (h : l[k]? = some x) : (l.drop k).all p = (p x && (l.drop (k + 1)).all p) := by rw [drop_at' h]; rfl
theorem all_end {α : Type} {p : α → Bool} {l : List α} {k : Nat} (h : l.length ≤ k) : (l.drop k).all p = true := by rw [List.drop_of_length_le h]; rfl
set_option maxHeartbeats 1000000 in
theorem rcapacity_any (A : Option Addr) (c : Nat) (l : List Int) (m : Nat) (w : World) (hL : Ints w w.heap.size A l) :
  Calls Tryz.prog 137 #[.slice A l.length c, .int .i64 m] w fun e w' => e = .returned (.bool (capB l m)) ∧ w = w' := by
 obtain ⟨R, hR⟩ : ∃ R, capB l m = R := ⟨_, rfl⟩
 rw [hR]
 have HR : Hid (capB l m = R) := Lib.hid hR
 clear hR
 have hlen := hL.len
 have hi := Lib.hid (show inB (l.length : Int) 1 3 = decide (1 ≤ (l.length : Int) ∧ (l.length : Int) ≤ 3) from rfl)
 cases h1 : inB (l.length : Int) 1 3
 ·have HT : Hid (R = false) := Lib.hid (by
   rw [← HR.out]; unfold capB
   have h2 := hi.out
   rw [h1] at h2
   have h3 := of_decide_eq_false h2.symm
   rw [decide_eq_false (by omega)]; rfl)
  go_enter Tryz.func137, Tryz.ntmps137
  go_wp2_with (go_at_call 92; refine (in_any _ _ _ _).mono ?_; rintro e w1 ⟨rfl, rfl⟩)
  go_ret
  exact ⟨ret_bool HT.out.symm, rfl⟩
 ·by_cases h2 : l.length = m
  ·have HT : Hid (R = (l.drop 0).all (fun x => inB x 0 1000)) := Lib.hid (by
    rw [← HR.out]; unfold capB
    have h4 := hi.out
    rw [h1] at h4
    have h3 := of_decide_eq_true h4.symm
    rw [decide_eq_true (by omega)]; rfl)
   subst h2
   go_enter Tryz.func137, Tryz.ntmps137
   go_wp2_with (go_at_call 92; refine (in_any _ _ _ _).mono ?_; rintro e w1 ⟨rfl, rfl⟩)
   go_loop [5] (fun i => ∃ k : Nat, k ≤ l.length ∧ i = .int .i64 k ∧ Hid (R = (l.drop k).all (fun x => inB x 0 1000))) (fun i => l.length - (intOf i).toNat)
   case atStart => exact ⟨0, by omega, rfl, HT⟩
   case round =>
    obtain ⟨k, hk, rfl, hr⟩ := hrel
    by_cases hlt : k < l.length
    ·obtain ⟨ad, x, rfl, hadb, hx, hcell⟩ := hL.at_ hlt
     have hst := Lib.hid (all_at (p := fun x => inB x 0 1000) hx)
     have hk0 : (0 : Int) ≤ (k : Int) := by omega
     have hkn : (k : Int) < (l.length : Int) := by omega
     clear hx
     cases hb : inB x 0 1000
     ·have HF : Hid (R = false) := Lib.hid (by rw [hr.out, hst.out, hb]; rfl)
      go_wp2_with (go_at_call 92; refine (in_any _ _ _ _).mono ?_; rintro e w1 ⟨rfl, rfl⟩)
      go_ret
      exact ⟨ret_bool HF.out.symm, rfl⟩
     ·have HF : Hid (R = (l.drop (k + 1)).all (fun x => inB x 0 1000)) := Lib.hid (by rw [hr.out, hst.out, hb]; rfl)
      go_wp2_with (go_at_call 92; refine (in_any _ _ _ _).mono ?_; rintro e w1 ⟨rfl, rfl⟩)
      go_round
      case rel => exact ⟨k + 1, by omega, by go_num, HF⟩
      case measure => simp [intOf]; omega
    ·have HF : Hid (R = true) := Lib.hid (by rw [hr.out, all_end (by omega)])
     go_wp2
     go_ret
     exact ⟨ret_bool HF.out.symm, rfl⟩
  ·have HT : Hid (R = false) := Lib.hid (by
    rw [← HR.out]; unfold capB
    rw [decide_eq_false (by omega)]; rfl)
   have hne : ((l.length : Int) != (m : Int)) = true := by simp; omega
   have hne2 : ((l.length : Int) == (m : Int)) = false := by simp; omega
   clear h2
   go_enter Tryz.func137, Tryz.ntmps137
   go_wp2_with (go_at_call 92; refine (in_any _ _ _ _).mono ?_; rintro e w1 ⟨rfl, rfl⟩)
   go_ret
   exact ⟨ret_bool HT.out.symm, rfl⟩
def sameS (a b : ByteArray) : Bool := a.toList == b.toList
theorem named_any (x : Ty) (C : Option Addr) (c : Nat) (bt : Nat) (nm : ByteArray) (w : World) (hbt : bt < w.heap.size) (hc : w.cell? ⟨bt, 0, none⟩ = some (.string nm)) :
  Calls Tryz.prog 121 #[.agg #[.string x.name, .int .i64 x.count, .int .i64 x.frm, .int .i64 x.to, .slice C x.cap.length c, .int .i64 x.skills, .int .i64 x.profile, .int .i64 x.opn, .int .i64 x.close, .int .i64 x.drive, .int .i64 x.rest, .int .i64 x.fixed, .int .i64 x.mile, .int .i64 x.tick], .pointer (some ⟨bt, 0, none⟩)] w fun e w' => e = .returned (.bool (sameS x.name nm)) ∧ Below w.heap.size w w' := by
 go_enter Tryz.func121, Tryz.ntmps121
 go_wp2
 go_ret
 exact ⟨rfl, (Below.refl _ _).alloc (Nat.le_refl _) _⟩
set_option maxHeartbeats 1000000 in
theorem idxTys_any (A : Option Addr) (c : Nat) (l : List Ty) (n : Nat) (hn : l.length = n) (bt : Nat) (nm : ByteArray) (w : World) (B : Nat) (hB : B ≤ w.heap.size) (hL : RowAt rTy w B A l) (hbt : bt < w.heap.size) (hc : w.cell? ⟨bt, 0, none⟩ = some (.string nm)) :
  Calls Tryz.prog 162 #[.slice A n c, .func (.func 121) #[] #[.pointer (some ⟨bt, 0, none⟩)]] w (IdxOut (l.any (fun x => sameS x.name nm)) w) := by
 obtain ⟨R, hR⟩ : ∃ R, l.any (fun x => sameS x.name nm) = R := ⟨_, rfl⟩
 have HR : Hid ((l.drop 0).any (fun x => sameS x.name nm) = R) := Lib.hid hR
 rw [hR]
 clear hR
 have hlen := hL.len
 rw [hn] at hlen
 have HN := Lib.hid hn
 clear hn
 go_enter Tryz.func162, Tryz.ntmps162
 go_wp2
 go_loopw [5, 8] (fun _ i wr => ∃ k : Nat, k ≤ n ∧ i = .int .i64 k ∧ Hid ((l.drop k).any (fun x => sameS x.name nm) = R) ∧ Below w.heap.size w wr) (fun _ i _ => n - (intOf i).toNat)
 case atStart => exact ⟨0, by omega, rfl, HR, Below.refl _ _⟩
 case round =>
  obtain ⟨k, hk, rfl, hr, hb⟩ := hrel
  have hz := hb.size
  by_cases hlt : k < n
  ·obtain ⟨x, hx⟩ : ∃ x, l[k]? = some x := ⟨_, List.getElem?_eq_getElem (by rw [HN.out]; exact hlt)⟩
   obtain ⟨ad, C0, c0, rfl, hadb, ⟨m0, m1, m2, m3, m4, m5, m6, m7, m8, m9, m10, m11, m12, m13⟩, _, _⟩ := row_Ty (hL.below (hb.mono hB)) hx
   have hst := Lib.hid (any_at (p := fun x : Ty => sameS x.name nm) hx)
   have hk0 : (0 : Int) ≤ (k : Int) := by omega
   have hkn : (k : Int) < (n : Int) := by omega
   have hc' : wr.cell? ⟨bt, 0, none⟩ = some (.string nm) := (hb.cell (p := ⟨bt, 0, none⟩) hbt).trans hc
   clear hx
   cases hs : sameS x.name nm
   ·have HT : Hid ((l.drop (k + 1)).any (fun x => sameS x.name nm) = R) := Lib.hid (by have h := hst.out; rw [hr.out, hs] at h; exact h.symm)
    go_wp2_with (go_at_call 121; refine (named_any x C0 c0 bt nm _ (by omega) hc').mono ?_; rintro e w1 ⟨rfl, hb1⟩)
    go_roundw
    case rel => exact ⟨k + 1, by omega, by go_num, HT, hb.trans (hb1.mono hz)⟩
    case measure => simp [intOf]; omega
   ·have HT : Hid (R = true) := Lib.hid (by rw [← hr.out, hst.out, hs]; rfl)
    go_wp2_with (go_at_call 121; refine (named_any x C0 c0 bt nm _ (by omega) hc').mono ?_; rintro e w1 ⟨rfl, hb1⟩)
    go_ret
    exact ⟨k, rfl, by rw [HT.out]; simp, hb.trans (hb1.mono hz)⟩
  ·have HT : Hid (R = false) := Lib.hid (by rw [← hr.out, any_end (by rw [HN.out]; omega)])
   go_wp2
   go_ret
   exact ⟨-1, rfl, by rw [HT.out]; simp, hb⟩
theorem hasTys_any (A : Option Addr) (c : Nat) (l : List Ty) (n : Nat) (hn : l.length = n) (bt : Nat) (nm : ByteArray) (w : World) (B : Nat) (hB : B ≤ w.heap.size) (hL : RowAt rTy w B A l) (hbt : bt < w.heap.size) (hc : w.cell? ⟨bt, 0, none⟩ = some (.string nm)) :
  Calls Tryz.prog 120 #[.slice A n c, .func (.func 121) #[] #[.pointer (some ⟨bt, 0, none⟩)]] w fun e w' => e = .returned (.bool (l.any (fun x => sameS x.name nm))) ∧ Below w.heap.size w w' := by
 go_enter Tryz.func120, Tryz.ntmps120
 go_wp2_with fail
 refine (idxTys_any A c l n hn bt nm w B hB hL hbt hc).mono ?_
 rintro e w1 ⟨r, rfl, hr, hb⟩
 have HR := Lib.hid hr
 clear hr
 go_wp2
 go_ret
 exact ⟨ret_bool HR.out, hb⟩
end Go.Proofs.YthefooacfcagbaaGreatDoor.flt
namespace Go.Proofs.YthefooacfcagbaaGreatDoor.flt
open Go.RowKit
open lib rd typ
set_option linter.unusedVariables false
theorem errno_info : (Tryz.prog.info? 33).map (fun i => (i.zero, i.size, i.bytes)) = some (some (.int .i64 0), 1, 8) := by kernel_rfl
theorem push_errno {ops : Array Oper} {rest : List Oper} {o : Oper} {a : Act} {Q : Exit → Act → World → Prop} {w : World} (hgd : o.guard = none) (s x : Operand)
  (ho : o.op = .call { callee := .builtin .append, args := #[s, x], argTypes := #[126, 126] })
  (base : Nat) (v : Value) (n : Nat) (xs : List Int) (hs : a.eval s = v) (hown : w.ownsRow base 33 1 v n (xs.map (.int .i64)))
  (u : Int) (hx : a.eval x = .slice (some ⟨w.heap.size, 0, none⟩) 1 1) (hn : n < 17592186044416) (hbase : base ≤ w.heap.size)
  (h : ∀ A c w', w'.ownsRow base 33 1 (.slice A (n + 1) c) (n + 1) ((xs ++ [u]).map (.int .i64)) → Below base w w' → w.heap.size < w'.heap.size → wpList Tryz.prog ops Q rest (a.put o.dst (.slice A (n + 1) c)) w') :
  wpList Tryz.prog ops Q (o :: rest) a (w.alloc (.cells #[.int .i64 u] 33)) := by
 obtain ⟨i0, hi, hz0, hz1, hz2⟩ := info_parts errno_info
 refine wpList_append_own _ hgd s x _ ho base 33 i0 (.int .i64 0) 1 8 Tryz.underlying126 hi hz0 hz1 hz2 rfl (by decide) v n (xs.map (.int .i64)) hs (hown.alloc _) ⟨w.heap.size, 0, none⟩ 1 1 [.int .i64 u] hx rfl (cell_one_new _ _ _) ?_ (by unfold maxLen; omega) (by omega) (by simp; omega) ?_
 ·intro u hu
  simp at hu
  subst hu
  rfl
 intro v' w1 hown' hg _
 obtain ⟨A, c, rfl⟩ := own_form hown'
 refine h A c w1 (by simpa using hown') ?_ ?_
 ·exact ((Below.refl base w).alloc hbase _).grown hg (by simp; omega) (own_base hown)
 ·have := hg.size; simp at this; omega
def BoxRow (w : World) (b base : Nat) (xs : List Int) : Prop :=
 ∃ A c, Boxed w b 126 (.slice A xs.length c) ∧ w.ownsRow base 33 1 (.slice A xs.length c) xs.length (xs.map (.int .i64)) ∧ b < base ∧ base ≤ w.heap.size ∧ xs.length ≤ 100
theorem BoxRow.below {w w' : World} {b base : Nat} {xs : List Int} (h : BoxRow w b base xs) (hb : Below w.heap.size w w') : BoxRow w' b base xs := by
 obtain ⟨A, c, h1, h2, h3, h4, h5⟩ := h
 refine ⟨A, c, (hb.block b (by omega)).trans h1, ?_, h3, Nat.le_trans h4 hb.size, h5⟩
 rcases h2.2 with ⟨h6, h7⟩ | ⟨g, cap, cur, h6, h7, h8, h9⟩
 ·exact ⟨h2.1, .inl ⟨h6, h7⟩⟩
 ·exact ⟨h2.1, .inr ⟨g, cap, cur, h6, h7, (hb.block g (Array.getElem?_eq_some_iff.1 h8).1).trans h8, h9⟩⟩
def AddOut (w : World) (b base : Nat) (xs : List Int) (e : Ending) (w' : World) : Prop :=
 e = .returned (.tuple #[]) ∧ BoxRow w' b base xs ∧ Below b w w' ∧ (∀ k, b < k → k < base → w'.heap[k]? = w.heap[k]?) ∧ w.heap.size ≤ w'.heap.size
theorem add_yes (b base : Nat) (xs : List Int) (u : Int) (w : World) (h : BoxRow w b base xs) :
  Calls Tryz.prog 119 #[.bool true, .int .i64 u, .pointer (some ⟨b, 0, none⟩)] w (AddOut w b base xs) := by
 go_enter Tryz.func119, Tryz.ntmps119
 go_wp2
 refine bodyPost_ret (v := .tuple #[]) (by simp [results, Tryz.results119, go_sem]) rfl ⟨rfl, h, Below.refl _ _, fun _ _ _ => rfl, Nat.le_refl _⟩
theorem add_no (b base : Nat) (xs : List Int) (u : Int) (w : World) (h : BoxRow w b base xs) (hx : xs.length < 100) :
  Calls Tryz.prog 119 #[.bool false, .int .i64 u, .pointer (some ⟨b, 0, none⟩)] w (AddOut w b base (xs ++ [u])) := by
 obtain ⟨A, c, h1, h2, h3, h4, h5⟩ := h
 have hc := h1.cell
 have hf := h1.frozen
 go_enter Tryz.func119, Tryz.ntmps119
 go_wp2_with (at_builtin; refine push_errno rfl _ _ rfl base _ xs.length xs rfl h2 u rfl (by omega) h4 ?_; intro A1 c1 w1 hown1 hb1 hz1; have hbx : Boxed w1 b 126 (.slice A xs.length c) := (hb1.block b h3).trans h1; have hc1 := hbx.cell; have hf1 := hbx.frozen)
 go_end0
 refine ⟨rfl, ⟨A1, c1, by rw [List.length_append]; exact hbx.set _, ?_, h3, ?_, by simp; omega⟩, ?_, ?_, ?_⟩
 ·rw [List.length_append]
  exact ownsRow_setCell_below (a := ⟨b, 0, none⟩) hown1 h3 _
 ·simp; omega
 ·have hb2 : Below b w w1 := hb1.mono (by omega)
  exact hb2.setCell (p := ⟨b, 0, none⟩) (Nat.le_refl _) _
 ·intro k hk1 hk2
  exact (Below.heap_setCell w1 ⟨b, 0, none⟩ _ k (show k ≠ b by omega)).trans (hb1.block k hk2)
 ·simp; omega
end Go.Proofs.YthefooacfcagbaaGreatDoor.flt
namespace Go.Proofs.YthefooacfcagbaaGreatDoor.flt
open Go.RowKit
open lib rd typ
set_option linter.unusedVariables false
theorem take_any {α : Type} {p : α → Bool} {l : List α} {k : Nat} {x : α} (h : l[k]? = some x) : (l.take (k + 1)).any p = ((l.take k).any p || p x) := by
 obtain ⟨h1, h2⟩ := List.getElem?_eq_some_iff.1 h
 rw [List.take_succ_eq_append_getElem h1, List.any_append, h2]
 simp
set_option maxHeartbeats 1000000 in
theorem known_any (A : Option Addr) (c : Nat) (l : List Ty) (i : Nat) (hi : i ≤ l.length) (nm : ByteArray) (w : World) (B : Nat) (hL : RowAt rTy w B A l) :
  Calls Tryz.prog 136 #[.slice A l.length c, .int .i64 i, .string nm] w fun e w' => e = .returned (.bool ((l.take i).any (fun x => sameS x.name nm))) ∧ w = w' := by
 obtain ⟨R, hR⟩ : ∃ R, (l.take i).any (fun x => sameS x.name nm) = R := ⟨_, rfl⟩
 have HR : Hid ((l.take i).any (fun x => sameS x.name nm) = R) := Lib.hid hR
 rw [hR]
 clear hR
 have hlen := hL.len
 go_enter Tryz.func136, Tryz.ntmps136
 go_wp2
 go_loop [7] (fun j => ∃ k : Nat, k ≤ i ∧ j = .int .i64 k ∧ Hid ((l.take k).any (fun x => sameS x.name nm) = false)) (fun j => i - (intOf j).toNat)
 case atStart => exact ⟨0, by omega, rfl, Lib.hid (by simp)⟩
 case round =>
  obtain ⟨k, hk, rfl, hr⟩ := hrel
  by_cases hlt : k < i
  ·obtain ⟨x, hx⟩ : ∃ x, l[k]? = some x := ⟨_, List.getElem?_eq_getElem (by omega)⟩
   obtain ⟨ad, C0, c0, rfl, hadb, ⟨m0, _⟩, _, _⟩ := row_Ty hL hx
   have hst := Lib.hid (take_any (p := fun x : Ty => sameS x.name nm) hx)
   have hk0 : (0 : Int) ≤ (k : Int) := by omega
   have hkn : (k : Int) < (l.length : Int) := by omega
   have hE : Hid (sameS x.name nm = (x.name.toList == nm.toList)) := Lib.hid rfl
   cases hs : x.name.toList == nm.toList
   ·have HT : Hid ((l.take (k + 1)).any (fun x => sameS x.name nm) = false) := Lib.hid (by rw [hst.out, hr.out, hE.out, hs]; rfl)
    clear hx
    go_wp2
    go_round
    case rel => exact ⟨k + 1, by omega, by go_num, HT⟩
    case measure => simp [intOf]; omega
   ·have HT : Hid (R = true) := Lib.hid (by
     rw [← HR.out, List.any_eq_true]
     refine ⟨x, ?_, by show sameS x.name nm = true; rw [hE.out, hs]⟩
     rw [List.mem_take_iff_getElem]
     obtain ⟨h1, h2⟩ := List.getElem?_eq_some_iff.1 hx
     exact ⟨k, by omega, h2⟩)
    clear hx
    go_wp2
    go_ret
    exact ⟨ret_bool HT.out.symm, rfl⟩
  ·have hki : k = i := by omega
   subst hki
   have HT : Hid (R = false) := Lib.hid (by rw [← HR.out, hr.out])
   clear hlt
   go_wp2
   go_ret
   exact ⟨ret_bool HT.out.symm, rfl⟩
def dimsN (l : List Ty) : Nat := match l with | [] => 0 | t :: _ => t.cap.length
theorem dims_any (A : Option Addr) (c : Nat) (l : List Ty) (w : World) (B : Nat) (hL : RowAt rTy w B A l) :
  Calls Tryz.prog 48 #[.slice A l.length c] w fun e w' => e = .returned (.int .i64 (dimsN l)) ∧ w = w' := by
 have hlen := hL.len
 rcases l with _ | ⟨t, l⟩
 ·go_enter Tryz.func48, Tryz.ntmps48
  go_wp2
  go_ret
  exact ⟨rfl, rfl⟩
 ·obtain ⟨ad, C0, c0, rfl, hadb, ⟨m0, m1, m2, m3, m4, _⟩, _, _⟩ := row_Ty hL (i := 0) rfl
  have hz : ad.add (0 * 14) = ad := by simp [Addr.add]
  rw [hz] at m4
  obtain ⟨n, hn⟩ : ∃ n, (t :: l).length = n := ⟨_, rfl⟩
  have hpos : 0 < n := by rw [← hn]; simp
  have hne : ((n : Int) == 0) = false := by simp; omega
  rw [hn]
  clear hz hn hL hlen m0 m1 m2 m3
  show Calls _ _ _ _ fun e w' => e = .returned (.int .i64 (t.cap.length : Nat)) ∧ w = w'
  go_enter Tryz.func48, Tryz.ntmps48
  go_wp2
  go_ret
  exact ⟨rfl, rfl⟩
theorem rdims_any (A : Option Addr) (c : Nat) (l : List Ty) (w : World) (B : Nat) (hL : RowAt rTy w B A l) :
  Calls Tryz.prog 56 #[.slice A l.length c] w fun e w' => e = .returned (.int .i64 (dimsN l)) ∧ w = w' := by
 have hlen := hL.len
 rcases l with _ | ⟨t, l⟩
 ·go_enter Tryz.func56, Tryz.ntmps56
  go_wp2
  go_ret
  exact ⟨rfl, rfl⟩
 ·obtain ⟨ad, C0, c0, rfl, hadb, ⟨m0, m1, m2, m3, m4, _⟩, _, _⟩ := row_Ty hL (i := 0) rfl
  have hz : ad.add (0 * 14) = ad := by simp [Addr.add]
  rw [hz] at m4
  obtain ⟨n, hn⟩ : ∃ n, (t :: l).length = n := ⟨_, rfl⟩
  have hpos : 0 < n := by rw [← hn]; simp
  have hne : ((n : Int) == 0) = false := by simp; omega
  rw [hn]
  clear hz hn hL hlen m0 m1 m2 m3
  show Calls _ _ _ _ fun e w' => e = .returned (.int .i64 (t.cap.length : Nat)) ∧ w = w'
  go_enter Tryz.func56, Tryz.ntmps56
  go_wp2
  go_ret
  exact ⟨rfl, rfl⟩
end Go.Proofs.YthefooacfcagbaaGreatDoor.flt
namespace Go.Proofs.YthefooacfcagbaaGreatDoor.flt
open Go.RowKit
open lib rd typ
set_option linter.unusedVariables false
theorem inB_bd {n a b : Int} (h : inB n a b = true) : a ≤ n ∧ n ≤ b := by unfold inB at h; simpa using h
def sameB (a b : List Int) : Bool := decide (a = b)
theorem same_step {a b : List Int} {k : Nat} {x y : Int} (hx : a[k]? = some x) (hy : b[k]? = some y) : decide (a.drop k = b.drop k) = (decide (x = y) && decide (a.drop (k + 1) = b.drop (k + 1))) := by
 rw [drop_at hx, drop_at hy, Bool.eq_iff_iff]
 simp
end Go.Proofs.YthefooacfcagbaaGreatDoor.flt
namespace Go.Proofs.YthefooacfcagbaaGreatDoor.flt
open Go.RowKit
open lib rd typ
set_option linter.unusedVariables false
def numsB (a b : Ty) : Bool := decide (a.count = b.count ∧ a.frm = b.frm ∧ a.to = b.to ∧ a.skills = b.skills ∧ a.profile = b.profile ∧ a.opn = b.opn ∧ a.close = b.close ∧ a.drive = b.drive ∧ a.rest = b.rest ∧ a.fixed = b.fixed ∧ a.mile = b.mile ∧ a.tick = b.tick)
def sameT (a b : Ty) : Bool := sameB a.cap b.cap && (sameS a.name b.name && numsB a b)
end Go.Proofs.YthefooacfcagbaaGreatDoor.flt

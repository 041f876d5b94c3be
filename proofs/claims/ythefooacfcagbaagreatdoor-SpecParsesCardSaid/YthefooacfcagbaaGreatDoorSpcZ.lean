import Derived.Test.YthefooacfcagbaaGreatDoorSpcY
import Derived.Test.YthefooacfcagbaaGreatDoorSpcX
import Derived.Test.YthefooacfcagbaaGreatDoorShelfS
import Derived.Deep.MidRow
/- spec's reader: failures, words, numbers. -/
namespace Go.Proofs.YthefooacfcagbaaGreatDoor.spc
open Go.RowKit
open lib rd app els typ big gen
open txt (in64 By strV strV_of decW decW_any Tabs elem_str toList_data push_one Strs numL number_any num_dec dec_num)
set_option linter.unusedVariables false
set_option linter.unusedSimpArgs false
def pnV : PanicEntry := { v := .iface 107 (.agg #[]), recovered := false }
theorem fail_any (w : World) : Calls Tryz.prog 67 #[] w fun e w' => e = .panicked [pnV] ∧ w = w' := by
 go_enter Tryz.func67, Tryz.ntmps67
 go_wp2
 exact ⟨rfl, rfl, rfl⟩
set_option maxRecDepth 20000 in
theorem snum_any (s : ByteArray) (hm : s.size ≤ 100000) (w : World) (ht : Tabs w) :
  Calls Tryz.prog 99 #[.string s] w fun e w' => Below w.heap.size w w' ∧ ((∃ n : Int, s.data.toList = Lib.itoa n ∧ in64 n ∧ e = .returned (.int .i64 n)) ∨ ((∀ n, in64 n → s.data.toList ≠ Lib.itoa n) ∧ e = .panicked [pnV])) := by
 have hc := number_any s (by omega) w ht
 obtain ⟨p, hp⟩ : ∃ p, numL s.data.toList = p := ⟨_, rfl⟩
 rw [hp] at hc
 obtain ⟨n, f⟩ := p
 have HC := Lib.hid hc
 clear hc
 by_cases hf : f = 0
 ·subst hf
  have HP := Lib.hid (dec_num hp)
  clear hp
  go_enter Tryz.func99, Tryz.ntmps99
  go_wp2_with (go_at_call 151; refine HC.out.mono ?_; rintro e w1 ⟨rfl, hb⟩)
  go_ret
  exact ⟨hb, .inl ⟨n, HP.out.1, HP.out.2, rfl⟩⟩
 ·have HP : Hid (∀ n, in64 n → s.data.toList ≠ Lib.itoa n) := Lib.hid (fun m hm e => by
   rw [e, num_dec hm] at hp
   exact hf (congrArg Prod.snd hp).symm)
  have hf1 : (f != 0) = true := by simpa using hf
  clear hp
  go_enter Tryz.func99, Tryz.ntmps99
  go_wp2_with (first | (go_at_call 151; refine HC.out.mono ?_; rintro e w1 ⟨rfl, hb⟩) | (go_at_call 67; refine (fail_any _).mono ?_; rintro e w2 ⟨rfl, rfl⟩))
  exact ⟨rfl, hb, .inr ⟨HP.out, rfl⟩⟩
def RdSt (w : World) (b : Nat) (R : List By) : Prop := ∃ (A : Option Addr) (n c : Nat), n = R.length ∧ n ≤ c ∧ Blk w b 111 [.slice A n c] ∧ Strs w b A R ∧ ∀ x ∈ R, x.length ≤ 100000 ∧ txt.partB x
theorem grown_below {w w' : World} {row : Option Nat} (hb : Below w.heap.size w w') : w.grownBy w' row := ⟨hb.os, hb.tape, hb.output, hb.size, fun k hk _ => hb.block k hk⟩
theorem below_grown {w w' : World} {b B : Nat} (h : w.grownBy w' (some b)) (hB : B ≤ w.heap.size) (hb : B ≤ b) : Below B w w' := (Below.refl B w).grown h hB (fun k e => by injection e with e; omega)
structure RS (w : World) (b : Nat) (R : List By) (wx : World) : Prop where
 st : RdSt wx b R
 grown : w.grownBy wx (some b)
 lt : b < w.heap.size
section
variable {w w' wx wy : World} {b : Nat} {R R' : List By}
theorem RdSt.keep (h : RdSt w b R) (hk : ∀ p, p ≤ b → w'.heap[p]? = w.heap[p]?) : RdSt w' b R := by
 obtain ⟨A, n, c, h1, h2, h3, h4, h5⟩ := h
 exact ⟨A, n, c, h1, h2, (hk b (Nat.le_refl _)).trans h3, ⟨h4.1.keep fun p hp => World.cell?_of_block (hk _ (Nat.le_of_lt hp)), h4.2⟩, h5⟩
theorem RdSt.lt (h : RdSt w b R) : b < w.heap.size := by
 obtain ⟨A, n, c, h1, h2, h3, h4, h5⟩ := h
 exact h3.lt
theorem RdSt.below (h : RdSt w b R) (hb : Below w.heap.size w w') : RdSt w' b R := h.keep fun p hp => hb.block p (Nat.lt_of_le_of_lt hp h.lt)
theorem RS.start (h : RdSt w b R) : RS w b R w := ⟨h, World.grownBy.refl _ _, h.lt⟩
theorem RS.size (h : RS w b R wx) : w.heap.size ≤ wx.heap.size := h.grown.size
theorem RS.below (h : RS w b R wx) (hb : Below wx.heap.size wx wy) : RS w b R wy := ⟨h.st.below hb, h.grown.trans (grown_below hb), h.lt⟩
theorem RS.next (h : RS w b R wx) (h' : RS wx b R' wy) : RS w b R' wy := ⟨h'.st, h.grown.trans h'.grown, h.lt⟩
theorem RS.alloc (h : RS w b R wx) (o : Obj) : RS w b R (wx.alloc o) := h.below ((Below.refl _ _).alloc (Nat.le_refl _) o)
theorem RS.drew (h : RS w b R wx) : RS w b R wx.drew := h.below (Below.refl _ _).drew
theorem grown_set (h : w.grownBy wx (some b)) {q : Nat} (hq : w.heap.size ≤ q) (i : Nat) (u : Value) : w.grownBy (wx.setCell ⟨q, i, none⟩ u) (some b) :=
 ⟨h.os, h.tape, h.output, Nat.le_trans h.size (by simp [World.setCell]), fun k hk hne => (Below.heap_setCell wx ⟨q, i, none⟩ u k (show k ≠ q by omega)).trans (h.block k hk hne)⟩
theorem RS.set (h : RS w b R wx) {q : Nat} (hq : w.heap.size ≤ q) (i : Nat) (u : Value) : RS w b R (wx.setCell ⟨q, i, none⟩ u) :=
 ⟨h.st.keep fun p hp => Below.heap_setCell wx ⟨q, i, none⟩ u p (show p ≠ q by have := h.lt; omega), grown_set h.grown hq i u, h.lt⟩
theorem RS.grow (h : RS w b R wx) {row : Option Nat} (hg : wx.grownBy wy row) (hr : ∀ k, row = some k → w.heap.size ≤ k) : RS w b R wy :=
 ⟨h.st.keep fun p hp => hg.block p (Nat.lt_of_le_of_lt hp h.st.lt) (fun e => by have := hr p e.symm; have := h.lt; omega), ⟨hg.os.trans h.grown.os, hg.tape.trans h.grown.tape, hg.output.trans h.grown.output, Nat.le_trans h.size hg.size, fun k hk hne => (hg.block k (Nat.lt_of_lt_of_le hk h.size) (fun e => by have := hr k e.symm; omega)).trans (h.grown.block k hk hne)⟩, h.lt⟩
end
def OneR {α : Type} (W : α → By) (ok : α → Prop) (Q : α → Value → World → World → Prop) (b : Nat) (R : List By) (w : World) (e : Ending) (w' : World) : Prop :=
 (∃ a R' v, R = W a :: R' ∧ ok a ∧ e = .returned v ∧ Q a v w w' ∧ RS w b R' w') ∨ ((∀ a R', ok a → R ≠ W a :: R') ∧ e = .panicked [pnV] ∧ w.grownBy w' (some b))
def freeB (x : By) : Prop := x.head? ≠ some 34
theorem word_free {x : By} (h : txt.wordB x = true) : freeB x := fun e => by
 cases x with
 | nil => cases e
 | cons c t =>
  have h1 := txt.word_all h
  rw [List.all_cons, Bool.and_eq_true] at h1
  obtain rfl := Option.some.inj e
  exact absurd h1.1 (by decide)
theorem add_one (ad : Addr) (j : Nat) : (⟨ad.block, ad.off + 1, none⟩ : Addr).add j = ad.add (j + 1) := by
 cases j with
 | zero => simp [Addr.add]
 | succ j => simp [Addr.add]; omega
theorem pre34 (x : By) : Lib.hasPrefix x [34] = decide (x.head? = some 34) := by
 unfold Lib.hasPrefix
 cases x with
 | nil => rfl
 | cons c t =>
  show (34 == c && true) = _
  rw [Bool.and_true, Bool.eq_iff_iff, beq_iff_eq, decide_eq_true_iff, List.head?_cons, Option.some.injEq]
  exact eq_comm
abbrev WordR (b : Nat) (R : List By) (w : World) := OneR (fun x : By => x) (fun x => txt.wordB x = true) (fun x v _ _ => v = .string ⟨x.toArray⟩) b R w
set_option maxRecDepth 20000 in
theorem word_any (b : Nat) (R : List By) (w : World) (h : RdSt w b R) :
  Calls Tryz.prog 62 #[.pointer (some ⟨b, 0, none⟩)] w (WordR b R w) := by
 have HS := Lib.hid h
 obtain ⟨A, n, c, hn, hc, hB, hL, hsz⟩ := h
 have c0 := hB.cell (j := 0) rfl
 have f0 := hB.frozen 0
 have HL := Lib.hid hL
 cases R with
 | nil =>
  have hn0 : n = 0 := hn
  subst hn0
  clear hn hB hL hsz
  go_enter Tryz.func62, Tryz.ntmps62
  go_wp2_with (go_at_call 67; refine (fail_any _).mono ?_; rintro e w2 ⟨rfl, rfl⟩)
  exact ⟨rfl, .inr ⟨fun a R' _ e => (by cases e), rfl, World.grownBy.refl _ _⟩⟩
 | cons x R =>
  obtain ⟨ad, y, hA, hadb, hy, hcell⟩ := hL.at_ (k := 0) (Nat.zero_lt_succ _)
  obtain rfl : x = y := Option.some.inj hy
  subst hA
  have hcx : w.cell? ad = some (.string ⟨x.toArray⟩) := by simpa [Addr.add] using hcell
  have hn1 : n = R.length + 1 := hn
  have hn0 : ¬ (n : Int) = 0 := by omega
  have hnb : ((n : Int) == 0) = false := by simpa using hn0
  obtain ⟨A', hA'⟩ : ∃ A' : Option Addr, (if c = 1 then some ad else some ⟨ad.block, ad.off + 1, none⟩) = A' := ⟨_, rfl⟩
  obtain ⟨W1, hW1⟩ : ∃ W1, w.setCell ⟨b, 0, none⟩ (.slice A' R.length (c - 1)) = W1 := ⟨_, rfl⟩
  have HW1 := Lib.hid hW1
  have HA' := Lib.hid hA'
  have HPT := Lib.hid (hsz x (List.mem_cons_self ..)).2
  have HST : Hid (RS w b R W1) := Lib.hid (by
   refine ⟨⟨A', R.length, c - 1, rfl, by omega, by rw [← hW1]; exact hB.set 0 _, ?_, fun y hy => hsz y (List.mem_cons_of_mem _ hy)⟩, ?_, hB.lt⟩
   ·refine ⟨?_, by have := hL.2; rw [List.length_cons] at this; omega⟩
    refine Reads.keep (w := w) ?_ (fun p hp => by rw [← hW1]; exact World.cell?_of_block (Below.heap_setCell w ⟨b, 0, none⟩ _ _ (Nat.ne_of_lt hp)))
    refine ⟨by simp, fun h0 => ?_⟩
    have hc1 : ¬ c = 1 := by omega
    rw [if_neg hc1] at hA'
    refine ⟨⟨ad.block, ad.off + 1, none⟩, hA'.symm, hadb, fun j u hu => ?_⟩
    obtain ⟨ad2, e2, _, hc2⟩ := hL.1.2 (Nat.zero_lt_succ _)
    obtain rfl := Option.some.inj e2
    have := hc2 (j + 1) u (by rw [List.map_cons]; exact hu)
    rw [add_one]
    exact this
   ·rw [← hW1]
    exact ⟨rfl, rfl, rfl, by simp [World.setCell], fun k hk hne => Below.heap_setCell w ⟨b, 0, none⟩ _ k (fun e => hne (by rw [e]))⟩)
  have hpre : Lib.hasPrefix x [34] = decide (x.head? = some 34) := pre34 x
  obtain ⟨q, hq⟩ : ∃ q, Lib.hasPrefix x [34] = q := ⟨_, rfl⟩
  have HPC : Hid (∀ w, Calls Tryz.prog 98 #[.string ⟨x.toArray⟩, .string ⟨#[34]⟩] w fun e w' => e = .returned (.bool q) ∧ w' = w) := Lib.hid (fun w => by
   have h := Tryz.strings_HasPrefix ⟨x.toArray⟩ ⟨#[34]⟩ w
   rw [show (⟨x.toArray⟩ : ByteArray).data.toList = x by simp, show (⟨#[34]⟩ : ByteArray).data.toList = [34] from rfl, hq] at h
   exact h)
  have HQ : Hid (q = true ↔ x.head? = some 34) := Lib.hid (by rw [← hq, hpre, decide_eq_true_iff])
  have hc1 : 1 ≤ c := by omega
  have hcn : (1 : Int) ≤ (n : Int) := by omega
  clear hn hB hL hsz hcell hy hq hpre hA' hW1
  go_enter Tryz.func62, Tryz.ntmps62
  go_upto_region 5 with fail
  rw [HA'.out, HW1.out]
  clear HA' HW1
  cases q
  ·have hfr : ¬ x.head? = some 34 := fun e => by have := HQ.out.2 e; cases this
   have HFR := Lib.hid hfr
   clear hfr
   go_wp2_with (go_at_call 98; refine (HPC.out _).mono ?_; rintro e w2 ⟨rfl, rfl⟩)
   go_ret
   exact .inl ⟨x, R, _, rfl, (by rcases HPT.out with h | h; exact h; exact absurd h HFR.out), rfl, rfl, HST.out⟩
  ·have hfr : x.head? = some 34 := HQ.out.1 rfl
   have HFR := Lib.hid hfr
   clear hfr
   go_wp2_with (first | (go_at_call 98; refine (HPC.out _).mono ?_; rintro e w2 ⟨rfl, rfl⟩) | (go_at_call 67; refine (fail_any _).mono ?_; rintro e w3 ⟨rfl, rfl⟩))
   exact ⟨rfl, .inr ⟨fun a R' hf e => (by injection e with e1 e2; subst e1; exact word_free hf HFR.out), rfl, HST.out.grown⟩⟩
end Go.Proofs.YthefooacfcagbaaGreatDoor.spc

/- spec's reader: numbers and lists. -/
namespace Go.Proofs.YthefooacfcagbaaGreatDoor.spc
open Go.RowKit
open lib rd app els typ big gen
open txt (in64 By strV strV_of decW decW_any Tabs elem_str toList_data push_one Strs numL number_any num_dec dec_num)
set_option linter.unusedVariables false
set_option linter.unusedSimpArgs false
def TabsAt (B : Nat) (w : World) : Prop := ∀ w', Below B w w' → TabS w'
theorem TabS.at_ {w : World} (h : TabS w) : TabsAt w.heap.size w := fun w' hb => h.below hb
theorem TabsAt.below {B : Nat} {w w' : World} (h : TabsAt B w) (hb : Below B w w') : TabsAt B w' := fun w'' h' => h _ (hb.trans h')
theorem TabsAt.more {B B' : Nat} {w : World} (h : TabsAt B w) (hB : B ≤ B') : TabsAt B' w := fun w' h' => h w' (h'.mono hB)
theorem TabsAt.now {B : Nat} {w : World} (h : TabsAt B w) : TabS w := h _ (Below.refl _ _)
theorem RS.bel {w wx : World} {b : Nat} {R : List By} (h : RS w b R wx) : Below b w wx := below_grown h.grown (Nat.le_of_lt h.lt) (Nat.le_refl _)
theorem RdSt.len {w : World} {b : Nat} {R : List By} (h : RdSt w b R) : ∀ x ∈ R, x.length ≤ 100000 := by
 obtain ⟨A, n, c, h1, h2, h3, h4, h5⟩ := h
 exact fun x hx => (h5 x hx).1
abbrev NumR (b : Nat) (R : List By) (w : World) := OneR Lib.itoa in64 (fun n v _ _ => v = .int .i64 n) b R w
set_option maxRecDepth 20000 in
theorem num_any (b : Nat) (R : List By) (w : World) (h : RdSt w b R) (ht : TabsAt b w) :
  Calls Tryz.prog 63 #[.pointer (some ⟨b, 0, none⟩)] w (NumR b R w) := by
 have HH := Lib.hid h
 have HTB := Lib.hid ht
 clear h ht
 go_enter Tryz.func63, Tryz.ntmps63
 go_wp2_with (first
  | (go_at_call 62; refine (word_any b R _ HH.out).mono ?_; rintro e w1 (⟨x, R', _, rfl, hfr, rfl, rfl, hst⟩ | ⟨hno, rfl, hg⟩))
  | (go_at_call 99; refine (snum_any _ (by have := HH.out.len x (List.mem_cons_self ..); simpa [ByteArray.size] using this) _ (HTB.out _ hst.bel).tabs).mono ?_; rintro e w2 ⟨hb, ⟨n, hx, h64, rfl⟩ | ⟨hno, rfl⟩⟩))
 ·go_ret
  have hx' : x = Lib.itoa n := by simpa using hx
  exact .inl ⟨n, R', _, by rw [hx'], h64, rfl, rfl, hst.below hb⟩
 ·refine ⟨rfl, .inr ⟨fun n R2 h64 e => ?_, rfl, (hst.below hb).grown⟩⟩
  injection e with e1 e2
  exact hno n h64 (by simpa using e1)
 ·exact ⟨rfl, .inr ⟨fun n R2 h64 e => hno _ R2 (itoa_word n) e, rfl, hg⟩⟩
def NsOut (c : UInt8) (x : By) (w : World) (e : Ending) (w' : World) : Prop := Below w.heap.size w w' ∧ ((∃ (l : List Int) (A : Option Addr) (d : Nat), readF (splt c x) = some l ∧ e = .returned (.slice A l.length d) ∧ w'.ownsRow w.heap.size 3 1 (.slice A l.length d) l.length (l.map (.int .i64))) ∨ (readF (splt c x) = none ∧ e = .panicked [pnV]))
theorem count_data (s : ByteArray) (c : UInt8) (l : By) (h : s.data.toList = l) : Lib.countB s ⟨#[c]⟩ = l.count c := by
 have e : Lib.countB s ⟨#[c]⟩ = Lib.count s.data.toList [c] := rfl
 rw [e, h, Lib.count_one]
theorem split_data (s : ByteArray) (c : UInt8) (l : By) (h : s.data.toList = l) : (Lib.splitB ⟨#[c]⟩ 0 (Lib.countB s ⟨#[c]⟩) s).map Value.string = (splt c l).map strV := by
 have h1 := Lib.splitB_data ⟨#[c]⟩ 0 (Lib.countB s ⟨#[c]⟩) s
 rw [h, count_data s c l h, show (⟨#[c]⟩ : ByteArray).data.toList = [c] from rfl, splitK_splt] at h1
 rw [count_data s c l h, ← h1, List.map_map]
 refine List.map_congr_left fun x _ => ?_
 show Value.string x = strV x.data.toList
 exact strV_of x
theorem splt_len (c : UInt8) : ∀ l : By, (splt c l).length = l.count c + 1 ∧ ∀ x ∈ splt c l, x.length ≤ l.length
 | [] => ⟨rfl, fun x hx => by simp [splt] at hx; subst hx; simp⟩
 | y :: l => by
  obtain ⟨h1, h2⟩ := splt_len c l
  have hne := splt_ne c l
  by_cases hy : y = c
  ·subst hy
   rw [splt, if_pos rfl, List.count_cons_self, List.length_cons, h1]
   refine ⟨rfl, fun x hx => ?_⟩
   rcases List.mem_cons.1 hx with rfl | hx
   ·exact Nat.zero_le _
   ·exact Nat.le_succ_of_le (h2 x hx)
  ·rw [splt, if_neg hy, List.count_cons_of_ne hy]
   cases hs : splt c l with
   | nil => exact absurd hs hne
   | cons p ps =>
    rw [hs] at h1 h2
    refine ⟨h1, fun x hx => ?_⟩
    rcases List.mem_cons.1 hx with rfl | hx
    ·exact Nat.succ_le_succ (h2 p (List.mem_cons_self ..))
    ·exact Nat.le_succ_of_le (h2 x (List.mem_cons_of_mem _ hx))
theorem ssplit_any (c : UInt8) (x : By) (hm : x.length ≤ 100000) (w : World) (ht : TabS w) :
  Calls Tryz.prog 100 #[.string ⟨x.toArray⟩, .string ⟨#[c]⟩] w fun e w' => ∃ n : Nat, n = (splt c x).length ∧ e = .returned (.slice (some ⟨w.heap.size, 0, none⟩) n n) ∧ Blk w' w.heap.size 9 ((splt c x).map strV) ∧ Below w.heap.size w w' := by
 obtain ⟨m, hm0⟩ := ht.max
 have hd : (⟨x.toArray⟩ : ByteArray).data.toList = x := by simp
 have hz : (⟨x.toArray⟩ : ByteArray).size = x.length := by simp [ByteArray.size]
 have h := Tryz.strings_Split ⟨x.toArray⟩ ⟨#[c]⟩ m w (by rw [hz]; omega) hm0 (Nat.le_refl 1)
 rw [split_data _ c x hd, count_data _ c x hd] at h
 refine h.mono ?_
 rintro e w' ⟨rfl, rfl⟩
 exact ⟨x.count c + 1, (splt_len c x).1.symm, rfl, Blk.new w _ _, (Below.refl _ _).alloc (Nat.le_refl _) _⟩
theorem readF_bad {L : List By} {k : Nat} {x : By} (h : L[k]? = some x) (hx : ∀ n, in64 n → x ≠ Lib.itoa n) : readF L = none := by
 cases hr : readF L with
 | none => rfl
 | some l =>
  have h1 := dec_readF hr
  have h2 := (readF_len hr).2
  rw [h1, List.getElem?_map] at h
  cases hl : l[k]? with
  | none => rw [hl] at h; cases h
  | some n =>
   rw [hl] at h
   exact absurd (Option.some.inj h).symm (hx n (h2 n (List.mem_of_getElem? hl)))
set_option maxRecDepth 20000 in
set_option maxHeartbeats 1000000 in
theorem nums_any (c : UInt8) (x : By) (hm : x.length ≤ 100000) (w : World) (ht : TabS w) :
  Calls Tryz.prog 101 #[.string ⟨x.toArray⟩, .string ⟨#[c]⟩] w (NsOut c x w) := by
 obtain ⟨L, hL⟩ : ∃ L, splt c x = L := ⟨_, rfl⟩
 have HLL : Hid (∀ y ∈ L, y.length ≤ 100000) := Lib.hid (fun y hy => by have := (splt_len c x).2 y (by rw [hL]; exact hy); omega)
 have hLn : L.length ≤ 100001 := by have := (splt_len c x).1; have h2 := List.count_le_length (a := c) (l := x); rw [hL] at this; omega
 have HSP := Lib.hid (ssplit_any c x hm w ht)
 have HTB := Lib.hid ht.at_
 have HG : Hid (∀ e w', (Below w.heap.size w w' ∧ ((∃ (l : List Int) (A : Option Addr) (d : Nat), readF L = some l ∧ e = .returned (.slice A l.length d) ∧ w'.ownsRow w.heap.size 3 1 (.slice A l.length d) l.length (l.map (.int .i64))) ∨ (readF L = none ∧ e = .panicked [pnV]))) → NsOut c x w e w') := Lib.hid (fun e w' h => by unfold NsOut; rw [hL]; exact h)
 rw [hL] at HSP
 clear ht hL
 go_enter Tryz.func101, Tryz.ntmps101
 go_upto_region 3 with (go_at_call 100; refine HSP.out.mono ?_; rintro e w1 ⟨n, hn, rfl, hblk, hb1⟩; have HN := Lib.hid hn; have hn1 : n ≤ 100001 := (by omega); clear hn)
 have HBK := Lib.hid hblk
 have HB1 := Lib.hid hb1
 have hz1 := hblk.lt
 clear hblk hb1 HSP
 go_loopw [5, 12] (fun pv i wr => Below w.heap.size w wr ∧ Below (w.heap.size + 1) w1 wr ∧ ∃ (k d : Nat) (A : Option Addr) (l : List Int), k ≤ n ∧ i = .int .i64 k ∧ pv = .slice A k d ∧ l.length = k ∧ Hid (L.take k = l.map Lib.itoa ∧ (∀ y ∈ l, in64 y)) ∧ Hid (wr.ownsRow (w.heap.size + 1) 3 1 (.slice A k d) k (l.map (.int .i64)))) (fun _ i _ => n - (intOf i).toNat)
 case atStart => exact ⟨HB1.out, Below.refl _ _, 0, 0, none, [], by omega, rfl, rfl, rfl, Lib.hid ⟨rfl, fun y hy => by cases hy⟩, Lib.hid (World.ownsRow_nil _ _ _ _)⟩
 case round =>
  obtain ⟨hb, hb', k, d, A, l, hk, rfl, rfl, hlk, hpre, hrow⟩ := hrel
  have HBV := Lib.hid hb
  have HBW := Lib.hid hb'
  have hbz := hb.size
  have hbz' := hb'.size
  by_cases hlt : k < n
  ·obtain ⟨y, hy⟩ : ∃ y, L[k]? = some y := ⟨_, List.getElem?_eq_getElem (by rw [← HN.out]; exact hlt)⟩
   have hcell : wr.cell? ⟨w.heap.size, k, none⟩ = some (.string ⟨y.toArray⟩) := by
    have h1 := HBK.out.cell (j := k) (u := strV y) (by rw [List.getElem?_map, hy]; rfl)
    exact (hb'.cell (p := ⟨w.heap.size, k, none⟩) (Nat.lt_succ_self _)).trans h1
   have hyl := HLL.out y (List.mem_of_getElem? hy)
   have HY := Lib.hid hy
   have HTr := Lib.hid ((HTB.out).below hb).now
   have hkn : (k : Int) < (n : Int) := by omega
   have hk0 : (0 : Int) ≤ (k : Int) := by omega
   clear hy hb hb'
   go_upto_region 5 with fail
   have hsn := snum_any ⟨y.toArray⟩ (by simpa [ByteArray.size] using hyl) wr HTr.out.tabs
   go_wp2_with (first
    | (go_at_call 99; refine hsn.mono ?_; rintro e w2 ⟨hb2, ⟨z, hx, h64, rfl⟩ | ⟨hno, rfl⟩⟩; try (have HX := Lib.hid hx; clear hx))
    | (at_builtin; refine push_int rfl _ _ rfl (w.heap.size + 1) _ k l rfl (own_below hrow.out hb2) z rfl (by omega) (by have := hb2.size; omega) ?_; intro g' c' w3 hown3 hb4 hz4))
   ·go_roundw
    case rel =>
     refine ⟨(HBV.out.trans (hb2.mono hbz)).trans (hb4.mono (by omega)), (HBW.out.trans (hb2.mono (by omega))).trans hb4, k + 1, c', g', l ++ [z], by omega, by go_num, rfl, by simp [hlk], Lib.hid ⟨?_, ?_⟩, Lib.hid hown3⟩
     ·have hx' : y = Lib.itoa z := by simpa using HX.out
      rw [List.take_add_one, HY.out, hpre.out.1, hx', List.map_append]
      rfl
     ·intro u hu
      rcases List.mem_append.1 hu with hu | hu
      ·exact hpre.out.2 u hu
      ·rw [List.mem_singleton] at hu
       subst hu
       exact h64
    case measure => simp [intOf]; omega
   ·refine ⟨rfl, HG.out _ _ ⟨HBV.out.trans (hb2.mono hbz), .inr ⟨readF_bad HY.out fun m hm e => hno m hm (by simpa using e), rfl⟩⟩⟩
  ·have hkn : ¬ (k : Int) < (n : Int) := by omega
   have hke : k = n := by omega
   subst hke
   have HF : Hid (readF L = some l) := Lib.hid (by
    have h1 := hpre.out.1
    rw [List.take_of_length_le (by rw [← HN.out]; exact Nat.le_refl _)] at h1
    rw [h1]
    exact readF_dec hpre.out.2)
   have HO : Hid (wr.ownsRow w.heap.size 3 1 (.slice A l.length d) l.length (l.map (.int .i64))) := Lib.hid (by rw [hlk]; exact own_less hrow.out (Nat.le_succ _))
   have HLK := Lib.hid hlk
   clear hlk hpre hrow
   go_wp2
   go_ret
   exact HG.out _ _ ⟨HBV.out, .inl ⟨l, A, d, HF.out, by rw [HLK.out]; rfl, HO.out⟩⟩
abbrev IntsR (l : List Int) (v : Value) (w w' : World) : Prop := ∃ A d, v = .slice A l.length d ∧ w'.ownsRow w.heap.size 3 1 (.slice A l.length d) l.length (l.map (.int .i64))
set_option maxRecDepth 20000 in
theorem rlist_any (b : Nat) (R : List By) (w : World) (h : RdSt w b R) (ht : TabsAt b w) :
  Calls Tryz.prog 102 #[.pointer (some ⟨b, 0, none⟩)] w (OneR listF (fun l => ∀ x ∈ l, in64 x) IntsR b R w) := by
 have HH := Lib.hid h
 have HTB := Lib.hid ht
 clear h ht
 go_enter Tryz.func102, Tryz.ntmps102
 go_upto_region 2 with (go_at_call 62; refine (word_any b R _ HH.out).mono ?_; rintro e w1 (⟨x, R', _, rfl, hfr, rfl, rfl, hst⟩ | ⟨hno, rfl, hg⟩))
 ·have HST := Lib.hid hst
  clear hst
  have HTS := Lib.hid (HTB.out.below HST.out.bel).now
  have hxl := HH.out.len x (List.mem_cons_self ..)
  by_cases hx : x = [46]
  ·subst hx
   go_wp2
   go_ret
   exact .inl ⟨[], R', _, rfl, fun y hy => (by cases hy), rfl, ⟨none, 0, rfl, World.ownsRow_nil _ _ _ _⟩, HST.out⟩
  ·have hxb : (x == [46]) = false := beq_eq_false_iff_ne.2 hx
   have HX := Lib.hid (show listR x = readF (splt 44 x) by unfold listR; rw [if_neg hx])
   clear hfr
   go_wp2_with (go_at_call 101; refine (nums_any 44 x hxl w1 HTS.out).mono ?_; rintro e w2 ⟨hb, ⟨l, A, d, hr, rfl, hown⟩ | ⟨hr, rfl⟩⟩)
   ·go_ret
    have h1 := listF_listR (HX.out.trans hr)
    exact .inl ⟨l, R', _, by rw [h1.1], h1.2, rfl, ⟨A, d, rfl, own_less hown HST.out.size⟩, HST.out.below hb⟩
   ·refine ⟨rfl, .inr ⟨fun l R2 h64 e => ?_, rfl, (HST.out.below hb).grown⟩⟩
    injection e with e1 e2
    have h1 := HX.out.trans hr
    rw [e1, listR_listF h64] at h1
    cases h1
 ·exact ⟨rfl, .inr ⟨fun l R2 h64 e => hno _ R2 (listF_word l) e, rfl, hg⟩⟩
end Go.Proofs.YthefooacfcagbaaGreatDoor.spc

/- spec's reader: stops. -/
namespace Go.Proofs.YthefooacfcagbaaGreatDoor.spc
open Go.RowKit
open lib rd app els typ big gen
open txt (in64 By strV strV_of decW decW_any Tabs elem_str toList_data push_one Strs numL number_any num_dec dec_num)
set_option linter.unusedVariables false
set_option linter.unusedSimpArgs false
theorem RS.store {w wx wy : World} {b g : Nat} {R : List By} (h : RS w b R wx) (hg : w.heap.size ≤ g) (hk : ∀ k, k ≠ g → wy.heap[k]? = wx.heap[k]?) (hb : Below g wx wy) : RS w b R wy :=
 ⟨h.st.keep fun p hp => hk p (by have := h.lt; omega), ⟨hb.os.trans h.grown.os, hb.tape.trans h.grown.tape, hb.output.trans h.grown.output, Nat.le_trans h.size hb.size, fun k hl hne => (hk k (by omega)).trans (h.grown.block k hl hne)⟩, h.lt⟩
abbrev StpR (s : Stp) (v : Value) (w w' : World) : Prop := v = .agg (StpCells s).toArray
def zStp : Stp := ⟨0, 0, 0, 0⟩
def noStp : Stp := ⟨-1, 0, 0, 0⟩
theorem dot_stop : [46] = stopF noStp := rfl
theorem no_fits : StpFits noStp := by unfold StpFits noStp; decide
theorem stopR_none {x : By} (hx : x ≠ [46]) (h : readF (splt 58 x) = none) : ∀ s, StpFits s → x ≠ stopF s := fun s hs e => by
 have h1 := stopR_stopF hs
 rw [← e] at h1
 unfold stopR at h1
 rw [if_neg hx, h] at h1
 cases h1
theorem stopR_len {x : By} {l : List Int} (hx : x ≠ [46]) (h : readF (splt 58 x) = some l) (hl : l.length ≠ 4) : ∀ s, StpFits s → x ≠ stopF s := fun s hs e => by
 have h1 := stopR_stopF hs
 rw [← e] at h1
 unfold stopR at h1
 rw [if_neg hx, h] at h1
 change fourR x l = some s at h1
 unfold fourR at h1
 split at h1
 ·exact hl rfl
 ·cases h1
theorem stopR_four {x : By} {a b c d : Int} (hx : x ≠ [46]) (h : readF (splt 58 x) = some [a, b, c, d]) (hl : stopF ⟨a, b, c, d⟩ ≠ x) : ∀ s, StpFits s → x ≠ stopF s := fun s hs e => by
 have h1 := stopR_stopF hs
 rw [← e] at h1
 unfold stopR at h1
 rw [if_neg hx, h] at h1
 change fourR x [a, b, c, d] = some s at h1
 have h2 : (if stopF ⟨a, b, c, d⟩ = x then some (⟨a, b, c, d⟩ : Stp) else none) = some s := h1
 rw [if_neg hl] at h2
 cases h2
set_option maxRecDepth 20000 in
set_option maxHeartbeats 1000000 in
theorem rstop_any (b : Nat) (R : List By) (w : World) (h : RdSt w b R) (ht : TabsAt b w) :
  Calls Tryz.prog 103 #[.pointer (some ⟨b, 0, none⟩)] w (OneR stopF StpFits StpR b R w) := by
 have HH := Lib.hid h
 have HTB := Lib.hid ht
 have hbl := h.lt
 obtain ⟨W0, hW0⟩ : ∃ W0, w.alloc (.cells #[.int .i64 0, .int .i64 0, .int .i64 0, .int .i64 0] 41) = W0 := ⟨_, rfl⟩
 have HW0 := Lib.hid hW0
 have HB0 : Hid (Blk W0 w.heap.size 41 (StpCells zStp)) := Lib.hid (by rw [← hW0]; exact Blk.new w _ _)
 have HR0 : Hid (RS w b R W0) := Lib.hid (by rw [← hW0]; exact (RS.start h).alloc _)
 clear h ht hW0
 go_enter Tryz.func103, Tryz.ntmps103
 go_upto_region 1 with fail
 rw [HW0.out]
 go_upto_region 2 with (go_at_call 62; refine (word_any b R _ HR0.out.st).mono ?_; rintro e w1 (⟨x, R', _, rfl, hfr, rfl, rfl, hst⟩ | ⟨hno, rfl, hg⟩))
 ·have HST := Lib.hid (HR0.out.next hst)
  have HB1 := Lib.hid (HB0.out.kept hst.grown (by intro e; injection e with e; omega))
  clear hst
  have HTS := Lib.hid (HTB.out.below HST.out.bel)
  have hxl := HH.out.len x (List.mem_cons_self ..)
  by_cases hx : x = [46]
  ·subst hx
   go_wp2_with ((with_reducible refine wpList_storeL sStp rfl _ _ rfl w.heap.size (StpCells zStp) (StpCells noStp) ?_ ?_ ?_ ?_ ?_ (stp_one _) ?_); exact rfl; exact rfl; exact HB1.out; exact rfl; exact rfl; intro wz k1 k2 k3 k4; have K := lib.h4 k1 k2 k3 k4; clear k1 k2 k3 k4)
   refine bodyPost_ret (v := .agg (StpCells noStp).toArray) (big.res_cell sStp Tryz.results103 rfl (Blk.cells K.out.1) rfl) rfl ?_
   exact .inl ⟨noStp, R', _, by rw [dot_stop], no_fits, rfl, rfl, HST.out.store (Nat.le_refl _) K.out.2.1 K.out.2.2.2⟩
  ·have hxb : (x == [46]) = false := beq_eq_false_iff_ne.2 hx
   have HX := Lib.hid hx
   clear hfr hx
   go_upto_region 5 with (go_at_call 101; refine (nums_any 58 x hxl w1 HTS.out.now).mono ?_; rintro e w2 ⟨hb, ⟨l, A, d, hr, rfl, hown⟩ | ⟨hr, rfl⟩⟩)
   rotate_left
   ·refine ⟨rfl, .inr ⟨fun s R2 h64 e => ?_, rfl, (HST.out.below hb).grown⟩⟩
    injection e with e1 e2
    exact stopR_none HX.out hr s h64 e1
   have HST2 := Lib.hid (HST.out.below hb)
   have HB2 := Lib.hid (HB1.out.below hb)
   have HTS2 := Lib.hid (HTS.out.below (hb.mono (by have := HST.out.size; omega)))
   have HR := Lib.hid hr
   have HOW := Lib.hid hown
   have hbz := hb.size
   have hz1 := HST.out.size
   clear hb hr hown
   obtain ⟨n, hn⟩ : ∃ n, l.length = n := ⟨_, rfl⟩
   have HN := Lib.hid hn
   rw [hn] at HOW ⊢
   clear hn
   by_cases h4 : n = 4
   rotate_left
   ·have h4i : ¬ (n : Int) = 4 := by omega
    have h4b : ((n : Int) != 4) = true := by simpa using h4i
    go_wp2_with (go_at_call 67; refine (fail_any _).mono ?_; rintro e w3 ⟨rfl, rfl⟩)
    refine ⟨rfl, .inr ⟨fun s R2 h64 e => ?_, rfl, HST2.out.grown⟩⟩
    injection e with e1 e2
    exact stopR_len HX.out HR.out (by rw [HN.out]; exact h4) s h64 e1
   subst h4
   obtain ⟨a1, a2, a3, a4, rfl⟩ : ∃ a1 a2 a3 a4, l = [a1, a2, a3, a4] := by
    have hl := HN.out
    match l, hl with
    | [a, b, c, d], _ => exact ⟨a, b, c, d, rfl⟩
   obtain ⟨g, c2, hv, hg0, hglt⟩ := HOW.out.form (by omega)
   injection hv with e1 e2 e3
   subst e1
   have g0 := HOW.out.cellAt 0 (by omega)
   have g1 := HOW.out.cellAt 1 (by omega)
   have g2 := HOW.out.cellAt 2 (by omega)
   have g3 := HOW.out.cellAt 3 (by omega)
   simp only [List.map_cons, List.getElem?_cons_zero, List.getElem?_cons_succ] at g0 g1 g2 g3
   clear e2 e3
   go_upto_region 7 with fail
   obtain ⟨W3, hW3⟩ : ∃ W3, (w2.alloc (.cells #[.int .i64 0, .int .i64 0, .int .i64 0, .int .i64 0] 41)).drew = W3 := ⟨_, rfl⟩
   have hz2 : W3.heap.size = w2.heap.size + 1 := by rw [← hW3]; show (w2.alloc _).heap.size = _; simp
   have HW3 := Lib.hid hW3
   have HB3 : Hid (Blk W3 w2.heap.size 41 (StpCells zStp)) := Lib.hid (by rw [← hW3]; exact Blk.new w2 _ _)
   have hbl3 : Below w2.heap.size w2 W3 := by rw [← hW3]; exact ((Below.refl _ _).alloc (Nat.le_refl _) _).drew
   have HQ3 := Lib.hid (And.intro ((hbl3.cell (p := ⟨g, 0, none⟩) hglt).trans g0) (And.intro ((hbl3.cell (p := ⟨g, 1, none⟩) hglt).trans g1) (And.intro ((hbl3.cell (p := ⟨g, 2, none⟩) hglt).trans g2) ((hbl3.cell (p := ⟨g, 3, none⟩) hglt).trans g3))))
   have HL3 := Lib.hid hbl3
   clear hW3 hbl3
   (refine wp_region_held_drew (S := (fun w' => w'.cell? ⟨g, 0, none⟩ = some (.int .i64 a1) ∧ w'.cell? ⟨g, 1, none⟩ = some (.int .i64 a2) ∧ w'.cell? ⟨g, 2, none⟩ = some (.int .i64 a3) ∧ w'.cell? ⟨g, 3, none⟩ = some (.int .i64 a4))) (by kernel_rfl) ?_ (fun hHeld => ?_))
   ·exact ⟨g0, g1, g2, g3⟩
   (refine lib.tk 0 rfl ?_; (try simp only [lib.hly]))
   (refine lib.tk 1 rfl ?_; (try simp only [lib.hly]))
   (refine lib.tk 2 rfl ?_; (try simp only [lib.hly]))
   (refine lib.tk 3 rfl ?_; (try simp only [lib.hly]))
   (refine lib.tk 4 rfl ?_; (try simp only [lib.hly]))
   (refine lib.tk 5 rfl ?_; (try simp only [lib.hly]))
   (refine lib.tk 6 rfl ?_; (try simp only [lib.hly]))
   (refine lib.tk 7 rfl ?_; (try simp only [lib.hly]))
   (refine lib.tk 8 rfl ?_; (try simp only [lib.hly]))
   (refine lib.tk 9 rfl ?_; (try simp only [lib.hly]))
   (refine lib.tk 10 rfl ?_; (try simp only [lib.hly]))
   (refine lib.tk 11 rfl ?_; (try simp only [lib.hly]))
   (refine lib.tk 12 rfl ?_; (try simp only [lib.hly]))
   (refine lib.rk 13 rfl fun K hK => ?_)
   go_simp
   rw [HW3.out]
   refine hK.out _ _ (HQ3.out) (fun hHeld => ?_)
   clear hK K
   (try simp only [lib.hly])
   (refine lib.rk 14 rfl fun K hK => ?_)
   refine step_storeL sStp rfl _ _ rfl w2.heap.size (StpCells zStp) (StpCells ⟨a1, a2, a3, a4⟩) rfl rfl HB3.out rfl rfl (stp_one _) ?_
   intro w4 k1 k2 k3 k4
   have K4 := Lib.hid (And.intro k1 (And.intro k2 k4))
   have q0 := (World.cell?_of_block (a := ⟨g, 0, none⟩) (k2 g (by omega))).trans HQ3.out.1
   have q1 := (World.cell?_of_block (a := ⟨g, 1, none⟩) (k2 g (by omega))).trans HQ3.out.2.1
   have q2 := (World.cell?_of_block (a := ⟨g, 2, none⟩) (k2 g (by omega))).trans HQ3.out.2.2.1
   have q3 := (World.cell?_of_block (a := ⟨g, 3, none⟩) (k2 g (by omega))).trans HQ3.out.2.2.2
   clear k1 k2 k3 k4
   refine hK.out _ _ (⟨q0, q1, q2, q3⟩) (fun hHeld => ?_)
   clear hK K
   (try simp only [lib.hly])
   (refine wpAnyH_done (by kernel_rfl) ?_ _)
   have HL4 := Lib.hid (HL3.out.trans (K4.out.2.2))
   have HK4 : Hid (Blk w4 w2.heap.size 41 (StpCells ⟨a1, a2, a3, a4⟩)) := Lib.hid K4.out.1
   have HST4 := Lib.hid (HST2.out.below HL4.out)
   have HB4 := Lib.hid (HB2.out.below HL4.out)
   have h64 := (readF_len HR.out).2
   have HF64 : Hid (StpFits ⟨a1, a2, a3, a4⟩) := Lib.hid ⟨h64 _ (by simp), h64 _ (by simp), h64 _ (by simp), h64 _ (by simp)⟩
   have hcs := sstop_any ⟨a1, a2, a3, a4⟩ w4 (HTS2.out.below (HL4.out.mono (by have := HST2.out.lt; have := HST2.out.size; omega))).now h64
   obtain ⟨F, hF⟩ : ∃ F, stopF ⟨a1, a2, a3, a4⟩ = F := ⟨_, rfl⟩
   rw [hF] at hcs
   have HF := Lib.hid hF
   have HCS := Lib.hid hcs
   clear h64 hcs hF q0 q1 q2 q3 g0 g1 g2 g3 hHeld HQ3 HB3 HW3 K4 HL3 hz2
   by_cases he : F = x
   ·subst he
    go_wp2_with (first
     | ((with_reducible refine wpList_loadG sStp _ rfl ⟨w2.heap.size, 0, none⟩ (StpCells ⟨a1, a2, a3, a4⟩) ?_ ?_ ?_ ?_ ?_); exact rfl; exact rfl; exact HK4.out.cells; exact rfl)
     | (go_at_call 14; refine HCS.out.mono ?_; rintro e w5 ⟨rfl, b5⟩; have HK5 := Lib.hid (HK4.out.below b5); have HB5 := Lib.hid (HB4.out.below b5); have HST5 := Lib.hid (HST4.out.below b5); clear b5)
     | ((with_reducible refine wpList_loadG sStp _ rfl ⟨w2.heap.size, 0, none⟩ (StpCells ⟨a1, a2, a3, a4⟩) ?_ ?_ ?_ ?_ ?_); exact rfl; exact rfl; exact HK5.out.cells; exact rfl)
     | ((with_reducible refine wpList_storeL sStp rfl _ _ rfl w.heap.size (StpCells zStp) (StpCells ⟨a1, a2, a3, a4⟩) ?_ ?_ ?_ ?_ ?_ (stp_one _) ?_); exact rfl; exact rfl; exact HB5.out; exact rfl; exact rfl; intro wz k1 k2 k3 k4; have K := lib.h4 k1 k2 k3 k4; clear k1 k2 k3 k4))
    refine bodyPost_ret (v := .agg (StpCells ⟨a1, a2, a3, a4⟩).toArray) (big.res_cell sStp Tryz.results103 rfl (Blk.cells K.out.1) rfl) rfl ?_
    exact .inl ⟨⟨a1, a2, a3, a4⟩, R', _, by rw [HF.out], HF64.out, rfl, rfl, HST5.out.store (Nat.le_refl _) K.out.2.1 K.out.2.2.2⟩
   ·have heb : (F == x) = false := beq_eq_false_iff_ne.2 he
    have heb2 : (F != x) = true := by simpa using he
    have HE := Lib.hid he
    clear he
    go_wp2_with (first
     | ((with_reducible refine wpList_loadG sStp _ rfl ⟨w2.heap.size, 0, none⟩ (StpCells ⟨a1, a2, a3, a4⟩) ?_ ?_ ?_ ?_ ?_); exact rfl; exact rfl; exact HK4.out.cells; exact rfl)
     | (go_at_call 14; refine HCS.out.mono ?_; rintro e w5 ⟨rfl, b5⟩; have HST5 := Lib.hid (HST4.out.below b5); clear b5)
     | (go_at_call 67; refine (fail_any _).mono ?_; rintro e w6 ⟨rfl, rfl⟩))
    refine ⟨rfl, .inr ⟨fun s R2 h64 e => ?_, rfl, HST5.out.grown⟩⟩
    injection e with e1 e2
    exact stopR_four HX.out HR.out (by rw [HF.out]; exact HE.out) s h64 e1
 ·exact ⟨rfl, .inr ⟨fun l R2 h64 e => hno _ R2 (stopF_word l) e, rfl, HR0.out.grown.trans hg⟩⟩
end Go.Proofs.YthefooacfcagbaaGreatDoor.spc

/- spec's reader: points. -/
namespace Go.Proofs.YthefooacfcagbaaGreatDoor.spc
open Go.RowKit
open lib rd app els typ big gen
open txt (in64 By strV strV_of decW decW_any Tabs elem_str toList_data push_one Strs numL number_any num_dec dec_num)
set_option linter.unusedVariables false
set_option linter.unusedSimpArgs false
theorem pt_elem : ElemOf 42 89 (.agg #[.int .i64 0, .int .i64 0]) 2 16 := ⟨Tryz.underlying42, by kernel_rfl, rfl, by decide, by decide⟩
def pcs (l : List Pt) : List Value := l.flatMap PtCells
theorem pcs_append (l l' : List Pt) : pcs (l ++ l') = pcs l ++ pcs l' := by unfold pcs; rw [List.flatMap_append]
theorem pcs_at {l : List Pt} {i : Nat} {q : Pt} (h : l[i]? = some q) (j : Nat) (hj : j < 2) : (pcs l)[i * 2 + j]? = (PtCells q)[j]? := flat_at (g := PtCells) (s := 2) (fun _ => rfl) l i q h j hj
abbrev PtsR (l : List Pt) (v : Value) (w w' : World) : Prop := ∃ A d, v = .slice A l.length d ∧ w'.ownsRow w.heap.size 89 2 (.slice A l.length d) l.length (pcs l)
theorem ptsL_bad {L : List By} {k : Nat} {x : By} (h : L[k]? = some x) (hx : ptR x = none) : ptsL L = none := by
 cases hr : ptsL L with
 | none => rfl
 | some l =>
  obtain ⟨h1, h2⟩ := ptsL_some hr
  rw [h1, List.getElem?_map] at h
  cases hl : l[k]? with
  | none => rw [hl] at h; cases h
  | some p =>
   rw [hl] at h
   have e := Option.some.inj h
   rw [← e, ptR_ptF (h2 p (List.mem_of_getElem? hl))] at hx
   cases hx
theorem ptR_none {x : By} (h : readF (splt 58 x) = none) : ptR x = none := by unfold ptR; rw [h]; rfl
theorem ptR_len {x : By} {l : List Int} (h : readF (splt 58 x) = some l) (hl : l.length ≠ 2) : ptR x = none := by
 unfold ptR
 rw [h]
 show twoR l = none
 unfold twoR
 split
 ·exact absurd rfl hl
 ·rfl
theorem ptR_two {x : By} {a b : Int} (h : readF (splt 58 x) = some [a, b]) : ptR x = some ⟨a, b⟩ := by
 unfold ptR
 rw [h]
 rfl
theorem trvR_bad {x : By} (hx : x ≠ [46]) (h : ptsL (splt 44 x) = none) : ∀ l, (∀ p ∈ l, PtFits p) → x ≠ trvF l := fun l hl e => by
 have h1 := trvR_trvF hl
 rw [← e] at h1
 unfold trvR at h1
 rw [if_neg hx, h] at h1
 cases h1
set_option maxRecDepth 20000 in
set_option maxHeartbeats 1000000 in
theorem rpoints_any (b : Nat) (R : List By) (w : World) (h : RdSt w b R) (ht : TabsAt b w) :
  Calls Tryz.prog 64 #[.pointer (some ⟨b, 0, none⟩)] w (OneR trvF (fun l => ∀ p ∈ l, PtFits p) PtsR b R w) := by
 have HH := Lib.hid h
 have HTB := Lib.hid ht
 clear h ht
 go_enter Tryz.func64, Tryz.ntmps64
 go_upto_region 2 with (go_at_call 62; refine (word_any b R _ HH.out).mono ?_; rintro e w1 (⟨x, R', _, rfl, hfr, rfl, rfl, hst⟩ | ⟨hno, rfl, hg⟩))
 rotate_left
 ·exact ⟨rfl, .inr ⟨fun l R2 h64 e => hno _ R2 (trvF_word l) e, rfl, hg⟩⟩
 have HST := Lib.hid hst
 have hz1 := hst.size
 have hbl := hst.lt
 clear hst
 have HTS := Lib.hid (HTB.out.below HST.out.bel)
 have hxl := HH.out.len x (List.mem_cons_self ..)
 by_cases hx : x = [46]
 ·subst hx
  go_wp2
  go_ret
  exact .inl ⟨[], R', _, rfl, fun y hy => (by cases hy), rfl, ⟨none, 0, rfl, World.ownsRow_nil _ _ _ _⟩, HST.out⟩
 have hxb : (x == [46]) = false := beq_eq_false_iff_ne.2 hx
 have HX := Lib.hid hx
 obtain ⟨L, hL⟩ : ∃ L, splt 44 x = L := ⟨_, rfl⟩
 have HLX := Lib.hid hL
 have HLL : Hid (∀ y ∈ L, y.length ≤ 100000) := Lib.hid (fun y hy => by have := (splt_len 44 x).2 y (by rw [hL]; exact hy); omega)
 have hLn : L.length ≤ 100001 := by have := (splt_len 44 x).1; have h2 := List.count_le_length (a := 44) (l := x); rw [hL] at this; omega
 have HSP := Lib.hid (ssplit_any 44 x hxl w1 HTS.out.now)
 rw [hL] at HSP
 clear hfr hx hL
 go_upto_region 6 with (go_at_call 100; refine HSP.out.mono ?_; rintro e w2 ⟨n, hn, rfl, hblk, hb1⟩; have HN := Lib.hid hn; have hn1 : n ≤ 100001 := (by omega); clear hn)
 have HBK := Lib.hid hblk
 have HB1 := Lib.hid hb1
 have hz2 := hblk.lt
 clear hblk hb1 HSP
 go_loopw [4, 15] (fun pv i wr => Below w1.heap.size w1 wr ∧ Below (w1.heap.size + 1) w2 wr ∧ ∃ (k d : Nat) (A : Option Addr) (l : List Pt), k ≤ n ∧ i = .int .i64 k ∧ pv = .slice A k d ∧ l.length = k ∧ Hid (L.take k = l.map ptF ∧ (∀ y ∈ l, PtFits y)) ∧ Hid (wr.ownsRow (w1.heap.size + 1) 89 2 (.slice A k d) k (pcs l))) (fun _ i _ => n - (intOf i).toNat)
 case atStart => exact ⟨HB1.out, Below.refl _ _, 0, 0, none, [], by omega, rfl, rfl, rfl, Lib.hid ⟨rfl, fun y hy => by cases hy⟩, Lib.hid (World.ownsRow_nil _ _ _ _)⟩
 case round =>
  obtain ⟨hb, hb', k, d, A, l, hk, rfl, rfl, hlk, hpre, hrow⟩ := hrel
  have HBV := Lib.hid hb
  have HBW := Lib.hid hb'
  have HLK := Lib.hid hlk
  have hbz := hb.size
  have hbz' := hb'.size
  by_cases hlt : k < n
  ·obtain ⟨y, hy⟩ : ∃ y, L[k]? = some y := ⟨_, List.getElem?_eq_getElem (by rw [← HN.out]; exact hlt)⟩
   have hcell : wr.cell? ⟨w1.heap.size, k, none⟩ = some (.string ⟨y.toArray⟩) := by
    have h1 := HBK.out.cell (j := k) (u := strV y) (by rw [List.getElem?_map, hy]; rfl)
    exact (hb'.cell (p := ⟨w1.heap.size, k, none⟩) (Nat.lt_succ_self _)).trans h1
   have hyl := HLL.out y (List.mem_of_getElem? hy)
   have HY := Lib.hid hy
   have HTr := Lib.hid (HTS.out.below (hb.mono (by omega)))
   have hkn : (k : Int) < (n : Int) := by omega
   have hk0 : (0 : Int) ≤ (k : Int) := by omega
   clear hy hb hb' hlk
   have hns := nums_any 58 y hyl wr HTr.out.now
   have HNS := Lib.hid hns
   clear hns
   go_upto_region 9 with (go_at_call 101; refine HNS.out.mono ?_; rintro e w3 ⟨hb, ⟨q, Aq, dq, hr, rfl, hown⟩ | ⟨hr, rfl⟩⟩)
   rotate_left
   ·refine ⟨rfl, .inr ⟨fun s R2 h64 e => ?_, rfl, (HST.out.below (HBV.out.trans (hb.mono hbz))).grown⟩⟩
    injection e with e1 e2
    exact trvR_bad HX.out (by rw [HLX.out]; exact ptsL_bad HY.out (ptR_none hr)) s h64 e1
   have HB3 := Lib.hid hb
   have HR := Lib.hid hr
   have HOW := Lib.hid hown
   have hb3z := hb.size
   clear hb hr hown HNS
   obtain ⟨j, hj⟩ : ∃ j, q.length = j := ⟨_, rfl⟩
   have HJ := Lib.hid hj
   rw [hj] at HOW ⊢
   clear hj
   by_cases h2 : j = 2
   rotate_left
   ·have h2i : ¬ (j : Int) = 2 := by omega
    have h2b : ((j : Int) != 2) = true := by simpa using h2i
    go_wp2_with (go_at_call 67; refine (fail_any _).mono ?_; rintro e w4 ⟨rfl, rfl⟩)
    refine ⟨rfl, .inr ⟨fun s R2 h64 e => ?_, rfl, (HST.out.below (HBV.out.trans (HB3.out.mono hbz))).grown⟩⟩
    injection e with e1 e2
    exact trvR_bad HX.out (by rw [HLX.out]; exact ptsL_bad HY.out (ptR_len HR.out (by rw [HJ.out]; exact h2))) s h64 e1
   subst h2
   obtain ⟨a1, a2, rfl⟩ : ∃ a1 a2, q = [a1, a2] := by
    have hl := HJ.out
    match q, hl with
    | [a, b], _ => exact ⟨a, b, rfl⟩
   obtain ⟨g, c2, hv, hg0, hglt⟩ := HOW.out.form (by omega)
   injection hv with e1 e2 e3
   subst e1
   have g0 := HOW.out.cellAt 0 (by omega)
   have g1 := HOW.out.cellAt 1 (by omega)
   simp only [List.map_cons, List.getElem?_cons_zero, List.getElem?_cons_succ] at g0 g1
   clear e2 e3
   have hgne : Hid (∀ q, (Value.slice A k d).ownBlock = some q → q ≠ g) := Lib.hid (fun q e => by have := (World.ownsRow.lt hrow.out q e).2; omega)
   have HRW := Lib.hid (own_below hrow.out HB3.out)
   have h64 := (readF_len HR.out).2
   have HPF : Hid (PtFits ⟨a1, a2⟩) := Lib.hid ⟨h64 _ (by simp), h64 _ (by simp)⟩
   clear h64
   go_upto_region 11 with fail
   obtain ⟨W4, hW4⟩ : ∃ W4, (w3.alloc (.cells #[.int .i64 a1, .int .i64 a2] 89)).drew = W4 := ⟨_, rfl⟩
   have HW4 := Lib.hid hW4
   have hbl4 : Below w3.heap.size w3 W4 := by rw [← hW4]; exact ((Below.refl _ _).alloc (Nat.le_refl _) _).drew
   have hC4 : ∀ (j : Nat) (u : Value), [Value.int .i64 a1, .int .i64 a2][j]? = some u → W4.cell? ((⟨w3.heap.size, 0, none⟩ : Addr).add j) = some u := fun j u hu => by
    rw [← hW4]
    exact two_new w3 _ _ _ j u hu
   have hz4 : W4.heap.size = w3.heap.size + 1 := by rw [← hW4]; show (w3.alloc _).heap.size = _; simp
   have HC4 := Lib.hid hC4
   have HL4 := Lib.hid hbl4
   have HQ4 := Lib.hid (And.intro ((hbl4.cell (p := ⟨g, 0, none⟩) hglt).trans g0) ((hbl4.cell (p := ⟨g, 1, none⟩) hglt).trans g1))
   have HR4 := Lib.hid (own_below HRW.out hbl4)
   clear hW4 hbl4 hC4
   (refine wp_region_held_drew (S := (fun w' => w'.cell? ⟨g, 0, none⟩ = some (.int .i64 a1) ∧ w'.cell? ⟨g, 1, none⟩ = some (.int .i64 a2))) (by kernel_rfl) ?_ (fun hHeld => ?_))
   ·exact ⟨g0, g1⟩
   (refine lib.tk 0 rfl ?_; (try simp only [lib.hly]))
   (refine lib.tk 1 rfl ?_; (try simp only [lib.hly]))
   (refine lib.tk 2 rfl ?_; (try simp only [lib.hly]))
   (refine lib.tk 3 rfl ?_; (try simp only [lib.hly]))
   (refine lib.tk 4 rfl ?_; (try simp only [lib.hly]))
   (refine lib.tk 5 rfl ?_; (try simp only [lib.hly]))
   (refine lib.tk 6 rfl ?_; (try simp only [lib.hly]))
   (refine lib.tk 7 rfl ?_; (try simp only [lib.hly]))
   (refine lib.rk 8 rfl fun K hK => ?_)
   go_simp
   rw [HW4.out]
   refine hK.out _ _ (HQ4.out) (fun hHeld => ?_)
   clear hK K
   (try simp only [lib.hly])
   (refine lib.rk 9 rfl fun K hK => ?_)
   refine step_app pt_elem _ _ rfl (w1.heap.size + 1) A k d (pcs l) rfl HR4.out ⟨w3.heap.size, 0, none⟩ 1 [.int .i64 a1, .int .i64 a2] rfl rfl HC4.out (fun u hu => by simp only [List.mem_cons, List.not_mem_nil, or_false] at hu; rcases hu with rfl | rfl <;> rfl) (by omega) (by omega) rfl ?_
   intro g7 c7 w7 hown7 hg7 hx7
   have HO7 := Lib.hid hown7
   have q0 := hg7.cell (a := ⟨g, 0, none⟩) HQ4.out.1 (by intro e; exact hgne.out g e.symm rfl)
   have q1 := hg7.cell (a := ⟨g, 1, none⟩) HQ4.out.2 (by intro e; exact hgne.out g e.symm rfl)
   have HB7 : Hid (Below (w1.heap.size + 1) w3 w7) := Lib.hid ((HL4.out.mono (by omega)).grown hg7 (by omega) (fun q e => (World.ownsRow.lt HR4.out q e).1))
   clear hown7 hg7 hx7
   refine hK.out _ _ (⟨q0, q1⟩) (fun hHeld => ?_)
   clear hK K
   (try simp only [lib.hly])
   (refine lib.tk 10 rfl ?_; (try simp only [lib.hly]))
   (refine wpAnyH_done (by kernel_rfl) ?_ _)
   clear q0 q1 g0 g1 hHeld
   go_wp2_with fail
   go_roundw
   case rel =>
    refine ⟨(HBV.out.trans (HB3.out.mono hbz)).trans (HB7.out.mono (by omega)), (HBW.out.trans (HB3.out.mono (by omega))).trans HB7.out, k + 1, c7, _, l ++ [⟨a1, a2⟩], by omega, by go_num, rfl, by simp [HLK.out], Lib.hid ⟨?_, ?_⟩, Lib.hid (by rw [pcs_append]; exact HO7.out)⟩
    ·rw [List.take_add_one, HY.out, hpre.out.1, (ptF_ptR (ptR_two HR.out)).1, List.map_append]
     rfl
    ·intro u hu
     rcases List.mem_append.1 hu with hu | hu
     ·exact hpre.out.2 u hu
     ·rw [List.mem_singleton] at hu
      subst hu
      exact HPF.out
   case measure => simp [intOf]; omega
  ·have hkn : ¬ (k : Int) < (n : Int) := by omega
   have hke : k = n := by omega
   subst hke
   have HF : Hid (trvR x = some l) := Lib.hid (by
    have h1 := hpre.out.1
    rw [List.take_of_length_le (by rw [← HN.out]; exact Nat.le_refl _)] at h1
    unfold trvR
    rw [if_neg HX.out, HLX.out, h1]
    exact ptsL_map hpre.out.2)
   have HO : Hid (wr.ownsRow w1.heap.size 89 2 (.slice A l.length d) l.length (pcs l)) := Lib.hid (by rw [hlk]; exact own_less hrow.out (Nat.le_succ _))
   clear hlk hpre hrow hb hb'
   go_wp2
   go_ret
   have h1 := trvF_trvR HF.out
   exact .inl ⟨l, R', _, by rw [h1.1], h1.2, rfl, ⟨A, d, by rw [HLK.out]; rfl, own_less HO.out hz1⟩, HST.out.below HBV.out⟩
end Go.Proofs.YthefooacfcagbaaGreatDoor.spc

/- spec's reader: types and orders. -/
namespace Go.Proofs.YthefooacfcagbaaGreatDoor.spc
open Go.RowKit
open lib rd app els typ big gen
open txt (in64 By strV strV_of decW decW_any Tabs elem_str toList_data push_one Strs numL number_any num_dec dec_num)
set_option linter.unusedVariables false
set_option linter.unusedSimpArgs false
def ManyR {α : Type} (W : α → List By) (ok : α → Prop) (Q : α → Value → World → World → Prop) (b : Nat) (R : List By) (w : World) (e : Ending) (w' : World) : Prop :=
 (∃ a R' v, R = W a ++ R' ∧ ok a ∧ e = .returned v ∧ Q a v w w' ∧ RS w b R' w') ∨ ((∀ a R', ok a → R ≠ W a ++ R') ∧ e = .panicked [pnV] ∧ w.grownBy w' (some b))
abbrev TyR (t : Ty) (v : Value) (w w' : World) : Prop := ∃ A d, v = .agg (TyCells t A d).toArray ∧ w'.ownsRow w.heap.size 3 1 (.slice A t.cap.length d) t.cap.length (t.cap.map (.int .i64))
abbrev OrR (t : Ord) (v : Value) (w w' : World) : Prop := ∃ A d, v = .agg (OrdCells t A d).toArray ∧ w'.ownsRow w.heap.size 3 1 (.slice A t.load.length d) t.load.length (t.load.map (.int .i64))
def zTy : Ty := ⟨⟨#[]⟩, 0, 0, 0, [], 0, 0, 0, 0, 0, 0, 0, 0, 0⟩
def zOr : Ord := ⟨⟨#[]⟩, [], zStp, zStp, 0, 0, 0, 0, 0, false⟩
theorem own_set {w : World} {base q : Nat} {e : TypeId} {size n : Nat} {v : Value} {xs : List Value} (h : w.ownsRow base e size v n xs) (hq : q < base) (i : Nat) (u : Value) : (w.setCell ⟨q, i, none⟩ u).ownsRow base e size v n xs := ownsRow_setCell_below (a := ⟨q, i, none⟩) h hq u
theorem own_gr {w w' : World} {base p : Nat} {e : TypeId} {size n : Nat} {v : Value} {xs : List Value} (h : w.ownsRow base e size v n xs) (hp : p < base) (hg : w.grownBy w' (some p)) : w'.ownsRow base e size v n xs := by
 refine own_grown h hg (Or.inr (fun e => ?_))
 have := (World.ownsRow.lt h p e).1
 omega
theorem own_heap {w w' : World} {base : Nat} {e : TypeId} {size n : Nat} {v : Value} {xs : List Value} (h : w.ownsRow base e size v n xs) (hk : ∀ k, base ≤ k → w'.heap[k]? = w.heap[k]?) : w'.ownsRow base e size v n xs := by
 rcases h.2 with ⟨h1, h2⟩ | ⟨g, cap, cur, h1, h2, h3, h4⟩
 ·exact ⟨h.1, .inl ⟨h1, h2⟩⟩
 ·exact ⟨h.1, .inr ⟨g, cap, cur, h1, h2, (hk g h2).trans h3, h4⟩⟩
set_option maxRecDepth 20000 in
set_option maxHeartbeats 4000000 in
theorem kind_any (b : Nat) (R0 : List By) (w : World) (h : RdSt w b R0) (ht : TabsAt b w) :
  Calls Tryz.prog 65 #[.pointer (some ⟨b, 0, none⟩)] w (ManyR typeW tyOk TyR b R0 w) := by
 have HTB := Lib.hid ht
 have HLN := Lib.hid h.len
 have hbl := h.lt
 obtain ⟨w0, hw0⟩ : ∃ W0, (w.alloc (.cells (TyCells zTy none 0).toArray 63)).alloc (.cells (TyCells zTy none 0).toArray 63) = W0 := ⟨_, rfl⟩
 have HW0 := Lib.hid (show (w.alloc (.cells #[.string ⟨#[]⟩, .int .i64 0, .int .i64 0, .int .i64 0, .slice none 0 0, .int .i64 0, .int .i64 0, .int .i64 0, .int .i64 0, .int .i64 0, .int .i64 0, .int .i64 0, .int .i64 0, .int .i64 0] 63)).alloc (.cells #[.string ⟨#[]⟩, .int .i64 0, .int .i64 0, .int .i64 0, .slice none 0 0, .int .i64 0, .int .i64 0, .int .i64 0, .int .i64 0, .int .i64 0, .int .i64 0, .int .i64 0, .int .i64 0, .int .i64 0] 63) = w0 from hw0)
 have HZ0 : Hid (Blk w0 w.heap.size 63 (TyCells zTy none 0)) := Lib.hid (by rw [← hw0]; exact (Blk.new w _ _).kept (World.grownBy_alloc _ _ none) (by simp))
 have HB0 : Hid (Blk w0 (w.heap.size + 1) 63 (TyCells zTy none 0)) := Lib.hid (by
  have e := Blk.new (w.alloc (.cells (TyCells zTy none 0).toArray 63)) 63 (TyCells zTy none 0)
  rw [World.size_alloc, hw0] at e
  exact e)
 have HS0 : Hid (RS w b R0 w0) := Lib.hid (by rw [← hw0]; exact ((RS.start h).alloc _).alloc _)
 have hz0 : w.heap.size + 2 ≤ w0.heap.size := by rw [← hw0]; simp
 clear h ht hw0
 go_enter Tryz.func65, Tryz.ntmps65
 go_upto_region 2 with fail
 rw [HW0.out]
 clear HW0
 go_upto_region 3 with (go_at_call 62; refine (word_any b _ _ HS0.out.st).mono ?_; rintro e v1 (⟨x, R1, _, rfl, hx, rfl, rfl, hst⟩ | ⟨hno, rfl, hg⟩); have hc := (HB0.out.kept hst.grown (by intro e; injection e with e; omega)).cell (j := 0) rfl; have hf := (HB0.out.kept hst.grown (by intro e; injection e with e; omega)).frozen 0)
 rotate_left
 ·refine ⟨rfl, .inr ⟨fun t R' ⟨q0, ⟨_, q1, q2, q3, q5, q6, q7, q8, q9, q10, q11, q12, q13⟩, q4⟩ e => ?_, rfl, HS0.out.grown.trans hg⟩⟩
  simp only [typeW, List.cons_append, List.nil_append, List.cons.injEq] at e
  exact hno _ _ (q0) (e)
 obtain ⟨w1, hw⟩ : ∃ W, v1.setCell ⟨w.heap.size + 1, 0, none⟩ (.string ⟨x.toArray⟩) = W := ⟨_, rfl⟩
 have HS1 : Hid (RS w b R1 w1) := Lib.hid (by rw [← hw]; exact (HS0.out.next hst).set (by omega) _ _)
 have HB1 := Lib.hid (show Blk w1 (w.heap.size + 1) 63 ((TyCells zTy none 0).set 0 (.string ⟨x.toArray⟩)) by rw [← hw]; exact (HB0.out.kept hst.grown (by intro e; injection e with e; omega)).set 0 _)
 have HZ1 := Lib.hid (show Blk w1 w.heap.size 63 (TyCells zTy none 0) by rw [← hw]; exact (Below.heap_setCell _ _ _ _ (show w.heap.size ≠ w.heap.size + 1 by omega)).trans (HZ0.out.kept hst.grown (by intro e; injection e with e; omega)))
 have hz1 : w.heap.size + 2 ≤ w1.heap.size := by rw [← hw]; simp only [World.setCell, Array.size_modify]; exact Nat.le_trans hz0 hst.size
 rw [hw]
 clear hw hst hc hf hz0 HB0 HZ0
 go_upto_region 4 with (go_at_call 63; refine (num_any b _ _ HS1.out.st (HTB.out.below HS1.out.bel)).mono ?_; rintro e v2 (⟨n1, R2, _, rfl, hn1, rfl, rfl, hst⟩ | ⟨hno, rfl, hg⟩); have hc := (HB1.out.kept hst.grown (by intro e; injection e with e; omega)).cell (j := 1) rfl; have hf := (HB1.out.kept hst.grown (by intro e; injection e with e; omega)).frozen 1)
 rotate_left
 ·refine ⟨rfl, .inr ⟨fun t R' ⟨q0, ⟨_, q1, q2, q3, q5, q6, q7, q8, q9, q10, q11, q12, q13⟩, q4⟩ e => ?_, rfl, HS1.out.grown.trans hg⟩⟩
  simp only [typeW, List.cons_append, List.nil_append, List.cons.injEq] at e
  exact hno _ _ (q1) (e.2)
 obtain ⟨w2, hw⟩ : ∃ W, v2.setCell ⟨w.heap.size + 1, 1, none⟩ (.int .i64 n1) = W := ⟨_, rfl⟩
 have HS2 : Hid (RS w b R2 w2) := Lib.hid (by rw [← hw]; exact (HS1.out.next hst).set (by omega) _ _)
 have HB2 := Lib.hid (show Blk w2 (w.heap.size + 1) 63 (((TyCells zTy none 0).set 0 (.string ⟨x.toArray⟩)).set 1 (.int .i64 n1)) by rw [← hw]; exact (HB1.out.kept hst.grown (by intro e; injection e with e; omega)).set 1 _)
 have HZ2 := Lib.hid (show Blk w2 w.heap.size 63 (TyCells zTy none 0) by rw [← hw]; exact (Below.heap_setCell _ _ _ _ (show w.heap.size ≠ w.heap.size + 1 by omega)).trans (HZ1.out.kept hst.grown (by intro e; injection e with e; omega)))
 have hz2 : w.heap.size + 2 ≤ w2.heap.size := by rw [← hw]; simp only [World.setCell, Array.size_modify]; exact Nat.le_trans hz1 hst.size
 rw [hw]
 clear hw hst hc hf hz1 HB1 HZ1
 go_upto_region 5 with (go_at_call 63; refine (num_any b _ _ HS2.out.st (HTB.out.below HS2.out.bel)).mono ?_; rintro e v3 (⟨n2, R3, _, rfl, hn2, rfl, rfl, hst⟩ | ⟨hno, rfl, hg⟩); have hc := (HB2.out.kept hst.grown (by intro e; injection e with e; omega)).cell (j := 2) rfl; have hf := (HB2.out.kept hst.grown (by intro e; injection e with e; omega)).frozen 2)
 rotate_left
 ·refine ⟨rfl, .inr ⟨fun t R' ⟨q0, ⟨_, q1, q2, q3, q5, q6, q7, q8, q9, q10, q11, q12, q13⟩, q4⟩ e => ?_, rfl, HS2.out.grown.trans hg⟩⟩
  simp only [typeW, List.cons_append, List.nil_append, List.cons.injEq] at e
  exact hno _ _ (q2) (e.2.2)
 obtain ⟨w3, hw⟩ : ∃ W, v3.setCell ⟨w.heap.size + 1, 2, none⟩ (.int .i64 n2) = W := ⟨_, rfl⟩
 have HS3 : Hid (RS w b R3 w3) := Lib.hid (by rw [← hw]; exact (HS2.out.next hst).set (by omega) _ _)
 have HB3 := Lib.hid (show Blk w3 (w.heap.size + 1) 63 ((((TyCells zTy none 0).set 0 (.string ⟨x.toArray⟩)).set 1 (.int .i64 n1)).set 2 (.int .i64 n2)) by rw [← hw]; exact (HB2.out.kept hst.grown (by intro e; injection e with e; omega)).set 2 _)
 have HZ3 := Lib.hid (show Blk w3 w.heap.size 63 (TyCells zTy none 0) by rw [← hw]; exact (Below.heap_setCell _ _ _ _ (show w.heap.size ≠ w.heap.size + 1 by omega)).trans (HZ2.out.kept hst.grown (by intro e; injection e with e; omega)))
 have hz3 : w.heap.size + 2 ≤ w3.heap.size := by rw [← hw]; simp only [World.setCell, Array.size_modify]; exact Nat.le_trans hz2 hst.size
 rw [hw]
 clear hw hst hc hf hz2 HB2 HZ2
 go_upto_region 6 with (go_at_call 63; refine (num_any b _ _ HS3.out.st (HTB.out.below HS3.out.bel)).mono ?_; rintro e v4 (⟨n3, R4, _, rfl, hn3, rfl, rfl, hst⟩ | ⟨hno, rfl, hg⟩); have hc := (HB3.out.kept hst.grown (by intro e; injection e with e; omega)).cell (j := 3) rfl; have hf := (HB3.out.kept hst.grown (by intro e; injection e with e; omega)).frozen 3)
 rotate_left
 ·refine ⟨rfl, .inr ⟨fun t R' ⟨q0, ⟨_, q1, q2, q3, q5, q6, q7, q8, q9, q10, q11, q12, q13⟩, q4⟩ e => ?_, rfl, HS3.out.grown.trans hg⟩⟩
  simp only [typeW, List.cons_append, List.nil_append, List.cons.injEq] at e
  exact hno _ _ (q3) (e.2.2.2)
 obtain ⟨w4, hw⟩ : ∃ W, v4.setCell ⟨w.heap.size + 1, 3, none⟩ (.int .i64 n3) = W := ⟨_, rfl⟩
 have HS4 : Hid (RS w b R4 w4) := Lib.hid (by rw [← hw]; exact (HS3.out.next hst).set (by omega) _ _)
 have HB4 := Lib.hid (show Blk w4 (w.heap.size + 1) 63 (((((TyCells zTy none 0).set 0 (.string ⟨x.toArray⟩)).set 1 (.int .i64 n1)).set 2 (.int .i64 n2)).set 3 (.int .i64 n3)) by rw [← hw]; exact (HB3.out.kept hst.grown (by intro e; injection e with e; omega)).set 3 _)
 have HZ4 := Lib.hid (show Blk w4 w.heap.size 63 (TyCells zTy none 0) by rw [← hw]; exact (Below.heap_setCell _ _ _ _ (show w.heap.size ≠ w.heap.size + 1 by omega)).trans (HZ3.out.kept hst.grown (by intro e; injection e with e; omega)))
 have hz4 : w.heap.size + 2 ≤ w4.heap.size := by rw [← hw]; simp only [World.setCell, Array.size_modify]; exact Nat.le_trans hz3 hst.size
 rw [hw]
 clear hw hst hc hf hz3 HB3 HZ3
 go_upto_region 7 with (go_at_call 102; refine (rlist_any b _ _ HS4.out.st (HTB.out.below HS4.out.bel)).mono ?_; rintro e v5 (⟨l, R5, _, rfl, hl, rfl, ⟨AA, dd, rfl, hown⟩, hst⟩ | ⟨hno, rfl, hg⟩); have hc := (HB4.out.kept hst.grown (by intro e; injection e with e; omega)).cell (j := 4) rfl; have hf := (HB4.out.kept hst.grown (by intro e; injection e with e; omega)).frozen 4)
 rotate_left
 ·refine ⟨rfl, .inr ⟨fun t R' ⟨q0, ⟨_, q1, q2, q3, q5, q6, q7, q8, q9, q10, q11, q12, q13⟩, q4⟩ e => ?_, rfl, HS4.out.grown.trans hg⟩⟩
  simp only [typeW, List.cons_append, List.nil_append, List.cons.injEq] at e
  exact hno _ _ (q4) (e.2.2.2.2)
 obtain ⟨w5, hw⟩ : ∃ W, v5.setCell ⟨w.heap.size + 1, 4, none⟩ (.slice AA l.length dd) = W := ⟨_, rfl⟩
 have HS5 : Hid (RS w b R5 w5) := Lib.hid (by rw [← hw]; exact (HS4.out.next hst).set (by omega) _ _)
 have HB5 := Lib.hid (show Blk w5 (w.heap.size + 1) 63 ((((((TyCells zTy none 0).set 0 (.string ⟨x.toArray⟩)).set 1 (.int .i64 n1)).set 2 (.int .i64 n2)).set 3 (.int .i64 n3)).set 4 (.slice AA l.length dd)) by rw [← hw]; exact (HB4.out.kept hst.grown (by intro e; injection e with e; omega)).set 4 _)
 have HZ5 := Lib.hid (show Blk w5 w.heap.size 63 (TyCells zTy none 0) by rw [← hw]; exact (Below.heap_setCell _ _ _ _ (show w.heap.size ≠ w.heap.size + 1 by omega)).trans (HZ4.out.kept hst.grown (by intro e; injection e with e; omega)))
 have hz5 : w.heap.size + 2 ≤ w5.heap.size := by rw [← hw]; simp only [World.setCell, Array.size_modify]; exact Nat.le_trans hz4 hst.size
 have HO5 : Hid (w5.ownsRow (w.heap.size + 2) 3 1 (.slice AA l.length dd) l.length (l.map (.int .i64))) := Lib.hid (by rw [← hw]; exact own_set (own_less hown (by omega)) (by omega) _ _)
 clear hown
 rw [hw]
 clear hw hst hc hf hz4 HB4 HZ4
 go_upto_region 8 with (go_at_call 63; refine (num_any b _ _ HS5.out.st (HTB.out.below HS5.out.bel)).mono ?_; rintro e v6 (⟨n5, R6, _, rfl, hn5, rfl, rfl, hst⟩ | ⟨hno, rfl, hg⟩); have hc := (HB5.out.kept hst.grown (by intro e; injection e with e; omega)).cell (j := 5) rfl; have hf := (HB5.out.kept hst.grown (by intro e; injection e with e; omega)).frozen 5)
 rotate_left
 ·refine ⟨rfl, .inr ⟨fun t R' ⟨q0, ⟨_, q1, q2, q3, q5, q6, q7, q8, q9, q10, q11, q12, q13⟩, q4⟩ e => ?_, rfl, HS5.out.grown.trans hg⟩⟩
  simp only [typeW, List.cons_append, List.nil_append, List.cons.injEq] at e
  exact hno _ _ (q5) (e.2.2.2.2.2)
 obtain ⟨w6, hw⟩ : ∃ W, v6.setCell ⟨w.heap.size + 1, 5, none⟩ (.int .i64 n5) = W := ⟨_, rfl⟩
 have HS6 : Hid (RS w b R6 w6) := Lib.hid (by rw [← hw]; exact (HS5.out.next hst).set (by omega) _ _)
 have HB6 := Lib.hid (show Blk w6 (w.heap.size + 1) 63 (((((((TyCells zTy none 0).set 0 (.string ⟨x.toArray⟩)).set 1 (.int .i64 n1)).set 2 (.int .i64 n2)).set 3 (.int .i64 n3)).set 4 (.slice AA l.length dd)).set 5 (.int .i64 n5)) by rw [← hw]; exact (HB5.out.kept hst.grown (by intro e; injection e with e; omega)).set 5 _)
 have HZ6 := Lib.hid (show Blk w6 w.heap.size 63 (TyCells zTy none 0) by rw [← hw]; exact (Below.heap_setCell _ _ _ _ (show w.heap.size ≠ w.heap.size + 1 by omega)).trans (HZ5.out.kept hst.grown (by intro e; injection e with e; omega)))
 have hz6 : w.heap.size + 2 ≤ w6.heap.size := by rw [← hw]; simp only [World.setCell, Array.size_modify]; exact Nat.le_trans hz5 hst.size
 have HO6 : Hid (w6.ownsRow (w.heap.size + 2) 3 1 (.slice AA l.length dd) l.length (l.map (.int .i64))) := Lib.hid (by rw [← hw]; exact own_set (own_gr HO5.out (by omega) hst.grown) (by omega) _ _)
 rw [hw]
 clear hw hst hc hf hz5 HB5 HZ5 HO5
 go_upto_region 9 with (go_at_call 63; refine (num_any b _ _ HS6.out.st (HTB.out.below HS6.out.bel)).mono ?_; rintro e v7 (⟨n6, R7, _, rfl, hn6, rfl, rfl, hst⟩ | ⟨hno, rfl, hg⟩); have hc := (HB6.out.kept hst.grown (by intro e; injection e with e; omega)).cell (j := 6) rfl; have hf := (HB6.out.kept hst.grown (by intro e; injection e with e; omega)).frozen 6)
 rotate_left
 ·refine ⟨rfl, .inr ⟨fun t R' ⟨q0, ⟨_, q1, q2, q3, q5, q6, q7, q8, q9, q10, q11, q12, q13⟩, q4⟩ e => ?_, rfl, HS6.out.grown.trans hg⟩⟩
  simp only [typeW, List.cons_append, List.nil_append, List.cons.injEq] at e
  exact hno _ _ (q6) (e.2.2.2.2.2.2)
 obtain ⟨w7, hw⟩ : ∃ W, v7.setCell ⟨w.heap.size + 1, 6, none⟩ (.int .i64 n6) = W := ⟨_, rfl⟩
 have HS7 : Hid (RS w b R7 w7) := Lib.hid (by rw [← hw]; exact (HS6.out.next hst).set (by omega) _ _)
 have HB7 := Lib.hid (show Blk w7 (w.heap.size + 1) 63 ((((((((TyCells zTy none 0).set 0 (.string ⟨x.toArray⟩)).set 1 (.int .i64 n1)).set 2 (.int .i64 n2)).set 3 (.int .i64 n3)).set 4 (.slice AA l.length dd)).set 5 (.int .i64 n5)).set 6 (.int .i64 n6)) by rw [← hw]; exact (HB6.out.kept hst.grown (by intro e; injection e with e; omega)).set 6 _)
 have HZ7 := Lib.hid (show Blk w7 w.heap.size 63 (TyCells zTy none 0) by rw [← hw]; exact (Below.heap_setCell _ _ _ _ (show w.heap.size ≠ w.heap.size + 1 by omega)).trans (HZ6.out.kept hst.grown (by intro e; injection e with e; omega)))
 have hz7 : w.heap.size + 2 ≤ w7.heap.size := by rw [← hw]; simp only [World.setCell, Array.size_modify]; exact Nat.le_trans hz6 hst.size
 have HO7 : Hid (w7.ownsRow (w.heap.size + 2) 3 1 (.slice AA l.length dd) l.length (l.map (.int .i64))) := Lib.hid (by rw [← hw]; exact own_set (own_gr HO6.out (by omega) hst.grown) (by omega) _ _)
 rw [hw]
 clear hw hst hc hf hz6 HB6 HZ6 HO6
 go_upto_region 10 with (go_at_call 63; refine (num_any b _ _ HS7.out.st (HTB.out.below HS7.out.bel)).mono ?_; rintro e v8 (⟨n7, R8, _, rfl, hn7, rfl, rfl, hst⟩ | ⟨hno, rfl, hg⟩); have hc := (HB7.out.kept hst.grown (by intro e; injection e with e; omega)).cell (j := 7) rfl; have hf := (HB7.out.kept hst.grown (by intro e; injection e with e; omega)).frozen 7)
 rotate_left
 ·refine ⟨rfl, .inr ⟨fun t R' ⟨q0, ⟨_, q1, q2, q3, q5, q6, q7, q8, q9, q10, q11, q12, q13⟩, q4⟩ e => ?_, rfl, HS7.out.grown.trans hg⟩⟩
  simp only [typeW, List.cons_append, List.nil_append, List.cons.injEq] at e
  exact hno _ _ (q7) (e.2.2.2.2.2.2.2)
 obtain ⟨w8, hw⟩ : ∃ W, v8.setCell ⟨w.heap.size + 1, 7, none⟩ (.int .i64 n7) = W := ⟨_, rfl⟩
 have HS8 : Hid (RS w b R8 w8) := Lib.hid (by rw [← hw]; exact (HS7.out.next hst).set (by omega) _ _)
 have HB8 := Lib.hid (show Blk w8 (w.heap.size + 1) 63 (((((((((TyCells zTy none 0).set 0 (.string ⟨x.toArray⟩)).set 1 (.int .i64 n1)).set 2 (.int .i64 n2)).set 3 (.int .i64 n3)).set 4 (.slice AA l.length dd)).set 5 (.int .i64 n5)).set 6 (.int .i64 n6)).set 7 (.int .i64 n7)) by rw [← hw]; exact (HB7.out.kept hst.grown (by intro e; injection e with e; omega)).set 7 _)
 have HZ8 := Lib.hid (show Blk w8 w.heap.size 63 (TyCells zTy none 0) by rw [← hw]; exact (Below.heap_setCell _ _ _ _ (show w.heap.size ≠ w.heap.size + 1 by omega)).trans (HZ7.out.kept hst.grown (by intro e; injection e with e; omega)))
 have hz8 : w.heap.size + 2 ≤ w8.heap.size := by rw [← hw]; simp only [World.setCell, Array.size_modify]; exact Nat.le_trans hz7 hst.size
 have HO8 : Hid (w8.ownsRow (w.heap.size + 2) 3 1 (.slice AA l.length dd) l.length (l.map (.int .i64))) := Lib.hid (by rw [← hw]; exact own_set (own_gr HO7.out (by omega) hst.grown) (by omega) _ _)
 rw [hw]
 clear hw hst hc hf hz7 HB7 HZ7 HO7
 go_upto_region 11 with (go_at_call 63; refine (num_any b _ _ HS8.out.st (HTB.out.below HS8.out.bel)).mono ?_; rintro e v9 (⟨n8, R9, _, rfl, hn8, rfl, rfl, hst⟩ | ⟨hno, rfl, hg⟩); have hc := (HB8.out.kept hst.grown (by intro e; injection e with e; omega)).cell (j := 8) rfl; have hf := (HB8.out.kept hst.grown (by intro e; injection e with e; omega)).frozen 8)
 rotate_left
 ·refine ⟨rfl, .inr ⟨fun t R' ⟨q0, ⟨_, q1, q2, q3, q5, q6, q7, q8, q9, q10, q11, q12, q13⟩, q4⟩ e => ?_, rfl, HS8.out.grown.trans hg⟩⟩
  simp only [typeW, List.cons_append, List.nil_append, List.cons.injEq] at e
  exact hno _ _ (q8) (e.2.2.2.2.2.2.2.2)
 obtain ⟨w9, hw⟩ : ∃ W, v9.setCell ⟨w.heap.size + 1, 8, none⟩ (.int .i64 n8) = W := ⟨_, rfl⟩
 have HS9 : Hid (RS w b R9 w9) := Lib.hid (by rw [← hw]; exact (HS8.out.next hst).set (by omega) _ _)
 have HB9 := Lib.hid (show Blk w9 (w.heap.size + 1) 63 ((((((((((TyCells zTy none 0).set 0 (.string ⟨x.toArray⟩)).set 1 (.int .i64 n1)).set 2 (.int .i64 n2)).set 3 (.int .i64 n3)).set 4 (.slice AA l.length dd)).set 5 (.int .i64 n5)).set 6 (.int .i64 n6)).set 7 (.int .i64 n7)).set 8 (.int .i64 n8)) by rw [← hw]; exact (HB8.out.kept hst.grown (by intro e; injection e with e; omega)).set 8 _)
 have HZ9 := Lib.hid (show Blk w9 w.heap.size 63 (TyCells zTy none 0) by rw [← hw]; exact (Below.heap_setCell _ _ _ _ (show w.heap.size ≠ w.heap.size + 1 by omega)).trans (HZ8.out.kept hst.grown (by intro e; injection e with e; omega)))
 have hz9 : w.heap.size + 2 ≤ w9.heap.size := by rw [← hw]; simp only [World.setCell, Array.size_modify]; exact Nat.le_trans hz8 hst.size
 have HO9 : Hid (w9.ownsRow (w.heap.size + 2) 3 1 (.slice AA l.length dd) l.length (l.map (.int .i64))) := Lib.hid (by rw [← hw]; exact own_set (own_gr HO8.out (by omega) hst.grown) (by omega) _ _)
 rw [hw]
 clear hw hst hc hf hz8 HB8 HZ8 HO8
 go_upto_region 12 with (go_at_call 63; refine (num_any b _ _ HS9.out.st (HTB.out.below HS9.out.bel)).mono ?_; rintro e v10 (⟨n9, R10, _, rfl, hn9, rfl, rfl, hst⟩ | ⟨hno, rfl, hg⟩); have hc := (HB9.out.kept hst.grown (by intro e; injection e with e; omega)).cell (j := 9) rfl; have hf := (HB9.out.kept hst.grown (by intro e; injection e with e; omega)).frozen 9)
 rotate_left
 ·refine ⟨rfl, .inr ⟨fun t R' ⟨q0, ⟨_, q1, q2, q3, q5, q6, q7, q8, q9, q10, q11, q12, q13⟩, q4⟩ e => ?_, rfl, HS9.out.grown.trans hg⟩⟩
  simp only [typeW, List.cons_append, List.nil_append, List.cons.injEq] at e
  exact hno _ _ (q9) (e.2.2.2.2.2.2.2.2.2)
 obtain ⟨w10, hw⟩ : ∃ W, v10.setCell ⟨w.heap.size + 1, 9, none⟩ (.int .i64 n9) = W := ⟨_, rfl⟩
 have HS10 : Hid (RS w b R10 w10) := Lib.hid (by rw [← hw]; exact (HS9.out.next hst).set (by omega) _ _)
 have HB10 := Lib.hid (show Blk w10 (w.heap.size + 1) 63 (((((((((((TyCells zTy none 0).set 0 (.string ⟨x.toArray⟩)).set 1 (.int .i64 n1)).set 2 (.int .i64 n2)).set 3 (.int .i64 n3)).set 4 (.slice AA l.length dd)).set 5 (.int .i64 n5)).set 6 (.int .i64 n6)).set 7 (.int .i64 n7)).set 8 (.int .i64 n8)).set 9 (.int .i64 n9)) by rw [← hw]; exact (HB9.out.kept hst.grown (by intro e; injection e with e; omega)).set 9 _)
 have HZ10 := Lib.hid (show Blk w10 w.heap.size 63 (TyCells zTy none 0) by rw [← hw]; exact (Below.heap_setCell _ _ _ _ (show w.heap.size ≠ w.heap.size + 1 by omega)).trans (HZ9.out.kept hst.grown (by intro e; injection e with e; omega)))
 have hz10 : w.heap.size + 2 ≤ w10.heap.size := by rw [← hw]; simp only [World.setCell, Array.size_modify]; exact Nat.le_trans hz9 hst.size
 have HO10 : Hid (w10.ownsRow (w.heap.size + 2) 3 1 (.slice AA l.length dd) l.length (l.map (.int .i64))) := Lib.hid (by rw [← hw]; exact own_set (own_gr HO9.out (by omega) hst.grown) (by omega) _ _)
 rw [hw]
 clear hw hst hc hf hz9 HB9 HZ9 HO9
 go_upto_region 13 with (go_at_call 63; refine (num_any b _ _ HS10.out.st (HTB.out.below HS10.out.bel)).mono ?_; rintro e v11 (⟨n10, R11, _, rfl, hn10, rfl, rfl, hst⟩ | ⟨hno, rfl, hg⟩); have hc := (HB10.out.kept hst.grown (by intro e; injection e with e; omega)).cell (j := 10) rfl; have hf := (HB10.out.kept hst.grown (by intro e; injection e with e; omega)).frozen 10)
 rotate_left
 ·refine ⟨rfl, .inr ⟨fun t R' ⟨q0, ⟨_, q1, q2, q3, q5, q6, q7, q8, q9, q10, q11, q12, q13⟩, q4⟩ e => ?_, rfl, HS10.out.grown.trans hg⟩⟩
  simp only [typeW, List.cons_append, List.nil_append, List.cons.injEq] at e
  exact hno _ _ (q10) (e.2.2.2.2.2.2.2.2.2.2)
 obtain ⟨w11, hw⟩ : ∃ W, v11.setCell ⟨w.heap.size + 1, 10, none⟩ (.int .i64 n10) = W := ⟨_, rfl⟩
 have HS11 : Hid (RS w b R11 w11) := Lib.hid (by rw [← hw]; exact (HS10.out.next hst).set (by omega) _ _)
 have HB11 := Lib.hid (show Blk w11 (w.heap.size + 1) 63 ((((((((((((TyCells zTy none 0).set 0 (.string ⟨x.toArray⟩)).set 1 (.int .i64 n1)).set 2 (.int .i64 n2)).set 3 (.int .i64 n3)).set 4 (.slice AA l.length dd)).set 5 (.int .i64 n5)).set 6 (.int .i64 n6)).set 7 (.int .i64 n7)).set 8 (.int .i64 n8)).set 9 (.int .i64 n9)).set 10 (.int .i64 n10)) by rw [← hw]; exact (HB10.out.kept hst.grown (by intro e; injection e with e; omega)).set 10 _)
 have HZ11 := Lib.hid (show Blk w11 w.heap.size 63 (TyCells zTy none 0) by rw [← hw]; exact (Below.heap_setCell _ _ _ _ (show w.heap.size ≠ w.heap.size + 1 by omega)).trans (HZ10.out.kept hst.grown (by intro e; injection e with e; omega)))
 have hz11 : w.heap.size + 2 ≤ w11.heap.size := by rw [← hw]; simp only [World.setCell, Array.size_modify]; exact Nat.le_trans hz10 hst.size
 have HO11 : Hid (w11.ownsRow (w.heap.size + 2) 3 1 (.slice AA l.length dd) l.length (l.map (.int .i64))) := Lib.hid (by rw [← hw]; exact own_set (own_gr HO10.out (by omega) hst.grown) (by omega) _ _)
 rw [hw]
 clear hw hst hc hf hz10 HB10 HZ10 HO10
 go_upto_region 14 with (go_at_call 63; refine (num_any b _ _ HS11.out.st (HTB.out.below HS11.out.bel)).mono ?_; rintro e v12 (⟨n11, R12, _, rfl, hn11, rfl, rfl, hst⟩ | ⟨hno, rfl, hg⟩); have hc := (HB11.out.kept hst.grown (by intro e; injection e with e; omega)).cell (j := 11) rfl; have hf := (HB11.out.kept hst.grown (by intro e; injection e with e; omega)).frozen 11)
 rotate_left
 ·refine ⟨rfl, .inr ⟨fun t R' ⟨q0, ⟨_, q1, q2, q3, q5, q6, q7, q8, q9, q10, q11, q12, q13⟩, q4⟩ e => ?_, rfl, HS11.out.grown.trans hg⟩⟩
  simp only [typeW, List.cons_append, List.nil_append, List.cons.injEq] at e
  exact hno _ _ (q11) (e.2.2.2.2.2.2.2.2.2.2.2)
 obtain ⟨w12, hw⟩ : ∃ W, v12.setCell ⟨w.heap.size + 1, 11, none⟩ (.int .i64 n11) = W := ⟨_, rfl⟩
 have HS12 : Hid (RS w b R12 w12) := Lib.hid (by rw [← hw]; exact (HS11.out.next hst).set (by omega) _ _)
 have HB12 := Lib.hid (show Blk w12 (w.heap.size + 1) 63 (((((((((((((TyCells zTy none 0).set 0 (.string ⟨x.toArray⟩)).set 1 (.int .i64 n1)).set 2 (.int .i64 n2)).set 3 (.int .i64 n3)).set 4 (.slice AA l.length dd)).set 5 (.int .i64 n5)).set 6 (.int .i64 n6)).set 7 (.int .i64 n7)).set 8 (.int .i64 n8)).set 9 (.int .i64 n9)).set 10 (.int .i64 n10)).set 11 (.int .i64 n11)) by rw [← hw]; exact (HB11.out.kept hst.grown (by intro e; injection e with e; omega)).set 11 _)
 have HZ12 := Lib.hid (show Blk w12 w.heap.size 63 (TyCells zTy none 0) by rw [← hw]; exact (Below.heap_setCell _ _ _ _ (show w.heap.size ≠ w.heap.size + 1 by omega)).trans (HZ11.out.kept hst.grown (by intro e; injection e with e; omega)))
 have hz12 : w.heap.size + 2 ≤ w12.heap.size := by rw [← hw]; simp only [World.setCell, Array.size_modify]; exact Nat.le_trans hz11 hst.size
 have HO12 : Hid (w12.ownsRow (w.heap.size + 2) 3 1 (.slice AA l.length dd) l.length (l.map (.int .i64))) := Lib.hid (by rw [← hw]; exact own_set (own_gr HO11.out (by omega) hst.grown) (by omega) _ _)
 rw [hw]
 clear hw hst hc hf hz11 HB11 HZ11 HO11
 go_upto_region 15 with (go_at_call 63; refine (num_any b _ _ HS12.out.st (HTB.out.below HS12.out.bel)).mono ?_; rintro e v13 (⟨n12, R13, _, rfl, hn12, rfl, rfl, hst⟩ | ⟨hno, rfl, hg⟩); have hc := (HB12.out.kept hst.grown (by intro e; injection e with e; omega)).cell (j := 12) rfl; have hf := (HB12.out.kept hst.grown (by intro e; injection e with e; omega)).frozen 12)
 rotate_left
 ·refine ⟨rfl, .inr ⟨fun t R' ⟨q0, ⟨_, q1, q2, q3, q5, q6, q7, q8, q9, q10, q11, q12, q13⟩, q4⟩ e => ?_, rfl, HS12.out.grown.trans hg⟩⟩
  simp only [typeW, List.cons_append, List.nil_append, List.cons.injEq] at e
  exact hno _ _ (q12) (e.2.2.2.2.2.2.2.2.2.2.2.2)
 obtain ⟨w13, hw⟩ : ∃ W, v13.setCell ⟨w.heap.size + 1, 12, none⟩ (.int .i64 n12) = W := ⟨_, rfl⟩
 have HS13 : Hid (RS w b R13 w13) := Lib.hid (by rw [← hw]; exact (HS12.out.next hst).set (by omega) _ _)
 have HB13 := Lib.hid (show Blk w13 (w.heap.size + 1) 63 ((((((((((((((TyCells zTy none 0).set 0 (.string ⟨x.toArray⟩)).set 1 (.int .i64 n1)).set 2 (.int .i64 n2)).set 3 (.int .i64 n3)).set 4 (.slice AA l.length dd)).set 5 (.int .i64 n5)).set 6 (.int .i64 n6)).set 7 (.int .i64 n7)).set 8 (.int .i64 n8)).set 9 (.int .i64 n9)).set 10 (.int .i64 n10)).set 11 (.int .i64 n11)).set 12 (.int .i64 n12)) by rw [← hw]; exact (HB12.out.kept hst.grown (by intro e; injection e with e; omega)).set 12 _)
 have HZ13 := Lib.hid (show Blk w13 w.heap.size 63 (TyCells zTy none 0) by rw [← hw]; exact (Below.heap_setCell _ _ _ _ (show w.heap.size ≠ w.heap.size + 1 by omega)).trans (HZ12.out.kept hst.grown (by intro e; injection e with e; omega)))
 have hz13 : w.heap.size + 2 ≤ w13.heap.size := by rw [← hw]; simp only [World.setCell, Array.size_modify]; exact Nat.le_trans hz12 hst.size
 have HO13 : Hid (w13.ownsRow (w.heap.size + 2) 3 1 (.slice AA l.length dd) l.length (l.map (.int .i64))) := Lib.hid (by rw [← hw]; exact own_set (own_gr HO12.out (by omega) hst.grown) (by omega) _ _)
 rw [hw]
 clear hw hst hc hf hz12 HB12 HZ12 HO12
 go_upto_region 16 with (go_at_call 63; refine (num_any b _ _ HS13.out.st (HTB.out.below HS13.out.bel)).mono ?_; rintro e v14 (⟨n13, R14, _, rfl, hn13, rfl, rfl, hst⟩ | ⟨hno, rfl, hg⟩); have hc := (HB13.out.kept hst.grown (by intro e; injection e with e; omega)).cell (j := 13) rfl; have hf := (HB13.out.kept hst.grown (by intro e; injection e with e; omega)).frozen 13)
 rotate_left
 ·refine ⟨rfl, .inr ⟨fun t R' ⟨q0, ⟨_, q1, q2, q3, q5, q6, q7, q8, q9, q10, q11, q12, q13⟩, q4⟩ e => ?_, rfl, HS13.out.grown.trans hg⟩⟩
  simp only [typeW, List.cons_append, List.nil_append, List.cons.injEq] at e
  exact hno _ _ (q13) (e.2.2.2.2.2.2.2.2.2.2.2.2.2)
 obtain ⟨w14, hw⟩ : ∃ W, v14.setCell ⟨w.heap.size + 1, 13, none⟩ (.int .i64 n13) = W := ⟨_, rfl⟩
 have HS14 : Hid (RS w b R14 w14) := Lib.hid (by rw [← hw]; exact (HS13.out.next hst).set (by omega) _ _)
 have HB14 := Lib.hid (show Blk w14 (w.heap.size + 1) 63 (((((((((((((((TyCells zTy none 0).set 0 (.string ⟨x.toArray⟩)).set 1 (.int .i64 n1)).set 2 (.int .i64 n2)).set 3 (.int .i64 n3)).set 4 (.slice AA l.length dd)).set 5 (.int .i64 n5)).set 6 (.int .i64 n6)).set 7 (.int .i64 n7)).set 8 (.int .i64 n8)).set 9 (.int .i64 n9)).set 10 (.int .i64 n10)).set 11 (.int .i64 n11)).set 12 (.int .i64 n12)).set 13 (.int .i64 n13)) by rw [← hw]; exact (HB13.out.kept hst.grown (by intro e; injection e with e; omega)).set 13 _)
 have HZ14 := Lib.hid (show Blk w14 w.heap.size 63 (TyCells zTy none 0) by rw [← hw]; exact (Below.heap_setCell _ _ _ _ (show w.heap.size ≠ w.heap.size + 1 by omega)).trans (HZ13.out.kept hst.grown (by intro e; injection e with e; omega)))
 have hz14 : w.heap.size + 2 ≤ w14.heap.size := by rw [← hw]; simp only [World.setCell, Array.size_modify]; exact Nat.le_trans hz13 hst.size
 have HO14 : Hid (w14.ownsRow (w.heap.size + 2) 3 1 (.slice AA l.length dd) l.length (l.map (.int .i64))) := Lib.hid (by rw [← hw]; exact own_set (own_gr HO13.out (by omega) hst.grown) (by omega) _ _)
 rw [hw]
 clear hw hst hc hf hz13 HB13 HZ13 HO13
 obtain ⟨t, ht⟩ : ∃ t : Ty, t = ⟨⟨x.toArray⟩, n1, n2, n3, l, n5, n6, n7, n8, n9, n10, n11, n12, n13⟩ := ⟨_, rfl⟩
 have HTW : Hid (x :: Lib.itoa n1 :: Lib.itoa n2 :: Lib.itoa n3 :: listF l :: Lib.itoa n5 :: Lib.itoa n6 :: Lib.itoa n7 :: Lib.itoa n8 :: Lib.itoa n9 :: Lib.itoa n10 :: Lib.itoa n11 :: Lib.itoa n12 :: Lib.itoa n13 :: R14 = typeW t ++ R14) := Lib.hid (by rw [ht]; simp [typeW])
 have HBT : Hid (Blk w14 (w.heap.size + 1) 63 (TyCells t AA dd)) := Lib.hid (by rw [ht]; exact HB14.out)
 have hxz := HLN.out x (by simp)
 have HTO : Hid (tyOk t) := Lib.hid (by rw [ht]; exact ⟨by simpa using hx, ⟨by show (⟨x.toArray⟩ : ByteArray).size ≤ _; simp [ByteArray.size]; omega, hn1, hn2, hn3, hn5, hn6, hn7, hn8, hn9, hn10, hn11, hn12, hn13⟩, hl⟩)
 have HTC : Hid (t.cap = l) := Lib.hid (by rw [ht])
 clear HB14 ht
 go_wp2_with (first
  | ((with_reducible refine wpList_loadG sTy _ rfl ⟨w.heap.size + 1, 0, none⟩ (TyCells t AA dd) ?_ ?_ ?_ ?_ ?_); exact rfl; exact rfl; exact HBT.out.cells; exact rfl)
  | ((with_reducible refine wpList_storeL sTy rfl _ _ rfl w.heap.size (TyCells zTy none 0) (TyCells t AA dd) ?_ ?_ ?_ ?_ ?_ (ty_one _ _ _) ?_); exact rfl; exact rfl; exact HZ14.out; exact rfl; exact rfl; intro wz k1 k2 k3 k4; have K := lib.h4 k1 k2 k3 k4; clear k1 k2 k3 k4))
 refine bodyPost_ret (v := .agg (TyCells t AA dd).toArray) (big.res_cell sTy Tryz.results65 rfl (Blk.cells K.out.1) rfl) rfl ?_
 refine .inl ⟨t, R14, _, HTW.out, HTO.out, rfl, ⟨AA, dd, rfl, ?_⟩, HS14.out.store (Nat.le_refl _) K.out.2.1 K.out.2.2.2⟩
 rw [HTC.out]
 exact own_less (own_heap HO14.out (fun k hk => K.out.2.1 k (by omega))) (by omega)
end Go.Proofs.YthefooacfcagbaaGreatDoor.spc

/- spec's reader: orders. -/
namespace Go.Proofs.YthefooacfcagbaaGreatDoor.spc
open Go.RowKit
open lib rd app els typ big gen
open txt (in64 By strV strV_of decW decW_any Tabs elem_str toList_data push_one Strs numL number_any num_dec dec_num)
set_option linter.unusedVariables false
set_option linter.unusedSimpArgs false
def setL (cs : List Value) : Nat → List Value → List Value
 | _, [] => cs
 | o, v :: r => setL (cs.set o v) (o + 1) r
theorem Blk.sets {t : TypeId} {g : Nat} : ∀ (vs : List Value) (o : Nat) (w : World) (cs : List Value), Blk w g t cs → Blk (w.setCells g o vs) g t (setL cs o vs)
 | [], _, _, _, h => h
 | v :: r, o, w, cs, h => Blk.sets r (o + 1) _ _ (h.set o v)
theorem sets_frame (q : Nat) : ∀ (vs : List Value) (o : Nat) (w : World), (∀ k, k ≠ q → (w.setCells q o vs).heap[k]? = w.heap[k]?) ∧ (w.setCells q o vs).heap.size = w.heap.size ∧ Below q w (w.setCells q o vs)
 | [], _, w => ⟨fun _ _ => rfl, rfl, Below.refl _ _⟩
 | v :: r, o, w => by
  obtain ⟨h1, h2, h3⟩ := sets_frame q r (o + 1) (w.setCell ⟨q, o, none⟩ v)
  refine ⟨fun k hk => (h1 k hk).trans (Below.heap_setCell w ⟨q, o, none⟩ v k hk), h2.trans (by simp [World.setCell]), ((Below.refl q w).setCell (p := ⟨q, o, none⟩) (Nat.le_refl _) v).trans h3⟩
theorem blk_there {w : World} {g k n : Nat} {t : TypeId} {cs : List Value} (h : Blk w g t cs) (hk : k + n ≤ cs.length) : w.there g k n := fun j hj => by
 refine ⟨?_, h.frozen _⟩
 rw [h.cell (j := k + j) (List.getElem?_eq_getElem (by omega))]
 rfl
theorem wpList_storeM {t : TypeId} {n : Nat} (T : StructOf t n) {ops : Array Oper} {rest : List Oper} {o : Oper} {a : Act} {Q : Exit → Act → World → Prop} {w : World} (hgd : o.guard = none) (p v : Operand) (ho : o.op = Op.store t p v)
  (g k : Nat) (cs : List Value) (hp : a.eval p = .pointer (some ⟨g, k, none⟩)) (hv : a.eval v = .agg cs.toArray) (ht : w.there g k n) (hn : cs.length = n) (h1 : ∀ u ∈ cs, u.oneCell' = true)
  (h : wpList Tryz.prog ops Q rest (a.put o.dst undef) (w.setCells g k cs)) : wpList Tryz.prog ops Q (o :: rest) a w :=
 wpList_store_mid hgd t p v ho g k cs.toArray hp hv (by simpa [hn] using ht) (by rw [T.size]; simp [hn]) (Array.all_eq_true_iff_forall_mem.2 fun u hu => h1 u (by simpa using hu)) (by simpa using h)
set_option maxRecDepth 20000 in
set_option maxHeartbeats 4000000 in
theorem order_any (b : Nat) (R0 : List By) (w : World) (h : RdSt w b R0) (ht : TabsAt b w) :
  Calls Tryz.prog 66 #[.pointer (some ⟨b, 0, none⟩)] w (ManyR orderW ordOk OrR b R0 w) := by
 have HTB := Lib.hid ht
 have HLN := Lib.hid h.len
 have hbl := h.lt
 obtain ⟨w0, hw0⟩ : ∃ W0, (w.alloc (.cells (OrdCells zOr none 0).toArray 66)).alloc (.cells (OrdCells zOr none 0).toArray 66) = W0 := ⟨_, rfl⟩
 have HW0 := Lib.hid (show (w.alloc (.cells #[.string ⟨#[]⟩, .slice none 0 0, .int .i64 0, .int .i64 0, .int .i64 0, .int .i64 0, .int .i64 0, .int .i64 0, .int .i64 0, .int .i64 0, .int .i64 0, .int .i64 0, .int .i64 0, .int .i64 0, .int .i64 0, .bool false] 66)).alloc (.cells #[.string ⟨#[]⟩, .slice none 0 0, .int .i64 0, .int .i64 0, .int .i64 0, .int .i64 0, .int .i64 0, .int .i64 0, .int .i64 0, .int .i64 0, .int .i64 0, .int .i64 0, .int .i64 0, .int .i64 0, .int .i64 0, .bool false] 66) = w0 from hw0)
 have HZ0 : Hid (Blk w0 w.heap.size 66 (OrdCells zOr none 0)) := Lib.hid (by rw [← hw0]; exact (Blk.new w _ _).kept (World.grownBy_alloc _ _ none) (by simp))
 have HB0 : Hid (Blk w0 (w.heap.size + 1) 66 (OrdCells zOr none 0)) := Lib.hid (by
  have e := Blk.new (w.alloc (.cells (OrdCells zOr none 0).toArray 66)) 66 (OrdCells zOr none 0)
  rw [World.size_alloc, hw0] at e
  exact e)
 have HS0 : Hid (RS w b R0 w0) := Lib.hid (by rw [← hw0]; exact ((RS.start h).alloc _).alloc _)
 have hz0 : w.heap.size + 2 ≤ w0.heap.size := by rw [← hw0]; simp
 clear h ht hw0
 go_enter Tryz.func66, Tryz.ntmps66
 go_upto_region 2 with fail
 rw [HW0.out]
 clear HW0
 go_upto_region 3 with (go_at_call 62; refine (word_any b _ _ HS0.out.st).mono ?_; rintro e v1 (⟨x, R1, _, rfl, hx, rfl, rfl, hst⟩ | ⟨hno, rfl, hg⟩); have hc := (HB0.out.kept hst.grown (by intro e; injection e with e; omega)).cell (j := 0) rfl; have hf := (HB0.out.kept hst.grown (by intro e; injection e with e; omega)).frozen 0)
 rotate_left
 ·refine ⟨rfl, .inr ⟨fun t R' ⟨q0, ⟨_, q2, q3, q4, q5, q6, q7, q8⟩, q1⟩ e => ?_, rfl, HS0.out.grown.trans hg⟩⟩
  simp only [orderW, List.cons_append, List.nil_append, List.cons.injEq] at e
  exact hno _ _ (q0) (e)
 obtain ⟨w1, hw⟩ : ∃ W, v1.setCell ⟨w.heap.size + 1, 0, none⟩ (.string ⟨x.toArray⟩) = W := ⟨_, rfl⟩
 have HS1 : Hid (RS w b R1 w1) := Lib.hid (by rw [← hw]; exact (HS0.out.next hst).set (by omega) _ _)
 have HB1 := Lib.hid (show Blk w1 (w.heap.size + 1) 66 ((OrdCells zOr none 0).set 0 (.string ⟨x.toArray⟩)) by rw [← hw]; exact (HB0.out.kept hst.grown (by intro e; injection e with e; omega)).set 0 _)
 have HZ1 := Lib.hid (show Blk w1 w.heap.size 66 (OrdCells zOr none 0) by rw [← hw]; exact (Below.heap_setCell _ _ _ _ (show w.heap.size ≠ w.heap.size + 1 by omega)).trans (HZ0.out.kept hst.grown (by intro e; injection e with e; omega)))
 have hz1 : w.heap.size + 2 ≤ w1.heap.size := by rw [← hw]; simp only [World.setCell, Array.size_modify]; exact Nat.le_trans hz0 hst.size
 rw [hw]
 clear hw hst hc hf hz0 HB0 HZ0
 go_upto_region 4 with (go_at_call 102; refine (rlist_any b _ _ HS1.out.st (HTB.out.below HS1.out.bel)).mono ?_; rintro e v2 (⟨l, R2, _, rfl, hl, rfl, ⟨AA, dd, rfl, hown⟩, hst⟩ | ⟨hno, rfl, hg⟩); have hc := (HB1.out.kept hst.grown (by intro e; injection e with e; omega)).cell (j := 1) rfl; have hf := (HB1.out.kept hst.grown (by intro e; injection e with e; omega)).frozen 1)
 rotate_left
 ·refine ⟨rfl, .inr ⟨fun t R' ⟨q0, ⟨_, q2, q3, q4, q5, q6, q7, q8⟩, q1⟩ e => ?_, rfl, HS1.out.grown.trans hg⟩⟩
  simp only [orderW, List.cons_append, List.nil_append, List.cons.injEq] at e
  exact hno _ _ (q1) (e.2)
 obtain ⟨w2, hw⟩ : ∃ W, v2.setCell ⟨w.heap.size + 1, 1, none⟩ (.slice AA l.length dd) = W := ⟨_, rfl⟩
 have HS2 : Hid (RS w b R2 w2) := Lib.hid (by rw [← hw]; exact (HS1.out.next hst).set (by omega) _ _)
 have HB2 := Lib.hid (show Blk w2 (w.heap.size + 1) 66 (((OrdCells zOr none 0).set 0 (.string ⟨x.toArray⟩)).set 1 (.slice AA l.length dd)) by rw [← hw]; exact (HB1.out.kept hst.grown (by intro e; injection e with e; omega)).set 1 _)
 have HZ2 := Lib.hid (show Blk w2 w.heap.size 66 (OrdCells zOr none 0) by rw [← hw]; exact (Below.heap_setCell _ _ _ _ (show w.heap.size ≠ w.heap.size + 1 by omega)).trans (HZ1.out.kept hst.grown (by intro e; injection e with e; omega)))
 have hz2 : w.heap.size + 2 ≤ w2.heap.size := by rw [← hw]; simp only [World.setCell, Array.size_modify]; exact Nat.le_trans hz1 hst.size
 have HO2 : Hid (w2.ownsRow (w.heap.size + 2) 3 1 (.slice AA l.length dd) l.length (l.map (.int .i64))) := Lib.hid (by rw [← hw]; exact own_set (own_less hown (by omega)) (by omega) _ _)
 clear hown
 rw [hw]
 clear hw hst hc hf hz1 HB1 HZ1
 go_upto_region 5 with (first
  | (go_at_call 103; refine (rstop_any b _ _ HS2.out.st (HTB.out.below HS2.out.bel)).mono ?_; rintro e v3 (⟨p1, Rp, _, rfl, hp1, rfl, rfl, hst⟩ | ⟨hno, rfl, hg⟩); have HSp := Lib.hid (HS2.out.next hst); have HGp := Lib.hid hst.grown; clear hst)
  | (go_at_call 103; refine (rstop_any b _ _ HSp.out.st (HTB.out.below HSp.out.bel)).mono ?_; rintro e v4 (⟨p2, R3, _, rfl, hp2, rfl, rfl, hst⟩ | ⟨hno, rfl, hg⟩); have HSq := Lib.hid (HSp.out.next hst); have HGq := Lib.hid (HGp.out.trans hst.grown); have HBq := Lib.hid (HB2.out.kept HGq.out (by intro e; injection e with e; omega)); clear hst)
  | ((with_reducible refine wpList_storeM sStp rfl _ _ rfl (w.heap.size + 1) 2 (StpCells p1) ?_ ?_ ?_ ?_ (stp_one _) ?_); exact rfl; exact rfl; exact (blk_there HBq.out (Nat.le_of_ble_eq_true rfl)); exact rfl)
  | ((with_reducible refine wpList_storeM sStp rfl _ _ rfl (w.heap.size + 1) 6 (StpCells p2) ?_ ?_ ?_ ?_ (stp_one _) ?_); exact rfl; exact rfl; exact (blk_there (Blk.sets (StpCells p1) 2 _ _ HBq.out) (Nat.le_of_ble_eq_true rfl)); exact rfl))
 rotate_left
 ·refine ⟨rfl, .inr ⟨fun t R' ⟨q0, ⟨_, q2, q3, q4, q5, q6, q7, q8⟩, q1⟩ e => ?_, rfl, HSp.out.grown.trans hg⟩⟩
  simp only [orderW, List.cons_append, List.nil_append, List.cons.injEq] at e
  exact hno _ _ q3 e.2.2.2
 ·refine ⟨rfl, .inr ⟨fun t R' ⟨q0, ⟨_, q2, q3, q4, q5, q6, q7, q8⟩, q1⟩ e => ?_, rfl, HS2.out.grown.trans hg⟩⟩
  simp only [orderW, List.cons_append, List.nil_append, List.cons.injEq] at e
  exact hno _ _ q2 e.2.2
 obtain ⟨u3, hu⟩ : ∃ W, v4.setCells (w.heap.size + 1) 2 (StpCells p1) = W := ⟨_, rfl⟩
 obtain ⟨w3, hw⟩ : ∃ W, u3.setCells (w.heap.size + 1) 6 (StpCells p2) = W := ⟨_, rfl⟩
 obtain ⟨f1, f2, f3⟩ := sets_frame (w.heap.size + 1) (StpCells p1) 2 v4
 obtain ⟨f4, f5, f6⟩ := sets_frame (w.heap.size + 1) (StpCells p2) 6 u3
 rw [hu] at f1 f2 f3
 rw [hw] at f4 f5 f6
 have hff : ∀ k, k ≠ w.heap.size + 1 → w3.heap[k]? = v4.heap[k]? := fun k hk => (f4 k hk).trans (f1 k hk)
 have hfz : w3.heap.size = v4.heap.size := f5.trans f2
 have hgz := HGq.out.size
 have HS3 : Hid (RS w b R3 w3) := Lib.hid (HSq.out.store (by omega) hff (f3.trans f6))
 have HB3 := Lib.hid (show Blk w3 (w.heap.size + 1) 66 (setL (setL (((OrdCells zOr none 0).set 0 (.string ⟨x.toArray⟩)).set 1 (.slice AA l.length dd)) 2 (StpCells p1)) 6 (StpCells p2)) by rw [← hw, ← hu]; exact Blk.sets _ 6 _ _ (Blk.sets _ 2 _ _ HBq.out))
 have HZ3 := Lib.hid (show Blk w3 w.heap.size 66 (OrdCells zOr none 0) by exact (hff _ (by omega)).trans (HZ2.out.kept HGq.out (by intro e; injection e with e; omega)))
 have hz3 : w.heap.size + 2 ≤ w3.heap.size := by omega
 have HO3 : Hid (w3.ownsRow (w.heap.size + 2) 3 1 (.slice AA l.length dd) l.length (l.map (.int .i64))) := Lib.hid (own_heap (own_gr HO2.out (by omega) HGq.out) (fun k hk => hff k (by omega)))
 rw [hu, hw]
 clear hw hu f1 f2 f3 f4 f5 f6 hff hfz hgz HSp HSq HGp HGq HBq HB2 HZ2 HO2 hz2
 go_upto_region 6 with (go_at_call 63; refine (num_any b _ _ HS3.out.st (HTB.out.below HS3.out.bel)).mono ?_; rintro e v4 (⟨n4, R4, _, rfl, hn4, rfl, rfl, hst⟩ | ⟨hno, rfl, hg⟩); have hc := (HB3.out.kept hst.grown (by intro e; injection e with e; omega)).cell (j := 10) rfl; have hf := (HB3.out.kept hst.grown (by intro e; injection e with e; omega)).frozen 10)
 rotate_left
 ·refine ⟨rfl, .inr ⟨fun t R' ⟨q0, ⟨_, q2, q3, q4, q5, q6, q7, q8⟩, q1⟩ e => ?_, rfl, HS3.out.grown.trans hg⟩⟩
  simp only [orderW, List.cons_append, List.nil_append, List.cons.injEq] at e
  exact hno _ _ (q4) (e.2.2.2.2)
 obtain ⟨w4, hw⟩ : ∃ W, v4.setCell ⟨w.heap.size + 1, 10, none⟩ (.int .i64 n4) = W := ⟨_, rfl⟩
 have HS4 : Hid (RS w b R4 w4) := Lib.hid (by rw [← hw]; exact (HS3.out.next hst).set (by omega) _ _)
 have HB4 := Lib.hid (show Blk w4 (w.heap.size + 1) 66 ((setL (setL (((OrdCells zOr none 0).set 0 (.string ⟨x.toArray⟩)).set 1 (.slice AA l.length dd)) 2 (StpCells p1)) 6 (StpCells p2)).set 10 (.int .i64 n4)) by rw [← hw]; exact (HB3.out.kept hst.grown (by intro e; injection e with e; omega)).set 10 _)
 have HZ4 := Lib.hid (show Blk w4 w.heap.size 66 (OrdCells zOr none 0) by rw [← hw]; exact (Below.heap_setCell _ _ _ _ (show w.heap.size ≠ w.heap.size + 1 by omega)).trans (HZ3.out.kept hst.grown (by intro e; injection e with e; omega)))
 have hz4 : w.heap.size + 2 ≤ w4.heap.size := by rw [← hw]; simp only [World.setCell, Array.size_modify]; exact Nat.le_trans hz3 hst.size
 have HO4 : Hid (w4.ownsRow (w.heap.size + 2) 3 1 (.slice AA l.length dd) l.length (l.map (.int .i64))) := Lib.hid (by rw [← hw]; exact own_set (own_gr HO3.out (by omega) hst.grown) (by omega) _ _)
 rw [hw]
 clear hw hst hc hf hz3 HB3 HZ3 HO3
 go_upto_region 7 with (go_at_call 63; refine (num_any b _ _ HS4.out.st (HTB.out.below HS4.out.bel)).mono ?_; rintro e v5 (⟨n5, R5, _, rfl, hn5, rfl, rfl, hst⟩ | ⟨hno, rfl, hg⟩); have hc := (HB4.out.kept hst.grown (by intro e; injection e with e; omega)).cell (j := 11) rfl; have hf := (HB4.out.kept hst.grown (by intro e; injection e with e; omega)).frozen 11)
 rotate_left
 ·refine ⟨rfl, .inr ⟨fun t R' ⟨q0, ⟨_, q2, q3, q4, q5, q6, q7, q8⟩, q1⟩ e => ?_, rfl, HS4.out.grown.trans hg⟩⟩
  simp only [orderW, List.cons_append, List.nil_append, List.cons.injEq] at e
  exact hno _ _ (q5) (e.2.2.2.2.2)
 obtain ⟨w5, hw⟩ : ∃ W, v5.setCell ⟨w.heap.size + 1, 11, none⟩ (.int .i64 n5) = W := ⟨_, rfl⟩
 have HS5 : Hid (RS w b R5 w5) := Lib.hid (by rw [← hw]; exact (HS4.out.next hst).set (by omega) _ _)
 have HB5 := Lib.hid (show Blk w5 (w.heap.size + 1) 66 (((setL (setL (((OrdCells zOr none 0).set 0 (.string ⟨x.toArray⟩)).set 1 (.slice AA l.length dd)) 2 (StpCells p1)) 6 (StpCells p2)).set 10 (.int .i64 n4)).set 11 (.int .i64 n5)) by rw [← hw]; exact (HB4.out.kept hst.grown (by intro e; injection e with e; omega)).set 11 _)
 have HZ5 := Lib.hid (show Blk w5 w.heap.size 66 (OrdCells zOr none 0) by rw [← hw]; exact (Below.heap_setCell _ _ _ _ (show w.heap.size ≠ w.heap.size + 1 by omega)).trans (HZ4.out.kept hst.grown (by intro e; injection e with e; omega)))
 have hz5 : w.heap.size + 2 ≤ w5.heap.size := by rw [← hw]; simp only [World.setCell, Array.size_modify]; exact Nat.le_trans hz4 hst.size
 have HO5 : Hid (w5.ownsRow (w.heap.size + 2) 3 1 (.slice AA l.length dd) l.length (l.map (.int .i64))) := Lib.hid (by rw [← hw]; exact own_set (own_gr HO4.out (by omega) hst.grown) (by omega) _ _)
 rw [hw]
 clear hw hst hc hf hz4 HB4 HZ4 HO4
 go_upto_region 8 with (go_at_call 63; refine (num_any b _ _ HS5.out.st (HTB.out.below HS5.out.bel)).mono ?_; rintro e v6 (⟨n6, R6, _, rfl, hn6, rfl, rfl, hst⟩ | ⟨hno, rfl, hg⟩); have hc := (HB5.out.kept hst.grown (by intro e; injection e with e; omega)).cell (j := 12) rfl; have hf := (HB5.out.kept hst.grown (by intro e; injection e with e; omega)).frozen 12)
 rotate_left
 ·refine ⟨rfl, .inr ⟨fun t R' ⟨q0, ⟨_, q2, q3, q4, q5, q6, q7, q8⟩, q1⟩ e => ?_, rfl, HS5.out.grown.trans hg⟩⟩
  simp only [orderW, List.cons_append, List.nil_append, List.cons.injEq] at e
  exact hno _ _ (q6) (e.2.2.2.2.2.2)
 obtain ⟨w6, hw⟩ : ∃ W, v6.setCell ⟨w.heap.size + 1, 12, none⟩ (.int .i64 n6) = W := ⟨_, rfl⟩
 have HS6 : Hid (RS w b R6 w6) := Lib.hid (by rw [← hw]; exact (HS5.out.next hst).set (by omega) _ _)
 have HB6 := Lib.hid (show Blk w6 (w.heap.size + 1) 66 ((((setL (setL (((OrdCells zOr none 0).set 0 (.string ⟨x.toArray⟩)).set 1 (.slice AA l.length dd)) 2 (StpCells p1)) 6 (StpCells p2)).set 10 (.int .i64 n4)).set 11 (.int .i64 n5)).set 12 (.int .i64 n6)) by rw [← hw]; exact (HB5.out.kept hst.grown (by intro e; injection e with e; omega)).set 12 _)
 have HZ6 := Lib.hid (show Blk w6 w.heap.size 66 (OrdCells zOr none 0) by rw [← hw]; exact (Below.heap_setCell _ _ _ _ (show w.heap.size ≠ w.heap.size + 1 by omega)).trans (HZ5.out.kept hst.grown (by intro e; injection e with e; omega)))
 have hz6 : w.heap.size + 2 ≤ w6.heap.size := by rw [← hw]; simp only [World.setCell, Array.size_modify]; exact Nat.le_trans hz5 hst.size
 have HO6 : Hid (w6.ownsRow (w.heap.size + 2) 3 1 (.slice AA l.length dd) l.length (l.map (.int .i64))) := Lib.hid (by rw [← hw]; exact own_set (own_gr HO5.out (by omega) hst.grown) (by omega) _ _)
 rw [hw]
 clear hw hst hc hf hz5 HB5 HZ5 HO5
 go_upto_region 9 with (go_at_call 63; refine (num_any b _ _ HS6.out.st (HTB.out.below HS6.out.bel)).mono ?_; rintro e v7 (⟨n7, R7, _, rfl, hn7, rfl, rfl, hst⟩ | ⟨hno, rfl, hg⟩); have hc := (HB6.out.kept hst.grown (by intro e; injection e with e; omega)).cell (j := 13) rfl; have hf := (HB6.out.kept hst.grown (by intro e; injection e with e; omega)).frozen 13)
 rotate_left
 ·refine ⟨rfl, .inr ⟨fun t R' ⟨q0, ⟨_, q2, q3, q4, q5, q6, q7, q8⟩, q1⟩ e => ?_, rfl, HS6.out.grown.trans hg⟩⟩
  simp only [orderW, List.cons_append, List.nil_append, List.cons.injEq] at e
  exact hno _ _ (q7) (e.2.2.2.2.2.2.2)
 obtain ⟨w7, hw⟩ : ∃ W, v7.setCell ⟨w.heap.size + 1, 13, none⟩ (.int .i64 n7) = W := ⟨_, rfl⟩
 have HS7 : Hid (RS w b R7 w7) := Lib.hid (by rw [← hw]; exact (HS6.out.next hst).set (by omega) _ _)
 have HB7 := Lib.hid (show Blk w7 (w.heap.size + 1) 66 (((((setL (setL (((OrdCells zOr none 0).set 0 (.string ⟨x.toArray⟩)).set 1 (.slice AA l.length dd)) 2 (StpCells p1)) 6 (StpCells p2)).set 10 (.int .i64 n4)).set 11 (.int .i64 n5)).set 12 (.int .i64 n6)).set 13 (.int .i64 n7)) by rw [← hw]; exact (HB6.out.kept hst.grown (by intro e; injection e with e; omega)).set 13 _)
 have HZ7 := Lib.hid (show Blk w7 w.heap.size 66 (OrdCells zOr none 0) by rw [← hw]; exact (Below.heap_setCell _ _ _ _ (show w.heap.size ≠ w.heap.size + 1 by omega)).trans (HZ6.out.kept hst.grown (by intro e; injection e with e; omega)))
 have hz7 : w.heap.size + 2 ≤ w7.heap.size := by rw [← hw]; simp only [World.setCell, Array.size_modify]; exact Nat.le_trans hz6 hst.size
 have HO7 : Hid (w7.ownsRow (w.heap.size + 2) 3 1 (.slice AA l.length dd) l.length (l.map (.int .i64))) := Lib.hid (by rw [← hw]; exact own_set (own_gr HO6.out (by omega) hst.grown) (by omega) _ _)
 rw [hw]
 clear hw hst hc hf hz6 HB6 HZ6 HO6
 go_upto_region 10 with (go_at_call 63; refine (num_any b _ _ HS7.out.st (HTB.out.below HS7.out.bel)).mono ?_; rintro e v8 (⟨n8, R8, _, rfl, hn8, rfl, rfl, hst⟩ | ⟨hno, rfl, hg⟩); have hc := (HB7.out.kept hst.grown (by intro e; injection e with e; omega)).cell (j := 14) rfl; have hf := (HB7.out.kept hst.grown (by intro e; injection e with e; omega)).frozen 14)
 rotate_left
 ·refine ⟨rfl, .inr ⟨fun t R' ⟨q0, ⟨_, q2, q3, q4, q5, q6, q7, q8⟩, q1⟩ e => ?_, rfl, HS7.out.grown.trans hg⟩⟩
  simp only [orderW, List.cons_append, List.nil_append, List.cons.injEq] at e
  exact hno _ _ (q8) (e.2.2.2.2.2.2.2.2)
 obtain ⟨w8, hw⟩ : ∃ W, v8.setCell ⟨w.heap.size + 1, 14, none⟩ (.int .i64 n8) = W := ⟨_, rfl⟩
 have HS8 : Hid (RS w b R8 w8) := Lib.hid (by rw [← hw]; exact (HS7.out.next hst).set (by omega) _ _)
 have HB8 := Lib.hid (show Blk w8 (w.heap.size + 1) 66 ((((((setL (setL (((OrdCells zOr none 0).set 0 (.string ⟨x.toArray⟩)).set 1 (.slice AA l.length dd)) 2 (StpCells p1)) 6 (StpCells p2)).set 10 (.int .i64 n4)).set 11 (.int .i64 n5)).set 12 (.int .i64 n6)).set 13 (.int .i64 n7)).set 14 (.int .i64 n8)) by rw [← hw]; exact (HB7.out.kept hst.grown (by intro e; injection e with e; omega)).set 14 _)
 have HZ8 := Lib.hid (show Blk w8 w.heap.size 66 (OrdCells zOr none 0) by rw [← hw]; exact (Below.heap_setCell _ _ _ _ (show w.heap.size ≠ w.heap.size + 1 by omega)).trans (HZ7.out.kept hst.grown (by intro e; injection e with e; omega)))
 have hz8 : w.heap.size + 2 ≤ w8.heap.size := by rw [← hw]; simp only [World.setCell, Array.size_modify]; exact Nat.le_trans hz7 hst.size
 have HO8 : Hid (w8.ownsRow (w.heap.size + 2) 3 1 (.slice AA l.length dd) l.length (l.map (.int .i64))) := Lib.hid (by rw [← hw]; exact own_set (own_gr HO7.out (by omega) hst.grown) (by omega) _ _)
 rw [hw]
 clear hw hst hc hf hz7 HB7 HZ7 HO7
 go_upto_region 12 with (go_at_call 62; refine (word_any b _ _ HS8.out.st).mono ?_; rintro e v9 (⟨y, R9, _, rfl, hy, rfl, rfl, hst⟩ | ⟨hno, rfl, hg⟩))
 rotate_left
 ·refine ⟨rfl, .inr ⟨fun t R' ⟨q0, ⟨_, q2, q3, q4, q5, q6, q7, q8⟩, q1⟩ e => ?_, rfl, HS8.out.grown.trans hg⟩⟩
  simp only [orderW, List.cons_append, List.nil_append, List.cons.injEq] at e
  exact hno _ _ (state_word _) e.2.2.2.2.2.2.2.2.2
 have HS9 := Lib.hid (HS8.out.next hst)
 have HB9 := Lib.hid (HB8.out.kept hst.grown (by intro e; injection e with e; omega))
 have HZ9 := Lib.hid (HZ8.out.kept hst.grown (by intro e; injection e with e; omega))
 have HO9 := Lib.hid (own_gr HO8.out (by omega) hst.grown)
 have hz9 : w.heap.size + 2 ≤ v9.heap.size := Nat.le_trans hz8 hst.size
 clear hst HB8 HZ8 HO8 hz8
 by_cases h1 : y = [111, 110]
 ·subst h1
  obtain ⟨t, ht⟩ : ∃ t : Ord, t = ⟨⟨x.toArray⟩, l, p1, p2, n4, n5, n6, n7, n8, false⟩ := ⟨_, rfl⟩
  have HTW : Hid (x :: listF l :: stopF p1 :: stopF p2 :: Lib.itoa n4 :: Lib.itoa n5 :: Lib.itoa n6 :: Lib.itoa n7 :: Lib.itoa n8 :: stateW false :: R9 = orderW t ++ R9) := Lib.hid (by rw [ht]; simp [orderW])
  have HBT : Hid (Blk v9 (w.heap.size + 1) 66 (OrdCells t AA dd)) := Lib.hid (by rw [ht]; exact HB9.out)
  have hxz := HLN.out x (by simp)
  have HTO : Hid (ordOk t) := Lib.hid (by rw [ht]; exact ⟨by simpa using hx, ⟨by show (⟨x.toArray⟩ : ByteArray).size ≤ _; simp [ByteArray.size]; omega, hp1, hp2, hn4, hn5, hn6, hn7, hn8⟩, hl⟩)
  have HTC : Hid (t.load = l) := Lib.hid (by rw [ht])
  clear ht hxz
  go_wp2_with (first
   | ((with_reducible refine wpList_loadG sOrd _ rfl ⟨w.heap.size + 1, 0, none⟩ (OrdCells t AA dd) ?_ ?_ ?_ ?_ ?_); exact rfl; exact rfl; exact HBT.out.cells; exact rfl)
   | ((with_reducible refine wpList_storeL sOrd rfl _ _ rfl w.heap.size (OrdCells zOr none 0) (OrdCells t AA dd) ?_ ?_ ?_ ?_ ?_ (ord_one _ _ _) ?_); exact rfl; exact rfl; exact HZ9.out; exact rfl; exact rfl; intro wz k1 k2 k3 k4; have K := lib.h4 k1 k2 k3 k4; clear k1 k2 k3 k4))
  refine bodyPost_ret (v := .agg (OrdCells t AA dd).toArray) (big.res_cell sOrd Tryz.results66 rfl (Blk.cells K.out.1) rfl) rfl ?_
  refine .inl ⟨t, R9, _, HTW.out, HTO.out, rfl, ⟨AA, dd, rfl, ?_⟩, (HS9.out).store (Nat.le_refl _) K.out.2.1 K.out.2.2.2⟩
  rw [HTC.out]
  exact own_less (own_heap (HO9.out) (fun k hk => K.out.2.1 k (by omega))) (by omega)
 by_cases h2 : y = [111, 102, 102]
 ·subst h2
  have hc := HB9.out.cell (j := 15) rfl
  have hf := HB9.out.frozen 15
  go_upto_region 15 with fail
  obtain ⟨w10, hw⟩ : ∃ W, v9.setCell ⟨w.heap.size + 1, 15, none⟩ (.bool true) = W := ⟨_, rfl⟩
  have HS10 : Hid (RS w b R9 w10) := Lib.hid (by rw [← hw]; exact HS9.out.set (by omega) _ _)
  have HB10 := Lib.hid (show Blk w10 (w.heap.size + 1) 66 (((((((setL (setL (((OrdCells zOr none 0).set 0 (.string ⟨x.toArray⟩)).set 1 (.slice AA l.length dd)) 2 (StpCells p1)) 6 (StpCells p2)).set 10 (.int .i64 n4)).set 11 (.int .i64 n5)).set 12 (.int .i64 n6)).set 13 (.int .i64 n7)).set 14 (.int .i64 n8)).set 15 (.bool true)) by rw [← hw]; exact HB9.out.set 15 _)
  have HZ10 := Lib.hid (show Blk w10 w.heap.size 66 (OrdCells zOr none 0) by rw [← hw]; exact (Below.heap_setCell _ _ _ _ (show w.heap.size ≠ w.heap.size + 1 by omega)).trans HZ9.out)
  have HO10 : Hid (w10.ownsRow (w.heap.size + 2) 3 1 (.slice AA l.length dd) l.length (l.map (.int .i64))) := Lib.hid (by rw [← hw]; exact own_set HO9.out (by omega) _ _)
  rw [hw]
  clear hw hc hf
  obtain ⟨t, ht⟩ : ∃ t : Ord, t = ⟨⟨x.toArray⟩, l, p1, p2, n4, n5, n6, n7, n8, true⟩ := ⟨_, rfl⟩
  have HTW : Hid (x :: listF l :: stopF p1 :: stopF p2 :: Lib.itoa n4 :: Lib.itoa n5 :: Lib.itoa n6 :: Lib.itoa n7 :: Lib.itoa n8 :: stateW true :: R9 = orderW t ++ R9) := Lib.hid (by rw [ht]; simp [orderW])
  have HBT : Hid (Blk w10 (w.heap.size + 1) 66 (OrdCells t AA dd)) := Lib.hid (by rw [ht]; exact HB10.out)
  have hxz := HLN.out x (by simp)
  have HTO : Hid (ordOk t) := Lib.hid (by rw [ht]; exact ⟨by simpa using hx, ⟨by show (⟨x.toArray⟩ : ByteArray).size ≤ _; simp [ByteArray.size]; omega, hp1, hp2, hn4, hn5, hn6, hn7, hn8⟩, hl⟩)
  have HTC : Hid (t.load = l) := Lib.hid (by rw [ht])
  clear ht hxz
  go_wp2_with (first
   | ((with_reducible refine wpList_loadG sOrd _ rfl ⟨w.heap.size + 1, 0, none⟩ (OrdCells t AA dd) ?_ ?_ ?_ ?_ ?_); exact rfl; exact rfl; exact HBT.out.cells; exact rfl)
   | ((with_reducible refine wpList_storeL sOrd rfl _ _ rfl w.heap.size (OrdCells zOr none 0) (OrdCells t AA dd) ?_ ?_ ?_ ?_ ?_ (ord_one _ _ _) ?_); exact rfl; exact rfl; exact HZ10.out; exact rfl; exact rfl; intro wz k1 k2 k3 k4; have K := lib.h4 k1 k2 k3 k4; clear k1 k2 k3 k4))
  refine bodyPost_ret (v := .agg (OrdCells t AA dd).toArray) (big.res_cell sOrd Tryz.results66 rfl (Blk.cells K.out.1) rfl) rfl ?_
  refine .inl ⟨t, R9, _, HTW.out, HTO.out, rfl, ⟨AA, dd, rfl, ?_⟩, (HS10.out).store (Nat.le_refl _) K.out.2.1 K.out.2.2.2⟩
  rw [HTC.out]
  exact own_less (own_heap (HO10.out) (fun k hk => K.out.2.1 k (by omega))) (by omega)
 have h1b : (y == [111, 110]) = false := beq_eq_false_iff_ne.2 h1
 have h2b : (y == [111, 102, 102]) = false := beq_eq_false_iff_ne.2 h2
 have HNE := Lib.hid (And.intro h1 h2)
 clear h1 h2
 go_wp2_with (go_at_call 67; refine (fail_any _).mono ?_; rintro e v10 ⟨rfl, rfl⟩)
 refine ⟨rfl, .inr ⟨fun t R' ⟨q0, ⟨_, q2, q3, q4, q5, q6, q7, q8⟩, q1⟩ e => ?_, rfl, HS9.out.grown⟩⟩
 simp only [orderW, List.cons_append, List.nil_append, List.cons.injEq] at e
 have h9 := e.2.2.2.2.2.2.2.2.2.1
 cases hq : t.off
 ·rw [hq] at h9; exact HNE.out.1 h9
 ·rw [hq] at h9; exact HNE.out.2 h9
end Go.Proofs.YthefooacfcagbaaGreatDoor.spc

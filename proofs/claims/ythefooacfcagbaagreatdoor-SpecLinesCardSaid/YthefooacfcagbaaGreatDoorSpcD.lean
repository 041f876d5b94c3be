/- spec's reader: failures, words, numbers. -/
import Derived.Test.YthefooacfcagbaaGreatDoorSpcA
import Derived.Test.YthefooacfcagbaaGreatDoorSpcM
import Derived.Test.YthefooacfcagbaaGreatDoorShelfS
namespace Go.Proofs.YthefooacfcagbaaGreatDoor.spc
open Go.RowKit
open Go.Proofs.YthefooacfcagbaaGreatDoor.lib Go.Proofs.YthefooacfcagbaaGreatDoor.rd Go.Proofs.YthefooacfcagbaaGreatDoor.app Go.Proofs.YthefooacfcagbaaGreatDoor.els Go.Proofs.YthefooacfcagbaaGreatDoor.typ Go.Proofs.YthefooacfcagbaaGreatDoor.big Go.Proofs.YthefooacfcagbaaGreatDoor.gen
open Go.Proofs.YthefooacfcagbaaGreatDoor.txt (in64 By strV strV_of decW decW_any Tabs elem_str toList_data push_one Strs numL number_any num_dec dec_num)
set_option linter.unusedVariables false
set_option linter.unusedSimpArgs false

/-- How a reading fails. -/
def pnV : PanicEntry := { v := .iface 107 (.agg #[]), recovered := false }
theorem fail_any (w : World) : Calls Tryz.prog 67 #[] w fun e w' => e = .panicked [pnV] ∧ w = w' := by
  go_enter Tryz.func67, Tryz.ntmps67
  go_wp2
  exact ⟨rfl, rfl, rfl⟩
set_option maxRecDepth 20000 in
theorem snum_any (s : ByteArray) (hm : s.size ≤ 100000) (w : World) (ht : Tabs w) :
    Calls Tryz.prog 99 #[.string s] w fun e w' => Below w.heap.size w w' ∧ ((∃ n : Int, s.data.toList = Lib.itoa n ∧ in64 n ∧ e = .returned (.int .i64 n)) ∨ ((∀ n, in64 n → s.data.toList ≠ Lib.itoa n) ∧ e = .panicked [pnV])) := by
  have hc := number_any s (by omega) w ht
  obtain ⟨p, hp⟩ : ∃ p, numL s.data.toList = p := ⟨_, rfl⟩
  rw [hp] at hc
  obtain ⟨n, f⟩ := p
  have HC := Lib.hid hc
  clear hc
  by_cases hf : f = 0
  · subst hf
    have HP := Lib.hid (dec_num hp)
    clear hp
    go_enter Tryz.func99, Tryz.ntmps99
    go_wp2_with (go_at_call 151; refine HC.out.mono ?_; rintro e w1 ⟨rfl, hb⟩)
    go_ret
    exact ⟨hb, .inl ⟨n, HP.out.1, HP.out.2, rfl⟩⟩
  · have HP : Hid (∀ n, in64 n → s.data.toList ≠ Lib.itoa n) := Lib.hid (fun m hm e => by
      rw [e, num_dec hm] at hp
      exact hf (congrArg Prod.snd hp).symm)
    have hf1 : (f != 0) = true := by simpa using hf
    clear hp
    go_enter Tryz.func99, Tryz.ntmps99
    go_wp2_with (first | (go_at_call 151; refine HC.out.mono ?_; rintro e w1 ⟨rfl, hb⟩) | (go_at_call 67; refine (fail_any _).mono ?_; rintro e w2 ⟨rfl, rfl⟩))
    exact ⟨rfl, hb, .inr ⟨HP.out, rfl⟩⟩

/-- A reader's box: it holds the words that are left. -/
def RdSt (w : World) (b : Nat) (R : List By) : Prop := ∃ (A : Option Addr) (n c : Nat), n = R.length ∧ n ≤ c ∧ Blk w b 111 [.slice A n c] ∧ Strs w b A R ∧ ∀ x ∈ R, x.length ≤ 100000 ∧ txt.partB x
theorem grown_below {w w' : World} {row : Option Nat} (hb : Below w.heap.size w w') : w.grownBy w' row := ⟨hb.os, hb.tape, hb.output, hb.size, fun k hk _ => hb.block k hk⟩
theorem below_grown {w w' : World} {b B : Nat} (h : w.grownBy w' (some b)) (hB : B ≤ w.heap.size) (hb : B ≤ b) : Below B w w' := (Below.refl B w).grown h hB (fun k e => by injection e with e; omega)
/-- Where a call that reads stands. -/
structure RS (w : World) (b : Nat) (R : List By) (wx : World) : Prop where
  st : RdSt wx b R
  grown : w.grownBy wx (some b)
  lt : b < w.heap.size
section
variable {w w' wx wy : World} {b : Nat} {R R' : List By}
theorem RdSt.keep (h : RdSt w b R) (hk : ∀ p, p ≤ b → w'.heap[p]? = w.heap[p]?) : RdSt w' b R := by
  obtain ⟨A, n, c, h1, h2, h3, h4, h5⟩ := h
  exact ⟨A, n, c, h1, h2, (hk b (Nat.le_refl _)).trans h3, ⟨h4.1.keep fun p hp => World.cell?_of_block (hk _ (Nat.le_of_lt hp)), h4.2⟩, h5⟩
theorem RdSt.lt (h : RdSt w b R) : b < w.heap.size := by
  obtain ⟨A, n, c, h1, h2, h3, h4, h5⟩ := h
  exact h3.lt
theorem RdSt.below (h : RdSt w b R) (hb : Below w.heap.size w w') : RdSt w' b R := h.keep fun p hp => hb.block p (Nat.lt_of_le_of_lt hp h.lt)
theorem RS.start (h : RdSt w b R) : RS w b R w := ⟨h, World.grownBy.refl _ _, h.lt⟩
theorem RS.size (h : RS w b R wx) : w.heap.size ≤ wx.heap.size := h.grown.size
theorem RS.below (h : RS w b R wx) (hb : Below wx.heap.size wx wy) : RS w b R wy := ⟨h.st.below hb, h.grown.trans (grown_below hb), h.lt⟩
theorem RS.next (h : RS w b R wx) (h' : RS wx b R' wy) : RS w b R' wy := ⟨h'.st, h.grown.trans h'.grown, h.lt⟩
theorem RS.alloc (h : RS w b R wx) (o : Obj) : RS w b R (wx.alloc o) := h.below ((Below.refl _ _).alloc (Nat.le_refl _) o)
theorem RS.drew (h : RS w b R wx) : RS w b R wx.drew := h.below (Below.refl _ _).drew
theorem grown_set (h : w.grownBy wx (some b)) {q : Nat} (hq : w.heap.size ≤ q) (i : Nat) (u : Value) : w.grownBy (wx.setCell ⟨q, i, none⟩ u) (some b) :=
  ⟨h.os, h.tape, h.output, Nat.le_trans h.size (by simp [World.setCell]), fun k hk hne => (Below.heap_setCell wx ⟨q, i, none⟩ u k (show k ≠ q by omega)).trans (h.block k hk hne)⟩
theorem RS.set (h : RS w b R wx) {q : Nat} (hq : w.heap.size ≤ q) (i : Nat) (u : Value) : RS w b R (wx.setCell ⟨q, i, none⟩ u) :=
  ⟨h.st.keep fun p hp => Below.heap_setCell wx ⟨q, i, none⟩ u p (show p ≠ q by have := h.lt; omega), grown_set h.grown hq i u, h.lt⟩
theorem RS.grow (h : RS w b R wx) {row : Option Nat} (hg : wx.grownBy wy row) (hr : ∀ k, row = some k → w.heap.size ≤ k) : RS w b R wy :=
  ⟨h.st.keep fun p hp => hg.block p (Nat.lt_of_le_of_lt hp h.st.lt) (fun e => by have := hr p e.symm; have := h.lt; omega), ⟨hg.os.trans h.grown.os, hg.tape.trans h.grown.tape, hg.output.trans h.grown.output, Nat.le_trans h.size hg.size, fun k hk hne => (hg.block k (Nat.lt_of_lt_of_le hk h.size) (fun e => by have := hr k e.symm; omega)).trans (h.grown.block k hk hne)⟩, h.lt⟩
end
/-- One word is read, as a thing of some kind; or the reading fails. -/
def OneR {α : Type} (W : α → By) (ok : α → Prop) (Q : α → Value → World → World → Prop) (b : Nat) (R : List By) (w : World) (e : Ending) (w' : World) : Prop :=
  (∃ a R' v, R = W a :: R' ∧ ok a ∧ e = .returned v ∧ Q a v w w' ∧ RS w b R' w') ∨ ((∀ a R', ok a → R ≠ W a :: R') ∧ e = .panicked [pnV] ∧ w.grownBy w' (some b))
def freeB (x : By) : Prop := x.head? ≠ some 34
theorem word_free {x : By} (h : txt.wordB x = true) : freeB x := fun e => by
  cases x with
  | nil => cases e
  | cons c t =>
    have h1 := txt.word_all h
    rw [List.all_cons, Bool.and_eq_true] at h1
    obtain rfl := Option.some.inj e
    exact absurd h1.1 (by decide)
theorem add_one (ad : Addr) (j : Nat) : (⟨ad.block, ad.off + 1, none⟩ : Addr).add j = ad.add (j + 1) := by
  cases j with
  | zero => simp [Addr.add]
  | succ j => simp [Addr.add]; omega
theorem pre34 (x : By) : Lib.hasPrefix x [34] = decide (x.head? = some 34) := by
  unfold Lib.hasPrefix
  cases x with
  | nil => rfl
  | cons c t =>
    show (34 == c && true) = _
    rw [Bool.and_true, Bool.eq_iff_iff, beq_iff_eq, decide_eq_true_iff, List.head?_cons, Option.some.injEq]
    exact eq_comm
abbrev WordR (b : Nat) (R : List By) (w : World) := OneR (fun x : By => x) (fun x => txt.wordB x = true) (fun x v _ _ => v = .string ⟨x.toArray⟩) b R w
set_option maxRecDepth 20000 in
theorem word_any (b : Nat) (R : List By) (w : World) (h : RdSt w b R) :
    Calls Tryz.prog 62 #[.pointer (some ⟨b, 0, none⟩)] w (WordR b R w) := by
  have HS := Lib.hid h
  obtain ⟨A, n, c, hn, hc, hB, hL, hsz⟩ := h
  have c0 := hB.cell (j := 0) rfl
  have f0 := hB.frozen 0
  have HL := Lib.hid hL
  cases R with
  | nil =>
    have hn0 : n = 0 := hn
    subst hn0
    clear hn hB hL hsz
    go_enter Tryz.func62, Tryz.ntmps62
    go_wp2_with (go_at_call 67; refine (fail_any _).mono ?_; rintro e w2 ⟨rfl, rfl⟩)
    exact ⟨rfl, .inr ⟨fun a R' _ e => (by cases e), rfl, World.grownBy.refl _ _⟩⟩
  | cons x R =>
    obtain ⟨ad, y, hA, hadb, hy, hcell⟩ := hL.at_ (k := 0) (Nat.zero_lt_succ _)
    obtain rfl : x = y := Option.some.inj hy
    subst hA
    have hcx : w.cell? ad = some (.string ⟨x.toArray⟩) := by simpa [Addr.add] using hcell
    have hn1 : n = R.length + 1 := hn
    have hn0 : ¬ (n : Int) = 0 := by omega
    have hnb : ((n : Int) == 0) = false := by simpa using hn0
    obtain ⟨A', hA'⟩ : ∃ A' : Option Addr, (if c = 1 then some ad else some ⟨ad.block, ad.off + 1, none⟩) = A' := ⟨_, rfl⟩
    obtain ⟨W1, hW1⟩ : ∃ W1, w.setCell ⟨b, 0, none⟩ (.slice A' R.length (c - 1)) = W1 := ⟨_, rfl⟩
    have HW1 := Lib.hid hW1
    have HA' := Lib.hid hA'
    have HPT := Lib.hid (hsz x (List.mem_cons_self ..)).2
    have HST : Hid (RS w b R W1) := Lib.hid (by
      refine ⟨⟨A', R.length, c - 1, rfl, by omega, by rw [← hW1]; exact hB.set 0 _, ?_, fun y hy => hsz y (List.mem_cons_of_mem _ hy)⟩, ?_, hB.lt⟩
      · refine ⟨?_, by have := hL.2; rw [List.length_cons] at this; omega⟩
        refine Reads.keep (w := w) ?_ (fun p hp => by rw [← hW1]; exact World.cell?_of_block (Below.heap_setCell w ⟨b, 0, none⟩ _ _ (Nat.ne_of_lt hp)))
        refine ⟨by simp, fun h0 => ?_⟩
        have hc1 : ¬ c = 1 := by omega
        rw [if_neg hc1] at hA'
        refine ⟨⟨ad.block, ad.off + 1, none⟩, hA'.symm, hadb, fun j u hu => ?_⟩
        obtain ⟨ad2, e2, _, hc2⟩ := hL.1.2 (Nat.zero_lt_succ _)
        obtain rfl := Option.some.inj e2
        have := hc2 (j + 1) u (by rw [List.map_cons]; exact hu)
        rw [add_one]
        exact this
      · rw [← hW1]
        exact ⟨rfl, rfl, rfl, by simp [World.setCell], fun k hk hne => Below.heap_setCell w ⟨b, 0, none⟩ _ k (fun e => hne (by rw [e]))⟩)
    have hpre : Lib.hasPrefix x [34] = decide (x.head? = some 34) := pre34 x
    obtain ⟨q, hq⟩ : ∃ q, Lib.hasPrefix x [34] = q := ⟨_, rfl⟩
    have HPC : Hid (∀ w, Calls Tryz.prog 98 #[.string ⟨x.toArray⟩, .string ⟨#[34]⟩] w fun e w' => e = .returned (.bool q) ∧ w' = w) := Lib.hid (fun w => by
      have h := Tryz.strings_HasPrefix ⟨x.toArray⟩ ⟨#[34]⟩ w
      rw [show (⟨x.toArray⟩ : ByteArray).data.toList = x by simp, show (⟨#[34]⟩ : ByteArray).data.toList = [34] from rfl, hq] at h
      exact h)
    have HQ : Hid (q = true ↔ x.head? = some 34) := Lib.hid (by rw [← hq, hpre, decide_eq_true_iff])
    have hc1 : 1 ≤ c := by omega
    have hcn : (1 : Int) ≤ (n : Int) := by omega
    clear hn hB hL hsz hcell hy hq hpre hA' hW1
    go_enter Tryz.func62, Tryz.ntmps62
    go_upto_region 5 with fail
    rw [HA'.out, HW1.out]
    clear HA' HW1
    cases q
    · have hfr : ¬ x.head? = some 34 := fun e => by have := HQ.out.2 e; cases this
      have HFR := Lib.hid hfr
      clear hfr
      go_wp2_with (go_at_call 98; refine (HPC.out _).mono ?_; rintro e w2 ⟨rfl, rfl⟩)
      go_ret
      exact .inl ⟨x, R, _, rfl, (by rcases HPT.out with h | h; exact h; exact absurd h HFR.out), rfl, rfl, HST.out⟩
    · have hfr : x.head? = some 34 := HQ.out.1 rfl
      have HFR := Lib.hid hfr
      clear hfr
      go_wp2_with (first | (go_at_call 98; refine (HPC.out _).mono ?_; rintro e w2 ⟨rfl, rfl⟩) | (go_at_call 67; refine (fail_any _).mono ?_; rintro e w3 ⟨rfl, rfl⟩))
      exact ⟨rfl, .inr ⟨fun a R' hf e => (by injection e with e1 e2; subst e1; exact word_free hf HFR.out), rfl, HST.out.grown⟩⟩
end Go.Proofs.YthefooacfcagbaaGreatDoor.spc

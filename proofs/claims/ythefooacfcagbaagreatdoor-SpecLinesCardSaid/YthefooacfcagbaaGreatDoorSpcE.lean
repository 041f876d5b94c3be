/- spec's reader: numbers and lists. -/
import Derived.Test.YthefooacfcagbaaGreatDoorSpcD
import Derived.Test.YthefooacfcagbaaGreatDoorSpcC
namespace Go.Proofs.YthefooacfcagbaaGreatDoor.spc
open Go.RowKit
open Go.Proofs.YthefooacfcagbaaGreatDoor.lib Go.Proofs.YthefooacfcagbaaGreatDoor.rd Go.Proofs.YthefooacfcagbaaGreatDoor.app Go.Proofs.YthefooacfcagbaaGreatDoor.els Go.Proofs.YthefooacfcagbaaGreatDoor.typ Go.Proofs.YthefooacfcagbaaGreatDoor.big Go.Proofs.YthefooacfcagbaaGreatDoor.gen
open Go.Proofs.YthefooacfcagbaaGreatDoor.txt (in64 By strV strV_of decW decW_any Tabs elem_str toList_data push_one Strs numL number_any num_dec dec_num)
set_option linter.unusedVariables false
set_option linter.unusedSimpArgs false

/-- The library's tables stand, and stay as long as the blocks below B do. -/
def TabsAt (B : Nat) (w : World) : Prop := ∀ w', Below B w w' → TabS w'
theorem TabS.at_ {w : World} (h : TabS w) : TabsAt w.heap.size w := fun w' hb => h.below hb
theorem TabsAt.below {B : Nat} {w w' : World} (h : TabsAt B w) (hb : Below B w w') : TabsAt B w' := fun w'' h' => h _ (hb.trans h')
theorem TabsAt.more {B B' : Nat} {w : World} (h : TabsAt B w) (hB : B ≤ B') : TabsAt B' w := fun w' h' => h w' (h'.mono hB)
theorem TabsAt.now {B : Nat} {w : World} (h : TabsAt B w) : TabS w := h _ (Below.refl _ _)
theorem RS.bel {w wx : World} {b : Nat} {R : List By} (h : RS w b R wx) : Below b w wx := below_grown h.grown (Nat.le_of_lt h.lt) (Nat.le_refl _)
theorem RdSt.len {w : World} {b : Nat} {R : List By} (h : RdSt w b R) : ∀ x ∈ R, x.length ≤ 100000 := by
  obtain ⟨A, n, c, h1, h2, h3, h4, h5⟩ := h
  exact fun x hx => (h5 x hx).1
theorem itoa_free (n : Int) : freeB (Lib.itoa n) := word_free (itoa_word n)
abbrev NumR (b : Nat) (R : List By) (w : World) := OneR Lib.itoa in64 (fun n v _ _ => v = .int .i64 n) b R w
set_option maxRecDepth 20000 in
theorem num_any (b : Nat) (R : List By) (w : World) (h : RdSt w b R) (ht : TabsAt b w) :
    Calls Tryz.prog 63 #[.pointer (some ⟨b, 0, none⟩)] w (NumR b R w) := by
  have HH := Lib.hid h
  have HTB := Lib.hid ht
  clear h ht
  go_enter Tryz.func63, Tryz.ntmps63
  go_wp2_with (first
    | (go_at_call 62; refine (word_any b R _ HH.out).mono ?_; rintro e w1 (⟨x, R', _, rfl, hfr, rfl, rfl, hst⟩ | ⟨hno, rfl, hg⟩))
    | (go_at_call 99; refine (snum_any _ (by have := HH.out.len x (List.mem_cons_self ..); simpa [ByteArray.size] using this) _ (HTB.out _ hst.bel).tabs).mono ?_; rintro e w2 ⟨hb, ⟨n, hx, h64, rfl⟩ | ⟨hno, rfl⟩⟩))
  · go_ret
    have hx' : x = Lib.itoa n := by simpa using hx
    exact .inl ⟨n, R', _, by rw [hx'], h64, rfl, rfl, hst.below hb⟩
  · refine ⟨rfl, .inr ⟨fun n R2 h64 e => ?_, rfl, (hst.below hb).grown⟩⟩
    injection e with e1 e2
    exact hno n h64 (by simpa using e1)
  · exact ⟨rfl, .inr ⟨fun n R2 h64 e => hno _ R2 (itoa_word n) e, rfl, hg⟩⟩
/-- Numbers with a separator between them. -/
def NsOut (c : UInt8) (x : By) (w : World) (e : Ending) (w' : World) : Prop := Below w.heap.size w w' ∧ ((∃ (l : List Int) (A : Option Addr) (d : Nat), readF (splt c x) = some l ∧ e = .returned (.slice A l.length d) ∧ w'.ownsRow w.heap.size 3 1 (.slice A l.length d) l.length (l.map (.int .i64))) ∨ (readF (splt c x) = none ∧ e = .panicked [pnV]))
theorem count_data (s : ByteArray) (c : UInt8) (l : By) (h : s.data.toList = l) : Lib.countB s ⟨#[c]⟩ = l.count c := by
  have e : Lib.countB s ⟨#[c]⟩ = Lib.count s.data.toList [c] := rfl
  rw [e, h, Lib.count_one]
theorem split_data (s : ByteArray) (c : UInt8) (l : By) (h : s.data.toList = l) : (Lib.splitB ⟨#[c]⟩ 0 (Lib.countB s ⟨#[c]⟩) s).map Value.string = (splt c l).map strV := by
  have h1 := Lib.splitB_data ⟨#[c]⟩ 0 (Lib.countB s ⟨#[c]⟩) s
  rw [h, count_data s c l h, show (⟨#[c]⟩ : ByteArray).data.toList = [c] from rfl, splitK_splt] at h1
  rw [count_data s c l h, ← h1, List.map_map]
  refine List.map_congr_left fun x _ => ?_
  show Value.string x = strV x.data.toList
  exact strV_of x
theorem splt_len (c : UInt8) : ∀ l : By, (splt c l).length = l.count c + 1 ∧ ∀ x ∈ splt c l, x.length ≤ l.length
  | [] => ⟨rfl, fun x hx => by simp [splt] at hx; subst hx; simp⟩
  | y :: l => by
    obtain ⟨h1, h2⟩ := splt_len c l
    have hne := splt_ne c l
    by_cases hy : y = c
    · subst hy
      rw [splt, if_pos rfl, List.count_cons_self, List.length_cons, h1]
      refine ⟨rfl, fun x hx => ?_⟩
      rcases List.mem_cons.1 hx with rfl | hx
      · exact Nat.zero_le _
      · exact Nat.le_succ_of_le (h2 x hx)
    · rw [splt, if_neg hy, List.count_cons_of_ne hy]
      cases hs : splt c l with
      | nil => exact absurd hs hne
      | cons p ps =>
        rw [hs] at h1 h2
        refine ⟨h1, fun x hx => ?_⟩
        rcases List.mem_cons.1 hx with rfl | hx
        · exact Nat.succ_le_succ (h2 p (List.mem_cons_self ..))
        · exact Nat.le_succ_of_le (h2 x (List.mem_cons_of_mem _ hx))
theorem ssplit_any (c : UInt8) (x : By) (hm : x.length ≤ 100000) (w : World) (ht : TabS w) :
    Calls Tryz.prog 100 #[.string ⟨x.toArray⟩, .string ⟨#[c]⟩] w fun e w' => ∃ n : Nat, n = (splt c x).length ∧ e = .returned (.slice (some ⟨w.heap.size, 0, none⟩) n n) ∧ Blk w' w.heap.size 9 ((splt c x).map strV) ∧ Below w.heap.size w w' := by
  obtain ⟨m, hm0⟩ := ht.max
  have hd : (⟨x.toArray⟩ : ByteArray).data.toList = x := by simp
  have hz : (⟨x.toArray⟩ : ByteArray).size = x.length := by simp [ByteArray.size]
  have h := Tryz.strings_Split ⟨x.toArray⟩ ⟨#[c]⟩ m w (by rw [hz]; omega) hm0 (Nat.le_refl 1)
  rw [split_data _ c x hd, count_data _ c x hd] at h
  refine h.mono ?_
  rintro e w' ⟨rfl, rfl⟩
  exact ⟨x.count c + 1, (splt_len c x).1.symm, rfl, Blk.new w _ _, (Below.refl _ _).alloc (Nat.le_refl _) _⟩
theorem readF_cons (x : By) (r : List By) : readF (x :: r) = if (numL x).2 = 0 then (match readF r with | none => none | some l => some ((numL x).1 :: l)) else none := rfl
/-- Numbers read as far as k. -/
theorem readF_bad {L : List By} {k : Nat} {x : By} (h : L[k]? = some x) (hx : ∀ n, in64 n → x ≠ Lib.itoa n) : readF L = none := by
  cases hr : readF L with
  | none => rfl
  | some l =>
    have h1 := dec_readF hr
    have h2 := (readF_len hr).2
    rw [h1, List.getElem?_map] at h
    cases hl : l[k]? with
    | none => rw [hl] at h; cases h
    | some n =>
      rw [hl] at h
      exact absurd (Option.some.inj h).symm (hx n (h2 n (List.mem_of_getElem? hl)))
set_option maxRecDepth 20000 in
set_option maxHeartbeats 1000000 in
theorem nums_any (c : UInt8) (x : By) (hm : x.length ≤ 100000) (w : World) (ht : TabS w) :
    Calls Tryz.prog 101 #[.string ⟨x.toArray⟩, .string ⟨#[c]⟩] w (NsOut c x w) := by
  obtain ⟨L, hL⟩ : ∃ L, splt c x = L := ⟨_, rfl⟩
  have HLL : Hid (∀ y ∈ L, y.length ≤ 100000) := Lib.hid (fun y hy => by have := (splt_len c x).2 y (by rw [hL]; exact hy); omega)
  have hLn : L.length ≤ 100001 := by have := (splt_len c x).1; have h2 := List.count_le_length (a := c) (l := x); rw [hL] at this; omega
  have HSP := Lib.hid (ssplit_any c x hm w ht)
  have HTB := Lib.hid ht.at_
  have HG : Hid (∀ e w', (Below w.heap.size w w' ∧ ((∃ (l : List Int) (A : Option Addr) (d : Nat), readF L = some l ∧ e = .returned (.slice A l.length d) ∧ w'.ownsRow w.heap.size 3 1 (.slice A l.length d) l.length (l.map (.int .i64))) ∨ (readF L = none ∧ e = .panicked [pnV]))) → NsOut c x w e w') := Lib.hid (fun e w' h => by unfold NsOut; rw [hL]; exact h)
  rw [hL] at HSP
  clear ht hL
  go_enter Tryz.func101, Tryz.ntmps101
  go_upto_region 3 with (go_at_call 100; refine HSP.out.mono ?_; rintro e w1 ⟨n, hn, rfl, hblk, hb1⟩; have HN := Lib.hid hn; have hn1 : n ≤ 100001 := (by omega); clear hn)
  have HBK := Lib.hid hblk
  have HB1 := Lib.hid hb1
  have hz1 := hblk.lt
  clear hblk hb1 HSP
  go_loopw [5, 12] (fun pv i wr => Below w.heap.size w wr ∧ Below (w.heap.size + 1) w1 wr ∧ ∃ (k d : Nat) (A : Option Addr) (l : List Int), k ≤ n ∧ i = .int .i64 k ∧ pv = .slice A k d ∧ l.length = k ∧ Hid (L.take k = l.map Lib.itoa ∧ (∀ y ∈ l, in64 y)) ∧ Hid (wr.ownsRow (w.heap.size + 1) 3 1 (.slice A k d) k (l.map (.int .i64)))) (fun _ i _ => n - (intOf i).toNat)
  case atStart => exact ⟨HB1.out, Below.refl _ _, 0, 0, none, [], by omega, rfl, rfl, rfl, Lib.hid ⟨rfl, fun y hy => by cases hy⟩, Lib.hid (World.ownsRow_nil _ _ _ _)⟩
  case round =>
    obtain ⟨hb, hb', k, d, A, l, hk, rfl, rfl, hlk, hpre, hrow⟩ := hrel
    have HBV := Lib.hid hb
    have HBW := Lib.hid hb'
    have hbz := hb.size
    have hbz' := hb'.size
    by_cases hlt : k < n
    · obtain ⟨y, hy⟩ : ∃ y, L[k]? = some y := ⟨_, List.getElem?_eq_getElem (by rw [← HN.out]; exact hlt)⟩
      have hcell : wr.cell? ⟨w.heap.size, k, none⟩ = some (.string ⟨y.toArray⟩) := by
        have h1 := HBK.out.cell (j := k) (u := strV y) (by rw [List.getElem?_map, hy]; rfl)
        exact (hb'.cell (p := ⟨w.heap.size, k, none⟩) (Nat.lt_succ_self _)).trans h1
      have hyl := HLL.out y (List.mem_of_getElem? hy)
      have HY := Lib.hid hy
      have HTr := Lib.hid ((HTB.out).below hb).now
      have hkn : (k : Int) < (n : Int) := by omega
      have hk0 : (0 : Int) ≤ (k : Int) := by omega
      clear hy hb hb'
      go_upto_region 5 with fail
      have hsn := snum_any ⟨y.toArray⟩ (by simpa [ByteArray.size] using hyl) wr HTr.out.tabs
      go_wp2_with (first
        | (go_at_call 99; refine hsn.mono ?_; rintro e w2 ⟨hb2, ⟨z, hx, h64, rfl⟩ | ⟨hno, rfl⟩⟩; try (have HX := Lib.hid hx; clear hx))
        | (at_builtin; refine push_int rfl _ _ rfl (w.heap.size + 1) _ k l rfl (own_below hrow.out hb2) z rfl (by omega) (by have := hb2.size; omega) ?_; intro g' c' w3 hown3 hb4 hz4))
      · go_roundw
        case rel =>
          refine ⟨(HBV.out.trans (hb2.mono hbz)).trans (hb4.mono (by omega)), (HBW.out.trans (hb2.mono (by omega))).trans hb4, k + 1, c', g', l ++ [z], by omega, by go_num, rfl, by simp [hlk], Lib.hid ⟨?_, ?_⟩, Lib.hid hown3⟩
          · have hx' : y = Lib.itoa z := by simpa using HX.out
            rw [List.take_add_one, HY.out, hpre.out.1, hx', List.map_append]
            rfl
          · intro u hu
            rcases List.mem_append.1 hu with hu | hu
            · exact hpre.out.2 u hu
            · rw [List.mem_singleton] at hu
              subst hu
              exact h64
        case measure => simp [intOf]; omega
      · refine ⟨rfl, HG.out _ _ ⟨HBV.out.trans (hb2.mono hbz), .inr ⟨readF_bad HY.out fun m hm e => hno m hm (by simpa using e), rfl⟩⟩⟩
    · have hkn : ¬ (k : Int) < (n : Int) := by omega
      have hke : k = n := by omega
      subst hke
      have HF : Hid (readF L = some l) := Lib.hid (by
        have h1 := hpre.out.1
        rw [List.take_of_length_le (by rw [← HN.out]; exact Nat.le_refl _)] at h1
        rw [h1]
        exact readF_dec hpre.out.2)
      have HO : Hid (wr.ownsRow w.heap.size 3 1 (.slice A l.length d) l.length (l.map (.int .i64))) := Lib.hid (by rw [hlk]; exact own_less hrow.out (Nat.le_succ _))
      have HLK := Lib.hid hlk
      clear hlk hpre hrow
      go_wp2
      go_ret
      exact HG.out _ _ ⟨HBV.out, .inl ⟨l, A, d, HF.out, by rw [HLK.out]; rfl, HO.out⟩⟩
abbrev IntsR (l : List Int) (v : Value) (w w' : World) : Prop := ∃ A d, v = .slice A l.length d ∧ w'.ownsRow w.heap.size 3 1 (.slice A l.length d) l.length (l.map (.int .i64))
theorem listF_free (l : List Int) : freeB (listF l) := word_free (listF_word l)
set_option maxRecDepth 20000 in
theorem rlist_any (b : Nat) (R : List By) (w : World) (h : RdSt w b R) (ht : TabsAt b w) :
    Calls Tryz.prog 102 #[.pointer (some ⟨b, 0, none⟩)] w (OneR listF (fun l => ∀ x ∈ l, in64 x) IntsR b R w) := by
  have HH := Lib.hid h
  have HTB := Lib.hid ht
  clear h ht
  go_enter Tryz.func102, Tryz.ntmps102
  go_upto_region 2 with (go_at_call 62; refine (word_any b R _ HH.out).mono ?_; rintro e w1 (⟨x, R', _, rfl, hfr, rfl, rfl, hst⟩ | ⟨hno, rfl, hg⟩))
  · have HST := Lib.hid hst
    clear hst
    have HTS := Lib.hid (HTB.out.below HST.out.bel).now
    have hxl := HH.out.len x (List.mem_cons_self ..)
    by_cases hx : x = [46]
    · subst hx
      go_wp2
      go_ret
      exact .inl ⟨[], R', _, rfl, fun y hy => (by cases hy), rfl, ⟨none, 0, rfl, World.ownsRow_nil _ _ _ _⟩, HST.out⟩
    · have hxb : (x == [46]) = false := beq_eq_false_iff_ne.2 hx
      have HX := Lib.hid (show listR x = readF (splt 44 x) by unfold listR; rw [if_neg hx])
      clear hfr
      go_wp2_with (go_at_call 101; refine (nums_any 44 x hxl w1 HTS.out).mono ?_; rintro e w2 ⟨hb, ⟨l, A, d, hr, rfl, hown⟩ | ⟨hr, rfl⟩⟩)
      · go_ret
        have h1 := listF_listR (HX.out.trans hr)
        exact .inl ⟨l, R', _, by rw [h1.1], h1.2, rfl, ⟨A, d, rfl, own_less hown HST.out.size⟩, HST.out.below hb⟩
      · refine ⟨rfl, .inr ⟨fun l R2 h64 e => ?_, rfl, (HST.out.below hb).grown⟩⟩
        injection e with e1 e2
        have h1 := HX.out.trans hr
        rw [e1, listR_listF h64] at h1
        cases h1
  · exact ⟨rfl, .inr ⟨fun l R2 h64 e => hno _ R2 (listF_word l) e, rfl, hg⟩⟩
end Go.Proofs.YthefooacfcagbaaGreatDoor.spc

/- event.Parse of the program. -/
import Derived.Test.YtofabhenmplkoaaGreatDoorPrsC
namespace Go.Proofs.YtofabhenmplkoaaGreatDoor.evt
open Go.RowKit
open Go.Proofs.YtofabhenmplkoaaGreatDoor.lib Go.Proofs.YtofabhenmplkoaaGreatDoor.rd Go.Proofs.YtofabhenmplkoaaGreatDoor.app Go.Proofs.YtofabhenmplkoaaGreatDoor.els Go.Proofs.YtofabhenmplkoaaGreatDoor.typ Go.Proofs.YtofabhenmplkoaaGreatDoor.big Go.Proofs.YtofabhenmplkoaaGreatDoor.ins Go.Proofs.YtofabhenmplkoaaGreatDoor.ord
open Go.Proofs.YtofabhenmplkoaaGreatDoor.gen hiding zOrd bOrd
open Go.Proofs.YtofabhenmplkoaaGreatDoor.off (setM step_storeM wpList_storeM intsOff_keep)
open Go.Proofs.YtofabhenmplkoaaGreatDoor.txt (in64 By strV strV_of joinS decW decW_any Tabs elem_str nameB name_any toList_data Strs numL number_any own_cap WordsOk WdOut words_any)
set_option linter.unusedVariables false
set_option linter.unusedSimpArgs false

theorem mem_lens : ∀ {L : List By} {x : By}, x ∈ L → x.length ≤ Lib.lens L
  | y :: L, x, h => by
    simp only [Lib.lens, List.map_cons, List.sum_cons]
    rcases List.mem_cons.1 h with rfl | h
    · omega
    · have := mem_lens h
      simp only [Lib.lens] at this
      omega
theorem mem_join {L : List By} {x : By} (h : x ∈ L) : x.length ≤ (joinS L).length := by
  cases L with
  | nil => cases h
  | cons y r =>
    have h1 := mem_lens h
    unfold joinS
    rw [Lib.join_length]
    omega
/-- What Parse answers. -/
def PsOut (s : By) (w : World) (en : Ending) (w' : World) : Prop := Below w.heap.size w w' ∧
  ((ParseOk s none ∧ en = .returned (.tuple #[.agg (EvtCells zE none 0).toArray, .int .i64 3])) ∨ ∃ (e : Evt) (C : Option Addr) (c : Nat), ParseOk s (some e) ∧ e.order.name.size ≤ 100000 ∧ e.order.load.length ≤ 3 ∧ en = .returned (.tuple #[.agg (EvtCells e C c).toArray, .int .i64 0]) ∧ IntsOff w' (fun b => w.heap.size ≤ b) C e.order.load)
theorem parse_name {L : List By} {e : Evt} (h : parseF L = some e) (hL : ∀ x ∈ L, x.length ≤ 100000) : e.order.name.size ≤ 100000 := by
  cases L with
  | nil => cases h
  | cons x r =>
    by_cases hr : r = []
    · rw [show parseF (x :: r) = none from if_pos hr] at h
      cases h
    · rw [parseF_cons x hr] at h
      split at h
      · obtain ⟨o, h1, h2⟩ := Option.bind_eq_some_iff.1 h
        unfold parse1 at h2
        split at h2
        · obtain rfl := Option.some.inj h2
          show o.name.size ≤ _
          cases hq : r.drop 1 with
          | nil => rw [hq] at h1; cases h1
          | cons y q =>
            rw [hq] at h1
            by_cases hq0 : q = []
            · rw [show readO (y :: q) = none from if_pos hq0] at h1
              cases h1
            · rw [readO_cons y hq0] at h1
              obtain ⟨n, h3, h4⟩ := Option.bind_eq_some_iff.1 h1
              obtain ⟨k, _, _, _, rfl⟩ := readN_some h4 (readF_len h3).2
              have h5 := hL y (List.mem_cons_of_mem _ (List.mem_of_mem_drop (by rw [hq]; exact List.mem_cons_self ..)))
              show y.toArray.size ≤ _
              simpa using h5
        · cases h2
      · obtain ⟨n, h1, h2⟩ := Option.bind_eq_some_iff.1 h
        unfold parse2 at h2
        split at h2
        · cases h2
        · obtain rfl := Option.some.inj h2
          show (⟨#[]⟩ : ByteArray).size ≤ _
          decide
set_option maxRecDepth 20000 in
set_option maxHeartbeats 8000000 in
theorem eparse_any (s : ByteArray) (hs : s.size ≤ 60000) (w : World) (ht : Tabs w) : Calls Tryz.prog 24 #[.string s] w (PsOut s.data.toList w) := by
  obtain ⟨W0, hW0⟩ : ∃ W0, w.alloc (.cells (EvtCells zE none 0).toArray 37) = W0 := ⟨_, rfl⟩
  have hB0 : Below w.heap.size w W0 := by rw [← hW0]; exact (Below.refl _ _).alloc (Nat.le_refl _) _
  have z0 := hB0.size
  have b0 : Blk W0 w.heap.size 37 (EvtCells zE none 0) := by rw [← hW0]; exact Blk.new w _ _
  obtain ⟨rb, hrb0⟩ : ∃ b, w.heap.size = b := ⟨_, rfl⟩
  have hrb : w.heap.size ≤ rb := by omega
  have zz : rb < W0.heap.size := by rw [← hrb0]; exact b0.lt
  have HB0 := Lib.hid hB0
  have HR0 := Lib.hid b0
  have HT := Lib.hid (ht.below hB0)
  have HW0 := Lib.hid (show w.alloc (.cells #[.int .i64 0, .int .i64 0, .int .i64 0, .int .i64 0, .int .i64 0, .string ⟨#[]⟩, .slice none 0 0, .int .i64 0, .int .i64 0, .int .i64 0, .int .i64 0, .int .i64 0, .int .i64 0, .int .i64 0, .int .i64 0, .int .i64 0, .int .i64 0, .int .i64 0, .int .i64 0, .int .i64 0, .bool false] 37) = W0 from hW0)
  have hs2 : ¬ (65536 : Int) < (s.size : Int) := by omega
  obtain ⟨S, hS⟩ : ∃ S, s.data.toList = S := ⟨_, rfl⟩
  have HS := Lib.hid hS
  have HSL : Hid (S.length ≤ 60000) := Lib.hid (by rw [← hS]; simpa using hs)
  have hwd : Calls Tryz.prog 73 #[.string s] W0 (WdOut S W0) := by rw [← hS]; exact words_any s (by omega) W0
  rw [hS]
  clear ht b0 hB0 hW0 hS
  go_enter Tryz.func24, Tryz.ntmps24
  go_upto_region 1 with fail
  rw [HW0.out]
  rw [hrb0] at HR0
  clear HW0
  have hwd2 : Calls Tryz.prog 73 #[.string s] W0 fun e w' => ∃ (A : Option Addr) (n c : Nat) (f : Int) (L : List By), e = .returned (.tuple #[.slice A n c, .int .i64 f]) ∧ Below W0.heap.size W0 w' ∧ (f = 3 ∧ WordsOk S none ∨ f = 0 ∧ WordsOk S (some L) ∧ n = L.length ∧ n ≤ c ∧ Strs w' w'.heap.size A L) := hwd.mono (by
    rintro e w' ⟨hb, ⟨rfl, h⟩ | ⟨L, A, c, rfl, h1, h2, h3⟩⟩
    · exact ⟨none, 0, 0, 3, [], rfl, hb, .inl ⟨rfl, h⟩⟩
    · exact ⟨A, L.length, c, 0, L, rfl, hb, .inr ⟨rfl, h1, rfl, h2, h3⟩⟩)
  clear hwd
  go_upto_region 4 with (go_at_call 73; refine hwd2.mono ?_; rintro e1 w1 ⟨A, n, c, f, L, rfl, hb1, h9⟩; have HWO := Lib.hid h9; clear h9)
  have HB1 := Lib.hid hb1
  have z1 := hb1.size
  have HR1 : Hid (Blk w1 rb 37 (EvtCells zE none 0)) := Lib.hid ((hb1.block rb zz).trans HR0.out)
  have HBW1 := Lib.hid (HB0.out.trans (hb1.mono z0))
  clear hb1 hwd2
  rcases HWO.out with ⟨hf, hwo⟩ | ⟨hf, hwo, hnL, hnc, hst⟩
  · subst hf
    have HEE : Hid (ParseOk S none) := Lib.hid (ParseOk.prog hwo (fun L h => by cases h))
    clear hwo
    go_wp2_with (first
      | ((with_reducible refine wpList_buildL bEvt rfl [] rfl [] (EvtCells zE none 0) ?_ evt_fill0 ?_); exact rfl)
      | ((with_reducible refine wpList_storeL stEvt rfl _ _ rfl (rb) (EvtCells zE none 0) (EvtCells zE none 0) ?_ ?_ ?_ ?_ ?_ (evtC_one _ _ _) ?_); exact rfl; exact rfl; exact (HR1.out); exact rfl; exact (rfl); intro wz k1 k2 k3 k4; have K := Lib.hid (And.intro k1 (And.intro k2 (And.intro k3 k4))); clear k1 k2 k3 k4))
    have HRz : Blk wz rb 37 (EvtCells zE none 0) := K.out.1
    refine bodyPost_ret (v := .tuple #[.agg (EvtCells zE none 0).toArray, .int .i64 3]) (big.res_cell_tmp stEvt Tryz.results24 rfl rfl HRz.cells rfl) rfl ?_
    exact ⟨(HBW1.out).trans (K.out.2.2.2.mono hrb), .inl ⟨HEE.out, rfl⟩⟩
  subst hf
  have hml : ∀ x ∈ L, x.length ≤ 100000 := fun x hx => by
    rcases hwo.join L rfl with ⟨_, h⟩ | ⟨h, _⟩
    · have := mem_join hx
      rw [← h] at this
      have := HSL.out
      omega
    · rw [h] at hx; cases hx
  have HML := Lib.hid hml
  have HPK : Hid (ParseOk S (parseS S (some L))) := Lib.hid (ParseOk.prog hwo (fun L' h x hx => by rw [Option.some.inj h] at hml; exact hml x hx))
  have hpa : Calls Tryz.prog 74 #[.slice A n c] w1 (PaOut w1 L) := parse_any L A n c hnL hnc w1 hst hml (HT.out.below (HB1.out))
  have hpa2 : Calls Tryz.prog 74 #[.slice A n c] w1 fun e w' => ∃ (cs : List Value) (ok : Bool), e = .returned (.tuple #[.agg cs.toArray, .bool ok]) ∧ Below w1.heap.size w1 w' ∧ cs.length = 21 ∧ (∀ u ∈ cs, u.oneCell' = true) ∧ (ok = false → parseF L = none) ∧ (ok = true → ∃ e C c, parseF L = some e ∧ cs = EvtCells e C c ∧ IntsOff w' (fun b => w1.heap.size ≤ b) C e.order.load) := hpa.mono (by
    rintro e w' ⟨hb, ⟨h, cs, h1, h2, rfl⟩ | ⟨e, C, c, h, rfl, h3⟩⟩
    · exact ⟨cs, false, rfl, hb, h1, h2, fun _ => h, fun e => (by cases e)⟩
    · exact ⟨_, true, rfl, hb, rfl, evtC_one _ _ _, fun e => (by cases e), fun _ => ⟨e, C, c, h, rfl, h3⟩⟩)
  clear hwo hnL hnc hst hml hpa
  go_upto_region 7 with (first
    | (go_at_call 74; refine hpa2.mono ?_; rintro e2 w2 ⟨cs, ok, rfl, hb2, h9⟩; have HPO := Lib.hid h9; clear h9)
    | ((with_reducible refine wpList_storeL stEvt rfl _ _ rfl (w2.heap.size) (EvtCells zE none 0) (cs) ?_ ?_ ?_ ?_ ?_ (HPO.out.2.1) ?_); exact rfl; exact rfl; exact Blk.new w2 _ _; exact rfl; exact (HPO.out.1); intro wz k1 k2 k3 k4; have K := Lib.hid (And.intro k1 (And.intro k2 (And.intro k3 k4))); clear k1 k2 k3 k4))
  have z2 := hb2.size
  have b23 : Below w2.heap.size w2 wz := ((Below.refl _ _).alloc (Nat.le_refl _) _).trans K.out.2.2.2
  obtain ⟨w3, hw3⟩ : ∃ W, wz = W := ⟨_, rfl⟩
  obtain ⟨eb, heb⟩ : ∃ q, w2.heap.size = q := ⟨_, rfl⟩
  have HE3 : Hid (Blk w3 eb 37 cs) := Lib.hid (by rw [← hw3, ← heb]; exact K.out.1)
  rw [hw3] at b23 ⊢
  have hb3 : Below w1.heap.size w1 w3 := hb2.trans (b23.mono z2)
  have HB3 : Hid (Below W0.heap.size W0 w3) := Lib.hid (HB1.out.trans (hb3.mono z1))
  have HR3 : Hid (Blk w3 rb 37 (EvtCells zE none 0)) := Lib.hid ((hb3.block rb (by omega)).trans HR1.out)
  have HBW3 := Lib.hid (HBW1.out.trans (hb3.mono (by omega)))
  have HI3 : Hid (ok = true → ∃ e C c, parseF L = some e ∧ cs = EvtCells e C c ∧ IntsOff w3 (fun b => w1.heap.size ≤ b ∧ b < eb) C e.order.load) := Lib.hid (fun h => by
    obtain ⟨e, C, c, h1, h2, h3⟩ := HPO.out.2.2.2 h
    exact ⟨e, C, c, h1, h2, intsOff_keep h3 b23.size (fun b hb hp => ⟨⟨hp, by omega⟩, b23.block b hb⟩)⟩)
  have heb1 : w1.heap.size ≤ eb := by omega
  have HPN := Lib.hid HPO.out.2.2.1
  rw [heb]
  clear K hw3 b23 heb hb3 hb2 hpa2 HPO
  cases ok
  · have HEE : Hid (ParseOk S none) := Lib.hid (by
      have h := HPK.out
      unfold parseS at h
      rw [show (some L).bind parseF = parseF L from rfl, HPN.out rfl] at h
      exact h)
    go_wp2_with (first
      | ((with_reducible refine wpList_buildL bEvt rfl [] rfl [] (EvtCells zE none 0) ?_ evt_fill0 ?_); exact rfl)
      | ((with_reducible refine wpList_storeL stEvt rfl _ _ rfl (rb) (EvtCells zE none 0) (EvtCells zE none 0) ?_ ?_ ?_ ?_ ?_ (evtC_one _ _ _) ?_); exact rfl; exact rfl; exact (HR3.out); exact rfl; exact (rfl); intro wz k1 k2 k3 k4; have K := Lib.hid (And.intro k1 (And.intro k2 (And.intro k3 k4))); clear k1 k2 k3 k4))
    have HRz : Blk wz rb 37 (EvtCells zE none 0) := K.out.1
    refine bodyPost_ret (v := .tuple #[.agg (EvtCells zE none 0).toArray, .int .i64 3]) (big.res_cell_tmp stEvt Tryz.results24 rfl rfl HRz.cells rfl) rfl ?_
    exact ⟨(HBW3.out).trans (K.out.2.2.2.mono hrb), .inl ⟨HEE.out, rfl⟩⟩
  obtain ⟨e, C, ce, he1, rfl, he3⟩ := HI3.out rfl
  have HPE := Lib.hid he1
  have HIE := Lib.hid he3
  obtain ⟨h64, hl3⟩ := parseF_64 he1 HML.out
  have hnm := parse_name he1 HML.out
  have H64 := Lib.hid (And.intro h64 (And.intro hl3 hnm))
  have HPS : Hid (ParseOk S (if prtE e = 0 ∧ joinS (partsF e) = S then some e else none)) := Lib.hid (by
    have h := HPK.out
    unfold parseS at h
    rw [show (some L).bind parseF = parseF L from rfl, he1] at h
    exact h)
  have hpr := print_any e C ce w3 (HT.out.below HB3.out) h64 he3.1 (by omega) (by omega)
  obtain ⟨pe, hpe⟩ : ∃ n, prtE e = n := ⟨_, rfl⟩
  obtain ⟨ps, hps⟩ : ∃ n, prtS e = n := ⟨_, rfl⟩
  have HPP := Lib.hid (And.intro hpe hps)
  have hpr2 : Calls Tryz.prog 22 #[.agg (EvtCells e C ce).toArray] w3 fun en w' => en = .returned (.tuple #[.string ⟨ps.toArray⟩, .int .i64 pe]) ∧ Below w3.heap.size w3 w' := hpr.mono (by
    rintro en w' ⟨rfl, hb⟩
    rw [hps, hpe]
    exact ⟨rfl, hb⟩)
  clear he1 he3 h64 hl3 hnm hpr hpe hps HI3 HPN HPK
  go_upto_region 10 with (first
    | ((with_reducible refine wpList_loadG stEvt _ rfl ⟨eb, 0, none⟩ (EvtCells e C ce) ?_ ?_ ?_ ?_ ?_); exact rfl; exact rfl; exact HE3.out.cells; exact rfl)
    | (go_at_call 22; refine hpr2.mono ?_; rintro e4 w4 ⟨rfl, hb4⟩))
  have HE4 := Lib.hid (HE3.out.below hb4)
  have HR4 := Lib.hid (HR3.out.below hb4)
  have z4 := hb4.size
  have HBW4 := Lib.hid (HBW3.out.trans (hb4.mono (by have := HBW3.out.size; omega)))
  have HI4 : Hid (IntsOff w4 (fun b => w1.heap.size ≤ b ∧ b < eb) C e.order.load) := Lib.hid (intsOff_keep HIE.out hb4.size (fun b hb hp => ⟨hp, hb4.block b hb⟩))
  clear hb4 hpr2
  by_cases hp0 : pe = 0
  rotate_left
  · have hp1 : (pe != 0) = true := by simp [hp0]
    have HEE : Hid (ParseOk S none) := Lib.hid (by
      have h := HPS.out
      rw [if_neg (by rw [HPP.out.1]; exact fun h => hp0 h.1)] at h
      exact h)
    go_wp2_with (first
      | ((with_reducible refine wpList_buildL bEvt rfl [] rfl [] (EvtCells zE none 0) ?_ evt_fill0 ?_); exact rfl)
      | ((with_reducible refine wpList_storeL stEvt rfl _ _ rfl (rb) (EvtCells zE none 0) (EvtCells zE none 0) ?_ ?_ ?_ ?_ ?_ (evtC_one _ _ _) ?_); exact rfl; exact rfl; exact (HR4.out); exact rfl; exact (rfl); intro wz k1 k2 k3 k4; have K := Lib.hid (And.intro k1 (And.intro k2 (And.intro k3 k4))); clear k1 k2 k3 k4))
    have HRz : Blk wz rb 37 (EvtCells zE none 0) := K.out.1
    refine bodyPost_ret (v := .tuple #[.agg (EvtCells zE none 0).toArray, .int .i64 3]) (big.res_cell_tmp stEvt Tryz.results24 rfl rfl HRz.cells rfl) rfl ?_
    exact ⟨(HBW4.out).trans (K.out.2.2.2.mono hrb), .inl ⟨HEE.out, rfl⟩⟩
  have hp1 : (pe != 0) = false := by simp [hp0]
  subst hp0
  have hsl : s.toList = S := by rw [toList_data]; exact HS.out
  by_cases hq : ps = S
  rotate_left
  · have hq1 : (ps == s.toList) = false := by rw [hsl]; simpa using hq
    have hq2 : (ps != s.toList) = true := by rw [hsl]; simpa using hq
    have HEE : Hid (ParseOk S none) := Lib.hid (by
      have h := HPS.out
      rw [if_neg (fun h => hq ?_)] at h
      · exact h
      · rw [← HPP.out.2, ← h.2]
        unfold prtS
        rw [if_pos h.1])
    clear hsl hq
    go_wp2_with (first
      | ((with_reducible refine wpList_buildL bEvt rfl [] rfl [] (EvtCells zE none 0) ?_ evt_fill0 ?_); exact rfl)
      | ((with_reducible refine wpList_storeL stEvt rfl _ _ rfl (rb) (EvtCells zE none 0) (EvtCells zE none 0) ?_ ?_ ?_ ?_ ?_ (evtC_one _ _ _) ?_); exact rfl; exact rfl; exact (HR4.out); exact rfl; exact (rfl); intro wz k1 k2 k3 k4; have K := Lib.hid (And.intro k1 (And.intro k2 (And.intro k3 k4))); clear k1 k2 k3 k4))
    have HRz : Blk wz rb 37 (EvtCells zE none 0) := K.out.1
    refine bodyPost_ret (v := .tuple #[.agg (EvtCells zE none 0).toArray, .int .i64 3]) (big.res_cell_tmp stEvt Tryz.results24 rfl rfl HRz.cells rfl) rfl ?_
    exact ⟨(HBW4.out).trans (K.out.2.2.2.mono hrb), .inl ⟨HEE.out, rfl⟩⟩
  · have hq1 : (ps == s.toList) = true := by rw [hsl]; simpa using hq
    have hq2 : (ps != s.toList) = false := by rw [hsl]; simpa using hq
    have HEE : Hid (ParseOk S (some e)) := Lib.hid (by
      have hj : joinS (partsF e) = S := by
        rw [← hq, ← HPP.out.2]
        unfold prtS
        rw [if_pos HPP.out.1]
      have h := HPS.out
      rw [if_pos ⟨HPP.out.1, hj⟩] at h
      exact h)
    clear hsl hq
    go_wp2_with (first
      | ((with_reducible refine wpList_loadG stEvt _ rfl ⟨eb, 0, none⟩ (EvtCells e C ce) ?_ ?_ ?_ ?_ ?_); exact rfl; exact rfl; exact HE4.out.cells; exact rfl)
      | ((with_reducible refine wpList_storeL stEvt rfl _ _ rfl (rb) (EvtCells zE none 0) (EvtCells e C ce) ?_ ?_ ?_ ?_ ?_ (evtC_one _ _ _) ?_); exact rfl; exact rfl; exact HR4.out; exact rfl; exact (rfl); intro wz k1 k2 k3 k4; have K := Lib.hid (And.intro k1 (And.intro k2 (And.intro k3 k4))); clear k1 k2 k3 k4))
    have HRz : Blk wz rb 37 (EvtCells e C ce) := K.out.1
    refine bodyPost_ret (v := .tuple #[.agg (EvtCells e C ce).toArray, .int .i64 0]) (big.res_cell_tmp stEvt Tryz.results24 rfl rfl HRz.cells rfl) rfl ?_
    refine ⟨HBW4.out.trans (K.out.2.2.2.mono hrb), .inr ⟨e, C, ce, HEE.out, H64.out.2.2, H64.out.2.1, rfl, ?_⟩⟩
    exact intsOff_keep HI4.out (by rw [K.out.2.2.1]; exact Nat.le_refl _) (fun b hb hp => ⟨by have := hp.1; have := HBW1.out.size; show w.heap.size ≤ b; omega, K.out.2.1 b (by have := hp.1; omega)⟩)
end Go.Proofs.YtofabhenmplkoaaGreatDoor.evt

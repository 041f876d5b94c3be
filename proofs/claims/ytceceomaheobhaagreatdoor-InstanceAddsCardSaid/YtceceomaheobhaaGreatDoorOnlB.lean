/- instance.Only, walked. -/
import Derived.Test.YtceceomaheobhaaGreatDoorOnlA
import Derived.Deep.DeepCutAuto
import Derived.RangeFuncBox
import Derived.Outline
import Derived.Deep.RegionHeld3
import Derived.Deep.RegionWith
namespace Go.Proofs.YtceceomaheobhaaGreatDoor.ins
open Go.RowKit
open Go.Proofs.YtceceomaheobhaaGreatDoor.lib Go.Proofs.YtceceomaheobhaaGreatDoor.rd Go.Proofs.YtceceomaheobhaaGreatDoor.typ Go.Proofs.YtceceomaheobhaaGreatDoor.app Go.Proofs.YtceceomaheobhaaGreatDoor.els Go.Proofs.YtceceomaheobhaaGreatDoor.ren Go.Proofs.YtceceomaheobhaaGreatDoor.ord Go.Proofs.YtceceomaheobhaaGreatDoor.sets
set_option linter.unusedVariables false
set_option linter.unusedSimpArgs false

def OnlyBad (w : World) (e : Ending) (w' : World) : Prop := e = .returned (.tuple #[InV nilI nilP, .slice none 0 0, .int .i64 2]) ∧ Below w.heap.size w w'
set_option maxHeartbeats 1000000 in
theorem onlyBad_any (x : Ins) (P : InP) (s : Int) (w : World) (h : x.orders.length ≤ 61) (hs : setBad s x.orders.length = true) : Calls Tryz.prog 18 #[InV x P, .int .i64 s] w (OnlyBad w) := by
  obtain ⟨n, hn⟩ : ∃ n, x.orders.length = n := ⟨_, rfl⟩
  simp only [InV]
  rw [hn] at hs h ⊢
  clear hn
  by_cases h0 : s < 0
  · clear hs
    go_enter Tryz.func18, Tryz.ntmps18
    go_wp2
    refine bodyPost_ret (v := .tuple #[InV nilI nilP, .slice none 0 0, .int .i64 2]) (by simp [results, Tryz.results18, go_sem, InV, nilI, nilP]) rfl ⟨rfl, by repeat (first | assumption | exact Below.refl _ _ | refine Below.drew ?_ | refine Below.alloc ?_ (by first | omega | (simp <;> omega)) _ | refine Below.setCell ?_ (by first | omega | (simp <;> omega)) _)⟩
  · have hq : (s / 2 ^ n != 0) = true := by unfold setBad at hs; simp [h0] at hs; simpa using hs
    have hq2 : (s / 2 ^ n == 0) = false := by simpa using hq
    clear hs
    go_enter Tryz.func18, Tryz.ntmps18
    go_wp2
    refine bodyPost_ret (v := .tuple #[InV nilI nilP, .slice none 0 0, .int .i64 2]) (by simp [results, Tryz.results18, go_sem, InV, nilI, nilP]) rfl ⟨rfl, by repeat (first | assumption | exact Below.refl _ _ | refine Below.drew ?_ | refine Below.alloc ?_ (by first | omega | (simp <;> omega)) _ | refine Below.setCell ?_ (by first | omega | (simp <;> omega)) _)⟩
def OnlyGood (y : Ins) (old : List Int) (w : World) (e : Ending) (w' : World) : Prop := ∃ P A c, e = .returned (.tuple #[InV y P, .slice A old.length c, .int .i64 0]) ∧ InAt w' w'.heap.size y P ∧ w'.ownsRow w.heap.size 3 1 (.slice A old.length c) old.length (old.map (.int .i64)) ∧ Below w.heap.size w w'
theorem and_bit (s : Int) (k : Nat) : (bits .and .i64 (s / 2 ^ k) 1 == 1) = hasN s k := by
  rw [i64_and1]
  unfold hasN pow2
  rw [Bool.eq_iff_iff]
  simp
def insCs' (x : Ins) (n : Nat) (A0 : Option Addr) (c0 : Nat) (A1 : Option Addr) (c1 : Nat) (A2 : Option Addr) (c2 : Nat) (A3 : Option Addr) (c3 : Nat) (A4 : Option Addr) (c4 : Nat) (A5 : Option Addr) (c5 : Nat) : List Value := [.slice A0 x.net.places.length c0, .slice A1 x.net.arcs.length c1, .slice A2 x.types.length c2, .slice A3 n c3, .slice A4 x.apart.length c4, .slice A5 x.before.length c5]
set_option maxRecDepth 20000 in
set_option maxHeartbeats 4000000 in
theorem onlyGood_any (x : Ins) (Q : InP) (s : Int) (w : World) (h : InAt w w.heap.size x Q) (hl : x.orders.length ≤ 61) (ha : x.apart.length ≤ 1000000) (hb : x.before.length ≤ 1000000) (hs : setBad s x.orders.length = false) (hmax : s ≤ 9223372036854775807) :
    Calls Tryz.prog 18 #[InV x Q, .int .i64 s] w (OnlyGood (onlyI x s) (memTo s x.orders.length) w) := by
  obtain ⟨A0, c0, A1, c1, A2, c2, A3, c3, A4, c4, A5, c5⟩ := Q
  obtain ⟨n, hn⟩ : ∃ n, x.orders.length = n := ⟨_, rfl⟩
  obtain ⟨l, hxl⟩ : ∃ l, x.orders = l := ⟨_, rfl⟩
  obtain ⟨h0, hq, hq2⟩ : ¬ s < 0 ∧ (s / 2 ^ n != 0) = false ∧ (s / 2 ^ n == 0) = true := by
    unfold setBad at hs
    rw [hn] at hs
    simp only [Bool.or_eq_false_iff, decide_eq_false_iff_not] at hs
    obtain ⟨h1, h2⟩ := hs
    have h3 : s / 2 ^ n = 0 := by
      by_cases e : s / 2 ^ n = 0
      · exact e
      · exact absurd e h2
    exact ⟨h1, by simp [h3], by simp [h3]⟩
  have HI := Lib.hid h
  have hL := h.orders
  have HY : Hid (onlyI x s = ⟨x.net, x.types, selO s l n, renL (memTo s n) x.apart, renL (memTo s n) x.before⟩) := Lib.hid (by unfold onlyI; rw [hn, hxl])
  have HN : Hid (l.length = n) := Lib.hid (by rw [← hxl]; exact hn)
  rw [hxl] at hL
  rw [hn] at hl
  simp only [InV]
  rw [hn]
  have HAB := Lib.hid (And.intro ha hb)
  have HS2 := Lib.hid (And.intro hq hq2)
  clear hs hn hxl h ha hb hq hq2
  go_enter Tryz.func18, Tryz.ntmps18
  obtain ⟨hq, hq2⟩ := HS2.out
  go_upto_region 5 with fail
  have x1 : SixAt ((w.alloc (.cells (insCs' x n A0 c0 A1 c1 A2 c2 A3 c3 A4 c4 A5 c5).toArray 30)).alloc (.cells nilCs.toArray 30)) w.heap.size (insCs' x n A0 c0 A1 c1 A2 c2 A3 c3 A4 c4 A5 c5) := by
    unfold SixAt
    rw [Below.heap_alloc _ _ _ (by simp)]
    exact World.alloc_heap_new w _
  have x2 : SixAt ((w.alloc (.cells (insCs' x n A0 c0 A1 c1 A2 c2 A3 c3 A4 c4 A5 c5).toArray 30)).alloc (.cells nilCs.toArray 30)) (w.heap.size + 1) nilCs := by
    have h := World.alloc_heap_new (w.alloc (.cells (insCs' x n A0 c0 A1 c1 A2 c2 A3 c3 A4 c4 A5 c5).toArray 30)) (.cells nilCs.toArray 30)
    simpa [SixAt] using h
  obtain ⟨W0, hW0⟩ : ∃ W0, (w.alloc (.cells (insCs' x n A0 c0 A1 c1 A2 c2 A3 c3 A4 c4 A5 c5).toArray 30)).alloc (.cells nilCs.toArray 30) = W0 := ⟨_, rfl⟩
  have hW0' : (w.alloc (.cells #[.slice A0 x.net.places.length c0, .slice A1 x.net.arcs.length c1, .slice A2 x.types.length c2, .slice A3 n c3, .slice A4 x.apart.length c4, .slice A5 x.before.length c5] 30)).alloc (.cells #[.slice none 0 0, .slice none 0 0, .slice none 0 0, .slice none 0 0, .slice none 0 0, .slice none 0 0] 30) = W0 := hW0
  have hB0 : Below w.heap.size w W0 := by rw [← hW0]; exact ((Below.refl _ _).alloc (Nat.le_refl _) _).alloc (by simp) _
  have hs0 : w.heap.size + 1 + 1 = W0.heap.size := by rw [← hW0]; simp
  rw [hW0] at x1 x2
  rw [hW0']
  clear hW0 hW0'
  have hSt : OnlSt w.heap.size w (insCs' x n A0 c0 A1 c1 A2 c2 A3 c3 A4 c4 A5 c5) [] [] W0 none 0 none 0 [] := ⟨World.ownsRow_nil _ _ _ _, World.ownsRow_nil _ _ _ _, .nil, x1, x2, hB0, by omega⟩
  have m3 : W0.cell? ⟨w.heap.size, 3, none⟩ = some (.slice A3 n c3) := x1.cell (j := 3) rfl
  have HS := Lib.hid hSt
  clear x1 x2 hSt hs0 HS2 hq hq2
  go_upto_region 6 with fail
  clear m3
  obtain ⟨bx, hbx⟩ : ∃ bx, insCs' x n A0 c0 A1 c1 A2 c2 A3 c3 A4 c4 A5 c5 = bx := ⟨_, rfl⟩
  have HBX := Lib.hid hbx
  rw [hbx] at HS
  clear hbx
  go_loopw [7, 8, 25] (fun v u i wr => ∃ (k : Nat) (B1 : Option Addr) (d1 : Nat) (B2 : Option Addr) (d2 : Nat) (cs : List Value), k ≤ n ∧ i = .int .i64 k ∧ v = .slice B1 (memTo s k).length d1 ∧ u = .slice B2 (selO s l k).length d2 ∧ Hid (OnlSt w.heap.size w bx (memTo s k) (selO s l k) wr B1 d1 B2 d2 cs)) (fun _ _ i _ => n - (intOf i).toNat)
  case atStart => exact ⟨0, none, 0, none, 0, [], by omega, rfl, rfl, rfl, HS⟩
  case round =>
    clear HS
    obtain ⟨k, B1, d1, B2, d2, cs, hk, rfl, rfl, rfl, HS⟩ := hrel
    have zr := HS.out.sz
    by_cases hlt : k < n
    · obtain ⟨o, ho⟩ : ∃ o, l[k]? = some o := ⟨_, List.getElem?_eq_getElem (by rw [HN.out]; exact hlt)⟩
      obtain ⟨ad, C0, d0, hAd, hadb, hx0, hp1, hofit⟩ := row_Ord (hL.below HS.out.bel) ho
      have hAd' : A3 = some ad := hAd
      subst hAd'
      have hk0 : (0 : Int) ≤ (k : Int) := by omega
      have hkn : (k : Int) < (n : Int) := by omega
      have HXA := Lib.hid hx0
      have HP1 := Lib.hid hp1
      have hlen1 := memTo_len s k
      have hlen2 := selO_len s l k
      have HY1 : Hid (hasN s k = true → memTo s (k + 1) = memTo s k ++ [(k : Int)]) := Lib.hid memTo_yes
      have HN1 : Hid (hasN s k = false → memTo s (k + 1) = memTo s k) := Lib.hid fun h => memTo_no (by rw [h]; decide)
      have HY2 : Hid (hasN s k = true → selO s l (k + 1) = selO s l k ++ [o]) := Lib.hid (selO_yes ho)
      have HN2 : Hid (hasN s k = false → selO s l (k + 1) = selO s l k) := Lib.hid (selO_no ho)
      have HAB2 := Lib.hid (and_bit s k)
      obtain ⟨ns, hns⟩ : ∃ ns, memTo s k = ns := ⟨_, rfl⟩
      obtain ⟨os, hos⟩ : ∃ os, selO s l k = os := ⟨_, rfl⟩
      rw [hns] at HS HY1 HN1 hlen1
      rw [hos] at HS HY2 HN2 hlen2
      simp only [hns, hos]
      clear hx0 hp1 ho hns hos
      have hadb2 : ad.block < wr.heap.size := by omega
      go_upto_region 7 with fail
      go_cut [9, 10] (fun i p wx => i = .int .i64 k ∧ p = .pointer (some ⟨wr.heap.size, 0, none⟩) ∧ OrBlk wx wr.heap.size o C0 d0 ∧ Below wr.heap.size wr wx ∧ wx.heap.size = wr.heap.size + 1)
      case first => as_aux_lemma =>
        obtain ⟨m0, m1, m2, m3, m4, m5, m6, m7, m8, m9, m10, m11, m12, m13, m14, m15⟩ := HXA.out
        go_wp2
        go_meet
        refine ⟨rfl, rfl, ?_, (Below.refl _ _).alloc (Nat.le_refl _) _, by simp⟩
        exact World.alloc_heap_new wr _
      obtain ⟨h9, h10, hblk, hb1, hs1⟩ := hcut
      subst h9
      subst h10
      have HBLK := Lib.hid hblk
      have HS1 := Lib.hid hs1
      have HSC := Lib.hid (HS.out.below hb1)
      have HPC : Hid (IntsOff wc (· < w.heap.size) C0 o.load) := Lib.hid (IntsOff.low (HP1.out.below (hb1.mono (by omega))) (by omega) (fun b hb => hb))
      obtain ⟨P, hP⟩ : ∃ P, wr.heap.size = P := ⟨_, rfl⟩
      rw [hP] at HBLK HS1 ⊢
      have hPc : P < wc.heap.size := by have := HS1.out; omega
      clear hblk hs1 HS HP1 HXA hb1 hP
      go_upto_region 8 with fail
      go_cut [34] (fun v wx => v = .bool (hasN s k) ∧ wc = wx)
      case first => as_aux_lemma =>
        go_wp2
        go_meet
        exact ⟨by rw [HAB2.out], rfl⟩
      obtain ⟨h34, hw34⟩ := hcut
      subst h34
      subst hw34
      clear hAd
      go_upto_if 34 with fail
      have zc := HSC.out.sz
      cases hbit : hasN s k
      case false =>
        have HE1 : Hid (memTo s (k + 1) = ns) := Lib.hid (HN1.out hbit)
        have HE2 : Hid (selO s l (k + 1) = os) := Lib.hid (HN2.out hbit)
        go_wp2
        go_roundw
        case rel => exact ⟨k + 1, B1, d1, B2, d2, cs, by omega, by go_num, by rw [HE1.out], by rw [HE2.out], by rw [HE1.out, HE2.out]; exact HSC⟩
        case measure => simp [intOf]; omega
      case true =>
        have HE1 : Hid (memTo s (k + 1) = ns ++ [(k : Int)]) := Lib.hid (HY1.out hbit)
        have HE2 : Hid (selO s l (k + 1) = os ++ [o]) := Lib.hid (HY2.out hbit)
        go_upto_region 9 with fail
        go_cut [7] (fun v wx => ∃ D1 e1, v = .slice D1 (ns.length + 1) e1 ∧ OnlSt w.heap.size w bx (ns ++ [(k : Int)]) os wx D1 e1 B2 d2 cs ∧ OrBlk wx P o C0 d0 ∧ IntsOff wx (· < w.heap.size) C0 o.load)
        case first => as_aux_lemma =>
          have hst0 := HSC.out
          go_wp2_with (at_builtin; refine wpList_app int_elem _ _ rfl (w.heap.size + 1 + 1) B1 ns.length d1 (ns.map (.int .i64)) rfl (hst0.own1.alloc _) ⟨wc.heap.size, 0, none⟩ 1 [.int .i64 k] rfl rfl (one_new _ _ _) (by simp [Value.oneCell']) (by omega) (by simp; omega) rfl ?_; intro g1 e1 w2 hown1 hg1 hd1)
          go_meet
          have hB1 : Below wc.heap.size wc (wc.alloc (.cells #[.int .i64 k] 3)) := (Below.refl _ _).alloc (Nat.le_refl _) _
          have hst1 := hst0.below hB1
          refine ⟨_, _, rfl, hst1.push1 hown1 hg1, ?_, ?_⟩
          · have hbk : OrBlk (wc.alloc (.cells #[.int .i64 k] 3)) P o C0 d0 := (hB1.block P hPc).trans HBLK.out
            refine (hg1.block P (by simp; omega) (fun e => ?_)).trans hbk
            rcases own_ne_block HSC.out.own1 HBLK.out (Ne.symm ord_int) with h | h
            · rw [h] at e; cases e
            · exact h e.symm
          · refine (HPC.out.stay (row := none) (P' := (· < w.heap.size)) (Stays.below hB1) (fun b _ _ e => by cases e) (fun b _ hp => hp)).stay (Stays.grown hg1) (fun b _ hp e => ?_) (fun b _ hp => hp)
            have := (World.ownsRow.lt hst0.own1 b e.symm).1
            omega
        obtain ⟨D1, e1, hv7, hst, hblk, hpc⟩ := hcut
        subst hv7
        have HSD := Lib.hid hst
        have HPD := Lib.hid hpc
        have zd := hst.sz
        obtain ⟨m0, m1, m2, m3, m4, m5, m6, m7, m8, m9, m10, m11, m12, m13, m14, m15⟩ := hblk.cells
        clear hst hpc hblk HSC HPC HBLK
        go_wp2_with (at_builtin; refine wpList_app ord_elem _ _ rfl (w.heap.size + 1 + 1) B2 os.length d2 cs rfl (HSD.out.own2.alloc _) ⟨_, 0, none⟩ 1 (OrdCells o C0 d0) rfl rfl (ord_new _ o C0 d0) (ordCells_one o C0 d0) (by omega) (by simp; omega) rfl ?_; intro g2 e2 w3 hown2 hg2 hd2)
        go_roundw
        case rel =>
          have hB2 := (Below.refl wc.heap.size wc).alloc (Nat.le_refl _) (.cells (OrdCells o C0 d0).toArray 42)
          exact ⟨k + 1, D1, e1, some ⟨g2, 0, none⟩, e2, _, by omega, by go_num, by rw [HE1.out, List.length_append]; rfl, by rw [HE2.out, List.length_append]; rfl, Lib.hid (by rw [HE1.out, HE2.out]; exact (HSD.out.below hB2).push2 (HPD.out.stay (row := none) (P' := (· < w.heap.size)) (Stays.below hB2) (fun b _ _ e => by cases e) (fun b _ hp => hp)) hown2 hg2)⟩
        case measure => simp [intOf]; omega
    · have hkn : n = k := by omega
      subst hkn
      obtain ⟨ns, hns⟩ : ∃ ns, memTo s n = ns := ⟨_, rfl⟩
      obtain ⟨os, hos⟩ : ∃ os, selO s l n = os := ⟨_, rfl⟩
      have l1 : ns.length ≤ 61 := by rw [← hns]; exact Nat.le_trans (memTo_len s n) hl
      have l2 : os.length ≤ 61 := by rw [← hos]; exact Nat.le_trans (selO_len s l n) hl
      have HFO : Hid (∀ o ∈ os, OrdFits o) := Lib.hid fun o ho => by
        rw [← hos] at ho
        obtain ⟨j, hj⟩ := List.mem_iff_getElem?.1 (selO_mem ho)
        obtain ⟨_, _, _, _, _, _, _, hfit⟩ := row_Ord hL hj
        exact hfit
      have HNS := Lib.hid hns
      rw [hns, hos] at HS HY
      simp only [hns, hos]
      clear hns hos hlt hk hL
      have c3' : wr.cell? ⟨w.heap.size, 3, none⟩ = some (.slice A3 n c3) := HS.out.box.cell (j := 3) (by rw [← HBX.out]; rfl)
      have f3 := HS.out.box.frozen 3
      go_upto_region 12 with fail
      go_cut [] (fun wx => OnlSt w.heap.size w (bx.set 3 (.slice B2 os.length d2)) ns os wx B1 d1 B2 d2 cs)
      case first => as_aux_lemma =>
        go_wp2
        go_meet
        exact HS.out.store 3 _
      clear c3' f3 HS
      have HS := Lib.hid hcut
      clear hcut
      obtain ⟨bx2, hbx2⟩ : ∃ b, bx.set 3 (.slice B2 os.length d2) = b := ⟨_, rfl⟩
      rw [hbx2] at HS
      have HBX2 : Hid (bx2 = [.slice A0 x.net.places.length c0, .slice A1 x.net.arcs.length c1, .slice A2 x.types.length c2, .slice B2 os.length d2, .slice A4 x.apart.length c4, .slice A5 x.before.length c5]) := Lib.hid (by rw [← hbx2, ← HBX.out]; rfl)
      clear hbx2
      go_upto_region 13 with fail
      have HRN : Hid (∀ w', OnlSt w.heap.size w bx2 ns os w' B1 d1 B2 d2 cs → Calls Tryz.prog 48 #[.slice A4 x.apart.length c4, .slice B1 ns.length d1] w' (TwosOut w' (renL ns x.apart)) ∧ Calls Tryz.prog 48 #[.slice A5 x.before.length c5, .slice B1 ns.length d1] w' (TwosOut w' (renL ns x.before))) := Lib.hid fun w' h => by
        have hs := h.sz
        exact ⟨renumber_any A4 c4 x.apart B1 d1 ns w' ((HI.out.apart.below h.bel).more (by omega)) (h.ints (by omega)) HAB.out.1, renumber_any A5 c5 x.before B1 d1 ns w' ((HI.out.before.below h.bel).more (by omega)) (h.ints (by omega)) HAB.out.2⟩
      obtain ⟨rA, hrA⟩ : ∃ r, renL ns x.apart = r := ⟨_, rfl⟩
      obtain ⟨rB, hrB⟩ : ∃ r, renL ns x.before = r := ⟨_, rfl⟩
      rw [hrA, hrB] at HRN HY
      have HrA := Lib.hid hrA
      have HrB := Lib.hid hrB
      clear hrA hrB
      go_cut [] (fun wx => ∃ E1 f1 E2 f2, OnlSt w.heap.size w ((bx2.set 4 (.slice E1 rA.length f1)).set 5 (.slice E2 rB.length f2)) ns os wx B1 d1 B2 d2 cs ∧ wx.ownsRow (w.heap.size + 1 + 1) 88 2 (.slice E1 rA.length f1) rA.length (tcs rA) ∧ wx.ownsRow (w.heap.size + 1 + 1) 88 2 (.slice E2 rB.length f2) rB.length (tcs rB))
      case first =>
        have HB : Hid (∀ w', OnlSt w.heap.size w bx2 ns os w' B1 d1 B2 d2 cs → w'.cell? ⟨w.heap.size, 4, none⟩ = some (.slice A4 x.apart.length c4) ∧ w'.cell? ⟨w.heap.size, 5, none⟩ = some (.slice A5 x.before.length c5) ∧ w'.frozen? ⟨w.heap.size, 4, none⟩ = false ∧ w'.frozen? ⟨w.heap.size, 5, none⟩ = false) := Lib.hid fun w' h => ⟨h.box.cell (j := 4) (by rw [HBX2.out]; rfl), h.box.cell (j := 5) (by rw [HBX2.out]; rfl), h.box.frozen 4, h.box.frozen 5⟩
        have Sd : OnlSt w.heap.size w bx2 ns os wc.drew B1 d1 B2 d2 cs := HS.out.below ((Below.refl _ _).drew)
        (refine wp_region_held_drew (S := (fun _ => True)) (by kernel_rfl) ?_ (fun hHeld => ?_))
        · trivial
        (refine wpAnyH_take (i := 0) (v := ?_) rfl (by kernel_rfl) (by kernel_rfl) (by kernel_rfl) (fun _ _ _ h => h) (Or.inl ⟨by kernel_rfl, ?_⟩) (by assumption) ?_; rotate_left; (focus (intro w hSw; (try dsimp only at hSw); go_simp; all_goals with_reducible rfl)); (try simp only [Act.put, List.getElem_toArray, List.getElem_cons_succ, List.getElem_cons_zero, List.setIfInBounds_toArray, List.set_cons_zero, List.set_cons_succ]))
        (refine wpAnyH_take (i := 2) (v := ?_) rfl (by kernel_rfl) (by kernel_rfl) (by kernel_rfl) (fun _ _ _ h => h) (Or.inl ⟨by kernel_rfl, ?_⟩) (by assumption) ?_; rotate_left; (focus (intro w hSw; (try dsimp only at hSw); go_simp; all_goals with_reducible rfl)); (try simp only [Act.put, List.getElem_toArray, List.getElem_cons_succ, List.getElem_cons_zero, List.setIfInBounds_toArray, List.set_cons_zero, List.set_cons_succ]))
        (refine wpAnyH_take (i := 4) (v := ?_) rfl (by kernel_rfl) (by kernel_rfl) (by kernel_rfl) (fun _ _ _ h => h) (Or.inl ⟨by kernel_rfl, ?_⟩) (by assumption) ?_; rotate_left; (focus (intro w hSw; (try dsimp only at hSw); go_simp; all_goals with_reducible rfl)); (try simp only [Act.put, List.getElem_toArray, List.getElem_cons_succ, List.getElem_cons_zero, List.setIfInBounds_toArray, List.set_cons_zero, List.set_cons_succ]))
        (refine wpAnyH_take (i := 6) (v := ?_) rfl (by kernel_rfl) (by kernel_rfl) (by kernel_rfl) (fun _ _ _ h => h) (Or.inl ⟨by kernel_rfl, ?_⟩) (by assumption) ?_; rotate_left; (focus (intro w hSw; (try dsimp only at hSw); go_simp; all_goals with_reducible rfl)); (try simp only [Act.put, List.getElem_toArray, List.getElem_cons_succ, List.getElem_cons_zero, List.setIfInBounds_toArray, List.set_cons_zero, List.set_cons_succ]))
        obtain ⟨k4, k5, z4, z5⟩ := HB.out _ Sd
        refine wpAnyH_ready (rs := [1, 5]) (by kernel_rfl) (by simp) ?_
        refine AllReadyH.cons rfl (fun K hK => ?_) (AllReadyH.cons rfl (fun K hK => ?_) AllReadyH.nil)
        · go_simp
          refine hK.out _ _ trivial (fun hHeld => ?_)
          clear hK K
          (try simp only [Act.put, List.getElem_toArray, List.getElem_cons_succ, List.getElem_cons_zero, List.setIfInBounds_toArray, List.set_cons_zero, List.set_cons_succ])
          refine wpAnyH_ready (rs := [3, 5]) (by kernel_rfl) (by simp) ?_
          refine AllReadyH.cons rfl (fun K hK => ?_) (AllReadyH.cons rfl (fun K hK => ?_) AllReadyH.nil)
          · skip
            go_simp
            go_at_call 48
            refine (HRN.out _ Sd).1.mono ?_
            rintro e w3 ⟨E1, f1, rfl, own3, b3⟩
            have S3 := (Sd).below b3
            refine hK.out _ _ trivial (fun hHeld => ?_)
            clear hK K
            (try simp only [Act.put, List.getElem_toArray, List.getElem_cons_succ, List.getElem_cons_zero, List.setIfInBounds_toArray, List.set_cons_zero, List.set_cons_succ])
            obtain ⟨k4, k5, z4, z5⟩ := HB.out _ S3
            (refine wpAnyH_ready (rs := [5]) (by kernel_rfl) (by simp) ?_; refine AllReadyH.cons rfl (fun K hK => ?_) AllReadyH.nil)
            go_simp
            refine hK.out _ _ trivial (fun hHeld => ?_)
            clear hK K
            (try simp only [Act.put, List.getElem_toArray, List.getElem_cons_succ, List.getElem_cons_zero, List.setIfInBounds_toArray, List.set_cons_zero, List.set_cons_succ])
            (refine wpAnyH_take (i := 8) (v := ?_) rfl (by kernel_rfl) (by kernel_rfl) (by kernel_rfl) (fun _ _ _ h => h) (Or.inl ⟨by kernel_rfl, ?_⟩) (by assumption) ?_; rotate_left; (focus (intro w hSw; (try dsimp only at hSw); go_simp; all_goals with_reducible rfl)); (try simp only [Act.put, List.getElem_toArray, List.getElem_cons_succ, List.getElem_cons_zero, List.setIfInBounds_toArray, List.set_cons_zero, List.set_cons_succ]))
            (refine wpAnyH_ready (rs := [7]) (by kernel_rfl) (by simp) ?_; refine AllReadyH.cons rfl (fun K hK => ?_) AllReadyH.nil)
            go_simp
            go_at_call 48
            refine (HRN.out _ S3).2.mono ?_
            rintro e w7 ⟨E2, f2, rfl, own7, b7⟩
            have S7 := S3.below b7
            refine hK.out _ _ trivial (fun hHeld => ?_)
            clear hK K
            (try simp only [Act.put, List.getElem_toArray, List.getElem_cons_succ, List.getElem_cons_zero, List.setIfInBounds_toArray, List.set_cons_zero, List.set_cons_succ])
            obtain ⟨k4, k5, z4, z5⟩ := HB.out _ S7
            (refine wpAnyH_ready (rs := [9]) (by kernel_rfl) (by simp) ?_; refine AllReadyH.cons rfl (fun K hK => ?_) AllReadyH.nil)
            go_simp
            refine hK.out _ _ trivial (fun hHeld => ?_)
            clear hK K
            (try simp only [Act.put, List.getElem_toArray, List.getElem_cons_succ, List.getElem_cons_zero, List.setIfInBounds_toArray, List.set_cons_zero, List.set_cons_succ])
            (refine wpAnyH_take (i := 10) (v := ?_) rfl (by kernel_rfl) (by kernel_rfl) (by kernel_rfl) (fun _ _ _ h => h) (Or.inl ⟨by kernel_rfl, ?_⟩) (by assumption) ?_; rotate_left; (focus (intro w hSw; (try dsimp only at hSw); go_simp; all_goals with_reducible rfl)); (try simp only [Act.put, List.getElem_toArray, List.getElem_cons_succ, List.getElem_cons_zero, List.setIfInBounds_toArray, List.set_cons_zero, List.set_cons_succ]))
            (refine wpAnyH_ready (rs := [11]) (by kernel_rfl) (by simp) ?_; refine AllReadyH.cons rfl (fun K hK => ?_) AllReadyH.nil)
            go_simp
            refine hK.out _ _ trivial (fun hHeld => ?_)
            clear hK K
            (try simp only [Act.put, List.getElem_toArray, List.getElem_cons_succ, List.getElem_cons_zero, List.setIfInBounds_toArray, List.set_cons_zero, List.set_cons_succ])
            (refine wpAnyH_done (by kernel_rfl) ?_ _)
            go_wp2
            go_meet
            have own3' := own_below own3 b7
            have sd := Sd.sz
            have s3 := S3.sz
            exact ⟨E1, f1, E2, f2, (S7.store 4 _).store 5 _, ownsRow_setCell_below (ownsRow_setCell_below (own_less own3' sd) (by show w.heap.size < _; omega) _) (by show w.heap.size < _; omega) _, ownsRow_setCell_below (ownsRow_setCell_below (own_less own7 s3) (by show w.heap.size < _; omega) _) (by show w.heap.size < _; omega) _⟩
          · go_simp
            refine hK.out _ _ trivial (fun hHeld => ?_)
            clear hK K
            (try simp only [Act.put, List.getElem_toArray, List.getElem_cons_succ, List.getElem_cons_zero, List.setIfInBounds_toArray, List.set_cons_zero, List.set_cons_succ])
            (refine wpAnyH_ready (rs := [3]) (by kernel_rfl) (by simp) ?_; refine AllReadyH.cons rfl (fun K hK => ?_) AllReadyH.nil)
            go_simp
            go_at_call 48
            refine (HRN.out _ Sd).1.mono ?_
            rintro e w3 ⟨E1, f1, rfl, own3, b3⟩
            have S3 := (Sd).below b3
            refine hK.out _ _ trivial (fun hHeld => ?_)
            clear hK K
            (try simp only [Act.put, List.getElem_toArray, List.getElem_cons_succ, List.getElem_cons_zero, List.setIfInBounds_toArray, List.set_cons_zero, List.set_cons_succ])
            (refine wpAnyH_take (i := 8) (v := ?_) rfl (by kernel_rfl) (by kernel_rfl) (by kernel_rfl) (fun _ _ _ h => h) (Or.inl ⟨by kernel_rfl, ?_⟩) (by assumption) ?_; rotate_left; (focus (intro w hSw; (try dsimp only at hSw); go_simp; all_goals with_reducible rfl)); (try simp only [Act.put, List.getElem_toArray, List.getElem_cons_succ, List.getElem_cons_zero, List.setIfInBounds_toArray, List.set_cons_zero, List.set_cons_succ]))
            (refine wpAnyH_ready (rs := [7]) (by kernel_rfl) (by simp) ?_; refine AllReadyH.cons rfl (fun K hK => ?_) AllReadyH.nil)
            go_simp
            go_at_call 48
            refine (HRN.out _ S3).2.mono ?_
            rintro e w7 ⟨E2, f2, rfl, own7, b7⟩
            have S7 := S3.below b7
            refine hK.out _ _ trivial (fun hHeld => ?_)
            clear hK K
            (try simp only [Act.put, List.getElem_toArray, List.getElem_cons_succ, List.getElem_cons_zero, List.setIfInBounds_toArray, List.set_cons_zero, List.set_cons_succ])
            obtain ⟨k4, k5, z4, z5⟩ := HB.out _ S7
            (refine wpAnyH_ready (rs := [9]) (by kernel_rfl) (by simp) ?_; refine AllReadyH.cons rfl (fun K hK => ?_) AllReadyH.nil)
            go_simp
            refine hK.out _ _ trivial (fun hHeld => ?_)
            clear hK K
            (try simp only [Act.put, List.getElem_toArray, List.getElem_cons_succ, List.getElem_cons_zero, List.setIfInBounds_toArray, List.set_cons_zero, List.set_cons_succ])
            (refine wpAnyH_take (i := 10) (v := ?_) rfl (by kernel_rfl) (by kernel_rfl) (by kernel_rfl) (fun _ _ _ h => h) (Or.inl ⟨by kernel_rfl, ?_⟩) (by assumption) ?_; rotate_left; (focus (intro w hSw; (try dsimp only at hSw); go_simp; all_goals with_reducible rfl)); (try simp only [Act.put, List.getElem_toArray, List.getElem_cons_succ, List.getElem_cons_zero, List.setIfInBounds_toArray, List.set_cons_zero, List.set_cons_succ]))
            (refine wpAnyH_ready (rs := [11]) (by kernel_rfl) (by simp) ?_; refine AllReadyH.cons rfl (fun K hK => ?_) AllReadyH.nil)
            go_simp
            refine hK.out _ _ trivial (fun hHeld => ?_)
            clear hK K
            (try simp only [Act.put, List.getElem_toArray, List.getElem_cons_succ, List.getElem_cons_zero, List.setIfInBounds_toArray, List.set_cons_zero, List.set_cons_succ])
            (refine wpAnyH_done (by kernel_rfl) ?_ _)
            go_wp2
            go_meet
            have own3' := own_below own3 b7
            have sd := Sd.sz
            have s3 := S3.sz
            exact ⟨E1, f1, E2, f2, (S7.store 4 _).store 5 _, ownsRow_setCell_below (ownsRow_setCell_below (own_less own3' sd) (by show w.heap.size < _; omega) _) (by show w.heap.size < _; omega) _, ownsRow_setCell_below (ownsRow_setCell_below (own_less own7 s3) (by show w.heap.size < _; omega) _) (by show w.heap.size < _; omega) _⟩
        · go_simp
          refine hK.out _ _ trivial (fun hHeld => ?_)
          clear hK K
          (try simp only [Act.put, List.getElem_toArray, List.getElem_cons_succ, List.getElem_cons_zero, List.setIfInBounds_toArray, List.set_cons_zero, List.set_cons_succ])
          (refine wpAnyH_ready (rs := [1]) (by kernel_rfl) (by simp) ?_; refine AllReadyH.cons rfl (fun K hK => ?_) AllReadyH.nil)
          go_simp
          refine hK.out _ _ trivial (fun hHeld => ?_)
          clear hK K
          (try simp only [Act.put, List.getElem_toArray, List.getElem_cons_succ, List.getElem_cons_zero, List.setIfInBounds_toArray, List.set_cons_zero, List.set_cons_succ])
          (refine wpAnyH_ready (rs := [3]) (by kernel_rfl) (by simp) ?_; refine AllReadyH.cons rfl (fun K hK => ?_) AllReadyH.nil)
          go_simp
          go_at_call 48
          refine (HRN.out _ Sd).1.mono ?_
          rintro e w3 ⟨E1, f1, rfl, own3, b3⟩
          have S3 := (Sd).below b3
          refine hK.out _ _ trivial (fun hHeld => ?_)
          clear hK K
          (try simp only [Act.put, List.getElem_toArray, List.getElem_cons_succ, List.getElem_cons_zero, List.setIfInBounds_toArray, List.set_cons_zero, List.set_cons_succ])
          (refine wpAnyH_take (i := 8) (v := ?_) rfl (by kernel_rfl) (by kernel_rfl) (by kernel_rfl) (fun _ _ _ h => h) (Or.inl ⟨by kernel_rfl, ?_⟩) (by assumption) ?_; rotate_left; (focus (intro w hSw; (try dsimp only at hSw); go_simp; all_goals with_reducible rfl)); (try simp only [Act.put, List.getElem_toArray, List.getElem_cons_succ, List.getElem_cons_zero, List.setIfInBounds_toArray, List.set_cons_zero, List.set_cons_succ]))
          (refine wpAnyH_ready (rs := [7]) (by kernel_rfl) (by simp) ?_; refine AllReadyH.cons rfl (fun K hK => ?_) AllReadyH.nil)
          go_simp
          go_at_call 48
          refine (HRN.out _ S3).2.mono ?_
          rintro e w7 ⟨E2, f2, rfl, own7, b7⟩
          have S7 := S3.below b7
          refine hK.out _ _ trivial (fun hHeld => ?_)
          clear hK K
          (try simp only [Act.put, List.getElem_toArray, List.getElem_cons_succ, List.getElem_cons_zero, List.setIfInBounds_toArray, List.set_cons_zero, List.set_cons_succ])
          obtain ⟨k4, k5, z4, z5⟩ := HB.out _ S7
          (refine wpAnyH_ready (rs := [9]) (by kernel_rfl) (by simp) ?_; refine AllReadyH.cons rfl (fun K hK => ?_) AllReadyH.nil)
          go_simp
          refine hK.out _ _ trivial (fun hHeld => ?_)
          clear hK K
          (try simp only [Act.put, List.getElem_toArray, List.getElem_cons_succ, List.getElem_cons_zero, List.setIfInBounds_toArray, List.set_cons_zero, List.set_cons_succ])
          (refine wpAnyH_take (i := 10) (v := ?_) rfl (by kernel_rfl) (by kernel_rfl) (by kernel_rfl) (fun _ _ _ h => h) (Or.inl ⟨by kernel_rfl, ?_⟩) (by assumption) ?_; rotate_left; (focus (intro w hSw; (try dsimp only at hSw); go_simp; all_goals with_reducible rfl)); (try simp only [Act.put, List.getElem_toArray, List.getElem_cons_succ, List.getElem_cons_zero, List.setIfInBounds_toArray, List.set_cons_zero, List.set_cons_succ]))
          (refine wpAnyH_ready (rs := [11]) (by kernel_rfl) (by simp) ?_; refine AllReadyH.cons rfl (fun K hK => ?_) AllReadyH.nil)
          go_simp
          refine hK.out _ _ trivial (fun hHeld => ?_)
          clear hK K
          (try simp only [Act.put, List.getElem_toArray, List.getElem_cons_succ, List.getElem_cons_zero, List.setIfInBounds_toArray, List.set_cons_zero, List.set_cons_succ])
          (refine wpAnyH_done (by kernel_rfl) ?_ _)
          go_wp2
          go_meet
          have own3' := own_below own3 b7
          have sd := Sd.sz
          have s3 := S3.sz
          exact ⟨E1, f1, E2, f2, (S7.store 4 _).store 5 _, ownsRow_setCell_below (ownsRow_setCell_below (own_less own3' sd) (by show w.heap.size < _; omega) _) (by show w.heap.size < _; omega) _, ownsRow_setCell_below (ownsRow_setCell_below (own_less own7 s3) (by show w.heap.size < _; omega) _) (by show w.heap.size < _; omega) _⟩
      have HRA : Hid (∀ p ∈ rA, (-100 ≤ p.1 ∧ p.1 ≤ 100000000) ∧ (-100 ≤ p.2 ∧ p.2 ≤ 100000000)) := Lib.hid (by rw [← HrA.out]; exact renL_bd (by omega))
      have HRB : Hid (∀ p ∈ rB, (-100 ≤ p.1 ∧ p.1 ≤ 100000000) ∧ (-100 ≤ p.2 ∧ p.2 ≤ 100000000)) := Lib.hid (by rw [← HrB.out]; exact renL_bd (by omega))
      have lA : rA.length ≤ 1000000 := by rw [← HrA.out]; exact Nat.le_trans (renL_len _ _) HAB.out.1
      have lB : rB.length ≤ 1000000 := by rw [← HrB.out]; exact Nat.le_trans (renL_len _ _) HAB.out.2
      obtain ⟨E1, f1, E2, f2, hst, o3, o4⟩ := hcut
      have HT : Hid (OnlT w.heap.size w ns os rA rB wc B1 d1 B2 d2 cs E1 f1 E2 f2) := Lib.hid ⟨hst.own1, hst.own2, hst.els, o3, o4, hst.bel, hst.sz⟩
      have hbx := hst.box
      have hrs := hst.res
      rw [HBX2.out] at hbx
      have q0 : wc.cell? ⟨w.heap.size, 0, none⟩ = some (.slice A0 x.net.places.length c0) := hbx.cell (j := 0) rfl
      have q1 : wc.cell? ⟨w.heap.size, 1, none⟩ = some (.slice A1 x.net.arcs.length c1) := hbx.cell (j := 1) rfl
      have q2 : wc.cell? ⟨w.heap.size, 2, none⟩ = some (.slice A2 x.types.length c2) := hbx.cell (j := 2) rfl
      have q3 : wc.cell? ⟨w.heap.size, 3, none⟩ = some (.slice B2 os.length d2) := hbx.cell (j := 3) rfl
      have q4 : wc.cell? ⟨w.heap.size, 4, none⟩ = some (.slice E1 rA.length f1) := hbx.cell (j := 4) rfl
      have q5 : wc.cell? ⟨w.heap.size, 5, none⟩ = some (.slice E2 rB.length f2) := hbx.cell (j := 5) rfl
      have r0 : wc.cell? ⟨w.heap.size + 1, 0, none⟩ = some (.slice none 0 0) := hrs.cell (j := 0) rfl
      have r1 : wc.cell? ⟨w.heap.size + 1, 1, none⟩ = some (.slice none 0 0) := hrs.cell (j := 1) rfl
      have r2 : wc.cell? ⟨w.heap.size + 1, 2, none⟩ = some (.slice none 0 0) := hrs.cell (j := 2) rfl
      have r3 : wc.cell? ⟨w.heap.size + 1, 3, none⟩ = some (.slice none 0 0) := hrs.cell (j := 3) rfl
      have r4 : wc.cell? ⟨w.heap.size + 1, 4, none⟩ = some (.slice none 0 0) := hrs.cell (j := 4) rfl
      have r5 : wc.cell? ⟨w.heap.size + 1, 5, none⟩ = some (.slice none 0 0) := hrs.cell (j := 5) rfl
      have g0 := hrs.frozen 0
      have g1 := hrs.frozen 1
      have g2 := hrs.frozen 2
      have g3 := hrs.frozen 3
      have g4 := hrs.frozen 4
      have g5 := hrs.frozen 5
      clear hst o3 o4 hbx hrs
      go_wp2
      refine bodyPost_ret (v := .tuple #[InV ⟨x.net, x.types, os, rA, rB⟩ ⟨A0, c0, A1, c1, A2, c2, B2, d2, E1, f1, E2, f2⟩, .slice B1 ns.length d1, .int .i64 0]) (by simp [results, Tryz.results18, go_sem, InV, r0, r1, r2, r3, r4, r5]) rfl ?_
      have ht := (((((HT.out.set (b := w.heap.size + 1) (by omega) (by omega) 0 (.slice A0 x.net.places.length c0)).set (b := w.heap.size + 1) (by omega) (by omega) 1 (.slice A1 x.net.arcs.length c1)).set (b := w.heap.size + 1) (by omega) (by omega) 2 (.slice A2 x.types.length c2)).set (b := w.heap.size + 1) (by omega) (by omega) 3 (.slice B2 os.length d2)).set (b := w.heap.size + 1) (by omega) (by omega) 4 (.slice E1 rA.length f1)).set (b := w.heap.size + 1) (by omega) (by omega) 5 (.slice E2 rB.length f2)
      rw [HY.out, HNS.out]
      have hi := HI.out
      have hs := ht.sz
      refine ⟨⟨A0, c0, A1, c1, A2, c2, B2, d2, E1, f1, E2, f2⟩, B1, d1, rfl, ⟨(hi.places.below ht.bel).more (by omega), (hi.arcs.below ht.bel).more (by omega), (hi.types.below ht.bel).more (by omega), ht.orders (by omega) HFO.out, two_fits ht.own3 HRA.out (Nat.le_trans lA (by decide)), two_fits ht.own4 HRB.out (Nat.le_trans lB (by decide)), hi.capT, own_len_cap ht.own2, own_len_cap ht.own3, own_len_cap ht.own4⟩, own_less ht.own1 (show w.heap.size ≤ w.heap.size + 1 + 1 by omega), ht.bel⟩
end Go.Proofs.YtceceomaheobhaaGreatDoor.ins

/- The law SplitMerges, walked. -/
import Derived.Test.YtceceomaheobhaaSpvK
import Derived.Deep.RegionHeld3
import Derived.Deep.DeepCutAuto
import Derived.Deep.CutBlock
import Derived.Deep.QuietTactic
import Derived.BigQuiet
namespace Go.Proofs.Ytceceomaheobhaa.spl
open Go.RowKit
open Go.Proofs.Ytceceomaheobhaa.lib Go.Proofs.Ytceceomaheobhaa.rd Go.Proofs.Ytceceomaheobhaa.app Go.Proofs.Ytceceomaheobhaa.els Go.Proofs.Ytceceomaheobhaa.loads Go.Proofs.Ytceceomaheobhaa.typ Go.Proofs.Ytceceomaheobhaa.big Go.Proofs.Ytceceomaheobhaa.ins Go.Proofs.Ytceceomaheobhaa.ord Go.Proofs.Ytceceomaheobhaa.flts Go.Proofs.Ytceceomaheobhaa.off
set_option linter.unusedVariables false
set_option linter.unusedSimpArgs false

def mL : Except Int (List (List Sha)) → List (List Sha)
  | .error _ => []
  | .ok ll => ll
def mK : Except Int (List (List Sha)) → Int
  | .error k => k
  | .ok _ => 0
theorem rmerge_len {x : Ins} {org : List Int} {rs : List Rou} : (mL (rmergeF x org rs)).length ≤ rs.length := by
  unfold rmergeF rmG
  split
  · exact Nat.zero_le _
  · split
    · split
      · show (rs.map _).length ≤ _
        rw [List.length_map]
        exact Nat.le_refl _
      · exact Nat.zero_le _
    · exact Nat.zero_le _
theorem merge_out {w w' : World} {r : Except Int (List (List Sha))} {e : Ending} (h : MergeOut w r e w') (hl : (mL r).length ≤ 1000) : ∃ A c, e = .returned (.tuple #[.slice A (mL r).length c, .int .i64 (mK r)]) ∧ RowAt (rSlice rSha) w' w'.heap.size A (mL r) ∧ Below w.heap.size w w' := by
  cases r with
  | error k => exact ⟨none, 0, h.1, (RowOff.nil (r := oSlice oSha) (P := fun _ => True)).row, h.2⟩
  | ok ll =>
    obtain ⟨A, c, cs, h1, h2, h3, h4⟩ := h
    have hl' : ll.length ≤ 1000 := hl
    exact ⟨A, c, h1, h3.row (r := oSlice oSha) h2 (by omega), h4⟩
theorem rmerge_out {w w' : World} {r : Except Int (List (List Sha))} {e : Ending} (h : RMergeOut w r e w') (hl : (mL r).length ≤ 1000) : ∃ A c, e = .returned (.tuple #[.slice A (mL r).length c, .int .i64 (mK r)]) ∧ RowAt (rSlice rSha) w' w'.heap.size A (mL r) ∧ Below w.heap.size w w' := by
  cases r with
  | error k => exact ⟨none, 0, h.1, (RowOff.nil (r := oSlice oSha) (P := fun _ => True)).row, h.2⟩
  | ok ll =>
    obtain ⟨A, c, cs, h1, h2, h3, h4⟩ := h
    have hl' : ll.length ≤ 1000 := hl
    exact ⟨A, c, h1, h3.row (r := oSlice oSha) h2 (by omega), h4⟩
theorem flat_take {ll : List (List Sha)} {j : Nat} {l : List Sha} (h : ll[j]? = some l) : (ll.take (j + 1)).flatten.length = (ll.take j).flatten.length + l.length := by
  rw [List.take_add_one, h, List.flatten_append, List.length_append]
  simp
set_option maxRecDepth 20000 in
set_option maxHeartbeats 4000000 in
theorem lawMerges_any (x : Ins) (P : InP) (A1 : Option Addr) (c1 : Nat) (org : List Int) (AR : Option Addr) (cR : Nat) (rs : List Rou) (A4 : Option Addr) (n4 c4 : Nat) (AL : Option Addr) (cL : Nat) (ll : List (List Sha)) (AU : Option Addr) (cU : Nat) (un : List Int) (w : World)
    (h : InAt w w.heap.size x P) (hl : RLim x) (hO : Ints w w.heap.size A1 org) (hV : RowAt rRou w w.heap.size AR rs) (hLL : RowAt (rSlice rSha) w w.heap.size AL ll) (hU : Ints w w.heap.size AU un) :
    Calls Try.prog 5 #[InV x P, .slice A1 org.length c1, .agg #[.slice AR rs.length cR, .slice A4 n4 c4], .slice AL ll.length cL, .slice AU un.length cU] w fun e w' => e = .returned (.bool true) ∧ Below w.heap.size w w' := by
  obtain ⟨W0, hW0⟩ : ∃ W0, (w.alloc (.cells (insCs x P).toArray 38)).alloc (.cells #[.slice AR rs.length cR, .slice A4 n4 c4] 46) = W0 := ⟨_, rfl⟩
  have hB0 : Below w.heap.size w W0 := by rw [← hW0]; exact ((Below.refl _ _).alloc (Nat.le_refl _) _).alloc (by simp) _
  have z0 := hB0.size
  have hs0 : w.heap.size + 1 < W0.heap.size := by rw [← hW0]; simp
  have b0 : SixAt W0 w.heap.size (insCs x P) := by
    rw [← hW0]
    unfold SixAt
    rw [Below.heap_alloc _ _ _ (by simp)]
    exact World.alloc_heap_new w _
  obtain ⟨m, hm⟩ : ∃ m, rs.length = m := ⟨_, rfl⟩
  obtain ⟨p, hp⟩ : ∃ p, ll.length = p := ⟨_, rfl⟩
  obtain ⟨u, hu⟩ : ∃ u, un.length = u := ⟨_, rfl⟩
  obtain ⟨o, ho⟩ : ∃ o, org.length = o := ⟨_, rfl⟩
  have v0 : W0.heap[w.heap.size + 1]? = some (.cells #[.slice AR m cR, .slice A4 n4 c4] 46 (0, 0)) := by
    rw [← hW0, ← hm]
    have h := World.alloc_heap_new (w.alloc (.cells (insCs x P).toArray 38)) (.cells #[.slice AR rs.length cR, .slice A4 n4 c4] 46)
    rw [show (w.alloc (.cells (insCs x P).toArray 38)).heap.size = w.heap.size + 1 by simp] at h
    exact h
  have HX := Lib.hid (fun w' (h' : Below W0.heap.size W0 w') => (And.intro ((b0.below h').cells) (And.intro (h.below (hB0.trans (h'.mono z0))) (And.intro (hO.below (hB0.trans (h'.mono z0))) (And.intro (hV.below (hB0.trans (h'.mono z0))) (And.intro (hLL.below (hB0.trans (h'.mono z0))) (hU.below (hB0.trans (h'.mono z0)))))))))
  have HP1 : Hid (∀ w', Below W0.heap.size W0 w' → CellsAt w' ⟨w.heap.size + 1, 0, none⟩ [.slice AR m cR, .slice A4 n4 c4]) := Lib.hid (fun w' h' jj q hq => by rw [addr_add0]; unfold World.cell?; rw [(h'.block _ hs0).trans v0]; simpa using hq)
  have hW1 : (w.alloc (.cells #[.slice P.a0 x.net.places.length P.c0, .slice P.a1 x.net.arcs.length P.c1, .slice P.a2 x.types.length P.c2, .slice P.a3 x.orders.length P.c3, .slice P.a4 x.apart.length P.c4, .slice P.a5 x.before.length P.c5] 38)).alloc (.cells #[.slice AR rs.length cR, .slice A4 n4 c4] 46) = W0 := hW0
  rw [hm] at hW1
  have HW1 := Lib.hid hW1
  have HL := Lib.hid hl
  have HN := Lib.hid (And.intro hm (And.intro hp (And.intro hu ho)))
  have hp9 := hLL.1
  rw [hp] at hp9
  have C0 := Below.refl W0.heap.size W0
  simp only [InV]
  rw [hm, hp, hu, ho]
  clear hW0 hW1 h hl hO hV hLL hU b0 v0 hm hp hu ho
  go_enter Try.func5, Try.ntmps5
  go_upto_region 1 with fail
  rw [HW1.out]
  clear HW1
  go_wp2_with ((with_reducible refine wpList_loadG stIns _ rfl ⟨w.heap.size, 0, none⟩ (insCs (x) P) ?_ ?_ ?_ ?_ ?_); exact rfl; exact rfl; exact (HX.out _ C0).1; exact rfl)
  refine (right_any x P W0 ((HX.out _ C0).2.1.more z0) HL.out).mono ?_
  rintro e w1 ⟨rfl, b1⟩
  have HB1 := Lib.hid b1
  clear b1
  by_cases hF : insF x = []
  rotate_left
  · rw [decide_eq_false hF]
    go_wp2_with fail
    refine (examples_any w1).mono ?_
    rintro e w8 ⟨rfl, b8⟩
    have HB8 := Lib.hid (HB1.out.trans (b8.mono HB1.out.size))
    go_wp2_with fail
    go_ret
    exact ⟨rfl, hB0.trans (HB8.out.mono z0)⟩
  rw [decide_eq_true hF]
  have HA := Lib.hid (acc_of hF)
  clear hF
  have c10 : w1.cell? ⟨w.heap.size + 1, 0, none⟩ = some (.slice AR m cR) := HP1.out _ HB1.out 0 _ rfl
  have c11 : w1.cell? ⟨w.heap.size + 1, 1, none⟩ = some (.slice A4 n4 c4) := HP1.out _ HB1.out 1 _ rfl
  have HSM : Hid (Calls Try.prog 17 #[.agg #[.slice AR m cR, .slice A4 n4 c4]] w1 fun e w' => e = .returned (.bool (smallB rs)) ∧ Below w1.heap.size w1 w') := Lib.hid (by
    have h := small_any AR cR rs A4 n4 c4 w1 ((HX.out _ HB1.out).2.2.2.1.more (Nat.le_trans z0 HB1.out.size))
    rw [HN.out.1] at h
    exact h)
  go_wp2_with fail
  refine HSM.out.mono ?_
  rintro e w2 ⟨rfl, b2⟩
  have HB2 := Lib.hid (HB1.out.trans (b2.mono HB1.out.size))
  clear b2 HSM c10 c11
  obtain ⟨sm, hsm⟩ : ∃ b, smallB rs = b := ⟨_, rfl⟩
  have HS := Lib.hid hsm
  rw [hsm]
  clear hsm
  cases sm
  · skip
    go_wp2_with fail
    refine (examples_any w2).mono ?_
    rintro e w8 ⟨rfl, b8⟩
    have HB8 := Lib.hid (HB2.out.trans (b8.mono HB2.out.size))
    go_wp2_with fail
    go_ret
    exact ⟨rfl, hB0.trans (HB8.out.mono z0)⟩
  have HM12 : Hid (m ≤ 12) := Lib.hid (by
    have h := HS.out
    unfold smallB at h
    rw [HN.out.1] at h
    simp only [Bool.and_eq_true, decide_eq_true_eq] at h
    exact h.1)
  by_cases h20 : p ≤ 20
  rotate_left
  · have h20' : (20 : Int) < (p : Int) := by omega
    go_wp2_with fail
    refine (examples_any w2).mono ?_
    rintro e w8 ⟨rfl, b8⟩
    have HB8 := Lib.hid (HB2.out.trans (b8.mono HB2.out.size))
    go_wp2_with fail
    go_ret
    exact ⟨rfl, hB0.trans (HB8.out.mono z0)⟩
  have h20' : ¬ (20 : Int) < (p : Int) := by omega
  go_wp2_with fail
  have HBS : Hid (w.heap.size ≤ w2.heap.size ∧ W0.heap.size ≤ w2.heap.size) := Lib.hid ⟨Nat.le_trans z0 HB2.out.size, HB2.out.size⟩
  go_loopw [11, 13, 14, 16, 39] (fun v _ _ _ i wr => ∃ (j : Nat) (B : Option Addr) (d : Nat) (cs : List Value), j ≤ p ∧ i = .int .i64 j ∧ v = .slice B j d ∧ Hid ((ll.take j).flatten.length ≤ 5 * j) ∧ Hid (GSt (oSlice oSha) 51 w2.heap.size (fun _ => True) w2 (ll.take j) wr B d cs)) (fun _ _ _ _ i _ => p - (intOf i).toNat)
  case atStart => exact ⟨0, none, 0, [], by omega, rfl, rfl, Lib.hid (by simp), Lib.hid (by rw [List.take_zero]; exact GSt.nil _)⟩
  case round =>
    obtain ⟨j, B, d, cs, hj, rfl, rfl, hfl, HS1⟩ := hrel
    have HTJ : Hid ((ll.take j).length = j) := Lib.hid (by rw [List.length_take, HN.out.2.1]; omega)
    obtain ⟨W3, hW3⟩ : ∃ W3, W3 = wr := ⟨_, rfl⟩
    subst hW3
    have HBW := Lib.hid (HB2.out.trans (HS1.out.bel.mono HBS.out.2))
    have hzb : w2.heap.size ≤ W3.heap.size := HS1.out.bel.size
    have hzW := HBW.out.size
    by_cases hlj : j < p
    · obtain ⟨l, hl⟩ : ∃ l, ll[j]? = some l := ⟨_, List.getElem?_eq_getElem (by rw [HN.out.2.1]; exact hlj)⟩
      obtain ⟨ad, csl, hAL, hadb, ⟨C, c, rfl, hrow⟩, hcs⟩ := ((HX.out _ HBW.out).2.2.2.2.1).elem hl
      have e1 := hcs 0 _ rfl
      rw [show (rSlice rSha).size = 1 from rfl, Nat.mul_one, add_of_add, Nat.add_zero] at e1
      have HLJ := Lib.hid hl
      have HFL := Lib.hid (flat_take hl)
      obtain ⟨t, ht⟩ : ∃ t, l.length = t := ⟨_, rfl⟩
      have HT := Lib.hid ht
      have ht9 := hrow.1
      rw [ht] at e1 ht9
      have HROW : Hid (∀ w', Below W3.heap.size W3 w' → RowAt rSha w' w.heap.size C l) := Lib.hid (fun w' h' => hrow.below (h'.mono (by omega)))
      have hj0 : (0 : Int) ≤ (j : Int) := by omega
      have hjp : (j : Int) < (p : Int) := by omega
      rw [hAL]
      clear hl hcs hrow ht
      by_cases h5 : t ≤ 5
      rotate_left
      · have h5' : (5 : Int) < (t : Int) := by omega
        go_wp2_with fail
        refine (examples_any W3).mono ?_
        rintro e w8 ⟨rfl, b8⟩
        have HB8 := Lib.hid (HBW.out.trans (b8.mono HBW.out.size))
        go_wp2_with fail
        go_ret
        exact ⟨rfl, hB0.trans (HB8.out.mono z0)⟩
      have h5' : ¬ (5 : Int) < (t : Int) := by omega
      go_wp2_with fail
      clear e1
      go_loopw [14, 16, 49] (fun v _ i wr => ∃ (k : Nat) (B2 : Option Addr) (d2 : Nat) (cs2 : List Value), k ≤ t ∧ i = .int .i64 k ∧ v = .slice B2 k d2 ∧ Hid (GSt oSha 54 W3.heap.size (fun b => b < w.heap.size) W3 (l.take k) wr B2 d2 cs2)) (fun _ _ i _ => t - (intOf i).toNat)
      case atStart => exact ⟨0, none, 0, [], by omega, rfl, rfl, Lib.hid (by rw [List.take_zero]; exact GSt.nil _)⟩
      case round =>
        obtain ⟨k, B2, d2, cs2, hk, rfl, rfl, HS2⟩ := hrel
        have HTK : Hid ((l.take k).length = k) := Lib.hid (by rw [List.length_take, HT.out]; omega)
        have hz2 : W3.heap.size ≤ wr.heap.size := HS2.out.bel.size
        by_cases hlk : k < t
        · obtain ⟨s, hs⟩ : ∃ s, l[k]? = some s := ⟨_, List.getElem?_eq_getElem (by rw [HT.out]; exact hlk)⟩
          obtain ⟨ad2, C4, c4', hC, hadb2, ⟨m0, m1⟩, hIs, hfs⟩ := row_Sha (HROW.out _ HS2.out.bel) hs
          have HTK2 : Hid (l.take (k + 1) = l.take k ++ [s]) := Lib.hid (by rw [List.take_add_one, hs]; rfl)
          have hk0 : (0 : Int) ≤ (k : Int) := by omega
          have hkt : (k : Int) < (t : Int) := by omega
          obtain ⟨L4, hL4⟩ : ∃ L, s.load.length = L := ⟨_, rfl⟩
          have HSS := Lib.hid (And.intro hIs (And.intro hfs hL4))
          rw [hL4] at m1
          rw [hC]
          clear hs hIs hfs hL4
          go_upto_region 13 with fail
          obtain ⟨w6, hw6⟩ : ∃ w6, wr.alloc (.cells #[.int .i64 s.order, .slice C4 L4 c4'] 53) = w6 := ⟨_, rfl⟩
          have b6 : Below wr.heap.size wr w6 := by rw [← hw6]; exact (Below.refl _ _).alloc (Nat.le_refl _) _
          have z6 : wr.heap.size < w6.heap.size := by rw [← hw6]; simp
          have p0 : w6.cell? ⟨wr.heap.size, 0, none⟩ = some (.int .i64 s.order) := by rw [← hw6]; exact two_new wr _ _ _ 0 _ rfl
          have p1 : w6.cell? ⟨wr.heap.size, 1, none⟩ = some (.slice C4 L4 c4') := by rw [← hw6]; exact two_new wr _ _ _ 1 _ rfl
          rw [hw6]
          have bl : Below w6.heap.size w6 (w6.alloc (.cells #[.int .i64 s.order, .slice C4 L4 c4'] 54)) := (Below.refl _ _).alloc (Nat.le_refl _) _
          have HS8 := Lib.hid ((HS2.out.below b6 hz2).below bl (by omega))
          have HO8 : Hid ((w6.alloc (.cells #[.int .i64 s.order, .slice C4 L4 c4'] 54)).ownsRow W3.heap.size 54 2 (.slice B2 k d2) k cs2) := Lib.hid (by have h := HS8.out.own; rw [HTK.out] at h; exact h)
          have HI8 : Hid (oSha.at_ (w6.alloc (.cells #[.int .i64 s.order, .slice C4 L4 c4'] 54)) (fun b => some b ≠ (Value.slice B2 (l.take k).length d2).ownBlock ∧ b < w.heap.size) (ShaCells s C4 c4') s) := Lib.hid (oSha_mk (IntsOff.arg ((HSS.out.1.below (b6.mono (by omega))).below (bl.mono (by omega))) (by have := bl.size; omega) (fun b hb => ⟨fun e => by have := (World.ownsRow.lt HS2.out.own b e.symm).1; omega, hb⟩)) HSS.out.2.1)
          have HSZ : Hid (W3.heap.size ≤ (w6.alloc (.cells #[.int .i64 s.order, .slice C4 L4 c4'] 54)).heap.size) := Lib.hid (by have := bl.size; omega)
          clear bl hw6 b6 m0 m1
          go_wp2_with (at_builtin; go_loud (refine wpList_app rsha_elem _ _ rfl W3.heap.size B2 k d2 cs2 rfl HO8.out ⟨w6.heap.size, 0, none⟩ 1 [.int .i64 s.order, .slice C4 L4 c4'] rfl rfl (two_new w6 (.int .i64 s.order) (.slice C4 L4 c4') _) (fun u hu => by simp only [List.mem_cons, List.not_mem_nil, or_false] at hu; rcases hu with rfl | rfl <;> rfl) (by omega) HSZ.out rfl ?_); intro g9 c9 w9 hown9 hg9 hd9; have HP9 := Lib.hid (And.intro hown9 (And.intro hg9 hd9)); clear hown9 hg9 hd9)
          have HQ9 : Hid (GSt oSha 54 W3.heap.size (fun b => b < w.heap.size) W3 (l.take (k + 1)) w9 (some ⟨g9, 0, none⟩) c9 (cs2 ++ ShaCells s C4 c4')) := Lib.hid (by
            obtain ⟨h1, h2, h3⟩ := HP9.out
            rw [← HTK.out] at h1 h2 h3
            rw [← HSS.out.2.2] at h1
            rw [HTK2.out]
            have HS8' := HS8.out
            rw [← HSS.out.2.2] at HS8' h2 h3
            have HI8' := HI8.out
            rw [← HSS.out.2.2] at HI8'
            exact HS8'.push HI8' h1 h2 h3 (by have := HSZ.out; rw [← HSS.out.2.2] at this; exact this))
          exact ⟨⟨k + 1, some ⟨g9, 0, none⟩, c9, _, by omega, by go_num, rfl, HQ9⟩, by simp [intOf]; omega⟩
        · have hkt : k = t := by omega
          subst hkt
          clear hlk
          have HTF : Hid (l.take k = l) := Lib.hid (List.take_of_length_le (by rw [HT.out]; exact Nat.le_refl _))
          have bl : Below wr.heap.size wr (wr.alloc (.cells #[.slice B2 k d2] 51)) := (Below.refl _ _).alloc (Nat.le_refl _) _
          have HSF := HS2.out
          rw [HTF.out] at HSF
          have hlow : ∀ b, some b = (Value.slice B (ll.take j).length d).ownBlock → w2.heap.size ≤ b ∧ b < W3.heap.size := fun b e => World.ownsRow.lt HS1.out.own b e.symm
          have hro : RowOff oSha wr (fun b => some b ≠ (Value.slice B (ll.take j).length d).ownBlock ∧ True) B2 l := HSF.els.off HSF.own (by rw [HT.out]; exact ht9) (fun b _ hb => ⟨fun e => by have := hlow b e; have := HBS.out.1; have hb2 : b < w.heap.size := hb.2; omega, trivial⟩) (fun b hb => ⟨fun e => by have := hlow b e; have hb2 : W3.heap.size ≤ b := hb; omega, trivial⟩)
          have HR8 := Lib.hid (hro.below bl)
          have HS8 := Lib.hid ((HS1.out.below HS2.out.bel hzb).below bl (by omega))
          have HO8 : Hid ((wr.alloc (.cells #[.slice B2 k d2] 51)).ownsRow w2.heap.size 51 1 (.slice B j d) j cs) := Lib.hid (by have h := HS8.out.own; rw [HTJ.out] at h; exact h)
          have HSZ : Hid (w2.heap.size ≤ (wr.alloc (.cells #[.slice B2 k d2] 51)).heap.size) := Lib.hid (by have := bl.size; omega)
          have HFN : Hid ((ll.take (j + 1)).flatten.length ≤ 5 * (j + 1)) := Lib.hid (by rw [HFL.out, HT.out]; have := hfl.out; omega)
          have HTJ2 : Hid (ll.take (j + 1) = ll.take j ++ [l]) := Lib.hid (by rw [List.take_add_one, HLJ.out]; rfl)
          clear bl HSF hlow hro
          go_wp2_with (at_builtin; go_loud (refine wpList_app rshs_elem _ _ rfl w2.heap.size B j d cs rfl HO8.out ⟨wr.heap.size, 0, none⟩ 1 [.slice B2 k d2] rfl rfl (cell_one_new _ _ _) (fun u hu => by rw [List.mem_singleton] at hu; rw [hu]; rfl) (by omega) HSZ.out rfl ?_); intro g9 c9 w9 hown9 hg9 hd9; have HP9 := Lib.hid (And.intro hown9 (And.intro hg9 hd9)); clear hown9 hg9 hd9)
          have HQ9 : Hid (GSt (oSlice oSha) 51 w2.heap.size (fun _ => True) w2 (ll.take (j + 1)) w9 (some ⟨g9, 0, none⟩) c9 (cs ++ [.slice B2 k d2])) := Lib.hid (by
            obtain ⟨h1, h2, h3⟩ := HP9.out
            rw [← HTJ.out] at h1 h2 h3
            rw [HTJ2.out]
            exact HS8.out.push ⟨B2, d2, by rw [HT.out], HR8.out⟩ h1 h2 h3 HSZ.out)
          exact ⟨⟨j + 1, some ⟨g9, 0, none⟩, c9, _, by omega, by go_num, rfl, HFN, HQ9⟩, by simp [intOf]; omega⟩
    · have hjp : j = p := by omega
      subst hjp
      clear hlj
      have HLT : Hid (ll.take j = ll) := Lib.hid (List.take_of_length_le (by rw [HN.out.2.1]; exact Nat.le_refl _))
      have HSR : Hid (RowAt (rSlice rSha) W3 W3.heap.size B ll) := Lib.hid (by
        have hs := HS1.out
        rw [HLT.out] at hs
        exact hs.els.row hs.own (by rw [HN.out.2.1]; exact hp9))
      have HN2 : Hid (ll.flatten.length ≤ 100) := Lib.hid (by have := hfl.out; rw [HLT.out] at this; omega)
      clear HLT HTJ hfl HS1
      obtain ⟨ME, hME⟩ : ∃ r, mergeF x org rs = r := ⟨_, rfl⟩
      have hMR : rmergeF x org rs = ME := by rw [← merge_same HA.out, hME]
      have HML : Hid ((mL ME).length ≤ 1000) := Lib.hid (by have := rmerge_len (x := x) (org := org) (rs := rs); rw [hMR, HN.out.1] at this; have := HM12.out; omega)
      have HME := Lib.hid (And.intro hME hMR)
      clear hME hMR
      have HM1 : Hid (Calls Try.prog 18 #[InV x P, .slice A1 o c1, .agg #[.slice AR m cR, .slice A4 n4 c4]] W3 (MergeOut W3 ME)) := Lib.hid (by
        have h2 := HX.out _ HBW.out
        have hz : w.heap.size ≤ W3.heap.size := Nat.le_trans z0 hzW
        have h := merge_any x P A1 c1 org AR cR rs (.slice A4 n4 c4) W3 (h2.2.1.more hz) HA.out.lim (h2.2.2.1.more hz) (h2.2.2.2.1.more hz) (by have := HM12.out; rw [HN.out.1]; omega) (fun y want he => HA.out.good he)
        rw [HME.out.1, HN.out.1, HN.out.2.2.2] at h
        exact h)
      have c10 : W3.cell? ⟨w.heap.size + 1, 0, none⟩ = some (.slice AR m cR) := HP1.out _ HBW.out 0 _ rfl
      have c11 : W3.cell? ⟨w.heap.size + 1, 1, none⟩ = some (.slice A4 n4 c4) := HP1.out _ HBW.out 1 _ rfl
      go_wp2_with ((with_reducible refine wpList_loadG stIns _ rfl ⟨w.heap.size, 0, none⟩ (insCs (x) P) ?_ ?_ ?_ ?_ ?_); exact rfl; exact rfl; exact (HX.out _ HBW.out).1; exact rfl)
      refine HM1.out.mono ?_
      rintro e w4 hmo
      obtain ⟨A7, c7, rfl, hr7, b7⟩ := merge_out hmo HML.out
      have HB4 := Lib.hid (HBW.out.trans (b7.mono hzW))
      have HR7 := Lib.hid (And.intro hr7 b7)
      have z4 := HB4.out.size
      clear hmo hr7 b7 HM1 c10 c11
      have c10 : w4.cell? ⟨w.heap.size + 1, 0, none⟩ = some (.slice AR m cR) := HP1.out _ HB4.out 0 _ rfl
      have c11 : w4.cell? ⟨w.heap.size + 1, 1, none⟩ = some (.slice A4 n4 c4) := HP1.out _ HB4.out 1 _ rfl
      have HM2 : Hid (Calls Try.prog 19 #[InV x P, .slice A1 o c1, .agg #[.slice AR m cR, .slice A4 n4 c4]] w4 (RMergeOut w4 ME)) := Lib.hid (by
        have h2 := HX.out _ HB4.out
        have hz : w.heap.size ≤ w4.heap.size := Nat.le_trans z0 z4
        have h := rmerge_any x P A1 c1 org AR cR rs (.slice A4 n4 c4) w4 (h2.2.1.more hz) HA.out (h2.2.2.1.more hz) (h2.2.2.2.1.more hz) (by have := HM12.out; rw [HN.out.1]; omega)
        rw [HME.out.2, HN.out.1, HN.out.2.2.2] at h
        exact h)
      go_wp2_with ((with_reducible refine wpList_loadG stIns _ rfl ⟨w.heap.size, 0, none⟩ (insCs (x) P) ?_ ?_ ?_ ?_ ?_); exact rfl; exact rfl; exact (HX.out _ HB4.out).1; exact rfl)
      refine HM2.out.mono ?_
      rintro e w5 hmo
      obtain ⟨A8, c8, rfl, hr8, b8⟩ := rmerge_out hmo HML.out
      have HB5 := Lib.hid (HB4.out.trans (b8.mono z4))
      have HB35 := Lib.hid (HR7.out.2.trans (b8.mono HR7.out.2.size))
      have HRR := Lib.hid (And.intro ((HR7.out.1.below b8).more b8.size) hr8)
      clear hmo hr8 b8 HM2 c10 c11 HR7 HME
      obtain ⟨LL, hLL⟩ : ∃ L, mL ME = L := ⟨_, rfl⟩
      obtain ⟨kk, hkk⟩ : ∃ L, mK ME = L := ⟨_, rfl⟩
      rw [hLL] at HRR HML ⊢
      rw [hkk]
      clear hLL hkk
      obtain ⟨q, hq⟩ : ∃ q, LL.length = q := ⟨_, rfl⟩
      have hq1 := HML.out
      rw [hq] at hq1 ⊢
      have HQ := Lib.hid hq
      clear hq HML
      go_upto_region 19 with fail
      go_cut [101] (fun v wx => v = .bool false ∧ Below w5.heap.size w5 wx)
      case first => as_aux_lemma =>
        have hkk : (kk != kk) = false := by simp
        have hqq : ((q : Int) != (q : Int)) = false := by simp
        obtain ⟨RR, hRR⟩ : ∃ R, wholeF x.orders ll.flatten un = R := ⟨_, rfl⟩
        have hR2 : rwholeF x.orders ll.flatten un = RR := by rw [← whole_same, hRR]
        have z5 := HB5.out.size
        have hz : w.heap.size ≤ w5.heap.size := Nat.le_trans z0 z5
        have HWH1 : Hid (∀ w', Below w5.heap.size w5 w' → Calls Try.prog 20 #[InV x P, .slice AL j cL, .slice AU u cU] w' (WholeOut w' RR)) := Lib.hid (fun w' hb => by
          have h2 := HX.out _ (HB5.out.trans (hb.mono z5))
          have hzz : w.heap.size ≤ w'.heap.size := Nat.le_trans hz hb.size
          have h := whole_any x P AL cL ll AU cU un w' (h2.2.1.more hzz) (h2.2.2.2.2.1.more hzz) (h2.2.2.2.2.2.more hzz) (Nat.le_trans HA.out.orders (by decide)) (fun o ho => by have := okLd_len (HA.out.load o ho); omega) (by rw [HN.out.2.1]; omega) (by have := HN2.out; omega)
          rw [hRR, HN.out.2.1, HN.out.2.2.1] at h
          exact h)
        have HWH2 : Hid (∀ w', Below w5.heap.size w5 w' → Calls Try.prog 21 #[InV x P, .slice B j d, .slice AU u cU] w' (WholeOut w' RR)) := Lib.hid (fun w' hb => by
          have h2 := HX.out _ (HB5.out.trans (hb.mono z5))
          have hzz : w.heap.size ≤ w'.heap.size := Nat.le_trans hz hb.size
          have hb3 := HB35.out.trans (hb.mono HB35.out.size)
          have h := rwhole_any x P B d ll AU cU un w' (h2.2.1.more hzz) ((HSR.out.below hb3).more hb3.size) (h2.2.2.2.2.2.more hzz) (Nat.le_trans HA.out.orders (by decide)) (fun o ho => by have := okLd_len (HA.out.load o ho); omega) (by rw [HN.out.2.1]; omega) (by have := HN2.out; omega)
          rw [hR2, HN.out.2.1, HN.out.2.2.1] at h
          exact h)
        clear hRR hR2
        (refine wp_region_held_drew (S := (fun w' => CellsAt w' ⟨w.heap.size, 0, none⟩ (insCs x P))) (by kernel_rfl) ?_ (fun hHeld => ?_))
        · exact (HX.out _ HB5.out).1
        (refine wpAnyH_take (i := 0) (v := ?_) rfl (by kernel_rfl) (by kernel_rfl) (by kernel_rfl) (fun _ _ _ h => h) (Or.inl ⟨by kernel_rfl, ?_⟩) (by assumption) ?_; rotate_left; (focus (intro w hSw; (try dsimp only at hSw); go_simp; all_goals with_reducible rfl)); (try simp only [Act.put, List.getElem_toArray, List.getElem_cons_succ, List.getElem_cons_zero, List.setIfInBounds_toArray, List.set_cons_zero, List.set_cons_succ]))
        (refine wpAnyH_take (i := 1) (v := ?_) rfl (by kernel_rfl) (by kernel_rfl) (by kernel_rfl) (fun _ _ _ h => h) (Or.inl ⟨by kernel_rfl, ?_⟩) (by assumption) ?_; rotate_left; (focus (intro w hSw; (try dsimp only at hSw); go_simp; all_goals with_reducible rfl)); (try simp only [Act.put, List.getElem_toArray, List.getElem_cons_succ, List.getElem_cons_zero, List.setIfInBounds_toArray, List.set_cons_zero, List.set_cons_succ]))
        (refine wpAnyH_take (i := 2) (v := ?_) rfl (by kernel_rfl) (by kernel_rfl) (by kernel_rfl) (fun _ _ _ h => h) (Or.inl ⟨by kernel_rfl, ?_⟩) (by assumption) ?_; rotate_left; (focus (intro w hSw; (try dsimp only at hSw); go_simp; all_goals with_reducible rfl)); (try simp only [Act.put, List.getElem_toArray, List.getElem_cons_succ, List.getElem_cons_zero, List.setIfInBounds_toArray, List.set_cons_zero, List.set_cons_succ]))
        (refine wpAnyH_take (i := 3) (v := ?_) rfl (by kernel_rfl) (by kernel_rfl) (by kernel_rfl) (fun _ _ _ h => h) (Or.inl ⟨by kernel_rfl, ?_⟩) (by assumption) ?_; rotate_left; (focus (intro w hSw; (try dsimp only at hSw); go_simp; all_goals with_reducible rfl)); (try simp only [Act.put, List.getElem_toArray, List.getElem_cons_succ, List.getElem_cons_zero, List.setIfInBounds_toArray, List.set_cons_zero, List.set_cons_succ]))
        (refine wpAnyH_take (i := 4) (v := ?_) rfl (by kernel_rfl) (by kernel_rfl) (by kernel_rfl) (fun _ _ _ h => h) (Or.inl ⟨by kernel_rfl, ?_⟩) (by assumption) ?_; rotate_left; (focus (intro w hSw; (try dsimp only at hSw); go_simp; all_goals with_reducible rfl)); (try simp only [Act.put, List.getElem_toArray, List.getElem_cons_succ, List.getElem_cons_zero, List.setIfInBounds_toArray, List.set_cons_zero, List.set_cons_succ]))
        (refine wpAnyH_take (i := 5) (v := ?_) rfl (by kernel_rfl) (by kernel_rfl) (by kernel_rfl) (fun _ _ _ h => h) (Or.inl ⟨by kernel_rfl, ?_⟩) (by assumption) ?_; rotate_left; (focus (intro w hSw; (try dsimp only at hSw); go_simp; all_goals with_reducible rfl)); (try simp only [Act.put, List.getElem_toArray, List.getElem_cons_succ, List.getElem_cons_zero, List.setIfInBounds_toArray, List.set_cons_zero, List.set_cons_succ]))
        (refine wpAnyH_take (i := 6) (v := ?_) rfl (by kernel_rfl) (by kernel_rfl) (by kernel_rfl) (fun _ _ _ h => h) (Or.inl ⟨by kernel_rfl, ?_⟩) (by assumption) ?_; rotate_left; (focus (intro w hSw; (try dsimp only at hSw); go_simp; all_goals with_reducible rfl)); (try simp only [Act.put, List.getElem_toArray, List.getElem_cons_succ, List.getElem_cons_zero, List.setIfInBounds_toArray, List.set_cons_zero, List.set_cons_succ]))
        (refine wpAnyH_take (i := 7) (v := ?_) rfl (by kernel_rfl) (by kernel_rfl) (by kernel_rfl) (fun _ _ _ h => h) (Or.inl ⟨by kernel_rfl, ?_⟩) (by assumption) ?_; rotate_left; (focus (intro w hSw; (try dsimp only at hSw); go_simp; all_goals with_reducible rfl)); (try simp only [Act.put, List.getElem_toArray, List.getElem_cons_succ, List.getElem_cons_zero, List.setIfInBounds_toArray, List.set_cons_zero, List.set_cons_succ]))
        (refine wpAnyH_take (i := 8) (v := ?_) rfl (by kernel_rfl) (by kernel_rfl) (by kernel_rfl) (fun _ _ _ h => h) (Or.inl ⟨by kernel_rfl, ?_⟩) (by assumption) ?_; rotate_left; (focus (intro w hSw; (try dsimp only at hSw); go_simp; all_goals with_reducible rfl)); (try simp only [Act.put, List.getElem_toArray, List.getElem_cons_succ, List.getElem_cons_zero, List.setIfInBounds_toArray, List.set_cons_zero, List.set_cons_succ]))
        (refine wpAnyH_take (i := 9) (v := ?_) rfl (by kernel_rfl) (by kernel_rfl) (by kernel_rfl) (fun _ _ _ h => h) (Or.inl ⟨by kernel_rfl, ?_⟩) (by assumption) ?_; rotate_left; (focus (intro w hSw; (try dsimp only at hSw); go_simp; all_goals with_reducible rfl)); (try simp only [Act.put, List.getElem_toArray, List.getElem_cons_succ, List.getElem_cons_zero, List.setIfInBounds_toArray, List.set_cons_zero, List.set_cons_succ]))
        (refine wpAnyH_take (i := 10) (v := ?_) rfl (by kernel_rfl) (by kernel_rfl) (by kernel_rfl) (fun _ _ _ h => h) (Or.inl ⟨by kernel_rfl, ?_⟩) (by assumption) ?_; rotate_left; (focus (intro w hSw; (try dsimp only at hSw); go_simp; all_goals with_reducible rfl)); (try simp only [Act.put, List.getElem_toArray, List.getElem_cons_succ, List.getElem_cons_zero, List.setIfInBounds_toArray, List.set_cons_zero, List.set_cons_succ]))
        (refine wpAnyH_take (i := 11) (v := _) rfl (by kernel_rfl) (by kernel_rfl) (by kernel_rfl) (fun _ _ _ h => h) (Or.inl ⟨by kernel_rfl, fun _ hSw => exec_loadS stIns rfl rfl hSw rfl⟩) (by assumption) ?_; (try simp only [Act.put, List.getElem_toArray, List.getElem_cons_succ, List.getElem_cons_zero, List.setIfInBounds_toArray, List.set_cons_zero, List.set_cons_succ]))
        (refine wpAnyH_take (i := 12) (v := ?_) rfl (by kernel_rfl) (by kernel_rfl) (by kernel_rfl) (fun _ _ _ h => h) (Or.inl ⟨by kernel_rfl, ?_⟩) (by assumption) ?_; rotate_left; (focus (intro w hSw; (try dsimp only at hSw); go_simp; all_goals with_reducible rfl)); (try simp only [Act.put, List.getElem_toArray, List.getElem_cons_succ, List.getElem_cons_zero, List.setIfInBounds_toArray, List.set_cons_zero, List.set_cons_succ]))
        (refine wpAnyH_take (i := 13) (v := ?_) rfl (by kernel_rfl) (by kernel_rfl) (by kernel_rfl) (fun _ _ _ h => h) (Or.inl ⟨by kernel_rfl, ?_⟩) (by assumption) ?_; rotate_left; (focus (intro w hSw; (try dsimp only at hSw); go_simp; all_goals with_reducible rfl)); (try simp only [Act.put, List.getElem_toArray, List.getElem_cons_succ, List.getElem_cons_zero, List.setIfInBounds_toArray, List.set_cons_zero, List.set_cons_succ]))
        (refine wpAnyH_take (i := 15) (v := _) rfl (by kernel_rfl) (by kernel_rfl) (by kernel_rfl) (fun _ _ _ h => h) (Or.inl ⟨by kernel_rfl, fun _ hSw => exec_loadS stIns rfl rfl hSw rfl⟩) (by assumption) ?_; (try simp only [Act.put, List.getElem_toArray, List.getElem_cons_succ, List.getElem_cons_zero, List.setIfInBounds_toArray, List.set_cons_zero, List.set_cons_succ]))
        (refine wpAnyH_take (i := 16) (v := ?_) rfl (by kernel_rfl) (by kernel_rfl) (by kernel_rfl) (fun _ _ _ h => h) (Or.inl ⟨by kernel_rfl, ?_⟩) (by assumption) ?_; rotate_left; (focus (intro w hSw; (try dsimp only at hSw); go_simp; all_goals with_reducible rfl)); (try simp only [Act.put, List.getElem_toArray, List.getElem_cons_succ, List.getElem_cons_zero, List.setIfInBounds_toArray, List.set_cons_zero, List.set_cons_succ]))
        (refine wpAnyH_take (i := 17) (v := ?_) rfl (by kernel_rfl) (by kernel_rfl) (by kernel_rfl) (fun _ _ _ h => h) (Or.inl ⟨by kernel_rfl, ?_⟩) (by assumption) ?_; rotate_left; (focus (intro w hSw; (try dsimp only at hSw); go_simp; all_goals with_reducible rfl)); (try simp only [Act.put, List.getElem_toArray, List.getElem_cons_succ, List.getElem_cons_zero, List.setIfInBounds_toArray, List.set_cons_zero, List.set_cons_succ]))
        (refine wpAnyH_ready (rs := [14]) (by kernel_rfl) (by simp) ?_; refine AllReadyH.cons rfl (fun K hK => ?_) AllReadyH.nil)
        go_simp
        have hd : Below w5.heap.size w5 w5.drew := (Below.refl _ _).drew
        refine (HWH1.out _ hd).mono ?_
        rintro e w6 ⟨rfl, b6⟩
        have HB6 := Lib.hid (hd.trans (b6.mono hd.size))
        clear hd b6
        have f6 : CellsAt w6 ⟨w.heap.size, 0, none⟩ (insCs x P) := (HX.out _ (HB5.out.trans (HB6.out.mono z5))).1
        refine hK.out _ _ (f6) (fun hHeld => ?_)
        clear hK K
        (try simp only [Act.put, List.getElem_toArray, List.getElem_cons_succ, List.getElem_cons_zero, List.setIfInBounds_toArray, List.set_cons_zero, List.set_cons_succ])
        (refine wpAnyH_ready (rs := [18]) (by kernel_rfl) (by simp) ?_; refine AllReadyH.cons rfl (fun K hK => ?_) AllReadyH.nil)
        go_simp
        refine (HWH2.out _ HB6.out).mono ?_
        rintro e w7 ⟨rfl, b7⟩
        have HB7 := Lib.hid (HB6.out.trans (b7.mono HB6.out.size))
        have f7 : CellsAt w7 ⟨w.heap.size, 0, none⟩ (insCs x P) := (HX.out _ (HB5.out.trans (HB7.out.mono z5))).1
        have hrr : (RR != RR) = false := by simp
        clear b7
        refine hK.out _ _ (f7) (fun hHeld => ?_)
        clear hK K
        (try simp only [Act.put, List.getElem_toArray, List.getElem_cons_succ, List.getElem_cons_zero, List.setIfInBounds_toArray, List.set_cons_zero, List.set_cons_succ])
        (refine wpAnyH_take (i := 19) (v := ?_) rfl (by kernel_rfl) (by kernel_rfl) (by kernel_rfl) (fun _ _ _ h => h) (Or.inl ⟨by kernel_rfl, ?_⟩) (by assumption) ?_; rotate_left; (focus (intro w hSw; (try dsimp only at hSw); go_simp; all_goals with_reducible rfl)); (try simp only [Act.put, List.getElem_toArray, List.getElem_cons_succ, List.getElem_cons_zero, List.setIfInBounds_toArray, List.set_cons_zero, List.set_cons_succ]))
        (refine wpAnyH_take (i := 20) (v := ?_) rfl (by kernel_rfl) (by kernel_rfl) (by kernel_rfl) (fun _ _ _ h => h) (Or.inl ⟨by kernel_rfl, ?_⟩) (by assumption) ?_; rotate_left; (focus (intro w hSw; (try dsimp only at hSw); go_simp; all_goals with_reducible rfl)); (try simp only [Act.put, List.getElem_toArray, List.getElem_cons_succ, List.getElem_cons_zero, List.setIfInBounds_toArray, List.set_cons_zero, List.set_cons_succ]))
        (refine wpAnyH_done (by kernel_rfl) ?_ _)
        go_wp2
        go_meet
        exact ⟨rfl, HB7.out⟩
      obtain ⟨hv, hb6⟩ := hcut
      subst hv
      have HB6 := Lib.hid hb6
      have z5 := HB5.out.size
      clear hb6
      have HRA : Hid (∀ w', Below w5.heap.size w5 w' → RowAt (rSlice rSha) w' w5.heap.size A7 LL ∧ RowAt (rSlice rSha) w' w5.heap.size A8 LL) := Lib.hid (fun w' hb => ⟨HRR.out.1.below hb, HRR.out.2.below hb⟩)
      go_wp2_with fail
      go_loopw [21, 22, 104] (fun _ _ i wr => ∃ i' : Nat, i' ≤ q ∧ i = .int .i64 i' ∧ Hid (Below w5.heap.size w5 wr)) (fun _ _ i _ => q - (intOf i).toNat)
      case atStart => exact ⟨0, by omega, rfl, HB6⟩
      case round =>
        clear HB6
        obtain ⟨i, hi, rfl, HB6⟩ := hrel
        by_cases hiq : i < q
        · obtain ⟨l, hl⟩ : ∃ l, LL[i]? = some l := ⟨_, List.getElem?_eq_getElem (by rw [HQ.out]; exact hiq)⟩
          obtain ⟨ada, csa, hA7, hada, ⟨Ca, ca, rfl, hra⟩, hca⟩ := (HRA.out _ HB6.out).1.elem hl
          obtain ⟨adb, csb, hA8, hadb, ⟨Cb, cb, rfl, hrb⟩, hcb⟩ := (HRA.out _ HB6.out).2.elem hl
          have e1 := hca 0 _ rfl
          rw [show (rSlice rSha).size = 1 from rfl, Nat.mul_one, add_of_add, Nat.add_zero] at e1
          have e2 := hcb 0 _ rfl
          rw [show (rSlice rSha).size = 1 from rfl, Nat.mul_one, add_of_add, Nat.add_zero] at e2
          obtain ⟨t, ht⟩ : ∃ t, l.length = t := ⟨_, rfl⟩
          have HT := Lib.hid ht
          have ht9 := hra.1
          rw [ht] at e1 e2 ht9
          have hz6 := HB6.out.size
          have HE : Hid (∀ w', Below wr.heap.size wr w' → w'.cell? (ada.add i) = some (.slice Ca t ca) ∧ w'.cell? (adb.add i) = some (.slice Cb t cb) ∧ RowAt rSha w' w5.heap.size Ca l ∧ RowAt rSha w' w5.heap.size Cb l) := Lib.hid (fun w' hb => ⟨(hb.cell (by rw [block_of_add]; omega)).trans e1, (hb.cell (by rw [block_of_add]; omega)).trans e2, hra.below (hb.mono hz6), hrb.below (hb.mono hz6)⟩)
          have hi0 : (0 : Int) ≤ (i : Int) := by omega
          have hiq' : (i : Int) < (q : Int) := by omega
          have htt : ((t : Int) != (t : Int)) = false := by simp
          rw [hA7, hA8]
          clear hl ht hca hcb hra hrb
          go_upto_region 24 with fail
          go_cut [117] (fun v wx => v = .bool false ∧ Below wr.heap.size wr wx)
          case first => as_aux_lemma =>
            clear hA7 hA8
            go_quiet (fail)
            go_wp2
            go_meet
            exact ⟨by simp, bel_drewN (Below.refl _ _) _⟩
          obtain ⟨hv, hb7⟩ := hcut
          subst hv
          have HB7 := Lib.hid hb7
          clear hb7 e1 e2
          have e1 := (HE.out _ HB7.out).1
          go_upto_region 27 with fail
          clear e1
          go_loopw [22, 123] (fun _ i wr' => ∃ k : Nat, k ≤ t ∧ i = .int .i64 k ∧ Hid (Below wr.heap.size wr wr')) (fun _ i _ => t - (intOf i).toNat)
          case atStart => exact ⟨0, by omega, rfl, HB7⟩
          case round =>
            clear HB7
            obtain ⟨k, hk, rfl, HB7⟩ := hrel
            by_cases hkt : k < t
            · obtain ⟨s, hs⟩ : ∃ s, l[k]? = some s := ⟨_, List.getElem?_eq_getElem (by rw [HT.out]; exact hkt)⟩
              obtain ⟨c1a, c1b, ra, rb⟩ := HE.out _ HB7.out
              obtain ⟨ad2, C4, c4', hCa, hadb2, ⟨m0, m1⟩, hIs, hfs⟩ := row_Sha ra hs
              obtain ⟨ad3, C5, c5', hCb, hadb3, ⟨m2, m3⟩, hIs', hfs'⟩ := row_Sha rb hs
              obtain ⟨L, hL⟩ : ∃ L, s.load.length = L := ⟨_, rfl⟩
              have HI := Lib.hid (And.intro hIs (And.intro hIs' hL))
              have hzo := HB7.out.size
              have hk0 : (0 : Int) ≤ (k : Int) := by omega
              have hkt' : (k : Int) < (t : Int) := by omega
              have hss : (s.order != s.order) = false := by simp
              rw [hL] at m1 m3
              rw [hCa] at c1a
              rw [hCb] at c1b
              clear hs ra rb hIs hIs' hfs hfs' hL hCa hCb
              go_upto_region 29 with fail
              go_cut [162] (fun v wx => v = .bool false ∧ Below wr.heap.size wr wx)
              case first => as_aux_lemma =>
                (refine wp_region_held_drew (S := (fun w' => w'.cell? (ada.add i) = some (.slice (some ad2) t ca) ∧ w'.cell? (adb.add i) = some (.slice (some ad3) t cb) ∧ w'.cell? (ad2.add (k * 2)) = some (.int .i64 s.order) ∧ w'.cell? ⟨(ad2.add (k * 2)).block, (ad2.add (k * 2)).off + 1, none⟩ = some (.slice C4 L c4') ∧ w'.cell? (ad3.add (k * 2)) = some (.int .i64 s.order) ∧ w'.cell? ⟨(ad3.add (k * 2)).block, (ad3.add (k * 2)).off + 1, none⟩ = some (.slice C5 L c5'))) (by kernel_rfl) ?_ (fun hHeld => ?_))
                · exact ⟨c1a, c1b, m0, m1, m2, m3⟩
                (refine wpAnyH_take (i := 0) (v := ?_) rfl (by kernel_rfl) (by kernel_rfl) (by kernel_rfl) (fun _ _ _ h => h) (Or.inl ⟨by kernel_rfl, ?_⟩) (by assumption) ?_; rotate_left; (focus (intro w hSw; (try dsimp only at hSw); go_simp; all_goals with_reducible rfl)); (try simp only [Act.put, List.getElem_toArray, List.getElem_cons_succ, List.getElem_cons_zero, List.setIfInBounds_toArray, List.set_cons_zero, List.set_cons_succ]))
                (refine wpAnyH_take (i := 1) (v := ?_) rfl (by kernel_rfl) (by kernel_rfl) (by kernel_rfl) (fun _ _ _ h => h) (Or.inl ⟨by kernel_rfl, ?_⟩) (by assumption) ?_; rotate_left; (focus (intro w hSw; (try dsimp only at hSw); go_simp; all_goals with_reducible rfl)); (try simp only [Act.put, List.getElem_toArray, List.getElem_cons_succ, List.getElem_cons_zero, List.setIfInBounds_toArray, List.set_cons_zero, List.set_cons_succ]))
                (refine wpAnyH_take (i := 2) (v := ?_) rfl (by kernel_rfl) (by kernel_rfl) (by kernel_rfl) (fun _ _ _ h => h) (Or.inl ⟨by kernel_rfl, ?_⟩) (by assumption) ?_; rotate_left; (focus (intro w hSw; (try dsimp only at hSw); go_simp; all_goals with_reducible rfl)); (try simp only [Act.put, List.getElem_toArray, List.getElem_cons_succ, List.getElem_cons_zero, List.setIfInBounds_toArray, List.set_cons_zero, List.set_cons_succ]))
                (refine wpAnyH_take (i := 3) (v := ?_) rfl (by kernel_rfl) (by kernel_rfl) (by kernel_rfl) (fun _ _ _ h => h) (Or.inl ⟨by kernel_rfl, ?_⟩) (by assumption) ?_; rotate_left; (focus (intro w hSw; (try dsimp only at hSw); go_simp; all_goals with_reducible rfl)); (try simp only [Act.put, List.getElem_toArray, List.getElem_cons_succ, List.getElem_cons_zero, List.setIfInBounds_toArray, List.set_cons_zero, List.set_cons_succ]))
                (refine wpAnyH_take (i := 4) (v := ?_) rfl (by kernel_rfl) (by kernel_rfl) (by kernel_rfl) (fun _ _ _ h => h) (Or.inl ⟨by kernel_rfl, ?_⟩) (by assumption) ?_; rotate_left; (focus (intro w hSw; (try dsimp only at hSw); go_simp; all_goals with_reducible rfl)); (try simp only [Act.put, List.getElem_toArray, List.getElem_cons_succ, List.getElem_cons_zero, List.setIfInBounds_toArray, List.set_cons_zero, List.set_cons_succ]))
                (refine wpAnyH_take (i := 5) (v := ?_) rfl (by kernel_rfl) (by kernel_rfl) (by kernel_rfl) (fun _ _ _ h => h) (Or.inl ⟨by kernel_rfl, ?_⟩) (by assumption) ?_; rotate_left; (focus (intro w hSw; (try dsimp only at hSw); go_simp; all_goals with_reducible rfl)); (try simp only [Act.put, List.getElem_toArray, List.getElem_cons_succ, List.getElem_cons_zero, List.setIfInBounds_toArray, List.set_cons_zero, List.set_cons_succ]))
                (refine wpAnyH_take (i := 6) (v := ?_) rfl (by kernel_rfl) (by kernel_rfl) (by kernel_rfl) (fun _ _ _ h => h) (Or.inl ⟨by kernel_rfl, ?_⟩) (by assumption) ?_; rotate_left; (focus (intro w hSw; (try dsimp only at hSw); go_simp; all_goals with_reducible rfl)); (try simp only [Act.put, List.getElem_toArray, List.getElem_cons_succ, List.getElem_cons_zero, List.setIfInBounds_toArray, List.set_cons_zero, List.set_cons_succ]))
                (refine wpAnyH_take (i := 7) (v := ?_) rfl (by kernel_rfl) (by kernel_rfl) (by kernel_rfl) (fun _ _ _ h => h) (Or.inl ⟨by kernel_rfl, ?_⟩) (by assumption) ?_; rotate_left; (focus (intro w hSw; (try dsimp only at hSw); go_simp; all_goals with_reducible rfl)); (try simp only [Act.put, List.getElem_toArray, List.getElem_cons_succ, List.getElem_cons_zero, List.setIfInBounds_toArray, List.set_cons_zero, List.set_cons_succ]))
                (refine wpAnyH_take (i := 8) (v := ?_) rfl (by kernel_rfl) (by kernel_rfl) (by kernel_rfl) (fun _ _ _ h => h) (Or.inl ⟨by kernel_rfl, ?_⟩) (by assumption) ?_; rotate_left; (focus (intro w hSw; (try dsimp only at hSw); go_simp; all_goals with_reducible rfl)); (try simp only [Act.put, List.getElem_toArray, List.getElem_cons_succ, List.getElem_cons_zero, List.setIfInBounds_toArray, List.set_cons_zero, List.set_cons_succ]))
                (refine wpAnyH_take (i := 9) (v := ?_) rfl (by kernel_rfl) (by kernel_rfl) (by kernel_rfl) (fun _ _ _ h => h) (Or.inl ⟨by kernel_rfl, ?_⟩) (by assumption) ?_; rotate_left; (focus (intro w hSw; (try dsimp only at hSw); go_simp; all_goals with_reducible rfl)); (try simp only [Act.put, List.getElem_toArray, List.getElem_cons_succ, List.getElem_cons_zero, List.setIfInBounds_toArray, List.set_cons_zero, List.set_cons_succ]))
                (refine wpAnyH_take (i := 10) (v := ?_) rfl (by kernel_rfl) (by kernel_rfl) (by kernel_rfl) (fun _ _ _ h => h) (Or.inl ⟨by kernel_rfl, ?_⟩) (by assumption) ?_; rotate_left; (focus (intro w hSw; (try dsimp only at hSw); go_simp; all_goals with_reducible rfl)); (try simp only [Act.put, List.getElem_toArray, List.getElem_cons_succ, List.getElem_cons_zero, List.setIfInBounds_toArray, List.set_cons_zero, List.set_cons_succ]))
                (refine wpAnyH_take (i := 11) (v := ?_) rfl (by kernel_rfl) (by kernel_rfl) (by kernel_rfl) (fun _ _ _ h => h) (Or.inl ⟨by kernel_rfl, ?_⟩) (by assumption) ?_; rotate_left; (focus (intro w hSw; (try dsimp only at hSw); go_simp; all_goals with_reducible rfl)); (try simp only [Act.put, List.getElem_toArray, List.getElem_cons_succ, List.getElem_cons_zero, List.setIfInBounds_toArray, List.set_cons_zero, List.set_cons_succ]))
                (refine wpAnyH_take (i := 12) (v := ?_) rfl (by kernel_rfl) (by kernel_rfl) (by kernel_rfl) (fun _ _ _ h => h) (Or.inl ⟨by kernel_rfl, ?_⟩) (by assumption) ?_; rotate_left; (focus (intro w hSw; (try dsimp only at hSw); go_simp; all_goals with_reducible rfl)); (try simp only [Act.put, List.getElem_toArray, List.getElem_cons_succ, List.getElem_cons_zero, List.setIfInBounds_toArray, List.set_cons_zero, List.set_cons_succ]))
                (refine wpAnyH_take (i := 13) (v := ?_) rfl (by kernel_rfl) (by kernel_rfl) (by kernel_rfl) (fun _ _ _ h => h) (Or.inl ⟨by kernel_rfl, ?_⟩) (by assumption) ?_; rotate_left; (focus (intro w hSw; (try dsimp only at hSw); go_simp; all_goals with_reducible rfl)); (try simp only [Act.put, List.getElem_toArray, List.getElem_cons_succ, List.getElem_cons_zero, List.setIfInBounds_toArray, List.set_cons_zero, List.set_cons_succ]))
                (refine wpAnyH_take (i := 14) (v := ?_) rfl (by kernel_rfl) (by kernel_rfl) (by kernel_rfl) (fun _ _ _ h => h) (Or.inl ⟨by kernel_rfl, ?_⟩) (by assumption) ?_; rotate_left; (focus (intro w hSw; (try dsimp only at hSw); go_simp; all_goals with_reducible rfl)); (try simp only [Act.put, List.getElem_toArray, List.getElem_cons_succ, List.getElem_cons_zero, List.setIfInBounds_toArray, List.set_cons_zero, List.set_cons_succ]))
                (refine wpAnyH_take (i := 15) (v := ?_) rfl (by kernel_rfl) (by kernel_rfl) (by kernel_rfl) (fun _ _ _ h => h) (Or.inl ⟨by kernel_rfl, ?_⟩) (by assumption) ?_; rotate_left; (focus (intro w hSw; (try dsimp only at hSw); go_simp; all_goals with_reducible rfl)); (try simp only [Act.put, List.getElem_toArray, List.getElem_cons_succ, List.getElem_cons_zero, List.setIfInBounds_toArray, List.set_cons_zero, List.set_cons_succ]))
                (refine wpAnyH_take (i := 16) (v := ?_) rfl (by kernel_rfl) (by kernel_rfl) (by kernel_rfl) (fun _ _ _ h => h) (Or.inl ⟨by kernel_rfl, ?_⟩) (by assumption) ?_; rotate_left; (focus (intro w hSw; (try dsimp only at hSw); go_simp; all_goals with_reducible rfl)); (try simp only [Act.put, List.getElem_toArray, List.getElem_cons_succ, List.getElem_cons_zero, List.setIfInBounds_toArray, List.set_cons_zero, List.set_cons_succ]))
                (refine wpAnyH_take (i := 17) (v := ?_) rfl (by kernel_rfl) (by kernel_rfl) (by kernel_rfl) (fun _ _ _ h => h) (Or.inl ⟨by kernel_rfl, ?_⟩) (by assumption) ?_; rotate_left; (focus (intro w hSw; (try dsimp only at hSw); go_simp; all_goals with_reducible rfl)); (try simp only [Act.put, List.getElem_toArray, List.getElem_cons_succ, List.getElem_cons_zero, List.setIfInBounds_toArray, List.set_cons_zero, List.set_cons_succ]))
                (refine wpAnyH_take (i := 18) (v := ?_) rfl (by kernel_rfl) (by kernel_rfl) (by kernel_rfl) (fun _ _ _ h => h) (Or.inl ⟨by kernel_rfl, ?_⟩) (by assumption) ?_; rotate_left; (focus (intro w hSw; (try dsimp only at hSw); go_simp; all_goals with_reducible rfl)); (try simp only [Act.put, List.getElem_toArray, List.getElem_cons_succ, List.getElem_cons_zero, List.setIfInBounds_toArray, List.set_cons_zero, List.set_cons_succ]))
                (refine wpAnyH_take (i := 19) (v := ?_) rfl (by kernel_rfl) (by kernel_rfl) (by kernel_rfl) (fun _ _ _ h => h) (Or.inl ⟨by kernel_rfl, ?_⟩) (by assumption) ?_; rotate_left; (focus (intro w hSw; (try dsimp only at hSw); go_simp; all_goals with_reducible rfl)); (try simp only [Act.put, List.getElem_toArray, List.getElem_cons_succ, List.getElem_cons_zero, List.setIfInBounds_toArray, List.set_cons_zero, List.set_cons_succ]))
                (refine wpAnyH_take (i := 20) (v := ?_) rfl (by kernel_rfl) (by kernel_rfl) (by kernel_rfl) (fun _ _ _ h => h) (Or.inl ⟨by kernel_rfl, ?_⟩) (by assumption) ?_; rotate_left; (focus (intro w hSw; (try dsimp only at hSw); go_simp; all_goals with_reducible rfl)); (try simp only [Act.put, List.getElem_toArray, List.getElem_cons_succ, List.getElem_cons_zero, List.setIfInBounds_toArray, List.set_cons_zero, List.set_cons_succ]))
                (refine wpAnyH_take (i := 21) (v := ?_) rfl (by kernel_rfl) (by kernel_rfl) (by kernel_rfl) (fun _ _ _ h => h) (Or.inl ⟨by kernel_rfl, ?_⟩) (by assumption) ?_; rotate_left; (focus (intro w hSw; (try dsimp only at hSw); go_simp; all_goals with_reducible rfl)); (try simp only [Act.put, List.getElem_toArray, List.getElem_cons_succ, List.getElem_cons_zero, List.setIfInBounds_toArray, List.set_cons_zero, List.set_cons_succ]))
                (refine wpAnyH_take (i := 22) (v := ?_) rfl (by kernel_rfl) (by kernel_rfl) (by kernel_rfl) (fun _ _ _ h => h) (Or.inl ⟨by kernel_rfl, ?_⟩) (by assumption) ?_; rotate_left; (focus (intro w hSw; (try dsimp only at hSw); go_simp; all_goals with_reducible rfl)); (try simp only [Act.put, List.getElem_toArray, List.getElem_cons_succ, List.getElem_cons_zero, List.setIfInBounds_toArray, List.set_cons_zero, List.set_cons_succ]))
                (refine wpAnyH_take (i := 23) (v := ?_) rfl (by kernel_rfl) (by kernel_rfl) (by kernel_rfl) (fun _ _ _ h => h) (Or.inl ⟨by kernel_rfl, ?_⟩) (by assumption) ?_; rotate_left; (focus (intro w hSw; (try dsimp only at hSw); go_simp; all_goals with_reducible rfl)); (try simp only [Act.put, List.getElem_toArray, List.getElem_cons_succ, List.getElem_cons_zero, List.setIfInBounds_toArray, List.set_cons_zero, List.set_cons_succ]))
                (refine wpAnyH_take (i := 24) (v := ?_) rfl (by kernel_rfl) (by kernel_rfl) (by kernel_rfl) (fun _ _ _ h => h) (Or.inl ⟨by kernel_rfl, ?_⟩) (by assumption) ?_; rotate_left; (focus (intro w hSw; (try dsimp only at hSw); go_simp; all_goals with_reducible rfl)); (try simp only [Act.put, List.getElem_toArray, List.getElem_cons_succ, List.getElem_cons_zero, List.setIfInBounds_toArray, List.set_cons_zero, List.set_cons_succ]))
                (refine wpAnyH_take (i := 25) (v := ?_) rfl (by kernel_rfl) (by kernel_rfl) (by kernel_rfl) (fun _ _ _ h => h) (Or.inl ⟨by kernel_rfl, ?_⟩) (by assumption) ?_; rotate_left; (focus (intro w hSw; (try dsimp only at hSw); go_simp; all_goals with_reducible rfl)); (try simp only [Act.put, List.getElem_toArray, List.getElem_cons_succ, List.getElem_cons_zero, List.setIfInBounds_toArray, List.set_cons_zero, List.set_cons_succ]))
                (refine wpAnyH_take (i := 26) (v := ?_) rfl (by kernel_rfl) (by kernel_rfl) (by kernel_rfl) (fun _ _ _ h => h) (Or.inl ⟨by kernel_rfl, ?_⟩) (by assumption) ?_; rotate_left; (focus (intro w hSw; (try dsimp only at hSw); go_simp; all_goals with_reducible rfl)); (try simp only [Act.put, List.getElem_toArray, List.getElem_cons_succ, List.getElem_cons_zero, List.setIfInBounds_toArray, List.set_cons_zero, List.set_cons_succ]))
                (refine wpAnyH_take (i := 27) (v := ?_) rfl (by kernel_rfl) (by kernel_rfl) (by kernel_rfl) (fun _ _ _ h => h) (Or.inl ⟨by kernel_rfl, ?_⟩) (by assumption) ?_; rotate_left; (focus (intro w hSw; (try dsimp only at hSw); go_simp; all_goals with_reducible rfl)); (try simp only [Act.put, List.getElem_toArray, List.getElem_cons_succ, List.getElem_cons_zero, List.setIfInBounds_toArray, List.set_cons_zero, List.set_cons_succ]))
                (refine wpAnyH_take (i := 28) (v := ?_) rfl (by kernel_rfl) (by kernel_rfl) (by kernel_rfl) (fun _ _ _ h => h) (Or.inl ⟨by kernel_rfl, ?_⟩) (by assumption) ?_; rotate_left; (focus (intro w hSw; (try dsimp only at hSw); go_simp; all_goals with_reducible rfl)); (try simp only [Act.put, List.getElem_toArray, List.getElem_cons_succ, List.getElem_cons_zero, List.setIfInBounds_toArray, List.set_cons_zero, List.set_cons_succ]))
                (refine wpAnyH_take (i := 29) (v := ?_) rfl (by kernel_rfl) (by kernel_rfl) (by kernel_rfl) (fun _ _ _ h => h) (Or.inl ⟨by kernel_rfl, ?_⟩) (by assumption) ?_; rotate_left; (focus (intro w hSw; (try dsimp only at hSw); go_simp; all_goals with_reducible rfl)); (try simp only [Act.put, List.getElem_toArray, List.getElem_cons_succ, List.getElem_cons_zero, List.setIfInBounds_toArray, List.set_cons_zero, List.set_cons_succ]))
                (refine wpAnyH_take (i := 30) (v := ?_) rfl (by kernel_rfl) (by kernel_rfl) (by kernel_rfl) (fun _ _ _ h => h) (Or.inl ⟨by kernel_rfl, ?_⟩) (by assumption) ?_; rotate_left; (focus (intro w hSw; (try dsimp only at hSw); go_simp; all_goals with_reducible rfl)); (try simp only [Act.put, List.getElem_toArray, List.getElem_cons_succ, List.getElem_cons_zero, List.setIfInBounds_toArray, List.set_cons_zero, List.set_cons_succ]))
                (refine wpAnyH_take (i := 31) (v := ?_) rfl (by kernel_rfl) (by kernel_rfl) (by kernel_rfl) (fun _ _ _ h => h) (Or.inl ⟨by kernel_rfl, ?_⟩) (by assumption) ?_; rotate_left; (focus (intro w hSw; (try dsimp only at hSw); go_simp; all_goals with_reducible rfl)); (try simp only [Act.put, List.getElem_toArray, List.getElem_cons_succ, List.getElem_cons_zero, List.setIfInBounds_toArray, List.set_cons_zero, List.set_cons_succ]))
                (refine wpAnyH_take (i := 32) (v := ?_) rfl (by kernel_rfl) (by kernel_rfl) (by kernel_rfl) (fun _ _ _ h => h) (Or.inl ⟨by kernel_rfl, ?_⟩) (by assumption) ?_; rotate_left; (focus (intro w hSw; (try dsimp only at hSw); go_simp; all_goals with_reducible rfl)); (try simp only [Act.put, List.getElem_toArray, List.getElem_cons_succ, List.getElem_cons_zero, List.setIfInBounds_toArray, List.set_cons_zero, List.set_cons_succ]))
                (refine wpAnyH_take (i := 33) (v := ?_) rfl (by kernel_rfl) (by kernel_rfl) (by kernel_rfl) (fun _ _ _ h => h) (Or.inl ⟨by kernel_rfl, ?_⟩) (by assumption) ?_; rotate_left; (focus (intro w hSw; (try dsimp only at hSw); go_simp; all_goals with_reducible rfl)); (try simp only [Act.put, List.getElem_toArray, List.getElem_cons_succ, List.getElem_cons_zero, List.setIfInBounds_toArray, List.set_cons_zero, List.set_cons_succ]))
                (refine wpAnyH_ready (rs := [34]) (by kernel_rfl) (by simp) ?_; refine AllReadyH.cons rfl (fun K hK => ?_) AllReadyH.nil)
                go_simp
                have hd : Below wr.heap.size wr wr.drew := (Below.refl _ _).drew
                have hI := ints_any C4 c4' s.load L HI.out.2.2 C5 c5' s.load L HI.out.2.2 wr.drew w5.heap.size w5.heap.size (show w5.heap.size ≤ wr.heap.size by omega) (show w5.heap.size ≤ wr.heap.size by omega) (show Ints wr.drew w5.heap.size C4 s.load from HI.out.1) (show Ints wr.drew w5.heap.size C5 s.load from HI.out.2.1)
                rw [show eqs.sameB s.load s.load = true by unfold eqs.sameB; simp] at hI
                refine hI.mono ?_
                clear hI
                rintro e w6 ⟨rfl, b6'⟩
                have b6 : Below wr.heap.size wr w6 := hd.trans b6'
                have HB8 := Lib.hid b6
                have f6 : w6.cell? (ada.add i) = some (.slice (some ad2) t ca) ∧ w6.cell? (adb.add i) = some (.slice (some ad3) t cb) ∧ w6.cell? (ad2.add (k * 2)) = some (.int .i64 s.order) ∧ w6.cell? ⟨(ad2.add (k * 2)).block, (ad2.add (k * 2)).off + 1, none⟩ = some (.slice C4 L c4') ∧ w6.cell? (ad3.add (k * 2)) = some (.int .i64 s.order) ∧ w6.cell? ⟨(ad3.add (k * 2)).block, (ad3.add (k * 2)).off + 1, none⟩ = some (.slice C5 L c5') :=
                  ⟨(b6.cell (by rw [block_of_add]; omega)).trans c1a, (b6.cell (by rw [block_of_add]; omega)).trans c1b, (b6.cell (by rw [block_of_add]; omega)).trans m0, (b6.cell (p := ⟨(ad2.add (k * 2)).block, (ad2.add (k * 2)).off + 1, none⟩) (by show (ad2.add (k * 2)).block < _; rw [block_of_add]; omega)).trans m1, (b6.cell (by rw [block_of_add]; omega)).trans m2, (b6.cell (p := ⟨(ad3.add (k * 2)).block, (ad3.add (k * 2)).off + 1, none⟩) (by show (ad3.add (k * 2)).block < _; rw [block_of_add]; omega)).trans m3⟩
                clear hd b6 b6'
                refine hK.out _ _ (f6) (fun hHeld => ?_)
                clear hK K
                (try simp only [Act.put, List.getElem_toArray, List.getElem_cons_succ, List.getElem_cons_zero, List.setIfInBounds_toArray, List.set_cons_zero, List.set_cons_succ])
                (refine wpAnyH_take (i := 35) (v := ?_) rfl (by kernel_rfl) (by kernel_rfl) (by kernel_rfl) (fun _ _ _ h => h) (Or.inl ⟨by kernel_rfl, ?_⟩) (by assumption) ?_; rotate_left; (focus (intro w hSw; (try dsimp only at hSw); go_simp; all_goals with_reducible rfl)); (try simp only [Act.put, List.getElem_toArray, List.getElem_cons_succ, List.getElem_cons_zero, List.setIfInBounds_toArray, List.set_cons_zero, List.set_cons_succ]))
                (refine wpAnyH_take (i := 36) (v := ?_) rfl (by kernel_rfl) (by kernel_rfl) (by kernel_rfl) (fun _ _ _ h => h) (Or.inl ⟨by kernel_rfl, ?_⟩) (by assumption) ?_; rotate_left; (focus (intro w hSw; (try dsimp only at hSw); go_simp; all_goals with_reducible rfl)); (try simp only [Act.put, List.getElem_toArray, List.getElem_cons_succ, List.getElem_cons_zero, List.setIfInBounds_toArray, List.set_cons_zero, List.set_cons_succ]))
                (refine wpAnyH_done (by kernel_rfl) ?_ _)
                go_wp2
                go_meet
                exact ⟨rfl, HB8.out⟩
              obtain ⟨hv, hb8⟩ := hcut
              subst hv
              have HBn := Lib.hid (HB7.out.trans (hb8.mono hzo))
              clear hb8 c1a c1b m0 m1 m2 m3
              go_wp2_with fail
              exact ⟨⟨k + 1, by omega, by go_num, HBn⟩, by simp [intOf]; omega⟩
            · have hkt' : k = t := by omega
              subst hkt'
              clear hkt
              have HBn := Lib.hid (HB6.out.trans (HB7.out.mono hz6))
              go_wp2_with fail
              exact ⟨⟨i + 1, by omega, by go_num, HBn⟩, by simp [intOf]; omega⟩
        · have hiq' : i = q := by omega
          subst hiq'
          clear hiq
          have HB9 := Lib.hid (HB5.out.trans (HB6.out.mono z5))
          go_wp2_with fail
          refine (examples_any wr).mono ?_
          rintro e w8 ⟨rfl, b8⟩
          have HB8 := Lib.hid (HB9.out.trans (b8.mono HB9.out.size))
          go_wp2_with fail
          go_ret
          exact ⟨rfl, hB0.trans (HB8.out.mono z0)⟩
end Go.Proofs.Ytceceomaheobhaa.spl

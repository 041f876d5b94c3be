/- The reference's Add; where the rows of what is handed back lie. -/
import Derived.Test.YtofabhenmplkoaaGreatDoorSlwX
import Derived.Test.YtofabhenmplkoaaGreatDoorRefC
import Derived.Test.YtofabhenmplkoaaGreatDoorBase
import Derived.Test.YtofabhenmplkoaaGreatDoorLimX
import Derived.Test.YtofabhenmplkoaaGreatDoorGenX
import Derived.Test.YtofabhenmplkoaaGreatDoorBlkS
import Derived.Test.YtofabhenmplkoaaGreatDoorEvtX
import Derived.Test.YtofabhenmplkoaaGreatDoorRefD
set_option linter.unusedVariables false
set_option linter.unusedSimpArgs false
namespace Go.Proofs.YtofabhenmplkoaaGreatDoor.ins
open Go.RowKit
open lib rd typ app big flts ord
set_option maxRecDepth 100000 in
set_option maxHeartbeats 8000000 in
theorem raddF_any (x : Ins) (P : InP) (o : Ord) (C : Option Addr) (cc : Nat) (B : Nat) (w : World) (hB : B ≤ w.heap.size) (hA : InAt w B x P) (hCA : Ints w B C o.load) (hf : yL o) (hlim : x.orders.length < 10 → Lim (addI x o)) :
  Calls Tryz.prog 49 #[InV x P, .agg #[.string o.name, .slice C o.load.length cc, .int .i64 o.pick.place, .int .i64 o.pick.opn, .int .i64 o.pick.close, .int .i64 o.pick.service, .int .i64 o.drop.place, .int .i64 o.drop.opn, .int .i64 o.drop.close, .int .i64 o.drop.service, .int .i64 o.skills, .int .i64 o.penalty, .int .i64 o.split, .int .i64 o.last, .int .i64 o.now, .bool o.off]] w (AddOutF x o B w) := by
 have h : InAt w w.heap.size x P := hA.more hB
 have hC : Ints w w.heap.size C o.load := hCA.more hB
 have hlen0 := h.orders.len
 obtain ⟨n, hn⟩ : ∃ n, x.orders.length = n := ⟨_, rfl⟩
 by_cases h10 : 10 ≤ n
 ·have hR : Hid (addR x o = (nilI, 4)) := Lib.hid (addR_full (by omega))
  have h10' : (10 : Int) ≤ (n : Int) := by omega
  simp only [InV]
  rw [hn]
  clear hlim h hC hf h10 hn hA hCA
  go_enter Tryz.func49, Tryz.ntmps49
  go_wp2
  refine bodyPost_ret (v := .tuple #[InV nilI nilP, .int .i64 4]) (by simp [results, Tryz.results49, go_sem, InV, nilI, nilP]) rfl ?_
  unfold AddOutF
  rw [hR.out]
  refine ⟨nilP, rfl, InFr.nil, by repeat (first | assumption | exact Below.refl _ _ | refine Below.drew ?_ | refine Below.alloc ?_ (by first | omega | (simp <;> omega)) _ | refine Below.setCell ?_ (by first | omega | (simp <;> omega)) _)⟩
 have h10' : ¬ (10 : Int) ≤ (n : Int) := by omega
 have h10n := h10
 have hLim := Lib.hid (hlim (by omega))
 obtain ⟨CS, hcs, hca, hcb, hone⟩ := RowAt.cells (r := rOrd) (by decide) hA.orders
 have hcap : n ≤ P.c3 := by have := h.capO; omega
 have HI := Lib.hid h
 have HC := Lib.hid (And.intro hC hf)
 have hW1 : ∃ W0, ((w.alloc (.cells (insCs x P).toArray 30)).alloc (.cells (zA o C cc).toArray 35)).alloc (.cells nilCs.toArray 30) = W0 := ⟨_, rfl⟩
 obtain ⟨W0, hW0⟩ := hW1
 have hB0 : Below w.heap.size w W0 := by rw [← hW0]; exact (((Below.refl _ _).alloc (Nat.le_refl _) _).alloc (by simp) _).alloc (by simp; omega) _
 have z0 := hB0.size
 have hs0 : w.heap.size + 1 + 1 < W0.heap.size := by rw [← hW0]; simp
 have b0 : SixAt W0 w.heap.size (insCs x P) := by
  rw [← hW0]
  unfold SixAt
  rw [Below.heap_alloc _ _ _ (by simp; omega), Below.heap_alloc _ _ _ (by simp)]
  exact World.alloc_heap_new w _
 have b1 : OrBlk W0 (w.heap.size + 1) o C cc := by
  rw [← hW0]
  unfold OrBlk
  rw [Below.heap_alloc _ _ _ (by simp)]
  have h := World.alloc_heap_new (w.alloc (.cells (insCs x P).toArray 30)) (.cells (zA o C cc).toArray 35)
  simpa using h
 have b2 : SixAt W0 (w.heap.size + 1 + 1) nilCs := by
  rw [← hW0]
  have h := World.alloc_heap_new ((w.alloc (.cells (insCs x P).toArray 30)).alloc (.cells (zA o C cc).toArray 35)) (.cells nilCs.toArray 30)
  simpa [SixAt] using h
 have HX : Hid (∀ w', Below W0.heap.size W0 w' → SixAt w' w.heap.size (insCs x P)) := Lib.hid fun w' h => (h.block _ (by omega)).trans b0
 have HOB : Hid (∀ w', Below W0.heap.size W0 w' → OrBlk w' (w.heap.size + 1) o C cc) := Lib.hid fun w' h => (h.block _ (by omega)).trans b1
 have HRS : Hid (∀ w', Below W0.heap.size W0 w' → SixAt w' (w.heap.size + 1 + 1) nilCs) := Lib.hid fun w' h => (h.block _ (by omega)).trans b2
 have HCS : Hid (CS.length = n * 16 ∧ (0 < n → ∃ ad, P.a3 = some ad) ∧ (∀ w', Below W0.heap.size W0 w' → ∀ ad, P.a3 = some ad → CellsAt w' ad CS) ∧ (∀ w', Below W0.heap.size W0 w' → CellsOf rOrd w' w'.heap.size x.orders CS)) := Lib.hid (by
  refine ⟨by rw [hcs.1, hn]; rfl, fun h0 => ?_, fun w' hb ad hA' => ?_, fun w' hb => ?_⟩
  ·obtain ⟨ad, h1, _⟩ := hcb (by omega)
   exact ⟨ad, h1⟩
  ·rcases Nat.eq_zero_or_pos n with h0 | h0
   ·obtain rfl : CS = [] := List.eq_nil_of_length_eq_zero (by rw [hcs.1, hn, h0]; simp)
    intro j u hu
    cases hu
   ·obtain ⟨ad', h1, h2⟩ := hcb (by omega)
    rw [hA'] at h1
    obtain rfl := Option.some.inj h1
    exact (hca ad hA').below (hB0.trans (hb.mono z0)) (Nat.lt_of_lt_of_le h2 hB)
  ·have hb' := hB0.trans (hb.mono z0)
   exact (hcs.keep (hb'.mono hB)).more (Nat.le_trans hB hb'.size))
 have HCA := Lib.hid (And.intro hA hCA)
 have HFINI : Hid (∀ w' A' c', B ≤ w'.heap.size → (∀ b, b < B → w'.heap[b]? = w.heap[b]?) → w'.ownsRow (w.heap.size + 1 + 1 + 1 + 1) 35 16 (.slice A' (n + 1) c') (n + 1) (CS ++ zA o C cc) → InAt w' w'.heap.size (addI x o) ⟨P.a0, P.c0, P.a1, P.c1, P.a2, P.c2, A', c', P.a4, P.c4, P.a5, P.c5⟩) := Lib.hid fun w' A' c' hs1 hk1 hown => by
  have hi := (HCA.out.1.blocks hk1).more hs1
  have hle : (x.orders ++ [o]).length = n + 1 := by rw [List.length_append, hn]; rfl
  have hce : CellsOf rOrd w' w'.heap.size (x.orders ++ [o]) (CS ++ zA o C cc) := ((CellsOf.blocks hcs hk1).more hs1).snoc (rOrd_mk ((Ints.blocks HCA.out.2 hk1).more hs1) HC.out.2)
  refine ⟨hi.places, hi.arcs, hi.types, ?_, hi.apart, hi.before, hi.capT, ?_, hi.capA, hi.capB⟩
  ·have h2 := RowAt.of_own (r := rOrd) (l := x.orders ++ [o]) (c := c') hce (by rw [hle]; exact hown) (by rw [hle]; omega)
   exact h2
  ·show (x.orders ++ [o]).length ≤ c'
   rw [hle]
   exact own_len_cap hown
 have HW0 : Hid (((w.alloc (.cells #[.slice P.a0 x.net.places.length P.c0, .slice P.a1 x.net.arcs.length P.c1, .slice P.a2 x.types.length P.c2, .slice P.a3 n P.c3, .slice P.a4 x.apart.length P.c4, .slice P.a5 x.before.length P.c5] 30)).alloc (.cells #[.string o.name, .slice C o.load.length cc, .int .i64 o.pick.place, .int .i64 o.pick.opn, .int .i64 o.pick.close, .int .i64 o.pick.service, .int .i64 o.drop.place, .int .i64 o.drop.opn, .int .i64 o.drop.close, .int .i64 o.drop.service, .int .i64 o.skills, .int .i64 o.penalty, .int .i64 o.split, .int .i64 o.last, .int .i64 o.now, .bool o.off] 35)).alloc (.cells #[.slice none 0 0, .slice none 0 0, .slice none 0 0, .slice none 0 0, .slice none 0 0, .slice none 0 0] 30) = W0) := Lib.hid (by rw [← hn]; exact hW0)
 have HCR : Hid (∀ w', Below W0.heap.size W0 w' → Reads w' w.heap.size 16 P.a3 n CS) := Lib.hid fun w' hb => by
  refine ⟨HCS.out.1, fun h0 => ?_⟩
  obtain ⟨ad, h1, h2⟩ := hcb (by omega)
  refine ⟨ad, h1, Nat.lt_of_lt_of_le h2 hB, ?_⟩
  exact HCS.out.2.2.1 w' hb ad h1
 have HONE : Hid (∀ u ∈ CS, u.oneCell' = true) := Lib.hid (hone (fun u => u.oneCell' = true) (fun cs o h => by obtain ⟨C0, c0, rfl, -⟩ := rOrd_at h; exact zR _ _ _))
 have B0 : Below W0.heap.size W0 W0 := Below.refl _ _
 have HXC : Hid (∀ w', Below W0.heap.size W0 w' → w'.cell? ⟨w.heap.size, 3, none⟩ = some (.slice P.a3 n P.c3)) := Lib.hid fun w' h => by rw [← hn]; exact (HX.out _ h).cell (j := 3) rfl
 have HNL := Lib.hid hn
 clear hlim h hC hf hA hCA hW0 hcs hca hcb hone b0 b1 b2 h10
 simp only [InV]
 rw [hn]
 clear hn
 go_enter Tryz.func49, Tryz.ntmps49
 go_upto_region 1 with fail
 rw [HW0.out]
 have x3 := HXC.out _ B0
 go_upto_region 3 with fail
 clear x3
 go_upto_region 4 with (first
  | ((with_reducible refine zH stIns _ rfl ⟨w.heap.size, 0, none⟩ (insCs (x) P) ?_ ?_ ?_ ?_ ?_); exact rfl; exact rfl; exact (HX.out _ B0).cells; exact rfl)
  | ((with_reducible refine zJ stIns rfl _ _ rfl W0.heap.size nilCs (insCs x P) ?_ ?_ ?_ ?_ ?_ (zT _ _) ?_); exact rfl; exact rfl; exact World.alloc_heap_new W0 _; exact rfl; exact rfl; intro W1 k1 k2 k3 k4; have K := lib.h4 k1 k2 k3 k4; clear k1 k2 k3 k4))
 (try simp only [lib.hly])
 obtain ⟨k1, k2, k3, k4⟩ := K.out
 have zz1 : W1.heap.size = W0.heap.size + 1 := by rw [k3]; simp
 have B1 : Below W0.heap.size W0 W1 := ((Below.refl _ _).alloc (Nat.le_refl _) _).trans k4
 have hz0 : W0.heap.size = w.heap.size + 1 + 1 + 1 := by rw [← HW0.out]; simp
 have T1 : Hid (SixAt W1 W0.heap.size (insCs x P)) := Lib.hid k1
 have x31 := HXC.out _ B1
 have BA1 : Below W0.heap.size W0 (W1.alloc (.cells #[] 35)) := B1.alloc (by omega) _
 have BAs : (W1.alloc (.cells #[] 35)).heap.size = w.heap.size + 1 + 1 + 1 + 1 + 1 := by simp [zz1, hz0]
 have HE0 : Hid ((W1.alloc (.cells #[] 35)).ownsRow (w.heap.size + 1 + 1 + 1 + 1) 35 16 (.slice (some ⟨w.heap.size + 1 + 1 + 1 + 1, 0, none⟩) 0 0) 0 []) := Lib.hid (by
  have h := World.ownsRow_made (base := w.heap.size + 1 + 1 + 1 + 1) (e := 35) (size := 16) W1 #[] 0 (by omega) (by decide) rfl
  rw [zz1, hz0] at h
  exact h)
 clear k1 k2 k3 k4
 have HBG : Hid (∀ w5, (W1.alloc (.cells #[] 35)).grownBy w5 (Value.slice (some ⟨w.heap.size + 1 + 1 + 1 + 1, 0, none⟩) 0 0).ownBlock → Below W0.heap.size W0 w5 ∧ SixAt w5 W0.heap.size (insCs x P)) := Lib.hid fun w5 hg => by
  have hq : ∀ q, (Value.slice (some ⟨w.heap.size + 1 + 1 + 1 + 1, 0, none⟩) 0 0).ownBlock = some q → w.heap.size + 1 + 1 + 1 + 1 ≤ q := fun q e => by
   have := Option.some.inj e
   show w.heap.size + 1 + 1 + 1 + 1 ≤ q
   have e2 : w.heap.size + 1 + 1 + 1 + 1 = q := this
   omega
  have h2 : Below (w.heap.size + 1 + 1 + 1 + 1) (W1.alloc (.cells #[] 35)) w5 := (Below.refl _ _).grown hg (by omega) hq
  refine ⟨BA1.trans (h2.mono (by omega)), ?_⟩
  have h3 : SixAt (W1.alloc (.cells #[] 35)) W0.heap.size (insCs x P) := (Below.heap_alloc _ _ _ (by omega)).trans T1.out
  exact (h2.block _ (by omega)).trans h3
 have BAl : w.heap.size + 1 + 1 + 1 + 1 ≤ (W1.alloc (.cells #[] 35)).heap.size := by omega
 have HBA := Lib.hid BAl
 clear BAl
 go_upto_region 5 with (at_builtin; go_loud (refine zX ord_elem _ _ rfl (w.heap.size + 1 + 1 + 1 + 1) (.slice (some ⟨w.heap.size + 1 + 1 + 1 + 1, 0, none⟩) 0 0) 0 [] rfl HE0.out w.heap.size P.a3 n P.c3 CS rfl (HCR.out _ BA1) HONE.out (by omega) HBA.out rfl ?_); intro A5 c5 w5 hown5 hg5; go_loud (obtain ⟨b5, s5⟩ := HBG.out w5 hg5); go_loud (have x5 : w5.cell? ⟨w.heap.size + 1 + 1 + 1, 3, none⟩ = some (.slice P.a3 n P.c3) := by (rw [← hz0]; rw [← HNL.out]; exact s5.cell (j := 3) rfl)); go_loud (have f5 : w5.frozen? ⟨w.heap.size + 1 + 1 + 1, 3, none⟩ = false := by (rw [← hz0]; exact s5.frozen 3)))
 (try simp only [lib.hly])
 have zx5 := (HBG.out _ hg5).1.size
 have hW6 : ∃ W6, w5.setCell ⟨w.heap.size + 1 + 1 + 1, 3, none⟩ (.slice A5 n c5) = W6 := ⟨_, rfl⟩
 obtain ⟨W6, hW6⟩ := hW6
 have q6 : SixAt W6 (w.heap.size + 1 + 1 + 1) ((insCs x P).set 3 (.slice A5 n c5)) := by
  rw [← hW6]
  rw [hz0] at s5
  exact s5.set 3 _
 have ob6 : OrBlk W6 (w.heap.size + 1) o C cc := by
  rw [← hW6]
  exact (Below.heap_setCell _ _ _ _ (by show w.heap.size + 1 ≠ w.heap.size + 1 + 1 + 1; omega)).trans (HOB.out _ b5)
 have r6 : SixAt W6 (w.heap.size + 1 + 1) nilCs := by
  rw [← hW6]
  exact (HRS.out _ b5).keep (Below.heap_setCell _ _ _ _ (by show w.heap.size + 1 + 1 ≠ w.heap.size + 1 + 1 + 1; omega))
 have own6 : W6.ownsRow (w.heap.size + 1 + 1 + 1 + 1) 35 16 (.slice A5 n c5) n CS := by
  rw [← hW6]
  have h := ownsRow_setCell_below (a := ⟨w.heap.size + 1 + 1 + 1, 3, none⟩) hown5 (by show w.heap.size + 1 + 1 + 1 < _; omega) (.slice A5 n c5)
  simpa using h
 have B6 : Below w.heap.size w W6 := by
  rw [← hW6]
  exact (hB0.trans (b5.mono z0)).setCell (p := ⟨w.heap.size + 1 + 1 + 1, 3, none⟩) (by show w.heap.size ≤ w.heap.size + 1 + 1 + 1; omega) _
 have zl6 : w.heap.size + 1 + 1 + 1 < W6.heap.size := (Array.getElem?_eq_some_iff.1 q6).1
 have HC6 : Hid (∀ w', Below W6.heap.size W6 w' → CellsAt w' ⟨w.heap.size + 1, 0, none⟩ (zA o C cc)) := Lib.hid fun w' h => (orBlk_at ob6).heap (h.block _ (by show w.heap.size + 1 < _; omega))
 have x6 : W6.cell? ⟨w.heap.size + 1 + 1 + 1, 3, none⟩ = some (.slice A5 n c5) := q6.cell (j := 3) rfl
 have HO6 : Hid ((W6.alloc (.cells (zA o C cc).toArray 35)).ownsRow (w.heap.size + 1 + 1 + 1 + 1) 35 16 (.slice A5 n c5) n CS) := Lib.hid (own6.alloc _)
 have HBA6 : Hid (w.heap.size + 1 + 1 + 1 + 1 ≤ (W6.alloc (.cells (zA o C cc).toArray 35)).heap.size) := Lib.hid (by simp; omega)
 have HAF : Hid (∀ w7 g' c', (W6.alloc (.cells (zA o C cc).toArray 35)).grownBy w7 (Value.slice A5 n c5).ownBlock → w7.ownsRow (w.heap.size + 1 + 1 + 1 + 1) 35 16 (.slice (some ⟨g', 0, none⟩) (n + 1) c') (n + 1) (CS ++ zA o C cc) →
   (w7.cell? ⟨w.heap.size + 1 + 1 + 1, 3, none⟩ = some (.slice A5 n c5) ∧ w7.frozen? ⟨w.heap.size + 1 + 1 + 1, 3, none⟩ = false) ∧
   (SixAt (w7.setCell ⟨w.heap.size + 1 + 1 + 1, 3, none⟩ (.slice (some ⟨g', 0, none⟩) (n + 1) c')) (w.heap.size + 1 + 1 + 1) (insCs (addI x o) ⟨P.a0, P.c0, P.a1, P.c1, P.a2, P.c2, some ⟨g', 0, none⟩, c', P.a4, P.c4, P.a5, P.c5⟩) ∧ SixAt (w7.setCell ⟨w.heap.size + 1 + 1 + 1, 3, none⟩ (.slice (some ⟨g', 0, none⟩) (n + 1) c')) (w.heap.size + 1 + 1) nilCs ∧ (w7.setCell ⟨w.heap.size + 1 + 1 + 1, 3, none⟩ (.slice (some ⟨g', 0, none⟩) (n + 1) c')).ownsRow (w.heap.size + 1 + 1 + 1 + 1) 35 16 (.slice (some ⟨g', 0, none⟩) (n + 1) c') (n + 1) (CS ++ zA o C cc) ∧ Below w.heap.size w (w7.setCell ⟨w.heap.size + 1 + 1 + 1, 3, none⟩ (.slice (some ⟨g', 0, none⟩) (n + 1) c')))) := Lib.hid fun w7 g' c' hg hown => by
  have hb7 : Below (w.heap.size + 1 + 1 + 1 + 1) (W6.alloc (.cells (zA o C cc).toArray 35)) w7 := (Below.refl _ _).grown hg HBA6.out (fun q e => own_base own6 q e)
  have hb7' : Below (w.heap.size + 1 + 1 + 1 + 1) W6 w7 := ((Below.refl _ _).alloc zl6 _).trans hb7
  have q7 : SixAt w7 (w.heap.size + 1 + 1 + 1) ((insCs x P).set 3 (.slice A5 n c5)) := (hb7'.block _ (by omega)).trans q6
  refine ⟨⟨q7.cell (j := 3) rfl, q7.frozen 3⟩, ?_, ?_, ?_, ?_⟩
  ·rw [← insCs_add, HNL.out]
   have h := q7.set 3 (.slice (some ⟨g', 0, none⟩) (n + 1) c')
   simpa using h
  ·exact SixAt.keep ((hb7'.block _ (by omega)).trans r6) (Below.heap_setCell _ _ _ _ (by show w.heap.size + 1 + 1 ≠ w.heap.size + 1 + 1 + 1; omega))
  ·exact ownsRow_setCell_below (a := ⟨w.heap.size + 1 + 1 + 1, 3, none⟩) hown (by show w.heap.size + 1 + 1 + 1 < _; omega) _
  ·exact (B6.trans (hb7'.mono (by omega))).setCell (p := ⟨w.heap.size + 1 + 1 + 1, 3, none⟩) (by show w.heap.size ≤ w.heap.size + 1 + 1 + 1; omega) _
 rw [hW6]
 clear hW6 q6 ob6 r6 own6 x5 f5 hown5 hg5 b5 s5 T1 HE0 HCR HONE HBG HBA x31 BA1 BAs HX HOB HRS HCS HW0 HXC zz1 B1 hz0 zx5
 have B66 := Below.refl W6.heap.size W6
 go_cut [] (fun wx => ∃ A' c', SixAt wx (w.heap.size + 1 + 1 + 1) (insCs (addI x o) ⟨P.a0, P.c0, P.a1, P.c1, P.a2, P.c2, A', c', P.a4, P.c4, P.a5, P.c5⟩) ∧ SixAt wx (w.heap.size + 1 + 1) nilCs ∧ wx.ownsRow (w.heap.size + 1 + 1 + 1 + 1) 35 16 (.slice A' (n + 1) c') (n + 1) (CS ++ zA o C cc) ∧ Below w.heap.size w wx)
 case first => as_aux_lemma =>
  go_wp2_with (first
   | ((with_reducible refine zH stOrd' _ rfl ⟨w.heap.size + 1, 0, none⟩ (zA o C cc) ?_ ?_ ?_ ?_ ?_); exact rfl; exact rfl; exact HC6.out _ B66; exact rfl)
   | ((with_reducible refine wpList_bsliceL ord_elem rfl 1 [(0, .tmp 21)] rfl [(0, .agg (zA o C cc).toArray)] (zA o C cc) ordZs ?_ (by decide) (by decide) ord_zs (ord_fill1 o C cc) ?_); exact rfl)
   | (at_builtin; go_loud (refine zN ord_elem _ _ rfl (w.heap.size + 1 + 1 + 1 + 1) A5 n c5 CS rfl HO6.out ⟨W6.heap.size, 0, none⟩ 1 (zA o C cc) rfl rfl (ord_new W6 o C cc) (zR o C cc) (by omega) HBA6.out rfl ?_); intro g7 c7 w7 hown7 hg7 hx7; go_loud (obtain ⟨⟨x7, f7⟩, -⟩ := HAF.out w7 g7 c7 hg7 hown7); have HK7 := Lib.hid (And.intro hg7 hown7); clear hg7 hown7))
  go_meet
  exact ⟨_, c7, (HAF.out w7 g7 c7 HK7.out.1 HK7.out.2).2⟩
 obtain ⟨A', c', hx1, hr1, hown1, hB1⟩ := hcut
 have z1 := hB1.size
 have HX1 := Lib.hid hx1
 have HR1 := Lib.hid hr1
 have HO1 := Lib.hid hown1
 clear hx1 hr1 hown1 HC6 HO6 HBA6 HAF B66 x6 B6
 obtain ⟨Q, hQ⟩ : ∃ Q, (⟨P.a0, P.c0, P.a1, P.c1, P.a2, P.c2, A', c', P.a4, P.c4, P.a5, P.c5⟩ : InP) = Q := ⟨_, rfl⟩
 have HFJ : Hid (∀ w', B ≤ w'.heap.size → (∀ b, b < B → w'.heap[b]? = w.heap[b]?) → w'.ownsRow (w.heap.size + 1 + 1 + 1 + 1) 35 16 (.slice A' (n + 1) c') (n + 1) (CS ++ zA o C cc) → InAt w' w'.heap.size (addI x o) Q) := Lib.hid fun w' h1 h2 h3 => by rw [← hQ]; exact HFINI.out w' A' c' h1 h2 h3
 have HFI : Hid (∀ w', Below w.heap.size w w' → w'.ownsRow (w.heap.size + 1 + 1 + 1 + 1) 35 16 (.slice A' (n + 1) c') (n + 1) (CS ++ zA o C cc) → InAt w' w'.heap.size (addI x o) Q) := Lib.hid fun w' h1 h2 => HFJ.out w' (Nat.le_trans hB h1.size) (fun b hb => h1.block b (by omega)) h2
 rw [hQ] at HX1
 clear hQ HFINI
 go_wp2_with ((with_reducible refine zH stIns _ rfl ⟨w.heap.size + 1 + 1 + 1, 0, none⟩ (insCs (addI x o) Q) ?_ ?_ ?_ ?_ ?_); exact rfl; exact rfl; exact HX1.out.cells; exact rfl)
 refine (richeck_any (addI x o) Q _ (HFI.out _ hB1 HO1.out) (lim_rlim' hLim.out)).mono ?_
 rintro e w2 ⟨Af, cf, rfl, hownF, b2⟩
 have z2 := b2.size
 have HX2 : Hid (SixAt w2 (w.heap.size + 1 + 1 + 1) (insCs (addI x o) Q)) := Lib.hid (HX1.out.below b2)
 have HR2 : Hid (SixAt w2 (w.heap.size + 1 + 1) nilCs) := Lib.hid (HR1.out.below b2)
 have HO2 := Lib.hid (own_below HO1.out b2)
 have hB2 : Below w.heap.size w w2 := hB1.trans (b2.mono z1)
 cases hF : insF (addI x o)
 case nil =>
  have hR : Hid (addR x o = (addI x o, 0)) := Lib.hid (addR_good (by rw [HNL.out]; exact h10n) hF)
  clear hF hownF
  go_wp2_with (first
   | ((with_reducible refine zH stIns _ rfl ⟨w.heap.size + 1 + 1 + 1, 0, none⟩ (insCs (addI x o) Q) ?_ ?_ ?_ ?_ ?_); exact rfl; exact rfl; exact HX2.out.cells; exact rfl)
   | ((with_reducible refine zJ stIns rfl _ _ rfl (w.heap.size + 1 + 1) nilCs (insCs (addI x o) Q) ?_ ?_ ?_ ?_ ?_ (zT _ _) ?_); exact rfl; exact rfl; exact HR2.out; exact rfl; exact rfl; intro w3 k1 k2 k3 k4; have K := lib.h4 k1 k2 k3 k4; clear k1 k2 k3 k4))
  obtain ⟨k1, k2, k3, k4⟩ := K.out
  have k1' : SixAt w3 (w.heap.size + 1 + 1) (insCs (addI x o) Q) := k1
  have hB3 : Below w.heap.size w w3 := hB2.trans (k4.mono (by omega))
  have ho3 := own_other HO2.out k2 (by omega)
  have hi3 : InFr w3 B w.heap.size (addI x o) Q := fun w4 hs4 hk4 => by
   have hs3 := hB3.size
   refine HFJ.out w4 (by omega) (fun b hb => (hk4 b (by omega) (.inl hb)).trans (hB3.block b (by omega))) (gen.own_fr ho3 ⟨hs4, fun b hb hp => hk4 b hb (.inr ?_)⟩)
   have h9 : w.heap.size + 1 + 1 + 1 + 1 ≤ b := hp
   omega
  have r0 : w3.cell? ⟨w.heap.size + 1 + 1, 0, none⟩ = some (.slice Q.a0 (addI x o).net.places.length Q.c0) := k1'.cell (j := 0) rfl
  have r1 : w3.cell? ⟨w.heap.size + 1 + 1, 1, none⟩ = some (.slice Q.a1 (addI x o).net.arcs.length Q.c1) := k1'.cell (j := 1) rfl
  have r2 : w3.cell? ⟨w.heap.size + 1 + 1, 2, none⟩ = some (.slice Q.a2 (addI x o).types.length Q.c2) := k1'.cell (j := 2) rfl
  have r3 : w3.cell? ⟨w.heap.size + 1 + 1, 3, none⟩ = some (.slice Q.a3 (addI x o).orders.length Q.c3) := k1'.cell (j := 3) rfl
  have r4 : w3.cell? ⟨w.heap.size + 1 + 1, 4, none⟩ = some (.slice Q.a4 (addI x o).apart.length Q.c4) := k1'.cell (j := 4) rfl
  have r5 : w3.cell? ⟨w.heap.size + 1 + 1, 5, none⟩ = some (.slice Q.a5 (addI x o).before.length Q.c5) := k1'.cell (j := 5) rfl
  refine bodyPost_ret (v := .tuple #[InV (addI x o) Q, .int .i64 0]) (by simp [results, Tryz.results49, go_sem, InV, r0, r1, r2, r3, r4, r5]) rfl ?_
  unfold AddOutF
  rw [hR.out]
  exact ⟨Q, rfl, hi3, hB3⟩
 case cons f fs =>
  have hR : Hid (addR x o = (nilI, f.err)) := Lib.hid (addR_bad (by rw [HNL.out]; exact h10n) hF)
  rw [hF] at hownF
  have HFI2 := Lib.hid hownF
  obtain ⟨g, hg1, hg2, hg3⟩ := net.flt_place hownF
  obtain ⟨hgA, hgs⟩ := hg2 (by simp)
  obtain ⟨g0, -⟩ := hg3 0 f rfl
  subst hgA
  have gl : (0 : Int) < (fs.length : Int) + 1 := by omega
  have q0 : w2.cell? ⟨g, 0, none⟩ = some (.int .i64 f.err) := by simpa using g0
  have hk2 : w.heap.size + 1 + 1 < wc.heap.size := (Array.getElem?_eq_some_iff.1 HR1.out).1
  have hgne : g ≠ w.heap.size + 1 + 1 := by have := hg1; omega
  clear hF hownF hg2 hg3 g0
  go_upto_region 8 with fail
  (refine wp_region_held_drew (S := (fun w' => w'.cell? ⟨g, 0, none⟩ = some (.int .i64 f.err))) (by kernel_rfl) ?_ (fun hHeld => ?_))
  ·exact q0
  (refine lib.tk 0 ?_ rfl (by kernel_rfl) (fun _ _ _ h => h) ?_ (by assumption) ?_; rotate_left; (focus (intro w hSw; (try dsimp only at hSw); go_simp; all_goals with_reducible rfl)); (try simp only [lib.hly]))
  (refine lib.tk 1 ?_ rfl (by kernel_rfl) (fun _ _ _ h => h) ?_ (by assumption) ?_; rotate_left; (focus (intro w hSw; (try dsimp only at hSw); go_simp; all_goals with_reducible rfl)); (try simp only [lib.hly]))
  (refine lib.tk 2 ?_ rfl (by kernel_rfl) (fun _ _ _ h => h) ?_ (by assumption) ?_; rotate_left; (focus (intro w hSw; (try dsimp only at hSw); go_simp; all_goals with_reducible rfl)); (try simp only [lib.hly]))
  (refine lib.tk 3 ?_ rfl (by kernel_rfl) (fun _ _ _ h => h) ?_ (by assumption) ?_; rotate_left; (focus (intro w hSw; (try dsimp only at hSw); go_simp; all_goals with_reducible rfl)); (try simp only [lib.hly]))
  (refine lib.tk 4 ?_ rfl (by kernel_rfl) (fun _ _ _ h => h) ?_ (by assumption) ?_; rotate_left; (focus (intro w hSw; (try dsimp only at hSw); go_simp; all_goals with_reducible rfl)); (try simp only [lib.hly]))
  (refine wpAnyH_ready (rs := [5]) (by kernel_rfl) (by simp) ?_; refine AllReadyH.cons rfl (fun K hK => ?_) AllReadyH.nil)
  refine yE stIns rfl _ _ rfl (w.heap.size + 1 + 1) nilCs nilCs rfl rfl HR2.out rfl rfl nilCs_one ?_
  intro w3 k1 k2 k3 k4
  have q3 : w3.cell? ⟨g, 0, none⟩ = some (.int .i64 f.err) := mrk_cell (k2 g hgne) q0
  refine hK.out _ _ (q3) (fun hHeld => ?_)
  clear hK K
  (try simp only [lib.hly])
  (refine lib.tk 6 ?_ rfl (by kernel_rfl) (fun _ _ _ h => h) ?_ (by assumption) ?_; rotate_left; (focus (intro w hSw; (try dsimp only at hSw); go_simp; all_goals with_reducible rfl)); (try simp only [lib.hly]))
  (refine wpAnyH_done (by kernel_rfl) ?_ _)
  have hB3 : Below w.heap.size w w3 := hB2.trans (((Below.refl _ _).drew.trans k4).mono (by omega))
  have k1' : SixAt w3 (w.heap.size + 1 + 1) nilCs := k1
  have r0 : w3.cell? ⟨w.heap.size + 1 + 1, 0, none⟩ = some (.slice none 0 0) := k1'.cell (j := 0) rfl
  have r1 : w3.cell? ⟨w.heap.size + 1 + 1, 1, none⟩ = some (.slice none 0 0) := k1'.cell (j := 1) rfl
  have r2 : w3.cell? ⟨w.heap.size + 1 + 1, 2, none⟩ = some (.slice none 0 0) := k1'.cell (j := 2) rfl
  have r3 : w3.cell? ⟨w.heap.size + 1 + 1, 3, none⟩ = some (.slice none 0 0) := k1'.cell (j := 3) rfl
  have r4 : w3.cell? ⟨w.heap.size + 1 + 1, 4, none⟩ = some (.slice none 0 0) := k1'.cell (j := 4) rfl
  have r5 : w3.cell? ⟨w.heap.size + 1 + 1, 5, none⟩ = some (.slice none 0 0) := k1'.cell (j := 5) rfl
  go_wp2
  refine bodyPost_ret (v := .tuple #[InV nilI nilP, .int .i64 f.err]) (by simp [results, Tryz.results49, go_sem, InV, nilI, nilP, r0, r1, r2, r3, r4, r5]) rfl ?_
  unfold AddOutF
  rw [hR.out]
  exact ⟨nilP, rfl, InFr.nil, hB3⟩
end Go.Proofs.YtofabhenmplkoaaGreatDoor.ins
namespace Go.Proofs.YtofabhenmplkoaaGreatDoor.evt
open Go.RowKit
open lib rd app els typ big ins ord gen
set_option maxRecDepth 20000 in
set_option maxHeartbeats 4000000 in
theorem rblank_any (o : Ord) (C : Option Addr) (c : Nat) (w : World) : Calls Tryz.prog 107 #[.agg (zA o C c).toArray] w fun e w' => e = .returned (.bool (yQ o)) ∧ Below w.heap.size w w' := by
 show Calls Tryz.prog 107 #[.agg #[.string o.name, .slice C o.load.length c, .int .i64 o.pick.place, .int .i64 o.pick.opn, .int .i64 o.pick.close, .int .i64 o.pick.service, .int .i64 o.drop.place, .int .i64 o.drop.opn, .int .i64 o.drop.close, .int .i64 o.drop.service, .int .i64 o.skills, .int .i64 o.penalty, .int .i64 o.split, .int .i64 o.last, .int .i64 o.now, .bool o.off]] w _
 obtain ⟨W0, hW0⟩ : ∃ W0, w.alloc (.cells (zA o C c).toArray 35) = W0 := ⟨_, rfl⟩
 have hB0 : Below w.heap.size w W0 := by rw [← hW0]; exact (Below.refl _ _).alloc (Nat.le_refl _) _
 have b0 : Blk W0 w.heap.size 35 (zA o C c) := by rw [← hW0]; exact Blk.new w _ _
 have hW1 : w.alloc (.cells #[.string o.name, .slice C o.load.length c, .int .i64 o.pick.place, .int .i64 o.pick.opn, .int .i64 o.pick.close, .int .i64 o.pick.service, .int .i64 o.drop.place, .int .i64 o.drop.opn, .int .i64 o.drop.close, .int .i64 o.drop.service, .int .i64 o.skills, .int .i64 o.penalty, .int .i64 o.split, .int .i64 o.last, .int .i64 o.now, .bool o.off] 35) = W0 := hW0
 have HW1 := Lib.hid hW1
 have c0 := b0.cell (j := 0) rfl
 have c1 := b0.cell (j := 1) rfl
 have c2 := b0.cell (j := 2) rfl
 have c3 := b0.cell (j := 3) rfl
 have c4 := b0.cell (j := 4) rfl
 have c5 := b0.cell (j := 5) rfl
 have c6 := b0.cell (j := 6) rfl
 have c7 := b0.cell (j := 7) rfl
 have c8 := b0.cell (j := 8) rfl
 have c9 := b0.cell (j := 9) rfl
 have c10 := b0.cell (j := 10) rfl
 have c11 := b0.cell (j := 11) rfl
 have c12 := b0.cell (j := 12) rfl
 have c13 := b0.cell (j := 13) rfl
 have c14 := b0.cell (j := 14) rfl
 have c15 := b0.cell (j := 15) rfl
 clear hW0 hW1 b0
 obtain ⟨q2, hq2⟩ : ∃ q, ((o.load.length : Int) == 0) = q := ⟨_, rfl⟩
 obtain ⟨q5, hq5⟩ : ∃ q, (o.skills == 0) = q := ⟨_, rfl⟩
 obtain ⟨q6, hq6⟩ : ∃ q, (o.penalty == 0) = q := ⟨_, rfl⟩
 obtain ⟨q7, hq7⟩ : ∃ q, (o.split == 0) = q := ⟨_, rfl⟩
 obtain ⟨q8, hq8⟩ : ∃ q, (o.last == 0) = q := ⟨_, rfl⟩
 obtain ⟨q9, hq9⟩ : ∃ q, (o.now == 0) = q := ⟨_, rfl⟩
 have HR0 : Hid (yQ o = (decide (o.name.toList = []) && (q2 && ((o.pick.place == 0 && (o.pick.opn == 0 && (o.pick.close == 0 && o.pick.service == 0))) && ((o.drop.place == 0 && (o.drop.opn == 0 && (o.drop.close == 0 && o.drop.service == 0))) && (q5 && (q6 && (q7 && (q8 && (q9 && !o.off)))))))))) := Lib.hid (by
  unfold yQ stpZ
  rw [hq2, hq5, hq6, hq7, hq8, hq9])
 go_enter Tryz.func107, Tryz.ntmps107
 go_upto_region 1 with fail
 rw [HW1.out]
 clear HW1
 by_cases h1 : ¬ o.name.toList = []
 ·have HR : Hid (yQ o = false) := Lib.hid (by rw [HR0.out, decide_eq_false h1]; rfl)
  go_wp2_with fail
  go_ret
  exact ⟨by rw [HR.out]; rfl, hB0⟩
 have h1 : o.name.toList = [] := Decidable.not_not.1 h1
 cases q2
 ·have HR : Hid (yQ o = false) := Lib.hid (by rw [HR0.out]; simp)
  go_wp2_with fail
  go_ret
  exact ⟨by rw [HR.out]; rfl, hB0⟩
 by_cases h : ¬ o.pick.place = 0
 ·have HR : Hid (yQ o = false) := Lib.hid (by rw [HR0.out]; simp [h])
  go_wp2_with fail
  go_ret
  exact ⟨by rw [HR.out]; rfl, hB0⟩
 have hpickplace : o.pick.place = 0 := Decidable.not_not.1 h
 clear h
 by_cases h : ¬ o.pick.opn = 0
 ·have HR : Hid (yQ o = false) := Lib.hid (by rw [HR0.out]; simp [h])
  go_wp2_with fail
  go_ret
  exact ⟨by rw [HR.out]; rfl, hB0⟩
 have hpickopn : o.pick.opn = 0 := Decidable.not_not.1 h
 clear h
 by_cases h : ¬ o.pick.close = 0
 ·have HR : Hid (yQ o = false) := Lib.hid (by rw [HR0.out]; simp [h])
  go_wp2_with fail
  go_ret
  exact ⟨by rw [HR.out]; rfl, hB0⟩
 have hpickclose : o.pick.close = 0 := Decidable.not_not.1 h
 clear h
 by_cases h : ¬ o.pick.service = 0
 ·have HR : Hid (yQ o = false) := Lib.hid (by rw [HR0.out]; simp [h])
  go_wp2_with fail
  go_ret
  exact ⟨by rw [HR.out]; rfl, hB0⟩
 have hpickservice : o.pick.service = 0 := Decidable.not_not.1 h
 clear h
 by_cases h : ¬ o.drop.place = 0
 ·have HR : Hid (yQ o = false) := Lib.hid (by rw [HR0.out]; simp [h])
  go_wp2_with fail
  go_ret
  exact ⟨by rw [HR.out]; rfl, hB0⟩
 have hdropplace : o.drop.place = 0 := Decidable.not_not.1 h
 clear h
 by_cases h : ¬ o.drop.opn = 0
 ·have HR : Hid (yQ o = false) := Lib.hid (by rw [HR0.out]; simp [h])
  go_wp2_with fail
  go_ret
  exact ⟨by rw [HR.out]; rfl, hB0⟩
 have hdropopn : o.drop.opn = 0 := Decidable.not_not.1 h
 clear h
 by_cases h : ¬ o.drop.close = 0
 ·have HR : Hid (yQ o = false) := Lib.hid (by rw [HR0.out]; simp [h])
  go_wp2_with fail
  go_ret
  exact ⟨by rw [HR.out]; rfl, hB0⟩
 have hdropclose : o.drop.close = 0 := Decidable.not_not.1 h
 clear h
 by_cases h : ¬ o.drop.service = 0
 ·have HR : Hid (yQ o = false) := Lib.hid (by rw [HR0.out]; simp [h])
  go_wp2_with fail
  go_ret
  exact ⟨by rw [HR.out]; rfl, hB0⟩
 have hdropservice : o.drop.service = 0 := Decidable.not_not.1 h
 clear h
 cases q5
 ·have HR : Hid (yQ o = false) := Lib.hid (by rw [HR0.out]; simp)
  go_wp2_with fail
  go_ret
  exact ⟨by rw [HR.out]; rfl, hB0⟩
 cases q6
 ·have HR : Hid (yQ o = false) := Lib.hid (by rw [HR0.out]; simp)
  go_wp2_with fail
  go_ret
  exact ⟨by rw [HR.out]; rfl, hB0⟩
 cases q7
 ·have HR : Hid (yQ o = false) := Lib.hid (by rw [HR0.out]; simp)
  go_wp2_with fail
  go_ret
  exact ⟨by rw [HR.out]; rfl, hB0⟩
 cases q8
 ·have HR : Hid (yQ o = false) := Lib.hid (by rw [HR0.out]; simp)
  go_wp2_with fail
  go_ret
  exact ⟨by rw [HR.out]; rfl, hB0⟩
 cases q9
 ·have HR : Hid (yQ o = false) := Lib.hid (by rw [HR0.out]; simp)
  go_wp2_with fail
  go_ret
  exact ⟨by rw [HR.out]; rfl, hB0⟩
 have HR : Hid (yQ o = !o.off) := Lib.hid (by rw [HR0.out]; simp [h1, hpickplace, hpickopn, hpickclose, hpickservice, hdropplace, hdropopn, hdropclose, hdropservice])
 go_wp2_with fail
 go_ret
 exact ⟨by rw [HR.out]; rfl, hB0⟩
set_option maxRecDepth 20000 in
set_option maxHeartbeats 4000000 in
theorem rclean_any (e : Evt) (C : Option Addr) (c : Nat) (w : World) (hk : 1 ≤ e.kind ∧ e.kind ≤ 5) : Calls Tryz.prog 47 #[.agg (z8 e C c).toArray] w fun en w' => en = .returned (.bool (yP e)) ∧ Below w.heap.size w w' := by
 show Calls Tryz.prog 47 #[.agg #[.int .i64 e.at_, .int .i64 e.kind, .int .i64 e.a, .int .i64 e.b, .int .i64 e.n, .string e.order.name, .slice C e.order.load.length c, .int .i64 e.order.pick.place, .int .i64 e.order.pick.opn, .int .i64 e.order.pick.close, .int .i64 e.order.pick.service, .int .i64 e.order.drop.place, .int .i64 e.order.drop.opn, .int .i64 e.order.drop.close, .int .i64 e.order.drop.service, .int .i64 e.order.skills, .int .i64 e.order.penalty, .int .i64 e.order.split, .int .i64 e.order.last, .int .i64 e.order.now, .bool e.order.off]] w _
 obtain ⟨W0, hW0⟩ : ∃ W0, w.alloc (.cells (z8 e C c).toArray 37) = W0 := ⟨_, rfl⟩
 have hB0 : Below w.heap.size w W0 := by rw [← hW0]; exact (Below.refl _ _).alloc (Nat.le_refl _) _
 have z0 := hB0.size
 have b0 : Blk W0 w.heap.size 37 (z8 e C c) := by rw [← hW0]; exact Blk.new w _ _
 have HE0 := Lib.hid b0
 have hW1 : w.alloc (.cells #[.int .i64 e.at_, .int .i64 e.kind, .int .i64 e.a, .int .i64 e.b, .int .i64 e.n, .string e.order.name, .slice C e.order.load.length c, .int .i64 e.order.pick.place, .int .i64 e.order.pick.opn, .int .i64 e.order.pick.close, .int .i64 e.order.pick.service, .int .i64 e.order.drop.place, .int .i64 e.order.drop.opn, .int .i64 e.order.drop.close, .int .i64 e.order.drop.service, .int .i64 e.order.skills, .int .i64 e.order.penalty, .int .i64 e.order.split, .int .i64 e.order.last, .int .i64 e.order.now, .bool e.order.off] 37) = W0 := hW0
 have HW1 := Lib.hid hW1
 have c0 := b0.cell (j := 0) rfl
 have c1 := b0.cell (j := 1) rfl
 have c2 := b0.cell (j := 2) rfl
 have c3 := b0.cell (j := 3) rfl
 have c4 := b0.cell (j := 4) rfl
 clear hW0 hW1 b0
 obtain ⟨qa, hqa⟩ : ∃ q, (e.a == 0) = q := ⟨_, rfl⟩
 obtain ⟨qb, hqb⟩ : ∃ q, (e.b == 0) = q := ⟨_, rfl⟩
 obtain ⟨qn, hqn⟩ : ∃ q, (e.n == 0) = q := ⟨_, rfl⟩
 have HR0 : Hid (yP e = (if e.kind = 1 then qa && (qb && qn) else if e.kind = 3 then yQ e.order else if e.kind = 5 then qb && yQ e.order else qb && (qn && yQ e.order))) := Lib.hid (by
  unfold yP
  rw [← hqa, ← hqb, ← hqn])
 have hk5 : e.kind = 1 ∨ e.kind = 2 ∨ e.kind = 3 ∨ e.kind = 4 ∨ e.kind = 5 := by omega
 clear hk
 go_enter Tryz.func47, Tryz.ntmps47
 go_upto_region 1 with fail
 rw [HW1.out]
 clear HW1
 rcases hk5 with hk | hk | hk | hk | hk
 ·cases qa
  ·have HR : Hid (yP e = false) := Lib.hid (by rw [HR0.out, if_pos hk]; rfl)
   go_wp2_with fail
   go_ret
   exact ⟨by rw [HR.out]; rfl, hB0⟩
  cases qb
  ·have HR : Hid (yP e = false) := Lib.hid (by rw [HR0.out, if_pos hk]; rfl)
   go_wp2_with fail
   go_ret
   exact ⟨by rw [HR.out]; rfl, hB0⟩
  have HR : Hid (yP e = qn) := Lib.hid (by rw [HR0.out, if_pos hk]; rfl)
  cases qn
  ·skip
   go_wp2_with fail
   go_ret
   exact ⟨by rw [HR.out]; rfl, hB0⟩
  ·skip
   go_wp2_with fail
   go_ret
   exact ⟨by rw [HR.out]; rfl, hB0⟩
 ·cases qb
  ·have HR : Hid (yP e = false) := Lib.hid (by rw [HR0.out, if_neg (by omega), if_neg (by omega), if_neg (by omega)]; rfl)
   go_wp2_with fail
   go_ret
   exact ⟨by rw [HR.out]; rfl, hB0⟩
  cases qn
  ·have HR : Hid (yP e = false) := Lib.hid (by rw [HR0.out, if_neg (by omega), if_neg (by omega), if_neg (by omega)]; rfl)
   go_wp2_with fail
   go_ret
   exact ⟨by rw [HR.out]; rfl, hB0⟩
  have HR : Hid (yP e = yQ e.order) := Lib.hid (by rw [HR0.out, if_neg (by omega), if_neg (by omega), if_neg (by omega)]; rfl)
  go_wp2_with ((with_reducible refine zH stOrd' _ rfl ⟨w.heap.size, 5, none⟩ (zA e.order C c) ?_ ?_ ?_ ?_ ?_); exact rfl; exact rfl; exact (ord_evt HE0.out); exact rfl)
  refine (rblank_any e.order C c _).mono ?_
  rintro e2 w2 ⟨rfl, b2⟩
  have HB2 := Lib.hid (hB0.trans (b2.mono z0))
  clear b2
  go_wp2_with fail
  go_ret
  exact ⟨by rw [HR.out]; rfl, HB2.out⟩
 ·have HR : Hid (yP e = yQ e.order) := Lib.hid (by rw [HR0.out, if_neg (by omega), if_pos hk])
  go_wp2_with ((with_reducible refine zH stOrd' _ rfl ⟨w.heap.size, 5, none⟩ (zA e.order C c) ?_ ?_ ?_ ?_ ?_); exact rfl; exact rfl; exact (ord_evt HE0.out); exact rfl)
  refine (rblank_any e.order C c _).mono ?_
  rintro e2 w2 ⟨rfl, b2⟩
  have HB2 := Lib.hid (hB0.trans (b2.mono z0))
  clear b2
  go_wp2_with fail
  go_ret
  exact ⟨by rw [HR.out]; rfl, HB2.out⟩
 ·cases qb
  ·have HR : Hid (yP e = false) := Lib.hid (by rw [HR0.out, if_neg (by omega), if_neg (by omega), if_neg (by omega)]; rfl)
   go_wp2_with fail
   go_ret
   exact ⟨by rw [HR.out]; rfl, hB0⟩
  cases qn
  ·have HR : Hid (yP e = false) := Lib.hid (by rw [HR0.out, if_neg (by omega), if_neg (by omega), if_neg (by omega)]; rfl)
   go_wp2_with fail
   go_ret
   exact ⟨by rw [HR.out]; rfl, hB0⟩
  have HR : Hid (yP e = yQ e.order) := Lib.hid (by rw [HR0.out, if_neg (by omega), if_neg (by omega), if_neg (by omega)]; rfl)
  go_wp2_with ((with_reducible refine zH stOrd' _ rfl ⟨w.heap.size, 5, none⟩ (zA e.order C c) ?_ ?_ ?_ ?_ ?_); exact rfl; exact rfl; exact (ord_evt HE0.out); exact rfl)
  refine (rblank_any e.order C c _).mono ?_
  rintro e2 w2 ⟨rfl, b2⟩
  have HB2 := Lib.hid (hB0.trans (b2.mono z0))
  clear b2
  go_wp2_with fail
  go_ret
  exact ⟨by rw [HR.out]; rfl, HB2.out⟩
 ·cases qb
  ·have HR : Hid (yP e = false) := Lib.hid (by rw [HR0.out, if_neg (by omega), if_neg (by omega), if_pos hk]; rfl)
   go_wp2_with fail
   go_ret
   exact ⟨by rw [HR.out]; rfl, hB0⟩
  have HR : Hid (yP e = yQ e.order) := Lib.hid (by rw [HR0.out, if_neg (by omega), if_neg (by omega), if_pos hk]; rfl)
  go_wp2_with ((with_reducible refine zH stOrd' _ rfl ⟨w.heap.size, 5, none⟩ (zA e.order C c) ?_ ?_ ?_ ?_ ?_); exact rfl; exact rfl; exact (ord_evt HE0.out); exact rfl)
  refine (rblank_any e.order C c _).mono ?_
  rintro e2 w2 ⟨rfl, b2⟩
  have HB2 := Lib.hid (hB0.trans (b2.mono z0))
  clear b2
  go_wp2_with fail
  go_ret
  exact ⟨by rw [HR.out]; rfl, HB2.out⟩
set_option maxRecDepth 20000 in
set_option maxHeartbeats 4000000 in
theorem rordered_any (x : Ins) (P : InP) (k : Int) (w : World) (h : InAt w w.heap.size x P) : Calls Tryz.prog 108 #[InV x P, .int .i64 k] w fun e w' => e = .returned (.int .i64 (thrF x k)) ∧ Below w.heap.size w w' := by
 have hlen := h.orders.1
 obtain ⟨W0, hW0⟩ : ∃ W0, w.alloc (.cells (insCs x P).toArray 30) = W0 := ⟨_, rfl⟩
 have hB0 : Below w.heap.size w W0 := by rw [← hW0]; exact (Below.refl _ _).alloc (Nat.le_refl _) _
 have z0 := hB0.size
 have b0 : SixAt W0 w.heap.size (insCs x P) := by rw [← hW0]; exact World.alloc_heap_new w _
 have HX := Lib.hid (fun w' (h' : Below W0.heap.size W0 w') => (b0.below h'))
 have HI := Lib.hid (fun w' (h' : Below W0.heap.size W0 w') => (h.go hB0).go h')
 have hW1 : w.alloc (.cells #[.slice P.a0 x.net.places.length P.c0, .slice P.a1 x.net.arcs.length P.c1, .slice P.a2 x.types.length P.c2, .slice P.a3 x.orders.length P.c3, .slice P.a4 x.apart.length P.c4, .slice P.a5 x.before.length P.c5] 30) = W0 := hW0
 have HW1 := Lib.hid hW1
 have C0 := Below.refl W0.heap.size W0
 clear hW0 hW1 b0
 simp only [InV]
 obtain ⟨N, hN⟩ : ∃ N, x.orders.length = N := ⟨_, rfl⟩
 have HN := Lib.hid hN
 have x3 : W0.cell? ⟨w.heap.size, 3, none⟩ = some (.slice P.a3 N P.c3) := by rw [← hN]; exact (HX.out _ C0).cell (j := 3) rfl
 rw [hN] at HW1 hlen ⊢
 have HOR := Lib.hid (h.orders.below hB0)
 clear h hN
 go_enter Tryz.func108, Tryz.ntmps108
 go_upto_region 1 with fail
 rw [HW1.out]
 clear HW1
 by_cases h1 : k < 0
 ·have HR : Hid (thrF x k = 7) := Lib.hid (by unfold thrF; rw [if_pos (.inl h1)])
  go_wp2_with fail
  go_ret
  exact ⟨by rw [HR.out]; rfl, hB0⟩
 by_cases h2 : (N : Int) ≤ k
 ·have HR : Hid (thrF x k = 7) := Lib.hid (by unfold thrF; rw [if_pos (.inr (by rw [HN.out]; exact h2))])
  go_wp2_with fail
  go_ret
  exact ⟨by rw [HR.out]; rfl, hB0⟩
 obtain ⟨j, rfl⟩ : ∃ j : Nat, k = j := ⟨k.toNat, by omega⟩
 obtain ⟨o, ho⟩ : ∃ o, x.orders[j]? = some o := ⟨_, List.getElem?_eq_getElem (by rw [HN.out]; omega)⟩
 have HR0 : Hid (thrF x j = if o.off then 9 else 0) := Lib.hid (by
  unfold thrF
  rw [if_neg (by rw [HN.out]; omega), Int.toNat_natCast, ho])
 obtain ⟨ad, cs0, hA, hadb, hat, hcs⟩ := HOR.out.elem ho
 obtain ⟨C, cc, rfl, hI, hf⟩ := rOrd_at hat
 have y1 : W0.cell? ⟨(ad.add (j * 16)).block, (ad.add (j * 16)).off + 15, none⟩ = some (.bool o.off) := by rw [← add_split, ← add_of_add]; exact hcs 15 _ rfl
 have hj0 : (0 : Int) ≤ (j : Int) := by omega
 have hjn : (j : Int) < (N : Int) := by omega
 rw [hA] at x3
 clear hcs hat hI hf ho h1 h2
 obtain ⟨b, hb⟩ : ∃ b, o.off = b := ⟨_, rfl⟩
 rw [hb] at HR0 y1
 clear hb
 cases b
 ·go_wp2_with fail
  go_ret
  exact ⟨by rw [HR0.out]; rfl, hB0⟩
 ·go_wp2_with fail
  go_ret
  exact ⟨by rw [HR0.out]; rfl, hB0⟩
end Go.Proofs.YtofabhenmplkoaaGreatDoor.evt
namespace Go.Proofs.YtofabhenmplkoaaGreatDoor.evt
open Go.RowKit
open lib rd app els typ big ord
open ins hiding zOrd bOrd
open gen
def rshV (o : Ord) (n : Int) (C : Option Addr) (c : Nat) : Value := if (shfB o.pick n && shfB o.drop n) = true then .tuple #[.agg (zA (shfO o n) C c).toArray, .int .i64 0] else .tuple #[.agg gen.zOrd.toArray, .int .i64 2]
theorem zOrd_one : ∀ u ∈ gen.zOrd, u.oneCell' = true := by decide
set_option maxRecDepth 20000 in
set_option maxHeartbeats 4000000 in
theorem rshifted_any (o : Ord) (C : Option Addr) (c : Nat) (n : Int) (w : World) (hp : goodS o.pick) (hd : goodS o.drop) (hn : -9223372036854775808 ≤ n ∧ n ≤ 9223372036854775807) :
  Calls Tryz.prog 51 #[.agg (zA o C c).toArray, .int .i64 n] w fun e w' => e = .returned (rshV o n C c) ∧ Below w.heap.size w w' := by
 show Calls Tryz.prog 51 #[.agg #[.string o.name, .slice C o.load.length c, .int .i64 o.pick.place, .int .i64 o.pick.opn, .int .i64 o.pick.close, .int .i64 o.pick.service, .int .i64 o.drop.place, .int .i64 o.drop.opn, .int .i64 o.drop.close, .int .i64 o.drop.service, .int .i64 o.skills, .int .i64 o.penalty, .int .i64 o.split, .int .i64 o.last, .int .i64 o.now, .bool o.off], .int .i64 n] w _
 obtain ⟨W0, hW0⟩ : ∃ W0, (w.alloc (.cells (zA o C c).toArray 35)).alloc (.cells gen.zOrd.toArray 35) = W0 := ⟨_, rfl⟩
 have hB0 : Below w.heap.size w W0 := by rw [← hW0]; exact ((Below.refl _ _).alloc (Nat.le_refl _) _).alloc (by simp) _
 have z0 : W0.heap.size = w.heap.size + 2 := by rw [← hW0]; simp
 have b0 : Blk W0 w.heap.size 35 (zA o C c) := by
  rw [← hW0]
  exact (Blk.new w _ _).kept (World.grownBy_alloc _ _ none) (by simp)
 have b1 : Blk W0 (w.heap.size + 1) 35 gen.zOrd := by
  rw [← hW0]
  have h := Blk.new (w.alloc (.cells (zA o C c).toArray 35)) 35 gen.zOrd
  rw [show (w.alloc (.cells (zA o C c).toArray 35)).heap.size = w.heap.size + 1 by simp] at h
  exact h
 have hW1 : (w.alloc (.cells #[.string o.name, .slice C o.load.length c, .int .i64 o.pick.place, .int .i64 o.pick.opn, .int .i64 o.pick.close, .int .i64 o.pick.service, .int .i64 o.drop.place, .int .i64 o.drop.opn, .int .i64 o.drop.close, .int .i64 o.drop.service, .int .i64 o.skills, .int .i64 o.penalty, .int .i64 o.split, .int .i64 o.last, .int .i64 o.now, .bool o.off] 35)).alloc (.cells #[.string ⟨#[]⟩, .slice none 0 0, .int .i64 0, .int .i64 0, .int .i64 0, .int .i64 0, .int .i64 0, .int .i64 0, .int .i64 0, .int .i64 0, .int .i64 0, .int .i64 0, .int .i64 0, .int .i64 0, .int .i64 0, .bool false] 35) = W0 := hW0
 have HW1 := Lib.hid hW1
 have HX := Lib.hid b0
 have HY := Lib.hid b1
 obtain ⟨s1, hs1⟩ : ∃ s, shfT o.pick n = s := ⟨_, rfl⟩
 obtain ⟨s2, hs2⟩ : ∃ s, shfT o.drop n = s := ⟨_, rfl⟩
 obtain ⟨v1, hv1⟩ : ∃ b, shfB o.pick n = b := ⟨_, rfl⟩
 obtain ⟨v2, hv2⟩ : ∃ b, shfB o.drop n = b := ⟨_, rfl⟩
 have HP : Hid (∀ w, Calls Tryz.prog 111 #[.agg #[.int .i64 o.pick.place, .int .i64 o.pick.opn, .int .i64 o.pick.close, .int .i64 o.pick.service], .int .i64 n] w fun e w' => e = .returned (.tuple #[.agg #[.int .i64 s1.place, .int .i64 s1.opn, .int .i64 s1.close, .int .i64 s1.service], .int .i64 (if v1 = true then 0 else 2)]) ∧ Below w.heap.size w w') := Lib.hid (fun w => by
  have h := win.rshift_any o.pick.place o.pick.opn o.pick.close o.pick.service n hp hn w
  rw [(shfT_eq o.pick n).1, (shfT_eq o.pick n).2, hs1, hv1] at h
  exact h)
 have HD : Hid (∀ w, Calls Tryz.prog 111 #[.agg #[.int .i64 o.drop.place, .int .i64 o.drop.opn, .int .i64 o.drop.close, .int .i64 o.drop.service], .int .i64 n] w fun e w' => e = .returned (.tuple #[.agg #[.int .i64 s2.place, .int .i64 s2.opn, .int .i64 s2.close, .int .i64 s2.service], .int .i64 (if v2 = true then 0 else 2)]) ∧ Below w.heap.size w w') := Lib.hid (fun w => by
  have h := win.rshift_any o.drop.place o.drop.opn o.drop.close o.drop.service n hd hn w
  rw [(shfT_eq o.drop n).1, (shfT_eq o.drop n).2, hs2, hv2] at h
  exact h)
 have HR : Hid (rshV o n C c = if (v1 && v2) = true then .tuple #[.agg (zA { o with pick := s1, drop := s2 } C c).toArray, .int .i64 0] else .tuple #[.agg gen.zOrd.toArray, .int .i64 2]) := Lib.hid (by
  unfold rshV shfO
  rw [hv1, hv2]
  by_cases h : (v1 && v2) = true
  ·rw [if_pos h, if_pos h, ← hs1, ← hs2]
   rw [Bool.and_eq_true] at h
   unfold shfT
   rw [hv1, hv2, if_pos h.1, if_pos h.2]
  ·rw [if_neg h, if_neg h])
 obtain ⟨r, hr⟩ : ∃ r, rshV o n C c = r := ⟨_, rfl⟩
 rw [hr] at HR ⊢
 have c2 := b0.cell (j := 2) rfl
 have c3 := b0.cell (j := 3) rfl
 have c4 := b0.cell (j := 4) rfl
 have c5 := b0.cell (j := 5) rfl
 clear hp hd hn hW0 hW1 b0 b1 hs1 hs2 hv1 hv2 hr
 go_enter Tryz.func51, Tryz.ntmps51
 go_upto_region 1 with fail
 rw [HW1.out]
 clear HW1
 go_wp2_with fail
 refine (HP.out W0).mono ?_
 rintro e w1 ⟨rfl, b1⟩
 have z1 := b1.size
 go_upto_region 2 with fail
 clear c2 c3 c4 c5
 obtain ⟨W2, hW2⟩ : ∃ W2, w1.alloc (.cells (zF s1).toArray 33) = W2 := ⟨_, rfl⟩
 have hW2' : w1.alloc (.cells #[.int .i64 s1.place, .int .i64 s1.opn, .int .i64 s1.close, .int .i64 s1.service] 33) = W2 := hW2
 rw [hW2']
 have b12 : Below w1.heap.size w1 W2 := by rw [← hW2]; exact (Below.refl _ _).alloc (Nat.le_refl _) _
 have HS1 : Hid (Blk W2 w1.heap.size 33 (zF s1)) := Lib.hid (by rw [← hW2]; exact Blk.new w1 _ _)
 have HX2 := Lib.hid ((HX.out.below b1).below b12)
 have HY2 := Lib.hid ((HY.out.below b1).below b12)
 have HB2 : Hid (Below w.heap.size w W2) := Lib.hid (hB0.trans ((b1.trans (b12.mono z1)).mono (by omega)))
 obtain ⟨p1, hp1⟩ : ∃ p, w1.heap.size = p := ⟨_, rfl⟩
 have hp12 : w.heap.size + 2 ≤ p1 := by omega
 have HZ2 : Hid (p1 < W2.heap.size) := Lib.hid (by rw [← hp1]; exact HS1.out.lt)
 rw [hp1] at HS1 ⊢
 clear hW2 hW2' b12 b1 HX HY hB0 hp1 HP
 cases v1
 ·have HRR : Hid (r = .tuple #[.agg gen.zOrd.toArray, .int .i64 2]) := Lib.hid (by rw [HR.out]; rfl)
  go_wp2_with (first
   | ((with_reducible refine zP bOrd rfl _ rfl _ zOrd ?_ (by kernel_rfl) ?_); exact rfl)
   | ((with_reducible refine zJ stOrd' rfl _ _ rfl (w.heap.size + 1) gen.zOrd (gen.zOrd) ?_ ?_ ?_ ?_ ?_ (zOrd_one) ?_); exact rfl; exact rfl; exact HY2.out; exact rfl; exact rfl; intro wz k1 k2 k3 k4; have K := lib.h4 k1 k2 k3 k4; clear k1 k2 k3 k4))
  have HRz : Blk wz (w.heap.size + 1) 35 (gen.zOrd) := K.out.1
  refine bodyPost_ret (v := .tuple #[.agg (gen.zOrd).toArray, .int .i64 2]) (big.zK stOrd' Tryz.results51 rfl rfl HRz.cells rfl) rfl ?_
  exact ⟨by rw [HRR.out], (HB2.out).trans (K.out.2.2.2.mono (by omega))⟩
 have c6 := HX2.out.cell (j := 6) rfl
 have c7 := HX2.out.cell (j := 7) rfl
 have c8 := HX2.out.cell (j := 8) rfl
 have c9 := HX2.out.cell (j := 9) rfl
 go_wp2_with fail
 refine (HD.out W2).mono ?_
 rintro e w3 ⟨rfl, b3⟩
 have z3 := b3.size
 go_upto_region 5 with fail
 clear c6 c7 c8 c9
 obtain ⟨W4, hW4⟩ : ∃ W4, w3.alloc (.cells (zF s2).toArray 33) = W4 := ⟨_, rfl⟩
 have hW4' : w3.alloc (.cells #[.int .i64 s2.place, .int .i64 s2.opn, .int .i64 s2.close, .int .i64 s2.service] 33) = W4 := hW4
 rw [hW4']
 have b34 : Below w3.heap.size w3 W4 := by rw [← hW4]; exact (Below.refl _ _).alloc (Nat.le_refl _) _
 have HS2 : Hid (Blk W4 w3.heap.size 33 (zF s2)) := Lib.hid (by rw [← hW4]; exact Blk.new w3 _ _)
 have HS1b := Lib.hid ((HS1.out.below b3).below b34)
 have HX4 := Lib.hid ((HX2.out.below b3).below b34)
 have HY4 := Lib.hid ((HY2.out.below b3).below b34)
 have HB4 : Hid (Below w.heap.size w W4) := Lib.hid (HB2.out.trans ((b3.trans (b34.mono z3)).mono (by have := HZ2.out; omega)))
 obtain ⟨p2, hp2⟩ : ∃ p, w3.heap.size = p := ⟨_, rfl⟩
 have hp22 : p1 < p2 := by have := HZ2.out; omega
 rw [hp2] at HS2 ⊢
 clear hW4 hW4' b34 b3 HX2 HY2 HB2 hp2 HD HS1
 cases v2
 ·have HRR : Hid (r = .tuple #[.agg gen.zOrd.toArray, .int .i64 2]) := Lib.hid (by rw [HR.out]; rfl)
  go_wp2_with (first
   | ((with_reducible refine zP bOrd rfl _ rfl _ zOrd ?_ (by kernel_rfl) ?_); exact rfl)
   | ((with_reducible refine zJ stOrd' rfl _ _ rfl (w.heap.size + 1) gen.zOrd (gen.zOrd) ?_ ?_ ?_ ?_ ?_ (zOrd_one) ?_); exact rfl; exact rfl; exact HY4.out; exact rfl; exact rfl; intro wz k1 k2 k3 k4; have K := lib.h4 k1 k2 k3 k4; clear k1 k2 k3 k4))
  have HRz : Blk wz (w.heap.size + 1) 35 (gen.zOrd) := K.out.1
  refine bodyPost_ret (v := .tuple #[.agg (gen.zOrd).toArray, .int .i64 2]) (big.zK stOrd' Tryz.results51 rfl rfl HRz.cells rfl) rfl ?_
  exact ⟨by rw [HRR.out], (HB4.out).trans (K.out.2.2.2.mono (by omega))⟩
 have HRR : Hid (r = .tuple #[.agg (zA { o with pick := s1, drop := s2 } C c).toArray, .int .i64 0]) := Lib.hid (by rw [HR.out]; rfl)
 go_upto_region 8 with (first
  | ((with_reducible refine zH stStp _ rfl ⟨p1, 0, none⟩ (zF s1) ?_ ?_ ?_ ?_ ?_); exact rfl; exact rfl; exact HS1b.out.cells; exact rfl)
  | ((with_reducible refine off.yJ stStp rfl _ _ rfl w.heap.size 2 (zF s1) ?_ ?_ ?_ ?_ ?_ ?_); exact rfl; exact rfl; exact (blk_there HX4.out (by simp [zA])); exact rfl; exact (stp_one s1)))
 have h5 : Blk (W4.setCells w.heap.size 2 (zF s1)) w.heap.size 35 (off.setM (zA o C c) 2 (zF s1)) ∧ Below w.heap.size W4 (W4.setCells w.heap.size 2 (zF s1)) := blk_setCells _ _ _ _ HX4.out
 have k5 := fun k h => setCells_other (b := w.heap.size) (zF s1) 2 W4 k h
 obtain ⟨W5, hW5⟩ : ∃ W5, W4.setCells w.heap.size 2 (zF s1) = W5 := ⟨_, rfl⟩
 rw [hW5] at h5 k5 ⊢
 have HX5 := Lib.hid h5.1
 have HY5 : Hid (Blk W5 (w.heap.size + 1) 35 gen.zOrd) := Lib.hid ((k5 _ (by omega)).trans HY4.out)
 have HS5 : Hid (Blk W5 p2 33 (zF s2)) := Lib.hid ((k5 _ (by omega)).trans HS2.out)
 have HB5 := Lib.hid (HB4.out.trans h5.2)
 clear h5 k5 hW5 HX4 HY4 HS2 HB4
 go_upto_region 9 with (first
  | ((with_reducible refine zH stStp _ rfl ⟨p2, 0, none⟩ (zF s2) ?_ ?_ ?_ ?_ ?_); exact rfl; exact rfl; exact HS5.out.cells; exact rfl)
  | ((with_reducible refine off.yJ stStp rfl _ _ rfl w.heap.size 6 (zF s2) ?_ ?_ ?_ ?_ ?_ ?_); exact rfl; exact rfl; exact (blk_there HX5.out (by simp [zA, off.setM, zF])); exact rfl; exact (stp_one s2)))
 have h6 : Blk (W5.setCells w.heap.size 6 (zF s2)) w.heap.size 35 (off.setM (off.setM (zA o C c) 2 (zF s1)) 6 (zF s2)) ∧ Below w.heap.size W5 (W5.setCells w.heap.size 6 (zF s2)) := blk_setCells _ _ _ _ HX5.out
 have k6 := fun k h => setCells_other (b := w.heap.size) (zF s2) 6 W5 k h
 obtain ⟨W6, hW6⟩ : ∃ W6, W5.setCells w.heap.size 6 (zF s2) = W6 := ⟨_, rfl⟩
 rw [hW6] at h6 k6 ⊢
 have HX6 : Hid (Blk W6 w.heap.size 35 (zA { o with pick := s1, drop := s2 } C c)) := Lib.hid h6.1
 have HY6 : Hid (Blk W6 (w.heap.size + 1) 35 gen.zOrd) := Lib.hid ((k6 _ (by omega)).trans HY5.out)
 have HB6 := Lib.hid (HB5.out.trans h6.2)
 clear h6 k6 hW6 HX5 HY5 HS5 HB5
 go_wp2_with (first
  | ((with_reducible refine zH stOrd' _ rfl ⟨w.heap.size, 0, none⟩ (zA { o with pick := s1, drop := s2 } C c) ?_ ?_ ?_ ?_ ?_); exact rfl; exact rfl; exact HX6.out.cells; exact rfl)
  | ((with_reducible refine zJ stOrd' rfl _ _ rfl (w.heap.size + 1) gen.zOrd (zA { o with pick := s1, drop := s2 } C c) ?_ ?_ ?_ ?_ ?_ (zR _ _ _) ?_); exact rfl; exact rfl; exact HY6.out; exact rfl; exact rfl; intro wz k1 k2 k3 k4; have K := lib.h4 k1 k2 k3 k4; clear k1 k2 k3 k4))
 have HRz : Blk wz (w.heap.size + 1) 35 (zA { o with pick := s1, drop := s2 } C c) := K.out.1
 refine bodyPost_ret (v := .tuple #[.agg (zA { o with pick := s1, drop := s2 } C c).toArray, .int .i64 0]) (big.zK stOrd' Tryz.results51 rfl rfl HRz.cells rfl) rfl ?_
 exact ⟨by rw [HRR.out], (HB6.out).trans (K.out.2.2.2.mono (by omega))⟩
end Go.Proofs.YtofabhenmplkoaaGreatDoor.evt
namespace Go.Proofs.YtofabhenmplkoaaGreatDoor.evt
open Go.RowKit
open lib rd app els off typ big ord
open ins hiding zOrd bOrd
open gen
theorem hapK_add (x : Ins) (o : Ord) : hapK (if (addR x o).2 = 0 then .ok (addR x o).1 else .error (addR x o).2) = (addR x o).2 := by
 by_cases h : (addR x o).2 = 0
 ·rw [if_pos h, h]; rfl
 ·rw [if_neg h]; rfl
theorem hapK_thr {x : Ins} {e : Evt} (h2 : e.kind = 2) : hapK (hapF x e) = thrF x e.a := by
 unfold hapF
 rw [if_neg (by omega), if_neg (by omega), if_neg (by omega)]
 by_cases ht : thrF x e.a = 0
 ·obtain ⟨j, o, hj, ho, hoff⟩ := thr_ok ht
  rw [if_neg (fun h => h ht), hj, Int.toNat_natCast, ho]
  dsimp only
  rw [if_pos h2, ← hj, ht]; rfl
 ·rw [if_pos ht]; rfl
theorem hapK_thr5 {x : Ins} {e : Evt} (h5 : e.kind = 5) (ht : ¬ thrF x e.a = 0) : hapK (hapF x e) = thrF x e.a := by
 unfold hapF
 rw [if_neg (by omega), if_neg (by omega), if_neg (by omega), if_pos ht]; rfl
theorem hapK_shf {x : Ins} {e : Evt} {j : Nat} {o : Ord} (h5 : e.kind = 5) (ht : thrF x e.a = 0) (hj : e.a = j) (ho : x.orders[j]? = some o) : hapK (hapF x e) = if (shfB o.pick e.n && shfB o.drop e.n) = true then 0 else 2 := by
 unfold hapF
 rw [if_neg (by omega), if_neg (by omega), if_neg (by omega), if_neg (fun h => h ht), hj, Int.toNat_natCast, ho]
 dsimp only
 rw [if_neg (by omega)]
 split <;> rfl
theorem hapK_brk {x : Ins} {e : Evt} {j : Nat} {t : Ty} (h4 : e.kind = 4) (hj : e.a = j) (ht : x.types[j]? = some t) : hapK (hapF x e) = if t.count = 0 then 22 else 0 := by
 have hl := (List.getElem?_eq_some_iff.1 ht).1
 unfold hapF
 rw [if_neg (by omega), if_neg (by omega), if_pos h4, if_neg (by omega), hj, Int.toNat_natCast, ht]
 dsimp only
 split <;> rfl
theorem hapK_brk7 {x : Ins} {e : Evt} (h4 : e.kind = 4) (h : e.a < 0 ∨ (x.types.length : Int) ≤ e.a) : hapK (hapF x e) = 7 := by
 unfold hapF
 rw [if_neg (by omega), if_neg (by omega), if_pos h4, if_pos h]; rfl
theorem hapK_dly2 {x : Ins} {e : Evt} (h3 : e.kind = 3) (h : ¬ (1 ≤ e.n ∧ e.n ≤ 4096)) : hapK (hapF x e) = 2 := by
 unfold hapF
 rw [if_neg (by omega), if_pos h3, if_pos h]; rfl
def slwK (r : Except Int Net) : Int := match r with
 | .error k => k
 | .ok _ => 0
theorem hapK_dly {x : Ins} {e : Evt} (h3 : e.kind = 3) (h : 1 ≤ e.n ∧ e.n ≤ 4096) : hapK (hapF x e) = slwK (slwF x.net e.a e.b e.at_ e.n) := by
 unfold hapF
 rw [if_neg (by omega), if_pos h3, if_neg (fun g => g h)]
 cases slwF x.net e.a e.b e.at_ e.n <;> rfl
set_option maxRecDepth 20000 in
set_option maxHeartbeats 8000000 in
theorem rkind_any (x : Ins) (P : InP) (e : Evt) (C : Option Addr) (c : Nat) (B : Nat) (w : World) (hB : B ≤ w.heap.size) (hA : InAt w B x P) (hF : insF x = []) (hC : Ints w B C e.order.load) (hf : yN e) (hk : 1 ≤ e.kind ∧ e.kind ≤ 5) :
  Calls Tryz.prog 48 #[InV x P, .agg (z8 e C c).toArray] w fun en w' => en = .returned (.int .i64 (hapK (hapF x e))) ∧ Below w.heap.size w w' := by
 have h : InAt w w.heap.size x P := hA.more hB
 have HA := Lib.hid hA
 show Calls Tryz.prog 48 #[InV x P, .agg #[.int .i64 e.at_, .int .i64 e.kind, .int .i64 e.a, .int .i64 e.b, .int .i64 e.n, .string e.order.name, .slice C e.order.load.length c, .int .i64 e.order.pick.place, .int .i64 e.order.pick.opn, .int .i64 e.order.pick.close, .int .i64 e.order.pick.service, .int .i64 e.order.drop.place, .int .i64 e.order.drop.opn, .int .i64 e.order.drop.close, .int .i64 e.order.drop.service, .int .i64 e.order.skills, .int .i64 e.order.penalty, .int .i64 e.order.split, .int .i64 e.order.last, .int .i64 e.order.now, .bool e.order.off]] w _
 have HF := Lib.hid hF
 have HFT := Lib.hid hf
 have HCC := Lib.hid hC
 have HLM := Lib.hid (lim.lim_of hF)
 obtain ⟨W0, hW0⟩ : ∃ W0, (w.alloc (.cells (insCs x P).toArray 30)).alloc (.cells (z8 e C c).toArray 37) = W0 := ⟨_, rfl⟩
 have hB0 : Below w.heap.size w W0 := by rw [← hW0]; exact ((Below.refl _ _).alloc (Nat.le_refl _) _).alloc (by simp) _
 have z0 : W0.heap.size = w.heap.size + 2 := by rw [← hW0]; simp
 have b0 : Blk W0 w.heap.size 30 (insCs x P) := by
  rw [← hW0]
  exact (Blk.new w _ _).kept (World.grownBy_alloc _ _ none) (by simp)
 have b1 : Blk W0 (w.heap.size + 1) 37 (z8 e C c) := by
  rw [← hW0]
  have h := Blk.new (w.alloc (.cells (insCs x P).toArray 30)) 37 (z8 e C c)
  rw [show (w.alloc (.cells (insCs x P).toArray 30)).heap.size = w.heap.size + 1 by simp] at h
  exact h
 have hW1 : (w.alloc (.cells #[.slice P.a0 x.net.places.length P.c0, .slice P.a1 x.net.arcs.length P.c1, .slice P.a2 x.types.length P.c2, .slice P.a3 x.orders.length P.c3, .slice P.a4 x.apart.length P.c4, .slice P.a5 x.before.length P.c5] 30)).alloc (.cells #[.int .i64 e.at_, .int .i64 e.kind, .int .i64 e.a, .int .i64 e.b, .int .i64 e.n, .string e.order.name, .slice C e.order.load.length c, .int .i64 e.order.pick.place, .int .i64 e.order.pick.opn, .int .i64 e.order.pick.close, .int .i64 e.order.pick.service, .int .i64 e.order.drop.place, .int .i64 e.order.drop.opn, .int .i64 e.order.drop.close, .int .i64 e.order.drop.service, .int .i64 e.order.skills, .int .i64 e.order.penalty, .int .i64 e.order.split, .int .i64 e.order.last, .int .i64 e.order.now, .bool e.order.off] 37) = W0 := hW0
 have HX := Lib.hid (fun w' (h' : Below W0.heap.size W0 w') => And.intro (b0.below h') (b1.below h'))
 have HI := Lib.hid (fun w' (h' : Below w.heap.size w w') => h.go h')
 have HW1 := Lib.hid hW1
 have C0 := Below.refl W0.heap.size W0
 clear hW0 hW1 b0 b1
 simp only [InV]
 obtain ⟨r, hr⟩ : ∃ r, hapK (hapF x e) = r := ⟨_, rfl⟩
 have HR0 := Lib.hid hr
 rw [hr]
 have HX0 := Lib.hid (HX.out _ C0)
 have e1 := HX0.out.2.cell (j := 1) rfl
 have hk5 : e.kind = 1 ∨ e.kind = 2 ∨ e.kind = 3 ∨ e.kind = 4 ∨ e.kind = 5 := by omega
 clear h hA hF hr hC hf hk
 go_enter Tryz.func48, Tryz.ntmps48
 go_upto_region 1 with fail
 rw [HW1.out]
 clear HW1
 rcases hk5 with hk | hk | hk | hk | hk
 ·have e20 := HX0.out.2.cell (j := 20) rfl
  obtain ⟨b, hb⟩ : ∃ b, e.order.off = b := ⟨_, rfl⟩
  cases b
  ·have HR : Hid (r = (addR x e.order).2) := Lib.hid (by rw [← HR0.out]; unfold hapF; rw [if_pos hk, hb]; exact hapK_add x e.order)
   go_wp2_with (first
    | ((with_reducible refine zH stIns _ rfl ⟨w.heap.size, 0, none⟩ (insCs (x) P) ?_ ?_ ?_ ?_ ?_); exact rfl; exact rfl; exact HX0.out.1.cells; exact rfl)
    | ((with_reducible refine zH stOrd' _ rfl ⟨(w.heap.size + 1), 5, none⟩ (zA e.order C c) ?_ ?_ ?_ ?_ ?_); exact rfl; exact rfl; exact (ord_evt HX0.out.2); exact rfl))
   clear e20 e1
   refine (raddF_any x P e.order C c B W0 (Nat.le_trans hB hB0.size) (HA.out.below (hB0.mono hB)) (HCC.out.below (hB0.mono hB)) HFT.out.2.2.2.2.2 (lim_add e.order HLM.out)).mono ?_
   rintro e2 w1 ⟨P1, rfl, hI1, b1⟩
   have HB1 := Lib.hid (hB0.trans (b1.mono (by omega)))
   obtain ⟨k, hk9⟩ : ∃ k, (addR x e.order).2 = k := ⟨_, rfl⟩
   rw [hk9] at HR ⊢
   clear hI1 b1 hk9
   go_wp2_with fail
   go_ret
   exact ⟨by rw [HR.out]; rfl, HB1.out.alloc HB1.out.size _⟩
  ·have HR : Hid (r = 9) := Lib.hid (by rw [← HR0.out]; unfold hapF; rw [if_pos hk, hb]; rfl)
   go_wp2_with fail
   go_ret
   exact ⟨by rw [HR.out]; rfl, hB0⟩
 ·have HR : Hid (r = thrF x e.a) := Lib.hid (by rw [← HR0.out]; exact hapK_thr hk)
  have e2 := HX0.out.2.cell (j := 2) rfl
  go_wp2_with ((with_reducible refine zH stIns _ rfl ⟨w.heap.size, 0, none⟩ (insCs (x) P) ?_ ?_ ?_ ?_ ?_); exact rfl; exact rfl; exact HX0.out.1.cells; exact rfl)
  refine (rordered_any x P e.a W0 (HI.out _ hB0)).mono ?_
  rintro e9 w1 ⟨rfl, b1⟩
  have HB1 := Lib.hid (hB0.trans (b1.mono (by omega)))
  clear b1
  go_wp2_with fail
  go_ret
  exact ⟨by rw [HR.out]; rfl, HB1.out⟩
 ·have e4 := HX0.out.2.cell (j := 4) rfl
  by_cases hn1 : e.n < 1
  ·have HR : Hid (r = 2) := Lib.hid (by rw [← HR0.out]; exact hapK_dly2 hk (by omega))
   go_wp2_with fail
   go_ret
   exact ⟨by rw [HR.out]; rfl, hB0⟩
  by_cases hn2 : 4096 < e.n
  ·have HR : Hid (r = 2) := Lib.hid (by rw [← HR0.out]; exact hapK_dly2 hk (by omega))
   go_wp2_with fail
   go_ret
   exact ⟨by rw [HR.out]; rfl, hB0⟩
  obtain ⟨s, hs⟩ : ∃ s, slwF x.net e.a e.b e.at_ e.n = s := ⟨_, rfl⟩
  have HR : Hid (r = slwK s) := Lib.hid (by rw [← HR0.out, ← hs]; exact hapK_dly hk (by omega))
  have HS := Lib.hid hs
  clear hs
  have x0 := HX0.out.1.cell (j := 0) rfl
  have x1 := HX0.out.1.cell (j := 1) rfl
  have e0 := HX0.out.2.cell (j := 0) rfl
  have e2 := HX0.out.2.cell (j := 2) rfl
  have e3 := HX0.out.2.cell (j := 3) rfl
  go_wp2_with fail
  refine (rslower_any x.net P.a0 P.c0 P.a1 P.c1 e.a e.b e.at_ e.n B W0 (Nat.le_trans hB hB0.size) (HA.out.below (hB0.mono hB)).arcs (by have := HLM.out.arcs; omega) (slow_of HF.out)).mono ?_
  rw [HS.out]
  intro e5 w1 h2
  clear x0 x1 e0 e2 e3 e4
  rcases s with k | N'
  ·obtain ⟨rfl, b1⟩ := h2
   have HB1 := Lib.hid (hB0.trans (b1.mono (by omega)))
   clear b1
   go_wp2_with fail
   go_ret
   exact ⟨by rw [HR.out]; rfl, HB1.out.alloc HB1.out.size _⟩
  ·obtain ⟨A9, c9, rfl, hrow, b1⟩ := h2
   have HB1 := Lib.hid (hB0.trans (b1.mono (by omega)))
   clear b1 hrow
   go_wp2_with fail
   go_ret
   exact ⟨by rw [HR.out]; rfl, HB1.out.alloc HB1.out.size _⟩
 ·obtain ⟨N, hNN⟩ : ∃ N, x.types.length = N := ⟨_, rfl⟩
  have HNN := Lib.hid hNN
  have x2 : W0.cell? ⟨w.heap.size, 2, none⟩ = some (.slice P.a2 N P.c2) := by rw [← hNN]; exact HX0.out.1.cell (j := 2) rfl
  have e2 := HX0.out.2.cell (j := 2) rfl
  have hN20 : N ≤ 20 := by rw [← hNN]; exact HLM.out.types
  clear hNN
  by_cases ha1 : e.a < 0
  ·have HR : Hid (r = 7) := Lib.hid (by rw [← HR0.out]; exact hapK_brk7 hk (.inl ha1))
   go_wp2_with fail
   go_ret
   exact ⟨by rw [HR.out]; rfl, hB0⟩
  by_cases ha2 : (N : Int) ≤ e.a
  ·have HR : Hid (r = 7) := Lib.hid (by rw [← HR0.out]; exact hapK_brk7 hk (.inr (by rw [HNN.out]; exact ha2)))
   go_wp2_with fail
   go_ret
   exact ⟨by rw [HR.out]; rfl, hB0⟩
  obtain ⟨j, hj⟩ : ∃ j : Nat, e.a = j := ⟨e.a.toNat, by omega⟩
  have hjN : j < N := by omega
  obtain ⟨t, ht⟩ : ∃ t, x.types[j]? = some t := ⟨_, List.getElem?_eq_getElem (by rw [HNN.out]; exact hjN)⟩
  have HRR : Hid (r = if t.count = 0 then 22 else 0) := Lib.hid (by rw [← HR0.out]; exact hapK_brk hk hj ht)
  obtain ⟨hcb1, hcb2⟩ := cnt_of HF.out t (List.mem_of_getElem? ht)
  obtain ⟨ad, cs0, hA, hadb, hat, hcs⟩ := ((HI.out _ hB0).types).elem ht
  obtain ⟨D, dd, rfl, hI, hf⟩ := rTy_at hat
  have y1 : W0.cell? ⟨(ad.add (j * 14)).block, (ad.add (j * 14)).off + 1, none⟩ = some (.int .i64 t.count) := by rw [← add_split, ← add_of_add]; exact hcs 1 _ rfl
  rw [hA] at x2
  rw [hj] at e2
  have hj0 : (0 : Int) ≤ (j : Int) := by omega
  have hjn : (j : Int) < (N : Int) := by omega
  clear ha1 ha2 ht hat hcs hI hf hj
  by_cases hc0 : t.count < 1
  ·have HR : Hid (r = 22) := Lib.hid (by rw [HRR.out, if_pos (by omega)])
   go_wp2_with fail
   go_ret
   exact ⟨by rw [HR.out]; rfl, hB0⟩
  ·have HR : Hid (r = 0) := Lib.hid (by rw [HRR.out, if_neg (by omega)])
   go_wp2_with fail
   go_ret
   exact ⟨by rw [HR.out]; rfl, hB0⟩
 ·have e2 := HX0.out.2.cell (j := 2) rfl
  go_wp2_with ((with_reducible refine zH stIns _ rfl ⟨w.heap.size, 0, none⟩ (insCs (x) P) ?_ ?_ ?_ ?_ ?_); exact rfl; exact rfl; exact HX0.out.1.cells; exact rfl)
  refine (rordered_any x P e.a W0 (HI.out _ hB0)).mono ?_
  rintro e9 w1 ⟨rfl, b1⟩
  have HB1 := Lib.hid (hB0.trans (b1.mono (by omega)))
  have HX1 := Lib.hid (HX.out _ b1)
  have HZ1 := Lib.hid b1.size
  clear b1 e1 e2
  by_cases ht : thrF x e.a = 0
  rotate_left
  ·have HR : Hid (r = thrF x e.a) := Lib.hid (by rw [← HR0.out]; exact hapK_thr5 hk ht)
   obtain ⟨k, hk9⟩ : ∃ k, thrF x e.a = k := ⟨_, rfl⟩
   have hkk : (k != 0) = true := by rw [← hk9]; simp [ht]
   rw [hk9] at HR ⊢
   clear hk9 ht
   go_wp2_with fail
   go_ret
   exact ⟨by rw [HR.out]; rfl, HB1.out⟩
  obtain ⟨j, o, hj, ho, hoff⟩ := thr_ok ht
  have HRR : Hid (r = if (shfB o.pick e.n && shfB o.drop e.n) = true then 0 else 2) := Lib.hid (by rw [← HR0.out]; exact hapK_shf hk ht hj ho)
  rw [ht]
  obtain ⟨hg1, hg2⟩ := good_of HF.out o (List.mem_of_getElem? ho)
  have hjl := (List.getElem?_eq_some_iff.1 ho).1
  obtain ⟨N, hNN⟩ : ∃ N, x.orders.length = N := ⟨_, rfl⟩
  obtain ⟨ad, cs0, hA, hadb, hat, hcs⟩ := ((HI.out _ HB1.out).orders).elem ho
  obtain ⟨D, dd, rfl, hI, hf⟩ := rOrd_at hat
  have x3 : w1.cell? ⟨w.heap.size, 3, none⟩ = some (.slice (some ad) N P.c3) := by rw [← hNN, ← hA]; exact HX1.out.1.cell (j := 3) rfl
  have e2 : w1.cell? ⟨w.heap.size + 1, 2, none⟩ = some (.int .i64 j) := by rw [← hj]; exact HX1.out.2.cell (j := 2) rfl
  have e4 : w1.cell? ⟨w.heap.size + 1, 4, none⟩ = some (.int .i64 e.n) := HX1.out.2.cell (j := 4) rfl
  have hj0 : (0 : Int) ≤ (j : Int) := by omega
  have hjn : (j : Int) < (N : Int) := by omega
  have hce : CellsAt w1 (ad.add (j * 16)) (zA o D dd) := hcs
  have HCE := Lib.hid hce
  have HSH : Hid (∀ w, Calls Tryz.prog 51 #[.agg (zA o D dd).toArray, .int .i64 e.n] w fun e1 w' => e1 = .returned (rshV o e.n D dd) ∧ Below w.heap.size w w') := Lib.hid (fun w => rshifted_any o D dd e.n w hg1 hg2 HFT.out.2.2.2.2.1)
  have HV : Hid (∃ cs, rshV o e.n D dd = .tuple #[.agg cs, .int .i64 r]) := Lib.hid (by
   rw [HRR.out]
   unfold rshV
   split
   ·exact ⟨_, rfl⟩
   ·exact ⟨_, rfl⟩)
  clear hg1 hg2 hat hcs hI hf hce ho hoff ht hj hNN
  go_upto_region 23 with fail
  have had1 : (ad.add (j * 16)).block < w1.heap.size := by rw [ad_block]; omega
  have HSS : Hid (∀ w', Below w1.heap.size w1 w' → w'.cell? ⟨w.heap.size, 3, none⟩ = some (.slice (some ad) N P.c3) ∧ w'.cell? ⟨w.heap.size + 1, 2, none⟩ = some (.int .i64 j) ∧ w'.cell? ⟨w.heap.size + 1, 4, none⟩ = some (.int .i64 e.n) ∧ CellsAt w' (ad.add (j * 16)) (zA o D dd)) := Lib.hid (fun w' h' => ⟨(h'.cell (p := ⟨w.heap.size, 3, none⟩) (by have := HZ1.out; show w.heap.size < w1.heap.size; omega)).trans x3, (h'.cell (p := ⟨w.heap.size + 1, 2, none⟩) (by have := HZ1.out; show w.heap.size + 1 < w1.heap.size; omega)).trans e2, (h'.cell (p := ⟨w.heap.size + 1, 4, none⟩) (by have := HZ1.out; show w.heap.size + 1 < w1.heap.size; omega)).trans e4, HCE.out.below h' had1⟩)
  (refine wp_region_held_drew (S := (fun w' => w'.cell? ⟨w.heap.size, 3, none⟩ = some (.slice (some ad) N P.c3) ∧ w'.cell? ⟨w.heap.size + 1, 2, none⟩ = some (.int .i64 j) ∧ w'.cell? ⟨w.heap.size + 1, 4, none⟩ = some (.int .i64 e.n) ∧ CellsAt w' (ad.add (j * 16)) (zA o D dd))) (by kernel_rfl) ?_ (fun hHeld => ?_))
  ·exact HSS.out _ (Below.refl _ _).drew
  clear x3 e2 e4
  (refine lib.tk 0 ?_ rfl (by kernel_rfl) (fun _ _ _ h => h) ?_ (by assumption) ?_; rotate_left; (focus (intro w hSw; (try dsimp only at hSw); go_simp; all_goals with_reducible rfl)); (try simp only [lib.hly]))
  (refine lib.tk 1 ?_ rfl (by kernel_rfl) (fun _ _ _ h => h) ?_ (by assumption) ?_; rotate_left; (focus (intro w hSw; (try dsimp only at hSw); go_simp; all_goals with_reducible rfl)); (try simp only [lib.hly]))
  (refine lib.tk 2 ?_ rfl (by kernel_rfl) (fun _ _ _ h => h) ?_ (by assumption) ?_; rotate_left; (focus (intro w hSw; (try dsimp only at hSw); go_simp; all_goals with_reducible rfl)); (try simp only [lib.hly]))
  (refine lib.tk 3 ?_ rfl (by kernel_rfl) (fun _ _ _ h => h) ?_ (by assumption) ?_; rotate_left; (focus (intro w hSw; (try dsimp only at hSw); go_simp; all_goals with_reducible rfl)); (try simp only [lib.hly]))
  (refine lib.tk 4 ?_ rfl (by kernel_rfl) (fun _ _ _ h => h) ?_ (by assumption) ?_; rotate_left; (focus (intro w hSw; (try dsimp only at hSw); go_simp; all_goals with_reducible rfl)); (try simp only [lib.hly]))
  (refine lib.tk 6 ?_ rfl (by kernel_rfl) (fun _ _ _ h => h) ?_ (by assumption) ?_; rotate_left; (focus (intro w hSw; (try dsimp only at hSw); go_simp; all_goals with_reducible rfl)); (try simp only [lib.hly]))
  (refine lib.tk 7 ?_ rfl (by kernel_rfl) (fun _ _ _ h => h) ?_ (by assumption) ?_; rotate_left; (focus (intro w hSw; (try dsimp only at hSw); go_simp; all_goals with_reducible rfl)); (try simp only [lib.hly]))
  (refine lib.tk 5 _ rfl (by kernel_rfl) (fun _ _ _ h => h) (fun _ hSw => yG stOrd' rfl rfl hSw.2.2.2 rfl) (by assumption) ?_; (try simp only [lib.hly]))
  (refine wpAnyH_ready (rs := [8]) (by kernel_rfl) (by simp) ?_; refine AllReadyH.cons rfl (fun K hK => ?_) AllReadyH.nil)
  go_simp
  refine (HSH.out _).mono ?_
  obtain ⟨cs, hcs⟩ := HV.out
  rw [hcs]
  rintro e5 w5 ⟨rfl, b5⟩
  have B5 : Below w1.heap.size w1 w5 := ((Below.refl _ _).drew).trans b5
  have HB5 := Lib.hid (HB1.out.trans (B5.mono HB1.out.size))
  clear b5 hcs
  refine hK.out _ _ (HSS.out _ B5) (fun hHeld => ?_)
  clear hK K
  (try simp only [lib.hly])
  (refine lib.tk 9 ?_ rfl (by kernel_rfl) (fun _ _ _ h => h) ?_ (by assumption) ?_; rotate_left; (focus (intro w hSw; (try dsimp only at hSw); go_simp; all_goals with_reducible rfl)); (try simp only [lib.hly]))
  (refine lib.tk 10 ?_ rfl (by kernel_rfl) (fun _ _ _ h => h) ?_ (by assumption) ?_; rotate_left; (focus (intro w hSw; (try dsimp only at hSw); go_simp; all_goals with_reducible rfl)); (try simp only [lib.hly]))
  (refine lib.tk 11 ?_ rfl (by kernel_rfl) (fun _ _ _ h => h) ?_ (by assumption) ?_; rotate_left; (focus (intro w hSw; (try dsimp only at hSw); go_simp; all_goals with_reducible rfl)); (try simp only [lib.hly]))
  (refine lib.tk 12 ?_ rfl (by kernel_rfl) (fun _ _ _ h => h) ?_ (by assumption) ?_; rotate_left; (focus (intro w hSw; (try dsimp only at hSw); go_simp; all_goals with_reducible rfl)); (try simp only [lib.hly]))
  (refine wpAnyH_done (by kernel_rfl) ?_ _)
  have HR : Hid (r = r) := Lib.hid rfl
  go_wp2_with fail
  go_ret
  exact ⟨rfl, HB5.out⟩
theorem alw_at {now : Int} {e : Evt} (h : ¬ (0 ≤ e.at_ ∧ e.at_ ≤ 4096)) : alwF now e = 2 := by
 unfold alwF tkB
 rw [if_pos (by simpa using h)]
theorem alw_late {now : Int} {e : Evt} (h : 0 ≤ e.at_ ∧ e.at_ ≤ 4096) (h2 : e.at_ < now) : alwF now e = 32 := by
 unfold alwF tkB
 rw [if_neg (by simpa using h), if_pos h2]
theorem alw_kind {now : Int} {e : Evt} (h : 0 ≤ e.at_ ∧ e.at_ ≤ 4096) (h2 : ¬ e.at_ < now) (h3 : ¬ (1 ≤ e.kind ∧ e.kind ≤ 5)) : alwF now e = 8 := by
 unfold alwF tkB
 rw [if_neg (by simpa using h), if_neg h2, if_pos h3]
theorem alw_clean {now : Int} {e : Evt} (h : 0 ≤ e.at_ ∧ e.at_ ≤ 4096) (h2 : ¬ e.at_ < now) (h3 : 1 ≤ e.kind ∧ e.kind ≤ 5) : alwF now e = if yP e = true then 0 else 2 := by
 unfold alwF tkB
 rw [if_neg (by simpa using h), if_neg h2, if_neg (fun g => g h3)]
 cases yP e <;> simp
set_option maxRecDepth 20000 in
set_option maxHeartbeats 8000000 in
theorem rcheck_any (x : Ins) (P : InP) (now : Int) (e : Evt) (C : Option Addr) (c : Nat) (B : Nat) (w : World) (hB : B ≤ w.heap.size) (hA : InAt w B x P) (hF : insF x = []) (hC : Ints w B C e.order.load) (hf : yN e) :
  Calls Tryz.prog 16 #[InV x P, .int .i64 now, .agg (z8 e C c).toArray] w fun en w' => en = .returned (.int .i64 (chkF x now e)) ∧ Below w.heap.size w w' := by
 have h : InAt w w.heap.size x P := hA.more hB
 have HA := Lib.hid hA
 show Calls Tryz.prog 16 #[InV x P, .int .i64 now, .agg #[.int .i64 e.at_, .int .i64 e.kind, .int .i64 e.a, .int .i64 e.b, .int .i64 e.n, .string e.order.name, .slice C e.order.load.length c, .int .i64 e.order.pick.place, .int .i64 e.order.pick.opn, .int .i64 e.order.pick.close, .int .i64 e.order.pick.service, .int .i64 e.order.drop.place, .int .i64 e.order.drop.opn, .int .i64 e.order.drop.close, .int .i64 e.order.drop.service, .int .i64 e.order.skills, .int .i64 e.order.penalty, .int .i64 e.order.split, .int .i64 e.order.last, .int .i64 e.order.now, .bool e.order.off]] w _
 have HF := Lib.hid hF
 have HFT := Lib.hid hf
 have HCC := Lib.hid hC
 obtain ⟨W0, hW0⟩ : ∃ W0, (w.alloc (.cells (insCs x P).toArray 30)).alloc (.cells (z8 e C c).toArray 37) = W0 := ⟨_, rfl⟩
 have hB0 : Below w.heap.size w W0 := by rw [← hW0]; exact ((Below.refl _ _).alloc (Nat.le_refl _) _).alloc (by simp) _
 have z0 : W0.heap.size = w.heap.size + 2 := by rw [← hW0]; simp
 have b0 : Blk W0 w.heap.size 30 (insCs x P) := by
  rw [← hW0]
  exact (Blk.new w _ _).kept (World.grownBy_alloc _ _ none) (by simp)
 have b1 : Blk W0 (w.heap.size + 1) 37 (z8 e C c) := by
  rw [← hW0]
  have h := Blk.new (w.alloc (.cells (insCs x P).toArray 30)) 37 (z8 e C c)
  rw [show (w.alloc (.cells (insCs x P).toArray 30)).heap.size = w.heap.size + 1 by simp] at h
  exact h
 have hW1 : (w.alloc (.cells #[.slice P.a0 x.net.places.length P.c0, .slice P.a1 x.net.arcs.length P.c1, .slice P.a2 x.types.length P.c2, .slice P.a3 x.orders.length P.c3, .slice P.a4 x.apart.length P.c4, .slice P.a5 x.before.length P.c5] 30)).alloc (.cells #[.int .i64 e.at_, .int .i64 e.kind, .int .i64 e.a, .int .i64 e.b, .int .i64 e.n, .string e.order.name, .slice C e.order.load.length c, .int .i64 e.order.pick.place, .int .i64 e.order.pick.opn, .int .i64 e.order.pick.close, .int .i64 e.order.pick.service, .int .i64 e.order.drop.place, .int .i64 e.order.drop.opn, .int .i64 e.order.drop.close, .int .i64 e.order.drop.service, .int .i64 e.order.skills, .int .i64 e.order.penalty, .int .i64 e.order.split, .int .i64 e.order.last, .int .i64 e.order.now, .bool e.order.off] 37) = W0 := hW0
 have HX := Lib.hid (fun w' (h' : Below W0.heap.size W0 w') => And.intro (b0.below h') (b1.below h'))
 have HI := Lib.hid (fun w' (h' : Below w.heap.size w w') => h.go h')
 have HW1 := Lib.hid hW1
 have C0 := Below.refl W0.heap.size W0
 clear hW0 hW1 b0 b1
 simp only [InV]
 obtain ⟨r, hr⟩ : ∃ r, chkF x now e = r := ⟨_, rfl⟩
 have HR0 := Lib.hid (show (if alwF now e = 0 then hapK (hapF x e) else alwF now e) = r by rw [← hr]; exact chk_hap.symm)
 rw [hr]
 have HX0 := Lib.hid (HX.out _ C0)
 have e0 := HX0.out.2.cell (j := 0) rfl
 have e1 := HX0.out.2.cell (j := 1) rfl
 clear h hA hF hr hC hf
 go_enter Tryz.func16, Tryz.ntmps16
 go_upto_region 1 with fail
 rw [HW1.out]
 clear HW1
 by_cases ha1 : e.at_ < 0
 ·have HR : Hid (r = 2) := Lib.hid (by rw [← HR0.out, alw_at (by omega)]; rfl)
  go_wp2_with fail
  go_ret
  exact ⟨by rw [HR.out]; rfl, hB0⟩
 by_cases ha2 : 4096 < e.at_
 ·have HR : Hid (r = 2) := Lib.hid (by rw [← HR0.out, alw_at (by omega)]; rfl)
  go_wp2_with fail
  go_ret
  exact ⟨by rw [HR.out]; rfl, hB0⟩
 have HAT : Hid (0 ≤ e.at_ ∧ e.at_ ≤ 4096) := Lib.hid (by omega)
 by_cases ha3 : e.at_ < now
 ·have HR : Hid (r = 32) := Lib.hid (by rw [← HR0.out, alw_late HAT.out ha3]; rfl)
  go_wp2_with fail
  go_ret
  exact ⟨by rw [HR.out]; rfl, hB0⟩
 have HNOW := Lib.hid ha3
 by_cases hk1 : e.kind < 1
 ·have HR : Hid (r = 8) := Lib.hid (by rw [← HR0.out, alw_kind HAT.out HNOW.out (by omega)]; rfl)
  go_wp2_with fail
  go_ret
  exact ⟨by rw [HR.out]; rfl, hB0⟩
 by_cases hk2 : 5 < e.kind
 ·have HR : Hid (r = 8) := Lib.hid (by rw [← HR0.out, alw_kind HAT.out HNOW.out (by omega)]; rfl)
  go_wp2_with fail
  go_ret
  exact ⟨by rw [HR.out]; rfl, hB0⟩
 have HK : Hid (1 ≤ e.kind ∧ e.kind ≤ 5) := Lib.hid (by omega)
 have hcl := rclean_any e C c W0 HK.out
 obtain ⟨b, hb⟩ : ∃ b, yP e = b := ⟨_, rfl⟩
 have HRR : Hid (r = if b = true then hapK (hapF x e) else 2) := Lib.hid (by
  rw [← HR0.out, alw_clean HAT.out HNOW.out HK.out, hb]
  cases b <;> rfl)
 rw [hb] at hcl
 clear hb
 go_wp2_with ((with_reducible refine zH stEvt _ rfl ⟨(w.heap.size + 1), 0, none⟩ (z8 e C c) ?_ ?_ ?_ ?_ ?_); exact rfl; exact rfl; exact HX0.out.2.cells; exact rfl)
 refine hcl.mono ?_
 rintro e9 w1 ⟨rfl, b1⟩
 have HB1 := Lib.hid (hB0.trans (b1.mono (by omega)))
 have HX1 := Lib.hid (HX.out _ b1)
 clear b1 e0 e1 hcl ha1 ha2 ha3 hk1 hk2
 cases b
 ·have HR : Hid (r = 2) := Lib.hid (by rw [HRR.out]; rfl)
  go_wp2_with fail
  go_ret
  exact ⟨by rw [HR.out]; rfl, HB1.out⟩
 ·have HR : Hid (r = hapK (hapF x e)) := Lib.hid (by rw [HRR.out]; rfl)
  have hkd := rkind_any x P e C c B w1 (Nat.le_trans hB HB1.out.size) (HA.out.below (HB1.out.mono hB)) HF.out (HCC.out.below (HB1.out.mono hB)) HFT.out HK.out
  rw [← HR.out] at hkd
  go_wp2_with (first
   | ((with_reducible refine zH stIns _ rfl ⟨w.heap.size, 0, none⟩ (insCs (x) P) ?_ ?_ ?_ ?_ ?_); exact rfl; exact rfl; exact HX1.out.1.cells; exact rfl)
   | ((with_reducible refine zH stEvt _ rfl ⟨(w.heap.size + 1), 0, none⟩ (z8 e C c) ?_ ?_ ?_ ?_ ?_); exact rfl; exact rfl; exact HX1.out.2.cells; exact rfl))
  refine hkd.mono ?_
  rintro e8 w2 ⟨rfl, b2⟩
  have HB2 := Lib.hid (HB1.out.trans (b2.mono HB1.out.size))
  clear b2 hkd
  go_wp2_with fail
  go_ret
  exact ⟨rfl, HB2.out⟩
end Go.Proofs.YtofabhenmplkoaaGreatDoor.evt

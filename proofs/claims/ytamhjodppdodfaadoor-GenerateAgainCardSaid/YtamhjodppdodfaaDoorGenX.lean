/- The example of the laws about what is drawn. -/
import Derived.Test.YtamhjodppdodfaaDoorGenJ
import Derived.Test.YtamhjodppdodfaaDoorLimP
namespace Go.Proofs.YtamhjodppdodfaaDoor.gen
open Go.RowKit
open Go.Proofs.YtamhjodppdodfaaDoor.lib Go.Proofs.YtamhjodppdodfaaDoor.rd Go.Proofs.YtamhjodppdodfaaDoor.app Go.Proofs.YtamhjodppdodfaaDoor.els Go.Proofs.YtamhjodppdodfaaDoor.typ Go.Proofs.YtamhjodppdodfaaDoor.big Go.Proofs.YtamhjodppdodfaaDoor.ins Go.Proofs.YtamhjodppdodfaaDoor.ord
set_option linter.unusedVariables false
set_option linter.unusedSimpArgs false

theorem gen_ex : genR 7 2 1 2 = (genI 7 2 1 2, 0) ∧ (genI 7 2 1 2).orders.length = 2 ∧ (genI 7 2 1 2).net.arcs.length = 2 ∧ ∃ o, (genI 7 2 1 2).orders[1]? = some o ∧ o.name = ⟨#[111, 49]⟩ := by
  refine ⟨?_, (ords_at 1 2 _ 2).1, ?_, ?_⟩
  · unfold genR
    rw [if_pos (by decide)]
    rfl
  · simp [genI, netF, arcsTo, rowTo]
  · have hl : (genI 7 2 1 2).orders.length = 2 := (ords_at 1 2 _ 2).1
    obtain ⟨o, ho⟩ : ∃ o, (genI 7 2 1 2).orders[1]? = some o := ⟨_, List.getElem?_eq_getElem (by omega)⟩
    refine ⟨o, ho, ?_⟩
    rw [((ords_at 1 2 _ 2).2 1 o ho).2]
    show ordN 1 = _
    decide +kernel
theorem gen_ex2 : genR 7 1 1 2 = (nilI, 2) := by
  unfold genR
  rw [if_neg (by decide)]
set_option maxRecDepth 20000 in
set_option maxHeartbeats 4000000 in
theorem example_any (w : World) : Calls Tryd.prog 6 #[] w fun e w' => e = .returned (.bool true) ∧ Below w.heap.size w w' := by
  go_enter Tryd.func6, Tryd.ntmps6
  go_wp2_with fail
  refine (inst_any 7 2 1 2 w).mono ?_
  rw [gen_ex.1]
  rintro e w2 ⟨P1, rfl, hI1, b2⟩
  obtain ⟨h1, h2, o, ho, hn⟩ := gen_ex.2
  obtain ⟨Y, hY⟩ : ∃ Y, genI 7 2 1 2 = Y := ⟨_, rfl⟩
  rw [hY] at h1 h2 ho hI1 ⊢
  clear hY
  have HI1 := Lib.hid hI1
  have HOO := Lib.hid (And.intro ho hn)
  have HLN := Lib.hid (And.intro h1 h2)
  have HB2 := Lib.hid b2
  clear hI1 ho hn b2 h1 h2
  go_upto_region 2 with fail
  obtain ⟨w3, hw3⟩ : ∃ W, w2.alloc (.cells (insCs (Y) P1).toArray 30) = W := ⟨_, rfl⟩
  have hw3' : w2.alloc (.cells #[.slice P1.a0 (Y).net.places.length P1.c0, .slice P1.a1 (Y).net.arcs.length P1.c1, .slice P1.a2 (Y).types.length P1.c2, .slice P1.a3 (Y).orders.length P1.c3, .slice P1.a4 (Y).apart.length P1.c4, .slice P1.a5 (Y).before.length P1.c5] 30) = w3 := hw3
  rw [hw3']
  have k1' : SixAt w3 w2.heap.size (insCs (Y) P1) := by rw [← hw3]; exact World.alloc_heap_new _ _
  have bx : Below w2.heap.size w2 w3 := by rw [← hw3]; exact (Below.refl _ _).alloc (Nat.le_refl _) _
  clear hw3 hw3'
  have b3 := bx
  have HB3 := Lib.hid (HB2.out.trans (b3.mono HB2.out.size))
  obtain ⟨g1, hg1⟩ : ∃ g1, w2.heap.size = g1 := ⟨_, rfl⟩
  have HY3 : Hid (∀ w', Below w3.heap.size w3 w' → SixAt w' g1 (insCs Y P1) ∧ InAt w' w'.heap.size Y P1) := Lib.hid fun w' hb => ⟨by rw [← hg1]; exact k1'.below hb, (HI1.out.go b3).go hb⟩
  rw [hg1]
  clear bx hg1 b3 HI1 k1'
  go_wp2_with fail
  refine (inst_any 7 1 1 2 w3).mono ?_
  rw [gen_ex2]
  rintro e w4 ⟨P2, rfl, hI2, b4⟩
  have HB4 := Lib.hid b4
  clear hI2 b4
  go_upto_region 3 with fail
  obtain ⟨w5, hw3⟩ : ∃ W, w4.alloc (.cells (insCs (nilI) P2).toArray 30) = W := ⟨_, rfl⟩
  have hw3' : w4.alloc (.cells #[.slice P2.a0 (nilI).net.places.length P2.c0, .slice P2.a1 (nilI).net.arcs.length P2.c1, .slice P2.a2 (nilI).types.length P2.c2, .slice P2.a3 (nilI).orders.length P2.c3, .slice P2.a4 (nilI).apart.length P2.c4, .slice P2.a5 (nilI).before.length P2.c5] 30) = w5 := hw3
  rw [hw3']
  have k1' : SixAt w5 w4.heap.size (insCs (nilI) P2) := by rw [← hw3]; exact World.alloc_heap_new _ _
  have bx : Below w4.heap.size w4 w5 := by rw [← hw3]; exact (Below.refl _ _).alloc (Nat.le_refl _) _
  clear hw3 hw3'
  have b5 := bx
  have HB5 := Lib.hid (HB4.out.trans (b5.mono HB4.out.size))
  have HBW := Lib.hid (HB3.out.trans (HB5.out.mono HB3.out.size))
  have HYF := Lib.hid (HY3.out _ HB5.out)
  clear bx b5 HB4 k1'
  obtain ⟨ad, cs0, hA, hadb, hat, hcs⟩ := HYF.out.2.orders.elem HOO.out.1
  obtain ⟨C, cc, rfl, hI, hf⟩ := rOrd_at hat
  have x3 : w5.cell? ⟨g1, 3, none⟩ = some (.slice (some ad) 2 P1.c3) := by rw [← HLN.out.1, ← hA]; exact HYF.out.1.cell (j := 3) rfl
  have x1 : w5.cell? ⟨g1, 1, none⟩ = some (.slice P1.a1 2 P1.c1) := by rw [← HLN.out.2]; exact HYF.out.1.cell (j := 1) rfl
  have c1 : w5.cell? ⟨ad.block, ad.off + 16, none⟩ = some (.string ⟨#[111, 49]⟩) := by
    have h := hcs 0 (.string o.name) rfl
    rw [HOO.out.2] at h
    exact h
  clear hcs hat hA hI hf
  go_wp2_with fail
  go_ret
  exact ⟨rfl, HBW.out⟩
end Go.Proofs.YtamhjodppdodfaaDoor.gen

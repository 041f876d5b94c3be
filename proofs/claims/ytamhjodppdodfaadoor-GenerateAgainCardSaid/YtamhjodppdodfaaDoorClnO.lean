/- Rows of orders, types and arcs that are copied: what is read, as elements of rows of the call's own; slices.Clone. -/
import Derived.Test.YtamhjodppdodfaaDoorMid
import Derived.Test.YtamhjodppdodfaaDoorGenT
import Derived.Test.YtamhjodppdodfaaDoorGenD
import Derived.Deep.DeepCutAuto
namespace Go.Proofs.YtamhjodppdodfaaDoor.typ
open Go.RowKit
open Go.Proofs.YtamhjodppdodfaaDoor.lib Go.Proofs.YtamhjodppdodfaaDoor.rd Go.Proofs.YtamhjodppdodfaaDoor.app Go.Proofs.YtamhjodppdodfaaDoor.els Go.Proofs.YtamhjodppdodfaaDoor.off Go.Proofs.YtamhjodppdodfaaDoor.big Go.Proofs.YtamhjodppdodfaaDoor.ins Go.Proofs.YtamhjodppdodfaaDoor.ord Go.Proofs.YtamhjodppdodfaaDoor.gen
set_option linter.unusedVariables false
set_option linter.unusedSimpArgs false

theorem oOrd_low {w : World} {B : Nat} {P : Nat → Prop} (hB : B ≤ w.heap.size) (hP : ∀ b, b < B → P b) {c : List Value} {x : Ord} (h : rOrd.at_ w B c x) : oOrd.at_ w P c x := by
  obtain ⟨C, cc, rfl, hI, hf⟩ := rOrd_at h
  exact oOrd_mk (IntsOff.low hI hB hP) hf
theorem oTy_low {w : World} {B : Nat} {P : Nat → Prop} (hB : B ≤ w.heap.size) (hP : ∀ b, b < B → P b) {c : List Value} {x : Ty} (h : rTy.at_ w B c x) : oTy.at_ w P c x := by
  obtain ⟨C, cc, rfl, hI, hf⟩ := rTy_at h
  exact oTy_mk (IntsOff.low hI hB hP) hf
theorem oPt_low {w : World} {B : Nat} {P : Nat → Prop} {c : List Value} {x : Pt} (h : rPt.at_ w B c x) : oPt.at_ w P c x := by
  obtain ⟨rfl, hf⟩ := rPt_at h
  exact oPt_mk hf
theorem oArc_low {w : World} {B : Nat} {P : Nat → Prop} (hB : B ≤ w.heap.size) (hP : ∀ b, b < B → P b) {c : List Value} {x : Arc} (h : rArc.at_ w B c x) : oArc.at_ w P c x := by
  obtain ⟨C0, c0, C1, c1, rfl, h0, h1, hf⟩ := rArc_at h
  exact oArc_mk (RowOff.of_row h0 hB hP (fun _ _ => oPt_low)) (RowOff.of_row h1 hB hP (fun _ _ => oPt_low)) hf
theorem ord_ones {w : World} {B : Nat} : ∀ (cs : List Value) (x : Ord), rOrd.at_ w B cs x → ∀ u ∈ cs, u.oneCell' = true := fun cs x h => by
  obtain ⟨C, cc, rfl, _⟩ := rOrd_at h
  exact ordCells_one x C cc
theorem ty_ones {w : World} {B : Nat} : ∀ (cs : List Value) (x : Ty), rTy.at_ w B cs x → ∀ u ∈ cs, u.oneCell' = true := fun cs x h => by
  obtain ⟨C, cc, rfl, _⟩ := rTy_at h
  exact tyCells_one x C cc
set_option maxRecDepth 20000 in
theorem cloneO_any (A : Option Addr) (c : Nat) (l : List Ord) (B : Nat) (w : World) (hB : B ≤ w.heap.size) (h : RowAt rOrd w B A l) (hl : l.length ≤ 1000000) :
    Calls Tryd.prog 46 #[.slice A l.length c] w fun e w' => ∃ A' c' CS, e = .returned (.slice A' l.length c') ∧ w'.ownsRow w.heap.size 40 16 (.slice A' l.length c') l.length CS ∧ EG oOrd w' (fun b => b < B) CS l ∧ Below w.heap.size w w' := by
  have B0 : Below w.heap.size w (w.alloc (.cells #[] 40)) := (Below.refl _ _).alloc (Nat.le_refl _) _
  obtain ⟨CS, hcs, hca, hcb, hone⟩ := RowAt.cells (r := rOrd) (by decide) h
  have HE : Hid (EG oOrd w (fun b => b < B) CS l) := Lib.hid (EG.of_cells hcs (fun _ _ => oOrd_low hB (fun _ h => h)))
  have HONE := Lib.hid (hone (fun u => u.oneCell' = true) (ord_ones))
  obtain ⟨m, hm⟩ : ∃ m, l.length = m := ⟨_, rfl⟩
  have hlen : CS.length = m * 16 := by rw [← hm]; exact hcs.1
  have HC : Hid (Reads (w.alloc (.cells #[] 40)) w.heap.size 16 A m CS) := Lib.hid ⟨hlen, fun h0 => by
    obtain ⟨ad, h1, h2⟩ := hcb (by omega)
    exact ⟨ad, h1, Nat.lt_of_lt_of_le h2 hB, (hca ad h1).below B0 (Nat.lt_of_lt_of_le h2 hB)⟩⟩
  have HM := Lib.hid hm
  have HZ : Hid (A = none → m = 0) := Lib.hid (fun hA => by
    rcases Nat.eq_zero_or_pos m with h0 | h0
    · exact h0
    · obtain ⟨ad, h1, _⟩ := hcb (by omega)
      rw [hA] at h1
      cases h1)
  rw [hm] at hl ⊢
  have HLN := Lib.hid hlen
  clear h hm hcs hca hcb hone hlen
  rcases A with _ | ad
  · have hm0 : m = 0 := HZ.out rfl
    subst hm0
    have hC0 : CS = [] := List.eq_nil_of_length_eq_zero (by rw [HLN.out])
    subst hC0
    have he : ∀ w : World, (binOp .eql 27 (.slice none 0 c) (.slice none 0 0)).run Tryd.prog w = .ok (.bool true) w := fun _ => rfl
    go_enter Tryd.func46, Tryd.ntmps46
    go_wp2
    go_ret
    exact ⟨none, 0, rfl, [], World.ownsRow_nil _ _ _ _, HE.out, Below.refl _ _⟩
  · have HE0 : Hid ((w.alloc (.cells #[] 40)).ownsRow w.heap.size 40 16 (.slice (some ⟨w.heap.size, 0, none⟩) 0 0) 0 []) := Lib.hid (World.ownsRow_made w #[] 0 (Nat.le_refl _) (by decide) rfl)
    have HBA : Hid (w.heap.size ≤ (w.alloc (.cells #[] 40)).heap.size) := Lib.hid B0.size
    have HB := Lib.hid B0
    clear B0
    have he : ∀ w : World, (binOp .eql 27 (.slice (some ad) m c) (.slice none 0 0)).run Tryd.prog w = .ok (.bool false) w := fun _ => rfl
    go_enter Tryd.func46, Tryd.ntmps46
    go_wp2_with (at_builtin; go_loud (refine wpList_appN ord_elem _ _ rfl w.heap.size (.slice (some ⟨w.heap.size, 0, none⟩) 0 0) 0 [] rfl HE0.out w.heap.size (some ad) m c CS rfl HC.out HONE.out (by omega) HBA.out rfl ?_); intro A5 c5 w5 hown5 hg5; have HK := Lib.hid (And.intro hown5 hg5); clear hown5 hg5)
    go_ret
    have hb : Below w.heap.size w w5 := HB.out.grown HK.out.2 HBA.out (fun q e => own_base HE0.out q e)
    refine ⟨A5, c5, CS, rfl, ?_, HE.out.below hb, hb⟩
    have h := HK.out.1
    rw [Nat.zero_add, List.nil_append] at h
    exact h
set_option maxRecDepth 20000 in
theorem cloneT_any (A : Option Addr) (c : Nat) (l : List Ty) (B : Nat) (w : World) (hB : B ≤ w.heap.size) (h : RowAt rTy w B A l) (hl : l.length ≤ 1000000) :
    Calls Tryd.prog 36 #[.slice A l.length c] w fun e w' => ∃ A' c' CS, e = .returned (.slice A' l.length c') ∧ w'.ownsRow w.heap.size 51 14 (.slice A' l.length c') l.length CS ∧ EG oTy w' (fun b => b < B) CS l ∧ Below w.heap.size w w' := by
  have B0 : Below w.heap.size w (w.alloc (.cells #[] 51)) := (Below.refl _ _).alloc (Nat.le_refl _) _
  obtain ⟨CS, hcs, hca, hcb, hone⟩ := RowAt.cells (r := rTy) (by decide) h
  have HE : Hid (EG oTy w (fun b => b < B) CS l) := Lib.hid (EG.of_cells hcs (fun _ _ => oTy_low hB (fun _ h => h)))
  have HONE := Lib.hid (hone (fun u => u.oneCell' = true) (ty_ones))
  obtain ⟨m, hm⟩ : ∃ m, l.length = m := ⟨_, rfl⟩
  have hlen : CS.length = m * 14 := by rw [← hm]; exact hcs.1
  have HC : Hid (Reads (w.alloc (.cells #[] 51)) w.heap.size 14 A m CS) := Lib.hid ⟨hlen, fun h0 => by
    obtain ⟨ad, h1, h2⟩ := hcb (by omega)
    exact ⟨ad, h1, Nat.lt_of_lt_of_le h2 hB, (hca ad h1).below B0 (Nat.lt_of_lt_of_le h2 hB)⟩⟩
  have HM := Lib.hid hm
  have HZ : Hid (A = none → m = 0) := Lib.hid (fun hA => by
    rcases Nat.eq_zero_or_pos m with h0 | h0
    · exact h0
    · obtain ⟨ad, h1, _⟩ := hcb (by omega)
      rw [hA] at h1
      cases h1)
  rw [hm] at hl ⊢
  have HLN := Lib.hid hlen
  clear h hm hcs hca hcb hone hlen
  rcases A with _ | ad
  · have hm0 : m = 0 := HZ.out rfl
    subst hm0
    have hC0 : CS = [] := List.eq_nil_of_length_eq_zero (by rw [HLN.out])
    subst hC0
    have he : ∀ w : World, (binOp .eql 26 (.slice none 0 c) (.slice none 0 0)).run Tryd.prog w = .ok (.bool true) w := fun _ => rfl
    go_enter Tryd.func36, Tryd.ntmps36
    go_wp2
    go_ret
    exact ⟨none, 0, rfl, [], World.ownsRow_nil _ _ _ _, HE.out, Below.refl _ _⟩
  · have HE0 : Hid ((w.alloc (.cells #[] 51)).ownsRow w.heap.size 51 14 (.slice (some ⟨w.heap.size, 0, none⟩) 0 0) 0 []) := Lib.hid (World.ownsRow_made w #[] 0 (Nat.le_refl _) (by decide) rfl)
    have HBA : Hid (w.heap.size ≤ (w.alloc (.cells #[] 51)).heap.size) := Lib.hid B0.size
    have HB := Lib.hid B0
    clear B0
    have he : ∀ w : World, (binOp .eql 26 (.slice (some ad) m c) (.slice none 0 0)).run Tryd.prog w = .ok (.bool false) w := fun _ => rfl
    go_enter Tryd.func36, Tryd.ntmps36
    go_wp2_with (at_builtin; go_loud (refine wpList_appN ty_elem _ _ rfl w.heap.size (.slice (some ⟨w.heap.size, 0, none⟩) 0 0) 0 [] rfl HE0.out w.heap.size (some ad) m c CS rfl HC.out HONE.out (by omega) HBA.out rfl ?_); intro A5 c5 w5 hown5 hg5; have HK := Lib.hid (And.intro hown5 hg5); clear hown5 hg5)
    go_ret
    have hb : Below w.heap.size w w5 := HB.out.grown HK.out.2 HBA.out (fun q e => own_base HE0.out q e)
    refine ⟨A5, c5, CS, rfl, ?_, HE.out.below hb, hb⟩
    have h := HK.out.1
    rw [Nat.zero_add, List.nil_append] at h
    exact h
end Go.Proofs.YtamhjodppdodfaaDoor.typ

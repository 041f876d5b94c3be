import Derived.Test.YtofabhenmplkoaaGreatDoorGenE
import Derived.Test.YtofabhenmplkoaaGreatDoorGenR
import Derived.Deep.RegionHeld3
import Derived.Deep.DeepCutAuto
import Derived.Test.YtofabhenmplkoaaGreatDoorMid
import Derived.Test.YtofabhenmplkoaaGreatDoorGenT
import Derived.Test.YtofabhenmplkoaaGreatDoorGenD
import Derived.Test.YtofabhenmplkoaaGreatDoorEvtP
import Derived.Test.YtofabhenmplkoaaGreatDoorZ4
import Derived.Test.YtofabhenmplkoaaGreatDoorZ3
import Derived.Test.YtofabhenmplkoaaGreatDoorEvtC
import Derived.Test.YtofabhenmplkoaaGreatDoorAddF
import Derived.Test.YtofabhenmplkoaaGreatDoorPrsD
import Derived.Test.YtofabhenmplkoaaGreatDoorEvtZ
import Derived.Test.YtofabhenmplkoaaGreatDoorStrA
import Derived.Test.YtofabhenmplkoaaGreatDoorEvtT
import Derived.Test.YtofabhenmplkoaaGreatDoorPrtP
import Derived.Test.YtofabhenmplkoaaGreatDoorCards
import Derived.Test.YtofabhenmplkoaaGreatDoorTie
import Derived.WalkKit
import Derived.ProofKit
import Derived.OpenShut
import Derived.Deep.DeepHandedRow
import Derived.Shelf.Spec.TrailingZeros
import Derived.Lay
import Derived.MakeChecks
import Derived.Stop.LaidErr
import Derived.Lib.LaidTab
/- Arcs that are drawn: the reference. A block with a row that grows. -/
namespace Go.Proofs.YtofabhenmplkoaaGreatDoor.gen
open Go.RowKit
open Go.Proofs.YtofabhenmplkoaaGreatDoor.lib Go.Proofs.YtofabhenmplkoaaGreatDoor.rd Go.Proofs.YtofabhenmplkoaaGreatDoor.app Go.Proofs.YtofabhenmplkoaaGreatDoor.els Go.Proofs.YtofabhenmplkoaaGreatDoor.typ Go.Proofs.YtofabhenmplkoaaGreatDoor.txt Go.Proofs.YtofabhenmplkoaaGreatDoor.big Go.Proofs.YtofabhenmplkoaaGreatDoor.off
set_option linter.unusedVariables false
set_option linter.unusedSimpArgs false

/-- Where a call that draws stands: its drawer, the block that it builds, the row that it builds. -/
structure BSt (T bt et : TypeId) (sz : Nat) (W : World) (p B1 ob : Nat) (s : Int) (cs : List Value) (A : Option Addr) (k c : Nat) (l : List Value) (wx : World) : Prop where
  gs : GS W p T s wx
  blk : Blk wx ob bt cs
  own : wx.ownsRow B1 et sz (.slice A k c) k l
  size : B1 ≤ wx.heap.size
/-- Where its blocks lie. -/
def BPl (W : World) (p B1 ob : Nat) : Prop := p < W.heap.size ∧ W.heap.size ≤ ob ∧ ob < B1
section
variable {T bt et : TypeId} {sz : Nat} {W wx wy : World} {p B1 ob : Nat} {s s' : Int} {cs : List Value} {A : Option Addr} {k c : Nat} {l : List Value}
theorem BSt.set (h : BSt T bt et sz W p B1 ob s cs A k c l wx) (hl : BPl W p B1 ob) (i : Nat) (u : Value) : BSt T bt et sz W p B1 ob s (cs.set i u) A k c l (wx.setCell ⟨ob, i, none⟩ u) := by
  obtain ⟨h2, h3, h4⟩ := hl
  exact ⟨h.gs.set h3 i u, h.blk.set i u, own_fr h.own (Fr.set (q := ob) wx i u (fun q hq => by have h' : B1 ≤ q := hq; omega)), by have := h.size; simp [World.setCell]; omega⟩
theorem BSt.drew (h : BSt T bt et sz W p B1 ob s cs A k c l wx) : BSt T bt et sz W p B1 ob s cs A k c l wx.drew := ⟨h.gs.drew, h.blk, h.own, h.size⟩
theorem BSt.draw (h : BSt T bt et sz W p B1 ob s cs A k c l wx) (hl : BPl W p B1 ob) (hb : Boxed wy p T (.int .i64 s')) (hg : wx.grownBy wy (some p)) : BSt T bt et sz W p B1 ob s' cs A k c l wy := by
  obtain ⟨h2, h3, h4⟩ := hl
  exact ⟨h.gs.draw hb hg, h.blk.kept hg (fun e => by injection e; omega), own_draw h.own (by omega) hg, Nat.le_trans h.size hg.size⟩
theorem BSt.below (h : BSt T bt et sz W p B1 ob s cs A k c l wx) (hb : Below wx.heap.size wx wy) : BSt T bt et sz W p B1 ob s cs A k c l wy :=
  ⟨h.gs.below hb, h.blk.below hb, own_below h.own hb, Nat.le_trans h.size hb.size⟩
theorem BSt.app {g n c' : Nat} {l' : List Value} (h : BSt T bt et sz W p B1 ob s cs A k c l wx) (hl : BPl W p B1 ob) (ho : wy.ownsRow B1 et sz (.slice (some ⟨g, 0, none⟩) n c') n l') (hg : wx.grownBy wy (Value.slice A k c).ownBlock) : BSt T bt et sz W p B1 ob s cs (some ⟨g, 0, none⟩) n c' l' wy := by
  obtain ⟨h2, h3, h4⟩ := hl
  have hne : ∀ q, q < B1 → some q ≠ (Value.slice A k c).ownBlock := fun q hq e => by have := (World.ownsRow.lt h.own q e.symm).1; omega
  exact ⟨h.gs.grow hg (fun q e => by have := (World.ownsRow.lt h.own q e).1; omega), h.blk.kept hg (hne _ h4), ho, Nat.le_trans h.size hg.size⟩
end
def arcL (i j m : Int) (tr : Value) : List Value := [.int .i64 i, .int .i64 j, .int .i64 0, .int .i64 m, tr, .slice none 0 0]
theorem stArc' : StructOf 59 6 := ⟨⟨_, Tryz.underlying59⟩, by kernel_rfl⟩
end Go.Proofs.YtofabhenmplkoaaGreatDoor.gen

/- Rows of orders, types and arcs that are copied: what is read, as elements of rows of the call's own; slices.Clone. -/
namespace Go.Proofs.YtofabhenmplkoaaGreatDoor.typ
open Go.RowKit
open Go.Proofs.YtofabhenmplkoaaGreatDoor.lib Go.Proofs.YtofabhenmplkoaaGreatDoor.rd Go.Proofs.YtofabhenmplkoaaGreatDoor.app Go.Proofs.YtofabhenmplkoaaGreatDoor.els Go.Proofs.YtofabhenmplkoaaGreatDoor.off Go.Proofs.YtofabhenmplkoaaGreatDoor.big Go.Proofs.YtofabhenmplkoaaGreatDoor.ins Go.Proofs.YtofabhenmplkoaaGreatDoor.ord Go.Proofs.YtofabhenmplkoaaGreatDoor.gen
set_option linter.unusedVariables false
set_option linter.unusedSimpArgs false

theorem oOrd_low {w : World} {B : Nat} {P : Nat → Prop} (hB : B ≤ w.heap.size) (hP : ∀ b, b < B → P b) {c : List Value} {x : Ord} (h : rOrd.at_ w B c x) : oOrd.at_ w P c x := by
  obtain ⟨C, cc, rfl, hI, hf⟩ := rOrd_at h
  exact oOrd_mk (IntsOff.low hI hB hP) hf
theorem oTy_low {w : World} {B : Nat} {P : Nat → Prop} (hB : B ≤ w.heap.size) (hP : ∀ b, b < B → P b) {c : List Value} {x : Ty} (h : rTy.at_ w B c x) : oTy.at_ w P c x := by
  obtain ⟨C, cc, rfl, hI, hf⟩ := rTy_at h
  exact oTy_mk (IntsOff.low hI hB hP) hf
theorem oPt_low {w : World} {B : Nat} {P : Nat → Prop} {c : List Value} {x : Pt} (h : rPt.at_ w B c x) : oPt.at_ w P c x := by
  obtain ⟨rfl, hf⟩ := rPt_at h
  exact oPt_mk hf
theorem oArc_low {w : World} {B : Nat} {P : Nat → Prop} (hB : B ≤ w.heap.size) (hP : ∀ b, b < B → P b) {c : List Value} {x : Arc} (h : rArc.at_ w B c x) : oArc.at_ w P c x := by
  obtain ⟨C0, c0, C1, c1, rfl, h0, h1, hf⟩ := rArc_at h
  exact oArc_mk (RowOff.of_row h0 hB hP (fun _ _ => oPt_low)) (RowOff.of_row h1 hB hP (fun _ _ => oPt_low)) hf
theorem ord_ones {w : World} {B : Nat} : ∀ (cs : List Value) (x : Ord), rOrd.at_ w B cs x → ∀ u ∈ cs, u.oneCell' = true := fun cs x h => by
  obtain ⟨C, cc, rfl, _⟩ := rOrd_at h
  exact ordCells_one x C cc
theorem ty_ones {w : World} {B : Nat} : ∀ (cs : List Value) (x : Ty), rTy.at_ w B cs x → ∀ u ∈ cs, u.oneCell' = true := fun cs x h => by
  obtain ⟨C, cc, rfl, _⟩ := rTy_at h
  exact tyCells_one x C cc
set_option maxRecDepth 20000 in
theorem cloneO_any (A : Option Addr) (c : Nat) (l : List Ord) (B : Nat) (w : World) (hB : B ≤ w.heap.size) (h : RowAt rOrd w B A l) (hl : l.length ≤ 1000000) :
    Calls Tryz.prog 165 #[.slice A l.length c] w fun e w' => ∃ A' c' CS, e = .returned (.slice A' l.length c') ∧ w'.ownsRow w.heap.size 35 16 (.slice A' l.length c') l.length CS ∧ EG oOrd w' (fun b => b < B) CS l ∧ Below w.heap.size w w' := by
  have B0 : Below w.heap.size w (w.alloc (.cells #[] 35)) := (Below.refl _ _).alloc (Nat.le_refl _) _
  obtain ⟨CS, hcs, hca, hcb, hone⟩ := RowAt.cells (r := rOrd) (by decide) h
  have HE : Hid (EG oOrd w (fun b => b < B) CS l) := Lib.hid (EG.of_cells hcs (fun _ _ => oOrd_low hB (fun _ h => h)))
  have HONE := Lib.hid (hone (fun u => u.oneCell' = true) (ord_ones))
  obtain ⟨m, hm⟩ : ∃ m, l.length = m := ⟨_, rfl⟩
  have hlen : CS.length = m * 16 := by rw [← hm]; exact hcs.1
  have HC : Hid (Reads (w.alloc (.cells #[] 35)) w.heap.size 16 A m CS) := Lib.hid ⟨hlen, fun h0 => by
    obtain ⟨ad, h1, h2⟩ := hcb (by omega)
    exact ⟨ad, h1, Nat.lt_of_lt_of_le h2 hB, (hca ad h1).below B0 (Nat.lt_of_lt_of_le h2 hB)⟩⟩
  have HM := Lib.hid hm
  have HZ : Hid (A = none → m = 0) := Lib.hid (fun hA => by
    rcases Nat.eq_zero_or_pos m with h0 | h0
    · exact h0
    · obtain ⟨ad, h1, _⟩ := hcb (by omega)
      rw [hA] at h1
      cases h1)
  rw [hm] at hl ⊢
  have HLN := Lib.hid hlen
  clear h hm hcs hca hcb hone hlen
  rcases A with _ | ad
  · have hm0 : m = 0 := HZ.out rfl
    subst hm0
    have hC0 : CS = [] := List.eq_nil_of_length_eq_zero (by rw [HLN.out])
    subst hC0
    have he : ∀ w : World, (binOp .eql 27 (.slice none 0 c) (.slice none 0 0)).run Tryz.prog w = .ok (.bool true) w := fun _ => rfl
    go_enter Tryz.func165, Tryz.ntmps165
    go_wp2
    go_ret
    exact ⟨none, 0, rfl, [], World.ownsRow_nil _ _ _ _, HE.out, Below.refl _ _⟩
  · have HE0 : Hid ((w.alloc (.cells #[] 35)).ownsRow w.heap.size 35 16 (.slice (some ⟨w.heap.size, 0, none⟩) 0 0) 0 []) := Lib.hid (World.ownsRow_made w #[] 0 (Nat.le_refl _) (by decide) rfl)
    have HBA : Hid (w.heap.size ≤ (w.alloc (.cells #[] 35)).heap.size) := Lib.hid B0.size
    have HB := Lib.hid B0
    clear B0
    have he : ∀ w : World, (binOp .eql 27 (.slice (some ad) m c) (.slice none 0 0)).run Tryz.prog w = .ok (.bool false) w := fun _ => rfl
    go_enter Tryz.func165, Tryz.ntmps165
    go_wp2_with (at_builtin; go_loud (refine wpList_appN ord_elem _ _ rfl w.heap.size (.slice (some ⟨w.heap.size, 0, none⟩) 0 0) 0 [] rfl HE0.out w.heap.size (some ad) m c CS rfl HC.out HONE.out (by omega) HBA.out rfl ?_); intro A5 c5 w5 hown5 hg5; have HK := Lib.hid (And.intro hown5 hg5); clear hown5 hg5)
    go_ret
    have hb : Below w.heap.size w w5 := HB.out.grown HK.out.2 HBA.out (fun q e => own_base HE0.out q e)
    refine ⟨A5, c5, CS, rfl, ?_, HE.out.below hb, hb⟩
    have h := HK.out.1
    rw [Nat.zero_add, List.nil_append] at h
    exact h
set_option maxRecDepth 20000 in
theorem cloneT_any (A : Option Addr) (c : Nat) (l : List Ty) (B : Nat) (w : World) (hB : B ≤ w.heap.size) (h : RowAt rTy w B A l) (hl : l.length ≤ 1000000) :
    Calls Tryz.prog 105 #[.slice A l.length c] w fun e w' => ∃ A' c' CS, e = .returned (.slice A' l.length c') ∧ w'.ownsRow w.heap.size 56 14 (.slice A' l.length c') l.length CS ∧ EG oTy w' (fun b => b < B) CS l ∧ Below w.heap.size w w' := by
  have B0 : Below w.heap.size w (w.alloc (.cells #[] 56)) := (Below.refl _ _).alloc (Nat.le_refl _) _
  obtain ⟨CS, hcs, hca, hcb, hone⟩ := RowAt.cells (r := rTy) (by decide) h
  have HE : Hid (EG oTy w (fun b => b < B) CS l) := Lib.hid (EG.of_cells hcs (fun _ _ => oTy_low hB (fun _ h => h)))
  have HONE := Lib.hid (hone (fun u => u.oneCell' = true) (ty_ones))
  obtain ⟨m, hm⟩ : ∃ m, l.length = m := ⟨_, rfl⟩
  have hlen : CS.length = m * 14 := by rw [← hm]; exact hcs.1
  have HC : Hid (Reads (w.alloc (.cells #[] 56)) w.heap.size 14 A m CS) := Lib.hid ⟨hlen, fun h0 => by
    obtain ⟨ad, h1, h2⟩ := hcb (by omega)
    exact ⟨ad, h1, Nat.lt_of_lt_of_le h2 hB, (hca ad h1).below B0 (Nat.lt_of_lt_of_le h2 hB)⟩⟩
  have HM := Lib.hid hm
  have HZ : Hid (A = none → m = 0) := Lib.hid (fun hA => by
    rcases Nat.eq_zero_or_pos m with h0 | h0
    · exact h0
    · obtain ⟨ad, h1, _⟩ := hcb (by omega)
      rw [hA] at h1
      cases h1)
  rw [hm] at hl ⊢
  have HLN := Lib.hid hlen
  clear h hm hcs hca hcb hone hlen
  rcases A with _ | ad
  · have hm0 : m = 0 := HZ.out rfl
    subst hm0
    have hC0 : CS = [] := List.eq_nil_of_length_eq_zero (by rw [HLN.out])
    subst hC0
    have he : ∀ w : World, (binOp .eql 26 (.slice none 0 c) (.slice none 0 0)).run Tryz.prog w = .ok (.bool true) w := fun _ => rfl
    go_enter Tryz.func105, Tryz.ntmps105
    go_wp2
    go_ret
    exact ⟨none, 0, rfl, [], World.ownsRow_nil _ _ _ _, HE.out, Below.refl _ _⟩
  · have HE0 : Hid ((w.alloc (.cells #[] 56)).ownsRow w.heap.size 56 14 (.slice (some ⟨w.heap.size, 0, none⟩) 0 0) 0 []) := Lib.hid (World.ownsRow_made w #[] 0 (Nat.le_refl _) (by decide) rfl)
    have HBA : Hid (w.heap.size ≤ (w.alloc (.cells #[] 56)).heap.size) := Lib.hid B0.size
    have HB := Lib.hid B0
    clear B0
    have he : ∀ w : World, (binOp .eql 26 (.slice (some ad) m c) (.slice none 0 0)).run Tryz.prog w = .ok (.bool false) w := fun _ => rfl
    go_enter Tryz.func105, Tryz.ntmps105
    go_wp2_with (at_builtin; go_loud (refine wpList_appN ty_elem _ _ rfl w.heap.size (.slice (some ⟨w.heap.size, 0, none⟩) 0 0) 0 [] rfl HE0.out w.heap.size (some ad) m c CS rfl HC.out HONE.out (by omega) HBA.out rfl ?_); intro A5 c5 w5 hown5 hg5; have HK := Lib.hid (And.intro hown5 hg5); clear hown5 hg5)
    go_ret
    have hb : Below w.heap.size w w5 := HB.out.grown HK.out.2 HBA.out (fun q e => own_base HE0.out q e)
    refine ⟨A5, c5, CS, rfl, ?_, HE.out.below hb, hb⟩
    have h := HK.out.1
    rw [Nat.zero_add, List.nil_append] at h
    exact h
end Go.Proofs.YtofabhenmplkoaaGreatDoor.typ

/- The delays of an arc with one more. The program. -/
namespace Go.Proofs.YtofabhenmplkoaaGreatDoor.evt
open Go.RowKit
open Go.Proofs.YtofabhenmplkoaaGreatDoor.lib Go.Proofs.YtofabhenmplkoaaGreatDoor.rd Go.Proofs.YtofabhenmplkoaaGreatDoor.app Go.Proofs.YtofabhenmplkoaaGreatDoor.els Go.Proofs.YtofabhenmplkoaaGreatDoor.off Go.Proofs.YtofabhenmplkoaaGreatDoor.typ Go.Proofs.YtofabhenmplkoaaGreatDoor.big Go.Proofs.YtofabhenmplkoaaGreatDoor.ins Go.Proofs.YtofabhenmplkoaaGreatDoor.ord Go.Proofs.YtofabhenmplkoaaGreatDoor.gen
set_option linter.unusedVariables false
set_option linter.unusedSimpArgs false

/-- What a list of delays answers. -/
def LateOut (w : World) (r : Except Int (List Pt)) (e : Ending) (w' : World) : Prop := match r with
  | .error k => e = .returned (.tuple #[.slice none 0 0, .int .i64 k]) ∧ Below w.heap.size w w'
  | .ok s => ∃ A c, e = .returned (.tuple #[.slice A s.length c, .int .i64 0]) ∧ w'.ownsRow w.heap.size 140 2 (.slice A s.length c) s.length (pcs s) ∧ Below w.heap.size w w'
theorem pcs_len (l : List Pt) : (pcs l).length = l.length * 2 := by
  unfold pcs
  induction l with
  | nil => rfl
  | cons a l ih => rw [List.flatMap_cons, List.length_append, ih, List.length_cons]; show 2 + _ = _; omega
theorem pcs_one (l : List Pt) : ∀ u ∈ pcs l, u.oneCell' = true := fun u hu => by
  unfold pcs at hu
  rw [List.mem_flatMap] at hu
  obtain ⟨p, _, hp⟩ := hu
  simp only [PtCells, List.mem_cons, List.not_mem_nil, or_false] at hp
  rcases hp with rfl | rfl <;> rfl
/-- A row of points that is read: its cells. -/
theorem reads_pts {w : World} {B : Nat} {A : Option Addr} {l : List Pt} (h : RowAt rPt w B A l) : Reads w B 2 A l.length (pcs l) := by
  refine ⟨pcs_len l, fun h0 => ?_⟩
  obtain ⟨CS, hcs, hca, hcb, _⟩ := RowAt.cells (r := rPt) (by decide) h
  obtain ⟨ad, h1, h2⟩ := hcb h0
  refine ⟨ad, h1, h2, ?_⟩
  have e : CS = pcs l := by
    apply List.ext_getElem?
    intro n
    rcases Nat.lt_or_ge n (l.length * 2) with hn | hn
    · obtain ⟨p, hp⟩ : ∃ p, l[n / 2]? = some p := ⟨_, List.getElem?_eq_getElem (by omega)⟩
      obtain ⟨c, h3, h4⟩ := hcs.2 (n / 2) p hp
      obtain ⟨rfl, _⟩ := rPt_at h3
      have h5 := pcs_at hp (n % 2) (Nat.mod_lt _ (by decide))
      have hd : n / 2 * 2 + n % 2 = n := by omega
      rw [hd] at h5
      rw [h5, List.getElem?_eq_getElem (show n % 2 < (PtCells p).length from Nat.mod_lt _ (by decide))]
      have h6 := h4 (n % 2) _ (List.getElem?_eq_getElem (show n % 2 < (PtCells p).length from Nat.mod_lt _ (by decide)))
      rw [show rPt.size = 2 from rfl, hd] at h6
      exact h6
    · rw [List.getElem?_eq_none (by rw [hcs.1]; exact hn), List.getElem?_eq_none (by rw [pcs_len]; exact hn)]
  rw [← e]
  exact hca ad h1
theorem pcs_set (l : List Pt) (p : Pt) (v : Int) : (pcs (l ++ [p])).set (l.length * 2 + 1) (.int .i64 v) = pcs (l ++ [⟨p.t, v⟩]) := by
  rw [pcs_append, pcs_append, List.set_append_right _ _ (by rw [pcs_len]; omega), pcs_len, show l.length * 2 + 1 - l.length * 2 = 1 by omega]
  rfl
theorem late_snoc (l : List Pt) (p : Pt) (t n : Int) : lateF (l ++ [p]) t n = if t < p.t then .error 2 else if t = p.t then (if 4096 < p.a + n then .error 2 else .ok (l ++ [⟨p.t, p.a + n⟩])) else if 16 ≤ l.length + 1 then .error 4 else .ok (l ++ [p] ++ [⟨t, n⟩]) := by
  have h1 : (l ++ [p]).getLast? = some p := by simp
  have h2 : (l ++ [p]).dropLast = l := by simp
  unfold lateF
  rw [h1, h2, List.length_append]
  rfl
set_option maxRecDepth 20000 in
set_option maxHeartbeats 4000000 in
theorem later_any (A : Option Addr) (c : Nat) (l : List Pt) (t n : Int) (w : World) (h : RowAt rPt w w.heap.size A l) (hl : l.length ≤ 1000000) (hb : ∀ p ∈ l, -1000000 ≤ p.a ∧ p.a ≤ 1000000) (hn : 0 ≤ n ∧ n ≤ 4096) :
    Calls Tryz.prog 163 #[.slice A l.length c, .int .i64 t, .int .i64 n] w (LateOut w (lateF l t n)) := by
  have B0 : Below w.heap.size w (w.alloc (.cells #[] 140)) := (Below.refl _ _).alloc (Nat.le_refl _) _
  have HE0 : Hid ((w.alloc (.cells #[] 140)).ownsRow w.heap.size 140 2 (.slice (some ⟨w.heap.size, 0, none⟩) 0 0) 0 []) := Lib.hid (World.ownsRow_made w #[] 0 (Nat.le_refl _) (by decide) rfl)
  have HBA : Hid (w.heap.size ≤ (w.alloc (.cells #[] 140)).heap.size) := Lib.hid B0.size
  have HB := Lib.hid B0
  have HC : Hid (Reads (w.alloc (.cells #[] 140)) w.heap.size 2 A l.length (pcs l)) := Lib.hid ((reads_pts h).below B0)
  have HONE := Lib.hid (pcs_one l)
  obtain ⟨hn0, hn9⟩ := hn
  clear h B0
  rcases List.eq_nil_or_concat l with rfl | ⟨l', p, rfl⟩
  · have HR : Hid (lateF [] t n = .ok [⟨t, n⟩]) := Lib.hid rfl
    obtain ⟨r, hr⟩ : ∃ r, lateF [] t n = r := ⟨_, rfl⟩
    rw [hr] at HR ⊢
    clear hr
    show Calls Tryz.prog 163 #[.slice A 0 c, .int .i64 t, .int .i64 n] w _
    go_enter Tryz.func163, Tryz.ntmps163
    go_upto_region 2 with (at_builtin; go_loud (refine wpList_appN pt_elem _ _ rfl w.heap.size (.slice (some ⟨w.heap.size, 0, none⟩) 0 0) 0 [] rfl HE0.out w.heap.size A 0 c [] rfl HC.out HONE.out (by omega) HBA.out rfl ?_); intro A5 c5 w5 hown5 hg5; rw [Nat.zero_add, List.nil_append] at hown5; have HK := Lib.hid (And.intro hown5 (HB.out.grown hg5 HBA.out (fun q e => own_base HE0.out q e))); clear hown5 hg5)
    have HKa : Hid ((w5.alloc (.cells #[.int .i64 t, .int .i64 n] 140)).ownsRow w.heap.size 140 2 (.slice A5 0 c5) 0 [] ∧ Below w.heap.size w (w5.alloc (.cells #[.int .i64 t, .int .i64 n] 140))) := Lib.hid ⟨own_below HK.out.1 ((Below.refl _ _).alloc (Nat.le_refl _) _), HK.out.2.alloc HK.out.2.size _⟩
    go_wp2_with (at_builtin; go_loud (refine wpList_app pt_elem _ _ rfl w.heap.size A5 0 c5 _ rfl HKa.out.1 ⟨w5.heap.size, 0, none⟩ 1 [.int .i64 t, .int .i64 n] rfl rfl (two_new w5 (.int .i64 t) (.int .i64 n) _) (fun u hu => by simp only [List.mem_cons, List.not_mem_nil, or_false] at hu; rcases hu with rfl | rfl <;> rfl) (by omega) HKa.out.2.size rfl ?_); intro g7 c7 w7 hown7 hg7 hx7; have H7 := Lib.hid (And.intro hown7 (HKa.out.2.grown hg7 HKa.out.2.size (fun q e => own_base HKa.out.1 q e))); clear hown7 hg7 hx7)
    (refine bodyPost_ret (v := .tuple #[(.slice (some ⟨g7, 0, none⟩) 1 c7), .int .i64 0]) (by simp [results, Tryz.results163, go_sem]) rfl ?_)
    rw [HR.out]
    exact ⟨_, _, rfl, H7.out.1, H7.out.2⟩
  · rw [List.concat_eq_append] at hl hb HC HONE ⊢
    have hp := hb p (by simp)
    obtain ⟨k, hk⟩ : ∃ k, l'.length = k := ⟨_, rfl⟩
    have hlen : (l' ++ [p]).length = k + 1 := by rw [List.length_append, hk]; rfl
    rw [hlen] at hl HC ⊢
    have HL := Lib.hid (And.intro hk hlen)
    have HR := Lib.hid (late_snoc l' p t n)
    rw [hk] at HR
    obtain ⟨r, hr⟩ : ∃ r, lateF (l' ++ [p]) t n = r := ⟨_, rfl⟩
    rw [hr] at HR ⊢
    clear hk hlen hb hr
    go_enter Tryz.func163, Tryz.ntmps163
    go_upto_region 3 with (at_builtin; go_loud (refine wpList_appN pt_elem _ _ rfl w.heap.size (.slice (some ⟨w.heap.size, 0, none⟩) 0 0) 0 [] rfl HE0.out w.heap.size A (k + 1) c (pcs (l' ++ [p])) rfl HC.out HONE.out (by omega) HBA.out rfl ?_); intro A5 c5 w5 hown5 hg5; rw [Nat.zero_add, List.nil_append] at hown5; have HK := Lib.hid (And.intro hown5 (HB.out.grown hg5 HBA.out (fun q e => own_base HE0.out q e))); clear hown5 hg5)
    obtain ⟨g, cap, hv, hgb, hglt⟩ := HK.out.1.form (Nat.succ_pos k)
    obtain rfl : A5 = some ⟨g, 0, none⟩ := by injection hv
    have hp9 : (l' ++ [p])[k]? = some p := by rw [← HL.out.1]; simp
    have hxl : (pcs (l' ++ [p])).length = (k + 1) * 2 := by rw [pcs_len, HL.out.2]
    have e0 : w5.cell? ⟨g, k * 2, none⟩ = some (.int .i64 p.t) := by
      have h := HK.out.1.cellAt (k * 2) (by omega)
      have h1 := pcs_at hp9 0 (by decide)
      rw [Nat.add_zero] at h1
      rw [h, h1]
      rfl
    have e1 : w5.cell? ⟨g, k * 2 + 1, none⟩ = some (.int .i64 p.a) := by
      have h := HK.out.1.cellAt (k * 2 + 1) (by omega)
      rw [h, pcs_at hp9 1 (by decide)]
      rfl
    have f1 : w5.frozen? ⟨g, k * 2 + 1, none⟩ = false := HK.out.1.frozenAt _
    obtain ⟨hp1, hp2⟩ := hp
    clear hv hp9 hxl
    by_cases h1 : t < p.t
    · have HRR : Hid (r = .error 2) := Lib.hid (by rw [HR.out, if_pos h1])
      clear HR
      go_wp2_with fail
      (refine bodyPost_ret (v := .tuple #[(.slice none 0 0), .int .i64 2]) (by simp [results, Tryz.results163, go_sem]) rfl ?_)
      rw [HRR.out]
      exact ⟨rfl, HK.out.2⟩
    by_cases h2 : t = p.t
    · subst h2
      have HR2 : Hid (r = if 4096 < p.a + n then .error 2 else .ok (l' ++ [⟨p.t, p.a + n⟩])) := Lib.hid (by rw [HR.out, if_neg h1, if_pos rfl])
      clear HR
      by_cases h3 : 4096 < p.a + n
      · have HRR : Hid (r = .error 2) := Lib.hid (by rw [HR2.out, if_pos h3])
        clear HR2
        go_wp2_with fail
        (refine bodyPost_ret (v := .tuple #[(.slice none 0 0), .int .i64 2]) (by simp [results, Tryz.results163, go_sem]) rfl ?_)
        rw [HRR.out]
        exact ⟨rfl, HK.out.2.setCell (p := ⟨g, k * 2 + 1, none⟩) hgb _⟩
      · have HRR : Hid (r = .ok (l' ++ [⟨p.t, p.a + n⟩])) := Lib.hid (by rw [HR2.out, if_neg h3])
        clear HR2
        go_wp2_with fail
        (refine bodyPost_ret (v := .tuple #[(.slice (some ⟨g, 0, none⟩) (k + 1) c5), .int .i64 0]) (by simp [results, Tryz.results163, go_sem]) rfl ?_)
        rw [HRR.out]
        have hll : (l' ++ [(⟨p.t, p.a + n⟩ : Pt)]).length = k + 1 := by rw [List.length_append, HL.out.1]; rfl
        have hst := (HK.out.1.stored (k * 2 + 1) (.int .i64 (p.a + n))).1
        rw [← HL.out.1, pcs_set, HL.out.1] at hst
        refine ⟨some ⟨g, 0, none⟩, c5, by rw [hll], ?_, HK.out.2.setCell (p := ⟨g, k * 2 + 1, none⟩) hgb _⟩
        rw [hll]
        exact hst
    · have HR2 : Hid (r = if 16 ≤ k + 1 then .error 4 else .ok (l' ++ [p] ++ [⟨t, n⟩])) := Lib.hid (by rw [HR.out, if_neg h1, if_neg h2])
      clear HR
      by_cases h3 : 16 ≤ k + 1
      · have HRR : Hid (r = .error 4) := Lib.hid (by rw [HR2.out, if_pos h3])
        have h3' : (16 : Int) ≤ (k : Int) + 1 := by omega
        clear HR2 h3
        go_wp2_with fail
        (refine bodyPost_ret (v := .tuple #[(.slice none 0 0), .int .i64 4]) (by simp [results, Tryz.results163, go_sem]) rfl ?_)
        rw [HRR.out]
        exact ⟨rfl, HK.out.2⟩
      · have HRR : Hid (r = .ok (l' ++ [p] ++ [⟨t, n⟩])) := Lib.hid (by rw [HR2.out, if_neg h3])
        have h3' : ¬ (16 : Int) ≤ (k : Int) + 1 := by omega
        have HKa : Hid ((w5.alloc (.cells #[.int .i64 t, .int .i64 n] 140)).ownsRow w.heap.size 140 2 (.slice (some ⟨g, 0, none⟩) (k + 1) c5) (k + 1) (pcs (l' ++ [p])) ∧ Below w.heap.size w (w5.alloc (.cells #[.int .i64 t, .int .i64 n] 140))) := Lib.hid ⟨own_below HK.out.1 ((Below.refl _ _).alloc (Nat.le_refl _) _), HK.out.2.alloc HK.out.2.size _⟩
        clear HR2 h3
        go_wp2_with (at_builtin; go_loud (refine wpList_app pt_elem _ _ rfl w.heap.size (some ⟨g, 0, none⟩) (k + 1) c5 _ rfl HKa.out.1 ⟨w5.heap.size, 0, none⟩ 1 [.int .i64 t, .int .i64 n] rfl rfl (two_new w5 (.int .i64 t) (.int .i64 n) _) (fun u hu => by simp only [List.mem_cons, List.not_mem_nil, or_false] at hu; rcases hu with rfl | rfl <;> rfl) (by omega) HKa.out.2.size rfl ?_); intro g7 c7 w7 hown7 hg7 hx7; have H7 := Lib.hid (And.intro hown7 (HKa.out.2.grown hg7 HKa.out.2.size (fun q e => own_base HKa.out.1 q e))); clear hown7 hg7 hx7)
        (refine bodyPost_ret (v := .tuple #[(.slice (some ⟨g7, 0, none⟩) (k + 1 + 1) c7), .int .i64 0]) (by simp [results, Tryz.results163, go_sem]) rfl ?_)
        rw [HRR.out]
        have hll : (l' ++ [p] ++ [(⟨t, n⟩ : Pt)]).length = k + 1 + 1 := by rw [List.length_append, HL.out.2]; rfl
        refine ⟨_, _, by rw [hll], ?_, H7.out.2⟩
        rw [hll, pcs_append]
        exact H7.out.1
end Go.Proofs.YtofabhenmplkoaaGreatDoor.evt

/- A network in which the arcs between two places take more ticks. The program. -/
namespace Go.Proofs.YtofabhenmplkoaaGreatDoor.evt
open Go.RowKit
open Go.Proofs.YtofabhenmplkoaaGreatDoor.lib Go.Proofs.YtofabhenmplkoaaGreatDoor.rd Go.Proofs.YtofabhenmplkoaaGreatDoor.app Go.Proofs.YtofabhenmplkoaaGreatDoor.els Go.Proofs.YtofabhenmplkoaaGreatDoor.off Go.Proofs.YtofabhenmplkoaaGreatDoor.typ Go.Proofs.YtofabhenmplkoaaGreatDoor.big Go.Proofs.YtofabhenmplkoaaGreatDoor.ins Go.Proofs.YtofabhenmplkoaaGreatDoor.ord Go.Proofs.YtofabhenmplkoaaGreatDoor.gen
set_option linter.unusedVariables false
set_option linter.unusedSimpArgs false

theorem late_fits {l : List Pt} {t n : Int} {s : List Pt} (h : lateF l t n = .ok s) (hl : ∀ p ∈ l, PtFits p ∧ -1000000 ≤ p.a ∧ p.a ≤ 1000000) (ht : 0 ≤ t ∧ t ≤ 4096) (hn : 0 ≤ n ∧ n ≤ 4096) : (∀ p ∈ s, PtFits p) ∧ s.length ≤ l.length + 1 := by
  rcases List.eq_nil_or_concat l with rfl | ⟨l', p, rfl⟩
  · have e : s = [⟨t, n⟩] := by
      have h' : (Except.ok [⟨t, n⟩] : Except Int (List Pt)) = .ok s := h
      injection h' with h'
      exact h'.symm
    subst e
    refine ⟨fun p hp => ?_, Nat.le_refl _⟩
    rw [List.mem_singleton] at hp
    subst hp
    unfold PtFits
    simp only
    omega
  · rw [List.concat_eq_append] at h hl ⊢
    rw [late_snoc] at h
    have hp := hl p (by simp)
    split at h
    · cases h
    · split at h
      · split at h
        · cases h
        · injection h with h
          subst h
          refine ⟨fun q hq => ?_, by simp⟩
          rcases List.mem_append.1 hq with hq | hq
          · exact (hl q (by simp [hq])).1
          · rw [List.mem_singleton] at hq
            subst hq
            have hf := hp.1
            unfold PtFits at hf ⊢
            simp only
            omega
      · split at h
        · cases h
        · injection h with h
          subst h
          refine ⟨fun q hq => ?_, by simp⟩
          rcases List.mem_append.1 hq with hq | hq
          · exact (hl q hq).1
          · rw [List.mem_singleton] at hq
            subst hq
            unfold PtFits
            simp only
            omega
/-- What Slower answers. -/
def SlwOut (w : World) (bd : Nat) (A0 : Option Addr) (d0 : Nat) (r : Except Int Net) (e : Ending) (w' : World) : Prop := match r with
  | .error k => e = .returned (.tuple #[.agg #[.slice none 0 0, .slice none 0 0], .int .i64 k]) ∧ Below w.heap.size w w'
  | .ok N => ∃ A c, e = .returned (.tuple #[.agg #[.slice A0 N.places.length d0, .slice A N.arcs.length c], .int .i64 0]) ∧ RowOff oArc w' (fun b => b < bd ∨ w.heap.size ≤ b) A N.arcs ∧ Below w.heap.size w w'
/-- Where Slower's loop stands. -/
structure SlwSt (w : World) (bd : Nat) (A0 : Option Addr) (m d0 ob n : Nat) (B : Option Addr) (d : Nat) (CS : List Value) (xs : List Arc) (wx : World) : Prop where
  own : wx.ownsRow (w.heap.size + 2) 59 6 (.slice B n d) n CS
  els : EG oArc wx (fun b => some b ≠ (Value.slice B n d).ownBlock ∧ (b < bd ∨ w.heap.size + 2 ≤ b)) CS xs
  obx : Blk wx ob 25 (netC A0 m d0 B n d)
  rbx : Blk wx (w.heap.size + 1) 25 (netC none 0 0 none 0 0)
  bel : Below w.heap.size w wx
  low : w.heap.size + 2 ≤ ob
  ne : some ob ≠ (Value.slice B n d).ownBlock
section
variable {w wx wy : World} {A0 B : Option Addr} {bd m d0 ob n d : Nat} {CS : List Value} {xs : List Arc}
theorem SlwSt.size (h : SlwSt w bd A0 m d0 ob n B d CS xs wx) : w.heap.size + 2 < wx.heap.size := Nat.lt_of_le_of_lt h.low h.obx.lt
theorem SlwSt.below (h : SlwSt w bd A0 m d0 ob n B d CS xs wx) (hb : Below wx.heap.size wx wy) : SlwSt w bd A0 m d0 ob n B d CS xs wy :=
  ⟨own_below h.own hb, h.els.below hb, h.obx.below hb, h.rbx.below hb, h.bel.trans (hb.mono (by have := h.size; omega)), h.low, h.ne⟩
/-- An arc's delays are replaced. -/
theorem SlwSt.mod {g k c' : Nat} {x : Arc} {s : List Pt} {C : Option Addr} (h : SlwSt w bd A0 m d0 ob n (some ⟨g, 0, none⟩) d CS xs wx) (hk : xs[k]? = some x) (hs : RowOff oPt wx (fun b => some b ≠ (Value.slice (some ⟨g, 0, none⟩) n d).ownBlock ∧ (b < bd ∨ w.heap.size + 2 ≤ b)) C s) :
    SlwSt w bd A0 m d0 ob n (some ⟨g, 0, none⟩) d (CS.set (k * 6 + 5) (.slice C s.length c')) (xs.set k { x with slow := s }) (wx.setCell ⟨g, k * 6 + 5, none⟩ (.slice C s.length c')) := by
  have hkl := (List.getElem?_eq_some_iff.1 hk).1
  have hgr := grownBy_set wx g (k * 6 + 5) (.slice C s.length c')
  have hgb : w.heap.size + 2 ≤ g := (World.ownsRow.lt h.own g rfl).1
  have hkp : ∀ b, b < wx.heap.size → (some b ≠ (Value.slice (some ⟨g, 0, none⟩) n d).ownBlock ∧ (b < bd ∨ w.heap.size + 2 ≤ b)) → (some b ≠ (Value.slice (some ⟨g, 0, none⟩) n d).ownBlock ∧ (b < bd ∨ w.heap.size + 2 ≤ b)) ∧ (wx.setCell ⟨g, k * 6 + 5, none⟩ (.slice C s.length c')).heap[b]? = wx.heap[b]? := fun b hb hp => ⟨hp, hgr.block b hb hp.1⟩
  refine ⟨(h.own.stored _ _).1, ?_, (hgr.block _ h.obx.lt h.ne).trans h.obx, (hgr.block _ h.rbx.lt (fun e => by injection e; omega)).trans h.rbx, h.bel.setCell (p := ⟨g, k * 6 + 5, none⟩) (by show w.heap.size ≤ g; omega) _, h.low, h.ne⟩
  refine EG.mod (r := oArc) (h.els.keep hgr.size hkp) hkl (show 5 < 6 by decide) ?_
  obtain ⟨C0, c0, C1, c1, hc, h0, h1, hf⟩ := oArc_at (h.els.2 k x hk)
  rw [hc]
  exact oArc_mk (t := { x with slow := s }) (h0.keep hgr.size hkp) (hs.keep hgr.size hkp) hf
/-- An element's cells. -/
theorem SlwSt.elem {g k : Nat} {x : Arc} (h : SlwSt w bd A0 m d0 ob n (some ⟨g, 0, none⟩) d CS xs wx) (hk : xs[k]? = some x) (hn : xs.length = n) :
    ∃ C0 c0 C1 c1, CellsAt wx ⟨g, k * 6, none⟩ (ArcCells x C0 c0 C1 c1) ∧ RowAt rPt wx wx.heap.size C1 x.slow := by
  have hkl := (List.getElem?_eq_some_iff.1 hk).1
  obtain ⟨c, h3, h4, h5⟩ := h.els.at_ hk
  obtain ⟨C0, c0, C1, c1, rfl, h0, h1, hf⟩ := oArc_at h3
  refine ⟨C0, c0, C1, c1, fun j u hu => ?_, h1.row⟩
  have hj : j < 6 := (List.getElem?_eq_some_iff.1 hu).1
  rw [Addr.add_mid, h.own.cellAt (k * 6 + j) (by omega)]
  exact h5 j u hu
end
end Go.Proofs.YtofabhenmplkoaaGreatDoor.evt

/- A network in which the arcs between two places take more ticks: the walk of the program. -/
namespace Go.Proofs.YtofabhenmplkoaaGreatDoor.evt
open Go.RowKit
open Go.Proofs.YtofabhenmplkoaaGreatDoor.lib Go.Proofs.YtofabhenmplkoaaGreatDoor.rd Go.Proofs.YtofabhenmplkoaaGreatDoor.app Go.Proofs.YtofabhenmplkoaaGreatDoor.els Go.Proofs.YtofabhenmplkoaaGreatDoor.off Go.Proofs.YtofabhenmplkoaaGreatDoor.typ Go.Proofs.YtofabhenmplkoaaGreatDoor.big Go.Proofs.YtofabhenmplkoaaGreatDoor.ins Go.Proofs.YtofabhenmplkoaaGreatDoor.ord Go.Proofs.YtofabhenmplkoaaGreatDoor.gen Go.Proofs.YtofabhenmplkoaaGreatDoor.net
open Go.Proofs.YtofabhenmplkoaaGreatDoor.win (tickB)
set_option linter.unusedVariables false
set_option linter.unusedSimpArgs false

theorem row_fits {w : World} {B : Nat} {A : Option Addr} {l : List Pt} (h : RowAt rPt w B A l) : ∀ p ∈ l, PtFits p := fun p hp => by
  obtain ⟨i, hi⟩ := List.mem_iff_getElem?.1 hp
  obtain ⟨ad, cs, _, _, h3, _⟩ := h.2 i p hi
  exact (rPt_at h3).2
theorem arc_ones {w : World} {B : Nat} : ∀ (cs : List Value) (x : Arc), rArc.at_ w B cs x → ∀ u ∈ cs, u.oneCell' = true := fun cs x h => by
  obtain ⟨C, cc, D, dd, rfl, _⟩ := rArc_at h
  intro u hu
  simp only [ArcCells, List.mem_cons, List.not_mem_nil, or_false] at hu
  rcases hu with rfl | rfl | rfl | rfl | rfl | rfl <;> rfl
theorem arcC_one (o : Arc) (C : Option Addr) (c : Nat) (D : Option Addr) (d : Nat) : ∀ u ∈ ArcCells o C c D d, u.oneCell' = true := fun u hu => by
  simp only [ArcCells, List.mem_cons, List.not_mem_nil, or_false] at hu
  rcases hu with rfl | rfl | rfl | rfl | rfl | rfl <;> rfl
theorem late_err {l : List Pt} {t n k : Int} (h : lateF l t n = .error k) : k = 2 ∨ k = 4 := by
  rcases List.eq_nil_or_concat l with rfl | ⟨l', p, rfl⟩
  · have h' : (Except.ok [⟨t, n⟩] : Except Int (List Pt)) = .error k := h
    cases h'
  · rw [List.concat_eq_append, late_snoc] at h
    split at h
    · injection h with h
      omega
    · split at h
      · split at h
        · injection h with h
          omega
        · cases h
      · split at h
        · injection h with h
          omega
        · cases h
theorem own_ne {w : World} {base : Nat} {e : TypeId} {size n : Nat} {v : Value} {xs : List Value} {b : Nat} {t : TypeId} {cs : List Value} (h : w.ownsRow base e size v n xs) (hb : Blk w b t cs) (hne : e ≠ t) : some b ≠ v.ownBlock := fun e' => by
  rcases h.2 with ⟨rfl, _⟩ | ⟨g, cap, cur, rfl, _, hg, _⟩
  · cases e'
  · have hbg : b = g := Option.some.inj e'
    subst hbg
    rw [show w.heap[b]? = _ from hb] at hg
    injection hg with hg
    injection hg with _ hg _
    exact hne hg.symm
theorem own_skip {w w' : World} {base : Nat} {e : TypeId} {size n : Nat} {v : Value} {xs : List Value} {b : Nat} {t : TypeId} {cs : List Value} (h : w.ownsRow base e size v n xs) (hb : Blk w b t cs) (hne : e ≠ t) (hk : ∀ k, k ≠ b → w'.heap[k]? = w.heap[k]?) : w'.ownsRow base e size v n xs := by
  have h9 := own_ne h hb hne
  rcases h.2 with ⟨h1, h2⟩ | ⟨g, cap, cur, rfl, h2, h3, h4⟩
  · exact ⟨h.1, .inl ⟨h1, h2⟩⟩
  · exact ⟨h.1, .inr ⟨g, cap, cur, rfl, h2, (hk g (fun e' => h9 (by rw [e']; rfl))).trans h3, h4⟩⟩
set_option maxRecDepth 20000 in
set_option maxHeartbeats 8000000 in
theorem slower_any (N : Net) (A0 : Option Addr) (d0 : Nat) (A1 : Option Addr) (d1 : Nat) (f t at_ n : Int) (bd : Nat) (w : World) (hbd : bd ≤ w.heap.size) (h1 : RowAt rArc w bd A1 N.arcs) (hl : N.arcs.length ≤ 100000)
    (hs : ∀ a ∈ N.arcs, a.slow.length ≤ 500 ∧ ∀ p ∈ a.slow, -1000000 ≤ p.a ∧ p.a ≤ 1000000) :
    Calls Tryz.prog 104 #[.agg #[.slice A0 N.places.length d0, .slice A1 N.arcs.length d1], .int .i64 f, .int .i64 t, .int .i64 at_, .int .i64 n] w (SlwOut w bd A0 d0 (slwF N f t at_ n)) := by
  obtain ⟨W0, hW0⟩ : ∃ W0, (w.alloc (.cells (netC A0 N.places.length d0 A1 N.arcs.length d1).toArray 25)).alloc (.cells (netC none 0 0 none 0 0).toArray 25) = W0 := ⟨_, rfl⟩
  have hB0 : Below w.heap.size w W0 := by rw [← hW0]; exact ((Below.refl _ _).alloc (Nat.le_refl _) _).alloc (by simp) _
  have hz : W0.heap.size = w.heap.size + 2 := by rw [← hW0]; simp
  have b0 : Blk W0 w.heap.size 25 (netC A0 N.places.length d0 A1 N.arcs.length d1) := by
    rw [← hW0]
    exact (Blk.new w _ _).kept (World.grownBy_alloc _ _ none) (by simp)
  have b1 : Blk W0 (w.heap.size + 1) 25 (netC none 0 0 none 0 0) := by
    rw [← hW0]
    have h := Blk.new (w.alloc (.cells (netC A0 N.places.length d0 A1 N.arcs.length d1).toArray 25)) 25 (netC none 0 0 none 0 0)
    rw [show (w.alloc (.cells (netC A0 N.places.length d0 A1 N.arcs.length d1).toArray 25)).heap.size = w.heap.size + 1 by simp] at h
    exact h
  have hW1 : (w.alloc (.cells #[.slice A0 N.places.length d0, .slice A1 N.arcs.length d1] 25)).alloc (.cells #[.slice none 0 0, .slice none 0 0] 25) = W0 := hW0
  obtain ⟨CS, hcs, hca, hcb, hone⟩ := RowAt.cells (r := rArc) (by decide) h1
  have HEL := Lib.hid (fun (P : Nat → Prop) (hP : ∀ b, b < bd → P b) => EG.of_cells (r := oArc) (P := P) hcs (fun _ _ => oArc_low hbd hP))
  have HON := Lib.hid (hone (fun u => u.oneCell' = true) arc_ones)
  obtain ⟨m, hm⟩ : ∃ m, N.places.length = m := ⟨_, rfl⟩
  obtain ⟨n1, hn1⟩ : ∃ m, N.arcs.length = m := ⟨_, rfl⟩
  have HRD : Hid (∀ w', Below w.heap.size w w' → Reads w' w.heap.size 6 A1 n1 CS) := Lib.hid (fun w' hb => ⟨by rw [← hn1]; exact hcs.1, fun h0 => by
    obtain ⟨ad, h3, h4⟩ := hcb (by omega)
    exact ⟨ad, h3, Nat.lt_of_lt_of_le h4 hbd, (hca ad h3).below hb (Nat.lt_of_lt_of_le h4 hbd)⟩⟩)
  have HSF : Hid (slwF N f t at_ n = if ¬ (placeB m f = true ∧ placeB m t = true) then .error 11 else if ¬ (tickB at_ = true ∧ tickB n = true) then .error 2 else match slwTo N.arcs f t at_ n n1 with
    | .error e => .error e
    | .ok (r, b) => if b then .ok ⟨N.places, r⟩ else .error 12) := Lib.hid (by rw [← hm, ← hn1]; rfl)
  obtain ⟨r, hr⟩ : ∃ r, slwF N f t at_ n = r := ⟨_, rfl⟩
  rw [hr] at HSF ⊢
  rw [hm, hn1] at hW1 b0 ⊢
  rw [hn1] at hl
  have HNN := Lib.hid (And.intro hm hn1)
  have HSL := Lib.hid hs
  have HX := Lib.hid b0
  have HY := Lib.hid b1
  have HW1 := Lib.hid hW1
  clear h1 hs hcs hca hcb hone hm hn1 hr hW0 hW1 b0 b1
  go_enter Tryz.func104, Tryz.ntmps104
  go_upto_region 1 with fail
  rw [HW1.out]
  clear HW1
  go_wp2_with ((with_reducible refine wpList_loadG stNet _ rfl ⟨w.heap.size, 0, none⟩ (netC A0 m d0 A1 n1 d1) ?_ ?_ ?_ ?_ ?_); exact rfl; exact rfl; exact HX.out.cells; exact rfl)
  refine (place_any m A0 d0 A1 n1 d1 f W0).mono ?_
  rintro e w1 ⟨rfl, b1⟩
  obtain ⟨p1, hp1⟩ : ∃ q, placeB m f = q := ⟨_, rfl⟩
  rw [hp1] at HSF ⊢
  clear hp1
  have HB1 := Lib.hid b1
  clear b1
  cases p1
  · have HRR : Hid (r = .error 11) := Lib.hid (by rw [HSF.out, if_pos (by simp)])
    go_wp2_with ((with_reducible refine wpList_storeL stNet rfl _ _ rfl (w.heap.size + 1) (netC none 0 0 none 0 0) (netC none 0 0 none 0 0) ?_ ?_ ?_ ?_ ?_ (netC_one _ _ _ _ _ _) ?_); exact rfl; exact rfl; exact HY.out.below HB1.out; exact rfl; exact rfl; intro wz k1 k2 k3 k4; have K := Lib.hid (And.intro k1 (And.intro k2 (And.intro k3 k4))); clear k1 k2 k3 k4)
    have HRz : Blk wz (w.heap.size + 1) 25 (netC none 0 0 none 0 0) := K.out.1
    refine bodyPost_ret (v := .tuple #[.agg #[.slice none 0 0, .slice none 0 0], .int .i64 11]) (big.res_cell_tmp stNet Tryz.results104 rfl rfl HRz.cells rfl) rfl ?_
    rw [HRR.out]
    exact ⟨rfl, (hB0.trans (HB1.out.mono (by omega))).trans (K.out.2.2.2.mono (by omega))⟩
  go_wp2_with ((with_reducible refine wpList_loadG stNet _ rfl ⟨w.heap.size, 0, none⟩ (netC A0 m d0 A1 n1 d1) ?_ ?_ ?_ ?_ ?_); exact rfl; exact rfl; exact (HX.out.below HB1.out).cells; exact rfl)
  refine (place_any m A0 d0 A1 n1 d1 t w1).mono ?_
  rintro e w2 ⟨rfl, b2⟩
  have hz1 := HB1.out.size
  have HB2 := Lib.hid (HB1.out.trans (b2.mono hz1))
  obtain ⟨p2, hp2⟩ : ∃ q, placeB m t = q := ⟨_, rfl⟩
  rw [hp2] at HSF ⊢
  clear hp2 b2 hz1
  cases p2
  · have HRR : Hid (r = .error 11) := Lib.hid (by rw [HSF.out, if_pos (by simp)])
    go_wp2_with ((with_reducible refine wpList_storeL stNet rfl _ _ rfl (w.heap.size + 1) (netC none 0 0 none 0 0) (netC none 0 0 none 0 0) ?_ ?_ ?_ ?_ ?_ (netC_one _ _ _ _ _ _) ?_); exact rfl; exact rfl; exact HY.out.below HB2.out; exact rfl; exact rfl; intro wz k1 k2 k3 k4; have K := Lib.hid (And.intro k1 (And.intro k2 (And.intro k3 k4))); clear k1 k2 k3 k4)
    have HRz : Blk wz (w.heap.size + 1) 25 (netC none 0 0 none 0 0) := K.out.1
    refine bodyPost_ret (v := .tuple #[.agg #[.slice none 0 0, .slice none 0 0], .int .i64 11]) (big.res_cell_tmp stNet Tryz.results104 rfl rfl HRz.cells rfl) rfl ?_
    rw [HRR.out]
    exact ⟨rfl, (hB0.trans (HB2.out.mono (by omega))).trans (K.out.2.2.2.mono (by omega))⟩
  have HSF1 : Hid (r = if ¬ (tickB at_ = true ∧ tickB n = true) then .error 2 else match slwTo N.arcs f t at_ n n1 with
    | .error e => .error e
    | .ok (r, b) => if b then .ok ⟨N.places, r⟩ else .error 12) := Lib.hid (by rw [HSF.out, if_neg (by simp)])
  clear HSF
  go_wp2_with fail
  refine (ntick_any at_ w2).mono ?_
  rintro e w3 ⟨rfl, rfl⟩
  cases hp3 : tickB at_
  · have HRR : Hid (r = .error 2) := Lib.hid (by rw [HSF1.out, hp3, if_pos (by simp)])
    clear hp3
    go_wp2_with ((with_reducible refine wpList_storeL stNet rfl _ _ rfl (w.heap.size + 1) (netC none 0 0 none 0 0) (netC none 0 0 none 0 0) ?_ ?_ ?_ ?_ ?_ (netC_one _ _ _ _ _ _) ?_); exact rfl; exact rfl; exact HY.out.below HB2.out; exact rfl; exact rfl; intro wz k1 k2 k3 k4; have K := Lib.hid (And.intro k1 (And.intro k2 (And.intro k3 k4))); clear k1 k2 k3 k4)
    have HRz : Blk wz (w.heap.size + 1) 25 (netC none 0 0 none 0 0) := K.out.1
    refine bodyPost_ret (v := .tuple #[.agg #[.slice none 0 0, .slice none 0 0], .int .i64 2]) (big.res_cell_tmp stNet Tryz.results104 rfl rfl HRz.cells rfl) rfl ?_
    rw [HRR.out]
    exact ⟨rfl, (hB0.trans (HB2.out.mono (by omega))).trans (K.out.2.2.2.mono (by omega))⟩
  have hat : 0 ≤ at_ ∧ at_ ≤ 4096 := by unfold tickB at hp3; simpa using hp3
  have HAT := Lib.hid hat
  rw [hp3] at HSF1
  clear hp3 hat
  go_wp2_with fail
  refine (ntick_any n w2).mono ?_
  rintro e w3 ⟨rfl, rfl⟩
  cases hp4 : tickB n
  · have HRR : Hid (r = .error 2) := Lib.hid (by rw [HSF1.out, hp4, if_pos (by simp)])
    clear hp4
    go_wp2_with ((with_reducible refine wpList_storeL stNet rfl _ _ rfl (w.heap.size + 1) (netC none 0 0 none 0 0) (netC none 0 0 none 0 0) ?_ ?_ ?_ ?_ ?_ (netC_one _ _ _ _ _ _) ?_); exact rfl; exact rfl; exact HY.out.below HB2.out; exact rfl; exact rfl; intro wz k1 k2 k3 k4; have K := Lib.hid (And.intro k1 (And.intro k2 (And.intro k3 k4))); clear k1 k2 k3 k4)
    have HRz : Blk wz (w.heap.size + 1) 25 (netC none 0 0 none 0 0) := K.out.1
    refine bodyPost_ret (v := .tuple #[.agg #[.slice none 0 0, .slice none 0 0], .int .i64 2]) (big.res_cell_tmp stNet Tryz.results104 rfl rfl HRz.cells rfl) rfl ?_
    rw [HRR.out]
    exact ⟨rfl, (hB0.trans (HB2.out.mono (by omega))).trans (K.out.2.2.2.mono (by omega))⟩
  have hnt : 0 ≤ n ∧ n ≤ 4096 := by unfold tickB at hp4; simpa using hp4
  have HNT := Lib.hid hnt
  have HSF2 : Hid (r = match slwTo N.arcs f t at_ n n1 with
    | .error e => .error e
    | .ok (r, b) => if b then .ok ⟨N.places, r⟩ else .error 12) := Lib.hid (by rw [HSF1.out, hp4, if_neg (by simp)])
  clear HSF1 hp4 hnt
  have hz2 := HB2.out.size
  have HBW := Lib.hid (hB0.trans (HB2.out.mono (by omega)))
  go_upto_region 5 with fail
  go_cut [12] (fun v wx => ∃ (ob : Nat) (B : Option Addr) (d : Nat), v = .pointer (some ⟨ob, 0, none⟩) ∧ SlwSt w bd A0 m d0 ob n1 B d CS N.arcs wx)
  case first => as_aux_lemma =>
    have HSS : Hid (∀ w', Below w2.heap.size w2 w' → w'.cell? ⟨w.heap.size, 0, none⟩ = some (.slice A0 m d0) ∧ w'.cell? ⟨w.heap.size, 1, none⟩ = some (.slice A1 n1 d1)) := Lib.hid (fun w' hb => by
      have h := HX.out.below (HB2.out.trans (hb.mono hz2))
      exact ⟨h.cell (j := 0) rfl, h.cell (j := 1) rfl⟩)
    (refine wp_region_held_drew (S := (fun w' => w'.cell? ⟨w.heap.size, 0, none⟩ = some (.slice A0 m d0) ∧ w'.cell? ⟨w.heap.size, 1, none⟩ = some (.slice A1 n1 d1))) (by kernel_rfl) ?_ (fun hHeld => ?_))
    · exact HSS.out _ (Below.refl _ _).drew
    (refine wpAnyH_take (i := 0) (v := ?_) rfl (by kernel_rfl) (by kernel_rfl) (by kernel_rfl) (fun _ _ _ h => h) (Or.inl ⟨by kernel_rfl, ?_⟩) (by assumption) ?_; rotate_left; (focus (intro w hSw; (try dsimp only at hSw); go_simp; all_goals with_reducible rfl)); (try simp only [Act.put, List.getElem_toArray, List.getElem_cons_succ, List.getElem_cons_zero, List.setIfInBounds_toArray, List.set_cons_zero, List.set_cons_succ]))
    (refine wpAnyH_take (i := 1) (v := ?_) rfl (by kernel_rfl) (by kernel_rfl) (by kernel_rfl) (fun _ _ _ h => h) (Or.inl ⟨by kernel_rfl, ?_⟩) (by assumption) ?_; rotate_left; (focus (intro w hSw; (try dsimp only at hSw); go_simp; all_goals with_reducible rfl)); (try simp only [Act.put, List.getElem_toArray, List.getElem_cons_succ, List.getElem_cons_zero, List.setIfInBounds_toArray, List.set_cons_zero, List.set_cons_succ]))
    (refine wpAnyH_take (i := 3) (v := ?_) rfl (by kernel_rfl) (by kernel_rfl) (by kernel_rfl) (fun _ _ _ h => h) (Or.inl ⟨by kernel_rfl, ?_⟩) (by assumption) ?_; rotate_left; (focus (intro w hSw; (try dsimp only at hSw); go_simp; all_goals with_reducible rfl)); (try simp only [Act.put, List.getElem_toArray, List.getElem_cons_succ, List.getElem_cons_zero, List.setIfInBounds_toArray, List.set_cons_zero, List.set_cons_succ]))
    (refine wpAnyH_take (i := 4) (v := ?_) rfl (by kernel_rfl) (by kernel_rfl) (by kernel_rfl) (fun _ _ _ h => h) (Or.inl ⟨by kernel_rfl, ?_⟩) (by assumption) ?_; rotate_left; (focus (intro w hSw; (try dsimp only at hSw); go_simp; all_goals with_reducible rfl)); (try simp only [Act.put, List.getElem_toArray, List.getElem_cons_succ, List.getElem_cons_zero, List.setIfInBounds_toArray, List.set_cons_zero, List.set_cons_succ]))
    refine wpAnyH_ready (rs := [2, 7]) (by kernel_rfl) (by simp) ?_
    refine AllReadyH.cons rfl (fun K hK => ?_) (AllReadyH.cons rfl (fun K hK => ?_) AllReadyH.nil)
    · go_simp
      have BA : Below w2.heap.size w2 (w2.drew.alloc (.cells #[] 59)) := ((Below.refl _ _).drew).alloc (Nat.le_refl _) _
      have HEM : Hid ((w2.drew.alloc (.cells #[] 59)).ownsRow (w.heap.size + 2) 59 6 (.slice (some ⟨w2.drew.heap.size, 0, none⟩) 0 0) 0 []) := Lib.hid (World.ownsRow_made w2.drew #[] 0 (by show w.heap.size + 2 ≤ w2.heap.size; omega) (by decide) rfl)
      refine hK.out _ _ (HSS.out _ BA) (fun hHeld => ?_)
      clear hK K
      (try simp only [Act.put, List.getElem_toArray, List.getElem_cons_succ, List.getElem_cons_zero, List.setIfInBounds_toArray, List.set_cons_zero, List.set_cons_succ])
      refine wpAnyH_ready (rs := [5, 7]) (by kernel_rfl) (by simp) ?_
      refine AllReadyH.cons rfl (fun K hK => ?_) (AllReadyH.cons rfl (fun K hK => ?_) AllReadyH.nil)
      · skip
        refine step_appN arc_elem _ _ rfl (w.heap.size + 2) (.slice (some ⟨w2.drew.heap.size, 0, none⟩) 0 0) 0 [] rfl (HEM.out) w.heap.size A1 n1 d1 CS rfl (HRD.out _ (HBW.out.trans (BA.mono (by omega)))) HON.out (by omega) ((by have h := BA.size; omega)) rfl ?_
        intro A5 c5 w5 hown5 hg5
        rw [Nat.zero_add, List.nil_append] at hown5
        have B5 : Below w2.heap.size w2 w5 := BA.grown hg5 BA.size (fun q e => by have h : w2.heap.size = q := Option.some.inj e; omega)
        refine hK.out _ _ (HSS.out _ B5) (fun hHeld => ?_)
        clear hK K
        (try simp only [Act.put, List.getElem_toArray, List.getElem_cons_succ, List.getElem_cons_zero, List.setIfInBounds_toArray, List.set_cons_zero, List.set_cons_succ])
        (refine wpAnyH_take (i := 6) (v := ?_) rfl (by kernel_rfl) (by kernel_rfl) (by kernel_rfl) (fun _ _ _ h => h) (Or.inl ⟨by kernel_rfl, ?_⟩) (by assumption) ?_; rotate_left; (focus (intro w hSw; (try dsimp only at hSw); go_simp; all_goals with_reducible rfl)); (try simp only [Act.put, List.getElem_toArray, List.getElem_cons_succ, List.getElem_cons_zero, List.setIfInBounds_toArray, List.set_cons_zero, List.set_cons_succ]))
        (refine wpAnyH_ready (rs := [7]) (by kernel_rfl) (by simp) ?_; refine AllReadyH.cons rfl (fun K hK => ?_) AllReadyH.nil)
        go_simp
        have B6 : Below w2.heap.size w2 (w5.alloc (.cells (netC none 0 0 none 0 0).toArray 25)) := B5.alloc B5.size _
        refine hK.out _ _ (HSS.out _ B6) (fun hHeld => ?_)
        clear hK K
        (try simp only [Act.put, List.getElem_toArray, List.getElem_cons_succ, List.getElem_cons_zero, List.setIfInBounds_toArray, List.set_cons_zero, List.set_cons_succ])
        (refine wpAnyH_ready (rs := [8]) (by kernel_rfl) (by simp) ?_; refine AllReadyH.cons rfl (fun K hK => ?_) AllReadyH.nil)
        refine step_storeL stNet rfl _ _ rfl (w5.heap.size) (netC none 0 0 none 0 0) (netC A0 m d0 A5 n1 c5) rfl rfl (Blk.new w5 _ _) rfl rfl (netC_one _ _ _ _ _ _) ?_
        intro w8 k1 k2 k3 k4
        have h8 := own_skip (own_below hown5 ((Below.refl _ _).alloc (Nat.le_refl _) _)) ((Blk.new w5 25 (netC none 0 0 none 0 0))) (by decide) k2
        have B8 : Below w2.heap.size w2 w8 := (B6).trans (k4.mono (B5.size))
        have HST : Hid (SlwSt w bd A0 m d0 (w5.heap.size) n1 A5 c5 CS N.arcs w8) := Lib.hid (by
          have hbw : Below w.heap.size w w8 := HBW.out.trans (B8.mono (by omega))
          refine ⟨h8, (HEL.out _ (fun b hb => ⟨fun e => ?_, .inl hb⟩)).below hbw, k1, HY.out.below (HB2.out.trans (B8.mono hz2)), hbw, by have h := B5.size; omega, own_ne h8 (show Blk w8 _ _ _ from k1) (by decide)⟩
          have h := (World.ownsRow.lt h8 b e.symm).1
          omega)
        refine hK.out _ _ (HSS.out _ B8) (fun hHeld => ?_)
        clear hK K
        (try simp only [Act.put, List.getElem_toArray, List.getElem_cons_succ, List.getElem_cons_zero, List.setIfInBounds_toArray, List.set_cons_zero, List.set_cons_succ])
        (refine wpAnyH_done (by kernel_rfl) ?_ _)
        go_wp2
        go_meet
        exact ⟨_, _, _, rfl, HST.out⟩
      · go_simp
        obtain ⟨V, hV⟩ : ∃ V, ((w2.alloc (.cells #[] 59)).alloc (.cells #[.slice none 0 0, .slice none 0 0] 25)).drew = V := ⟨_, rfl⟩
        rw [hV]
        have B6 : Below w2.heap.size w2 V := by rw [← hV]; exact (((Below.refl _ _).alloc (Nat.le_refl _) _).alloc (by simp) _).drew
        have HEM : Hid (V.ownsRow (w.heap.size + 2) 59 6 (.slice (some ⟨w2.heap.size, 0, none⟩) 0 0) 0 []) := Lib.hid (by
          rw [← hV]
          exact own_below (World.ownsRow_made w2 #[] 0 (by omega) (by decide) rfl) ((Below.refl _ _).alloc (Nat.le_refl _) _).drew)
        have HBN : Hid (Blk V (w2.heap.size + 1) 25 (netC none 0 0 none 0 0)) := Lib.hid (by
          rw [← hV]
          have h := Blk.new (w2.alloc (.cells #[] 59)) 25 (netC none 0 0 none 0 0)
          rw [show (w2.alloc (.cells #[] 59)).heap.size = w2.heap.size + 1 by simp] at h
          exact h)
        clear hV
        refine hK.out _ _ (HSS.out _ B6) (fun hHeld => ?_)
        clear hK K
        (try simp only [Act.put, List.getElem_toArray, List.getElem_cons_succ, List.getElem_cons_zero, List.setIfInBounds_toArray, List.set_cons_zero, List.set_cons_succ])
        (refine wpAnyH_ready (rs := [5]) (by kernel_rfl) (by simp) ?_; refine AllReadyH.cons rfl (fun K hK => ?_) AllReadyH.nil)
        refine step_appN arc_elem _ _ rfl (w.heap.size + 2) (.slice (some ⟨w2.heap.size, 0, none⟩) 0 0) 0 [] rfl (HEM.out) w.heap.size A1 n1 d1 CS rfl (HRD.out _ (HBW.out.trans (B6.mono (by omega)))) HON.out (by omega) ((by have h := B6.size; omega)) rfl ?_
        intro A5 c5 w5 hown5 hg5
        rw [Nat.zero_add, List.nil_append] at hown5
        have B7 : Below w2.heap.size w2 w5 := B6.grown hg5 B6.size (fun q e => by have h : w2.heap.size = q := Option.some.inj e; omega)
        have HBK : Hid (Blk w5 (w2.heap.size + 1) 25 (netC none 0 0 none 0 0)) := Lib.hid (HBN.out.kept hg5 (fun e => by have h : w2.heap.size + 1 = w2.heap.size := Option.some.inj e; omega))
        refine hK.out _ _ (HSS.out _ B7) (fun hHeld => ?_)
        clear hK K
        (try simp only [Act.put, List.getElem_toArray, List.getElem_cons_succ, List.getElem_cons_zero, List.setIfInBounds_toArray, List.set_cons_zero, List.set_cons_succ])
        (refine wpAnyH_take (i := 6) (v := ?_) rfl (by kernel_rfl) (by kernel_rfl) (by kernel_rfl) (fun _ _ _ h => h) (Or.inl ⟨by kernel_rfl, ?_⟩) (by assumption) ?_; rotate_left; (focus (intro w hSw; (try dsimp only at hSw); go_simp; all_goals with_reducible rfl)); (try simp only [Act.put, List.getElem_toArray, List.getElem_cons_succ, List.getElem_cons_zero, List.setIfInBounds_toArray, List.set_cons_zero, List.set_cons_succ]))
        (refine wpAnyH_ready (rs := [8]) (by kernel_rfl) (by simp) ?_; refine AllReadyH.cons rfl (fun K hK => ?_) AllReadyH.nil)
        refine step_storeL stNet rfl _ _ rfl ((w2.heap.size + 1)) (netC none 0 0 none 0 0) (netC A0 m d0 A5 n1 c5) rfl rfl (HBK.out) rfl rfl (netC_one _ _ _ _ _ _) ?_
        intro w8 k1 k2 k3 k4
        have h8 := own_skip (hown5) (HBK.out) (by decide) k2
        have B8 : Below w2.heap.size w2 w8 := (B7).trans (k4.mono ((show w2.heap.size ≤ w2.heap.size + 1 by omega)))
        have HST : Hid (SlwSt w bd A0 m d0 ((w2.heap.size + 1)) n1 A5 c5 CS N.arcs w8) := Lib.hid (by
          have hbw : Below w.heap.size w w8 := HBW.out.trans (B8.mono (by omega))
          refine ⟨h8, (HEL.out _ (fun b hb => ⟨fun e => ?_, .inl hb⟩)).below hbw, k1, HY.out.below (HB2.out.trans (B8.mono hz2)), hbw, by have h := (show w2.heap.size ≤ w2.heap.size + 1 by omega); omega, own_ne h8 (show Blk w8 _ _ _ from k1) (by decide)⟩
          have h := (World.ownsRow.lt h8 b e.symm).1
          omega)
        refine hK.out _ _ (HSS.out _ B8) (fun hHeld => ?_)
        clear hK K
        (try simp only [Act.put, List.getElem_toArray, List.getElem_cons_succ, List.getElem_cons_zero, List.setIfInBounds_toArray, List.set_cons_zero, List.set_cons_succ])
        (refine wpAnyH_done (by kernel_rfl) ?_ _)
        go_wp2
        go_meet
        exact ⟨_, _, _, rfl, HST.out⟩
    · go_simp
      have BA : Below w2.heap.size w2 (w2.alloc (.cells #[.slice none 0 0, .slice none 0 0] 25)).drew := ((Below.refl _ _).alloc (Nat.le_refl _) _).drew
      refine hK.out _ _ (HSS.out _ BA) (fun hHeld => ?_)
      clear hK K
      (try simp only [Act.put, List.getElem_toArray, List.getElem_cons_succ, List.getElem_cons_zero, List.setIfInBounds_toArray, List.set_cons_zero, List.set_cons_succ])
      (refine wpAnyH_ready (rs := [2]) (by kernel_rfl) (by simp) ?_; refine AllReadyH.cons rfl (fun K hK => ?_) AllReadyH.nil)
      go_simp
      obtain ⟨V, hV⟩ : ∃ V, ((w2.alloc (.cells #[.slice none 0 0, .slice none 0 0] 25)).alloc (.cells #[] 59)).drew = V := ⟨_, rfl⟩
      rw [hV]
      have B6 : Below w2.heap.size w2 V := by rw [← hV]; exact (((Below.refl _ _).alloc (Nat.le_refl _) _).alloc (by simp) _).drew
      have HEM : Hid (V.ownsRow (w.heap.size + 2) 59 6 (.slice (some ⟨w2.heap.size + 1, 0, none⟩) 0 0) 0 []) := Lib.hid (by
        rw [← hV]
        have h := World.ownsRow_made (w2.alloc (.cells #[.slice none 0 0, .slice none 0 0] 25)) (base := w.heap.size + 2) (e := 59) (size := 6) #[] 0 (by simp; omega) (by decide) rfl
        rw [show (w2.alloc (.cells #[.slice none 0 0, .slice none 0 0] 25)).heap.size = w2.heap.size + 1 by simp] at h
        exact h)
      have HBN : Hid (Blk V w2.heap.size 25 (netC none 0 0 none 0 0)) := Lib.hid (by
        rw [← hV]
        exact (Blk.new w2 25 (netC none 0 0 none 0 0)).below ((Below.refl _ _).alloc (Nat.le_refl _) _).drew)
      clear hV
      refine hK.out _ _ (HSS.out _ B6) (fun hHeld => ?_)
      clear hK K
      (try simp only [Act.put, List.getElem_toArray, List.getElem_cons_succ, List.getElem_cons_zero, List.setIfInBounds_toArray, List.set_cons_zero, List.set_cons_succ])
      (refine wpAnyH_ready (rs := [5]) (by kernel_rfl) (by simp) ?_; refine AllReadyH.cons rfl (fun K hK => ?_) AllReadyH.nil)
      refine step_appN arc_elem _ _ rfl (w.heap.size + 2) (.slice (some ⟨w2.heap.size + 1, 0, none⟩) 0 0) 0 [] rfl (HEM.out) w.heap.size A1 n1 d1 CS rfl (HRD.out _ (HBW.out.trans (B6.mono (by omega)))) HON.out (by omega) ((by have h := B6.size; omega)) rfl ?_
      intro A5 c5 w5 hown5 hg5
      rw [Nat.zero_add, List.nil_append] at hown5
      have B7 : Below w2.heap.size w2 w5 := B6.grown hg5 B6.size (fun q e => by have h : w2.heap.size + 1 = q := Option.some.inj e; omega)
      have HBK : Hid (Blk w5 (w2.heap.size) 25 (netC none 0 0 none 0 0)) := Lib.hid (HBN.out.kept hg5 (fun e => by have h : w2.heap.size = w2.heap.size + 1 := Option.some.inj e; omega))
      refine hK.out _ _ (HSS.out _ B7) (fun hHeld => ?_)
      clear hK K
      (try simp only [Act.put, List.getElem_toArray, List.getElem_cons_succ, List.getElem_cons_zero, List.setIfInBounds_toArray, List.set_cons_zero, List.set_cons_succ])
      (refine wpAnyH_take (i := 6) (v := ?_) rfl (by kernel_rfl) (by kernel_rfl) (by kernel_rfl) (fun _ _ _ h => h) (Or.inl ⟨by kernel_rfl, ?_⟩) (by assumption) ?_; rotate_left; (focus (intro w hSw; (try dsimp only at hSw); go_simp; all_goals with_reducible rfl)); (try simp only [Act.put, List.getElem_toArray, List.getElem_cons_succ, List.getElem_cons_zero, List.setIfInBounds_toArray, List.set_cons_zero, List.set_cons_succ]))
      (refine wpAnyH_ready (rs := [8]) (by kernel_rfl) (by simp) ?_; refine AllReadyH.cons rfl (fun K hK => ?_) AllReadyH.nil)
      refine step_storeL stNet rfl _ _ rfl ((w2.heap.size)) (netC none 0 0 none 0 0) (netC A0 m d0 A5 n1 c5) rfl rfl (HBK.out) rfl rfl (netC_one _ _ _ _ _ _) ?_
      intro w8 k1 k2 k3 k4
      have h8 := own_skip (hown5) (HBK.out) (by decide) k2
      have B8 : Below w2.heap.size w2 w8 := (B7).trans (k4.mono ((show w2.heap.size ≤ w2.heap.size by omega)))
      have HST : Hid (SlwSt w bd A0 m d0 ((w2.heap.size)) n1 A5 c5 CS N.arcs w8) := Lib.hid (by
        have hbw : Below w.heap.size w w8 := HBW.out.trans (B8.mono (by omega))
        refine ⟨h8, (HEL.out _ (fun b hb => ⟨fun e => ?_, .inl hb⟩)).below hbw, k1, HY.out.below (HB2.out.trans (B8.mono hz2)), hbw, by have h := (show w2.heap.size ≤ w2.heap.size by omega); omega, own_ne h8 (show Blk w8 _ _ _ from k1) (by decide)⟩
        have h := (World.ownsRow.lt h8 b e.symm).1
        omega)
      refine hK.out _ _ (HSS.out _ B8) (fun hHeld => ?_)
      clear hK K
      (try simp only [Act.put, List.getElem_toArray, List.getElem_cons_succ, List.getElem_cons_zero, List.setIfInBounds_toArray, List.set_cons_zero, List.set_cons_succ])
      (refine wpAnyH_done (by kernel_rfl) ?_ _)
      go_wp2
      go_meet
      exact ⟨_, _, _, rfl, HST.out⟩
  obtain ⟨ob, B, d, hv, hst⟩ := hcut
  subst hv
  have HO := Lib.hid hst
  clear hst
  have x1 : wc.cell? ⟨ob, 1, none⟩ = some (.slice B n1 d) := HO.out.obx.cell (j := 1) rfl
  go_upto_region 8 with fail
  clear x1
  go_loopw [13, 50] (fun fv i wr => ∃ (k : Nat) (rk : List Arc) (b : Bool) (CK : List Value), k ≤ n1 ∧ i = .int .i64 k ∧ fv = .bool b ∧ Hid (slwTo N.arcs f t at_ n k = .ok (rk, b) ∧ rk.length = k) ∧ Hid (SlwSt w bd A0 m d0 ob n1 B d CK (rk ++ N.arcs.drop k) wr)) (fun _ i _ => n1 - (intOf i).toNat)
  case atStart => exact ⟨0, [], false, CS, by omega, rfl, rfl, Lib.hid ⟨rfl, rfl⟩, HO⟩
  case round =>
    clear HO
    obtain ⟨k, rk, b, CK, hk, rfl, rfl, HK, HO⟩ := hrel
    have hsz := HO.out.size
    by_cases hlt : k < n1
    · obtain ⟨x, hx⟩ : ∃ x, N.arcs[k]? = some x := ⟨_, List.getElem?_eq_getElem (by rw [HNN.out.2]; exact hlt)⟩
      have hdr : N.arcs.drop k = x :: N.arcs.drop (k + 1) := by
        obtain ⟨hkk, e⟩ := List.getElem?_eq_some_iff.1 hx
        rw [← e]
        exact List.drop_eq_getElem_cons hkk
      have hxk : (rk ++ N.arcs.drop k)[k]? = some x := by rw [List.getElem?_append_right (by rw [HK.out.2]; exact Nat.le_refl _), HK.out.2, Nat.sub_self, hdr]; rfl
      have hll : (rk ++ N.arcs.drop k).length = n1 := by rw [List.length_append, HK.out.2, List.length_drop, HNN.out.2]; omega
      obtain ⟨g, cap, hv, hgb, hglt⟩ := HO.out.own.form (by omega)
      obtain rfl : B = some ⟨g, 0, none⟩ := by injection hv
      obtain ⟨C0, c0, C1, c1, hce, hsl⟩ := HO.out.elem hxk hll
      have HXS := Lib.hid (HSL.out x (List.mem_of_getElem? hx))
      have HDR := Lib.hid (And.intro hdr (And.intro hxk hx))
      have HCE := Lib.hid (And.intro hce hsl)
      have hk0 : (0 : Int) ≤ (k : Int) := by omega
      have hkn : (k : Int) < (n1 : Int) := by omega
      have HLL := Lib.hid hll
      clear hx hdr hxk hll hv hce hsl
      go_upto_region 10 with (first
        | ((with_reducible refine wpList_loadG stArc' _ rfl ⟨g, k * 6, none⟩ (ArcCells x C0 c0 C1 c1) ?_ ?_ ?_ ?_ ?_); exact rfl; exact rfl; exact HCE.out.1; exact rfl)
        | ((with_reducible refine wpList_storeL stArc' rfl _ _ rfl wr.heap.size (arcL 0 0 0 (.slice none 0 0)) (ArcCells x C0 c0 C1 c1) ?_ ?_ ?_ ?_ ?_ (arcC_one _ _ _ _ _) ?_); exact rfl; exact rfl; exact Blk.new wr _ _; exact rfl; exact rfl; intro w4 k1 k2 k3 k4; have K := Lib.hid (And.intro k1 (And.intro k2 (And.intro k3 k4))); clear k1 k2 k3 k4))
      (try simp only [Act.put, List.getElem_toArray, List.getElem_cons_succ, List.getElem_cons_zero, List.setIfInBounds_toArray, List.set_cons_zero, List.set_cons_succ])
      have b4 : Below wr.heap.size wr w4 := ((Below.refl _ _).alloc (Nat.le_refl _) _).trans K.out.2.2.2
      have HQ : Hid (Blk w4 wr.heap.size 59 (ArcCells x C0 c0 C1 c1)) := Lib.hid K.out.1
      have HO4 := Lib.hid (HO.out.below b4)
      have HS4 : Hid (RowAt rPt w4 w4.heap.size C1 x.slow) := Lib.hid (RowAt.more b4.size (HCE.out.2.below b4))
      obtain ⟨q, hq⟩ : ∃ q, wr.heap.size = q := ⟨_, rfl⟩
      rw [hq] at HQ ⊢
      have q0 := HQ.out.cell (j := 0) rfl
      have q1 := HQ.out.cell (j := 1) rfl
      have q5 := HQ.out.cell (j := 5) rfl
      have HL9 : Hid (∀ y, (rk ++ [y]).length = k + 1) := Lib.hid (fun y => by rw [List.length_append, HK.out.2]; rfl)
      clear K b4 HCE HO hq
      by_cases hw1 : x.frm = f
      rotate_left
      · have hb1 : (x.frm != f) = true := by simp [hw1]
        have HNX : Hid (slwTo N.arcs f t at_ n (k + 1) = .ok (rk ++ [x], b)) := Lib.hid (by rw [slwTo_succ HDR.out.2.2 HK.out.1, if_neg (by unfold way; simp [hw1])])
        clear hw1
        go_wp2_with fail
        exact ⟨⟨k + 1, rk ++ [x], b, CK, by omega, by go_num, rfl, Lib.hid ⟨HNX.out, HL9.out x⟩, Lib.hid (by rw [List.append_assoc, List.singleton_append, ← HDR.out.1]; exact HO4.out)⟩, by simp [intOf]; omega⟩
      have hb1 : (x.frm != f) = false := by simp [hw1]
      by_cases hw2 : x.to = t
      rotate_left
      · have hb2 : (x.to != t) = true := by simp [hw2]
        have HNX : Hid (slwTo N.arcs f t at_ n (k + 1) = .ok (rk ++ [x], b)) := Lib.hid (by rw [slwTo_succ HDR.out.2.2 HK.out.1, if_neg (by unfold way; simp [hw2])])
        clear hw1 hw2
        go_wp2_with fail
        exact ⟨⟨k + 1, rk ++ [x], b, CK, by omega, by go_num, rfl, Lib.hid ⟨HNX.out, HL9.out x⟩, Lib.hid (by rw [List.append_assoc, List.singleton_append, ← HDR.out.1]; exact HO4.out)⟩, by simp [intOf]; omega⟩
      have hb2 : (x.to != t) = false := by simp [hw2]
      have HNX : Hid (slwTo N.arcs f t at_ n (k + 1) = (match lateF x.slow at_ n with | .error e => .error e | .ok s => .ok (rk ++ [{ x with slow := s }], true))) := Lib.hid (by rw [slwTo_succ HDR.out.2.2 HK.out.1, if_pos (by unfold way; simp [hw1, hw2])]; cases lateF x.slow at_ n <;> rfl)
      clear hw1 hw2
      go_wp2_with fail
      refine (later_any C1 c1 x.slow at_ n w4 HS4.out (by have := HXS.out.1; omega) HXS.out.2 HNT.out).mono ?_
      obtain ⟨s', hs'⟩ : ∃ s', lateF x.slow at_ n = s' := ⟨_, rfl⟩
      have HLF := Lib.hid hs'
      rw [hs'] at HNX ⊢
      clear hs' q0 q1 q5
      intro e w5 h5
      rcases s' with kk | s
      · obtain ⟨rfl, b5⟩ := h5
        have hkk : (kk != 0) = true := by rcases late_err HLF.out with rfl | rfl <;> rfl
        have HRR : Hid (r = .error kk) := Lib.hid (by
          have h := slwTo_err HNX.out (n1 - (k + 1))
          rw [show k + 1 + (n1 - (k + 1)) = n1 by omega] at h
          rw [HSF2.out, h])
        have HO5 := Lib.hid (HO4.out.below b5)
        clear b5
        go_wp2_with ((with_reducible refine wpList_storeL stNet rfl _ _ rfl (w.heap.size + 1) (netC none 0 0 none 0 0) (netC none 0 0 none 0 0) ?_ ?_ ?_ ?_ ?_ (netC_one _ _ _ _ _ _) ?_); exact rfl; exact rfl; exact HO5.out.rbx; exact rfl; exact rfl; intro wz k1 k2 k3 k4; have K := Lib.hid (And.intro k1 (And.intro k2 (And.intro k3 k4))); clear k1 k2 k3 k4)
        have HRz : Blk wz (w.heap.size + 1) 25 (netC none 0 0 none 0 0) := K.out.1
        refine bodyPost_ret (v := .tuple #[.agg #[.slice none 0 0, .slice none 0 0], .int .i64 kk]) (big.res_cell_tmp stNet Tryz.results104 rfl rfl HRz.cells rfl) rfl ?_
        rw [HRR.out]
        exact ⟨rfl, (HO5.out.bel).trans (K.out.2.2.2.mono (by omega))⟩
      · obtain ⟨A', c', rfl, hown, b5⟩ := h5
        have HO5 := Lib.hid (HO4.out.below b5)
        have HRS : Hid (RowOff oPt w5 (fun b => some b ≠ (Value.slice (some ⟨g, 0, none⟩) n1 d).ownBlock ∧ (b < bd ∨ w.heap.size + 2 ≤ b)) A' s) := Lib.hid (by
          obtain ⟨f1, f2⟩ := late_fits HLF.out (fun p hp => ⟨row_fits HS4.out p hp, HXS.out.2 p hp⟩) HAT.out HNT.out
          refine rowOff_pts hown (by have := HXS.out.1; omega) f1 (fun g' hg' _ => ⟨fun e' => ?_, ?_⟩)
          · have h9 := (World.ownsRow.lt HO4.out.own g rfl).2
            have h8 : g' = g := Option.some.inj e'
            omega
          · have h9 := HO4.out.size
            have h8 : w4.heap.size ≤ g' := hg'
            exact .inr (by omega))
        have y1 : w5.cell? ⟨ob, 1, none⟩ = some (.slice (some ⟨g, 0, none⟩) n1 d) := HO5.out.obx.cell (j := 1) rfl
        have f5 := HO5.out.own.frozenAt (k * 6 + 5)
        obtain ⟨D0, e0, D1, e1, hce5, _⟩ := HO5.out.elem HDR.out.2.1 HLL.out
        have y5 : w5.cell? ⟨g, k * 6 + 5, none⟩ = some (.slice D1 x.slow.length e1) := hce5 5 _ rfl
        clear hce5
        clear b5 hown
        go_wp2_with fail
        have hset : (rk ++ N.arcs.drop k).set k { x with slow := s } = (rk ++ [{ x with slow := s }]) ++ N.arcs.drop (k + 1) := by
          rw [HDR.out.1, List.set_append_right _ _ (by rw [HK.out.2]; exact Nat.le_refl _), HK.out.2, Nat.sub_self, List.append_assoc]
          rfl
        exact ⟨⟨k + 1, rk ++ [{ x with slow := s }], true, _, by omega, by go_num, rfl, Lib.hid ⟨HNX.out, HL9.out _⟩, Lib.hid (by rw [← hset]; exact HO5.out.mod HDR.out.2.1 HRS.out)⟩, by simp [intOf]; omega⟩
    · have hkn : k = n1 := by omega
      subst hkn
      clear hlt
      have hdr : N.arcs.drop k = [] := List.drop_of_length_le (by rw [HNN.out.2]; exact Nat.le_refl _)
      rw [hdr, List.append_nil] at HO
      clear hdr
      cases b
      · have HRR : Hid (r = .error 12) := Lib.hid (by rw [HSF2.out, HK.out.1]; rfl)
        go_wp2_with ((with_reducible refine wpList_storeL stNet rfl _ _ rfl (w.heap.size + 1) (netC none 0 0 none 0 0) (netC none 0 0 none 0 0) ?_ ?_ ?_ ?_ ?_ (netC_one _ _ _ _ _ _) ?_); exact rfl; exact rfl; exact HO.out.rbx; exact rfl; exact rfl; intro wz k1 k2 k3 k4; have K := Lib.hid (And.intro k1 (And.intro k2 (And.intro k3 k4))); clear k1 k2 k3 k4)
        have HRz : Blk wz (w.heap.size + 1) 25 (netC none 0 0 none 0 0) := K.out.1
        refine bodyPost_ret (v := .tuple #[.agg #[.slice none 0 0, .slice none 0 0], .int .i64 12]) (big.res_cell_tmp stNet Tryz.results104 rfl rfl HRz.cells rfl) rfl ?_
        rw [HRR.out]
        exact ⟨rfl, (HO.out.bel).trans (K.out.2.2.2.mono (by omega))⟩
      · have HRR : Hid (r = .ok ⟨N.places, rk⟩) := Lib.hid (by rw [HSF2.out, HK.out.1]; rfl)
        go_wp2_with (first
          | ((with_reducible refine wpList_loadG stNet _ rfl ⟨ob, 0, none⟩ (netC A0 m d0 B k d) ?_ ?_ ?_ ?_ ?_); exact rfl; exact rfl; exact HO.out.obx.cells; exact rfl)
          | ((with_reducible refine wpList_storeL stNet rfl _ _ rfl (w.heap.size + 1) (netC none 0 0 none 0 0) (netC A0 m d0 B k d) ?_ ?_ ?_ ?_ ?_ (netC_one _ _ _ _ _ _) ?_); exact rfl; exact rfl; exact HO.out.rbx; exact rfl; exact rfl; intro wz k1 k2 k3 k4; have K := Lib.hid (And.intro k1 (And.intro k2 (And.intro k3 k4))); clear k1 k2 k3 k4))
        have HRz : Blk wz (w.heap.size + 1) 25 (netC A0 m d0 B k d) := K.out.1
        refine bodyPost_ret (v := .tuple #[.agg #[.slice A0 m d0, .slice B k d], .int .i64 0]) (big.res_cell_tmp stNet Tryz.results104 rfl rfl HRz.cells rfl) rfl ?_
        rw [HRR.out]
        refine ⟨B, d, by rw [HNN.out.1, HK.out.2], ?_, HO.out.bel.trans (K.out.2.2.2.mono (by omega))⟩
        have hown := own_skip HO.out.own HO.out.rbx (by decide) K.out.2.1
        have hgr : wr.heap.size ≤ wz.heap.size := by rw [K.out.2.2.1]; exact Nat.le_refl _
        have hels : EG oArc wz (fun b => b < bd ∨ w.heap.size ≤ b) CK rk := HO.out.els.keep hgr (fun b hb hp => ⟨by rcases hp.2 with h | h <;> omega, K.out.2.1 b (by rcases hp.2 with h | h <;> omega)⟩)
        exact EG.off (by rw [HK.out.2]; exact hown) hels (by rw [HK.out.2]; omega) (fun b _ h => h) (fun b hb => .inr (by have h : w.heap.size + 2 ≤ b := hb; omega))
end Go.Proofs.YtofabhenmplkoaaGreatDoor.evt

/- Parts of instances: plain. A part of a valid instance is valid; a part of a part is a part. -/
namespace Go.Proofs.YtofabhenmplkoaaGreatDoor.par
open Go.RowKit
open Go.Proofs.YtofabhenmplkoaaGreatDoor.lib Go.Proofs.YtofabhenmplkoaaGreatDoor.typ Go.Proofs.YtofabhenmplkoaaGreatDoor.sets Go.Proofs.YtofabhenmplkoaaGreatDoor.idx Go.Proofs.YtofabhenmplkoaaGreatDoor.ren Go.Proofs.YtofabhenmplkoaaGreatDoor.eqg Go.Proofs.YtofabhenmplkoaaGreatDoor.rul Go.Proofs.YtofabhenmplkoaaGreatDoor.ord Go.Proofs.YtofabhenmplkoaaGreatDoor.note Go.Proofs.YtofabhenmplkoaaGreatDoor.flts Go.Proofs.YtofabhenmplkoaaGreatDoor.ins Go.Proofs.YtofabhenmplkoaaGreatDoor.und Go.Proofs.YtofabhenmplkoaaGreatDoor.cat
set_option linter.unusedVariables false
set_option linter.unusedSimpArgs false

/-- What a list of indices selects. -/
def pick {X : Type} (l : List X) (L : List Nat) : List X := L.filterMap (l[·]?)
/-- One list of indices after another. -/
def after (L K : List Nat) : List Nat := K.map fun k => L[k]?.getD 0
abbrev ints (L : List Nat) : List Int := L.map fun i : Nat => (i : Int)
/-- When there are no violations of pairs. -/
theorem pairsTo_nil {orders : Int} {word : ByteArray} {same : Int × Int → Int × Int → Bool} {l : List (Int × Int)} : ∀ k, pairsTo orders word same l k = [] ↔ l.length ≤ 16 ∧ ∀ (j : Nat) p, j < k → l[j]? = some p → badB orders p = false ∧ (l.take j).any (same p) = false
  | 0 => by
    unfold pairsTo
    split
    · rename_i h
      exact ⟨fun _ => ⟨h, fun j p hj => absurd hj (by omega)⟩, fun _ => rfl⟩
    · rename_i h
      exact ⟨fun e => (by cases e), fun e => absurd e.1 h⟩
  | k + 1 => by
    rw [pairsTo, List.append_eq_nil_iff, pairsTo_nil k]
    constructor
    · rintro ⟨⟨h1, h2⟩, h3⟩
      refine ⟨h1, fun j p hj hp => ?_⟩
      rcases Nat.lt_or_ge j k with h | h
      · exact h2 j p h hp
      · obtain rfl : j = k := by omega
        unfold pairAt at h3
        rw [hp] at h3
        unfold pairP at h3
        dsimp only at h3
        split at h3
        · cases h3
        · split at h3
          · cases h3
          · rename_i h4 h5
            exact ⟨by simpa using h4, by simpa using h5⟩
    · rintro ⟨h1, h2⟩
      refine ⟨⟨h1, fun j p hj hp => h2 j p (by omega) hp⟩, ?_⟩
      unfold pairAt
      split
      · rename_i p hp
        obtain ⟨h3, h4⟩ := h2 k p (by omega) hp
        unfold pairP
        rw [if_neg (by rw [h3]; decide), if_neg (by rw [h4]; decide)]
      · rfl
def NoTwice (same : Int × Int → Int × Int → Bool) (l : List (Int × Int)) : Prop := l.Pairwise fun q p => same p q = false
theorem noTwice_iff {same : Int × Int → Int × Int → Bool} {l : List (Int × Int)} : NoTwice same l ↔ ∀ (j : Nat) p, l[j]? = some p → (l.take j).any (same p) = false := by
  unfold NoTwice
  rw [List.pairwise_iff_getElem]
  constructor
  · intro h j p hp
    obtain ⟨hj, rfl⟩ := List.getElem?_eq_some_iff.1 hp
    rw [List.any_eq_false]
    intro q hq
    obtain ⟨i, hi⟩ := List.mem_iff_getElem?.1 hq
    rw [List.getElem?_take] at hi
    split at hi
    · rename_i hij
      obtain ⟨hi2, rfl⟩ := List.getElem?_eq_some_iff.1 hi
      rw [h i j hi2 hj hij]
      decide
    · cases hi
  · intro h i j hi hj hij
    have h1 := h j _ (List.getElem?_eq_getElem hj)
    rw [List.any_eq_false] at h1
    have h2 := h1 l[i] (by
      rw [List.mem_iff_getElem?]
      exact ⟨i, by rw [List.getElem?_take, if_pos hij, List.getElem?_eq_getElem hi]⟩)
    simpa using h2
theorem pairs_nil {orders : Int} {word : ByteArray} {same : Int × Int → Int × Int → Bool} {l : List (Int × Int)} : pairsTo orders word same l l.length = [] ↔ l.length ≤ 16 ∧ (∀ p ∈ l, badB orders p = false) ∧ NoTwice same l := by
  rw [pairsTo_nil, noTwice_iff]
  constructor
  · rintro ⟨h1, h2⟩
    refine ⟨h1, fun p hp => ?_, fun j p hp => (h2 j p (List.getElem?_eq_some_iff.1 hp).1 hp).2⟩
    obtain ⟨i, hi⟩ := List.mem_iff_getElem?.1 hp
    exact (h2 i p (List.getElem?_eq_some_iff.1 hi).1 hi).1
  · rintro ⟨h1, h2, h3⟩
    exact ⟨h1, fun j p _ hp => ⟨h2 p (List.mem_of_getElem? hp), h3 j p hp⟩⟩
theorem pushIf_nil {xs : List Int} {r : Bool} {u : Int} : pushIf xs r u = [] ↔ xs = [] ∧ r = true := by
  unfold pushIf
  cases r <;> simp
theorem ofltsTo_nil {P dims types : Int} {l : List Ord} : ∀ k, ofltsTo P dims types l k = [] ↔ l.length ≤ 10 ∧ ∀ (j : Nat) o, j < k → l[j]? = some o → errsO P dims types l j o = []
  | 0 => by
    unfold ofltsTo
    split
    · rename_i h
      exact ⟨fun _ => ⟨h, fun j p hj => absurd hj (by omega)⟩, fun _ => rfl⟩
    · rename_i h
      exact ⟨fun e => (by cases e), fun e => absurd e.1 h⟩
  | k + 1 => by
    rw [ofltsTo, List.append_eq_nil_iff, ofltsTo_nil k]
    constructor
    · rintro ⟨⟨h1, h2⟩, h3⟩
      refine ⟨h1, fun j p hj hp => ?_⟩
      rcases Nat.lt_or_ge j k with h | h
      · exact h2 j p h hp
      · obtain rfl : j = k := by omega
        unfold ofltsAt at h3
        rw [hp] at h3
        unfold mkF at h3
        exact List.map_eq_nil_iff.1 h3
    · rintro ⟨h1, h2⟩
      refine ⟨⟨h1, fun j p hj hp => h2 j p (by omega) hp⟩, ?_⟩
      unfold ofltsAt
      split
      · rename_i p hp
        rw [h2 k p (by omega) hp]
        rfl
      · rfl
theorem undL_nil {word : ByteArray} {fs : List Flt} : undL word fs = [] ↔ fs = [] := by unfold undL; exact List.map_eq_nil_iff
theorem insF_nil {x : Ins} : insF x = [] ↔ insN x = [] ∧ insT x = [] ∧ insO x = [] ∧ insR x = [] := by
  have e : insF x = undL netS (insN x) ++ (undL typesS (insT x) ++ (undL ordersS (insO x) ++ (undL rulesS (insR x) ++ []))) := rfl
  rw [e]
  simp only [List.append_eq_nil_iff, undL_nil, and_true]
end Go.Proofs.YtofabhenmplkoaaGreatDoor.par

/- An instance that is accepted is small. -/
namespace Go.Proofs.YtofabhenmplkoaaGreatDoor.lim
open Go.RowKit
open Go.Proofs.YtofabhenmplkoaaGreatDoor.lib Go.Proofs.YtofabhenmplkoaaGreatDoor.loads Go.Proofs.YtofabhenmplkoaaGreatDoor.typ Go.Proofs.YtofabhenmplkoaaGreatDoor.ins Go.Proofs.YtofabhenmplkoaaGreatDoor.note Go.Proofs.YtofabhenmplkoaaGreatDoor.txt Go.Proofs.YtofabhenmplkoaaGreatDoor.ren Go.Proofs.YtofabhenmplkoaaGreatDoor.rul Go.Proofs.YtofabhenmplkoaaGreatDoor.par Go.Proofs.YtofabhenmplkoaaGreatDoor.eqg Go.Proofs.YtofabhenmplkoaaGreatDoor.net Go.Proofs.YtofabhenmplkoaaGreatDoor.trv
set_option linter.unusedVariables false
set_option linter.unusedSimpArgs false

theorem netTo_nil {n : Net} : ∀ k, netTo n k = [] → (n.places.length ≤ 24 ∧ n.arcs.length ≤ 1024) ∧ ∀ (j : Nat) a, j < k → n.arcs[j]? = some a → arcE n.places.length ((n.arcs.take j).map wayK) a = []
  | 0, h => by
    rw [netTo, List.append_eq_nil_iff] at h
    refine ⟨⟨?_, ?_⟩, fun j a hj => absurd hj (by omega)⟩
    · have hp : ∀ k, plTo n.places k = [] → n.places.length ≤ 24 := by
        intro k
        induction k with
        | zero =>
          intro h
          unfold plTo at h
          split at h
          · cases h
          · omega
        | succ k ih =>
          intro h
          rw [plTo, List.append_eq_nil_iff] at h
          exact ih h.1
      exact hp _ h.1
    · have h2 := h.2
      split at h2
      · cases h2
      · omega
  | k + 1, h => by
    rw [netTo, List.append_eq_nil_iff] at h
    obtain ⟨h1, h2⟩ := netTo_nil k h.1
    refine ⟨h1, fun j a hj ha => ?_⟩
    rcases Nat.lt_or_ge j k with hlt | hge
    · exact h2 j a hlt ha
    · obtain rfl : j = k := by omega
      have h3 := h.2
      unfold arAt at h3
      rw [ha] at h3
      exact List.map_eq_nil_iff.1 h3
theorem slTo_nil {l : List Pt} : ∀ k, slTo l k = [] → l.length ≤ 16
  | 0, h => by
    unfold slTo at h
    split at h
    · cases h
    · omega
  | k + 1, h => by
    rw [slTo, List.append_eq_nil_iff] at h
    exact slTo_nil k h.1
theorem tvTo_nil {l : List Pt} : ∀ k, tvTo l k = [] → szB l.length = false
  | 0, h => by
    unfold tvTo at h
    split at h
    · cases h
    · rename_i h'
      simpa using h'
  | k + 1, h => by
    rw [tvTo, List.append_eq_nil_iff] at h
    exact tvTo_nil k h.1
theorem arcE_nil {P : Int} {ks : List (Int × Int × Int)} {a : Arc} (h : arcE P ks a = []) : a.travel.length ≤ 100 ∧ a.slow.length ≤ 1000 := by
  unfold arcE at h
  rw [List.append_eq_nil_iff, List.append_eq_nil_iff, List.map_eq_nil_iff] at h
  have h1 := tvTo_nil _ h.1.2
  have h2 := slTo_nil _ h.2
  refine ⟨?_, by omega⟩
  unfold szB at h1
  simp at h1
  omega
/-- An instance that is accepted is small. -/
theorem lim_of {x : Ins} (h : insF x = []) : Lim x := by
  obtain ⟨hN, hT, hO, hR⟩ := par.insF_nil.1 h
  have ho : x.orders.length ≤ 10 := by
    unfold insO at hO
    exact ((par.ofltsTo_nil x.orders.length).1 hO).1
  unfold insR rul.rulesF at hR
  rw [List.append_eq_nil_iff] at hR
  have ha := (par.pairs_nil.1 hR.1).1
  have hb := (par.pairs_nil.1 hR.2).1
  unfold insN at hN
  obtain ⟨⟨h1, h2⟩, h3⟩ := netTo_nil _ hN
  have hpt : ∀ a ∈ x.net.arcs, a.travel.length ≤ 100 ∧ a.slow.length ≤ 1000 := fun a ha => by
    obtain ⟨j, hj⟩ := List.mem_iff_getElem?.1 ha
    exact arcE_nil (h3 j a (List.getElem?_eq_some_iff.1 hj).1 hj)
  have ht : ∀ k, flt.fltsTo ((x.net.places.length : Int) - 1) x.types k = [] → x.types.length ≤ 6 := by
    intro k
    induction k with
    | zero =>
      intro h
      unfold flt.fltsTo at h
      split at h
      · rename_i hb
        unfold flt.inB at hb
        simp only [Bool.and_eq_true, decide_eq_true_eq] at hb
        omega
      · cases h
    | succ k ih =>
      intro h
      rw [flt.fltsTo, List.append_eq_nil_iff] at h
      exact ih h.1
  refine ⟨by omega, by omega, hpt, fun j a hj hne => absurd (h3 j a (List.getElem?_eq_some_iff.1 hj).1 hj) hne, ?_, ?_, by omega, by omega, by omega⟩
  · unfold insN
    rw [hN]
    simp
  · have := ht _ hT
    omega
end Go.Proofs.YtofabhenmplkoaaGreatDoor.lim

/- Events that concern an order. The program. -/
namespace Go.Proofs.YtofabhenmplkoaaGreatDoor.evt
open Go.RowKit
open Go.Proofs.YtofabhenmplkoaaGreatDoor.lib Go.Proofs.YtofabhenmplkoaaGreatDoor.rd Go.Proofs.YtofabhenmplkoaaGreatDoor.app Go.Proofs.YtofabhenmplkoaaGreatDoor.els Go.Proofs.YtofabhenmplkoaaGreatDoor.off Go.Proofs.YtofabhenmplkoaaGreatDoor.typ Go.Proofs.YtofabhenmplkoaaGreatDoor.big Go.Proofs.YtofabhenmplkoaaGreatDoor.ins Go.Proofs.YtofabhenmplkoaaGreatDoor.ord Go.Proofs.YtofabhenmplkoaaGreatDoor.gen
set_option linter.unusedVariables false
set_option linter.unusedSimpArgs false

/-- What an event makes of an order. -/
def conF (x : Ins) (e : Evt) : Except Int Ins := if ¬ thrF x e.a = 0 then .error (thrF x e.a) else match x.orders[e.a.toNat]? with
  | none => .error 7
  | some o => if e.kind = 2 then .ok { x with orders := x.orders.set e.a.toNat { o with off := true } }
    else if shfB o.pick e.n && shfB o.drop e.n then .ok { x with orders := x.orders.set e.a.toNat (shfO o e.n) } else .error 2
/-- What is handed back: an instance, or an error and anything. -/
def HapOut (w : World) (B : Nat) (r : Except Int Ins) (e : Ending) (w' : World) : Prop := match r with
  | .error k => ∃ Y Q, e = .returned (.tuple #[InV Y Q, .int .i64 k]) ∧ Below w.heap.size w w'
  | .ok Y => ∃ Q, e = .returned (.tuple #[InV Y Q, .int .i64 0]) ∧ InFr w' B w.heap.size Y Q ∧ Below w.heap.size w w'
theorem EG.keep2 {X : Type} {r : Off X} {w w2 w3 : World} {B : Nat} {cs : List Value} {xs : List X} (h : EG r w2 (fun b => b < B) cs xs) (h2 : Below B w w2) (h3 : Below B w w3) (hs : w2.heap.size ≤ w3.heap.size) : EG r w3 (fun b => b < B) cs xs :=
  h.keep hs (fun b _ hp => ⟨hp, (h3.block b hp).trans (h2.block b hp).symm⟩)
theorem chk_good {s : Stp} (h : win.chk s.place s.opn s.close s.service = 0) : goodS s := by
  unfold win.chk at h
  split at h
  · rename_i h'
    exact h'
  · cases h
/-- The stops of an instance that is accepted. -/
theorem good_of {x : Ins} (h : insF x = []) : ∀ o ∈ x.orders, goodS o.pick ∧ goodS o.drop := fun o ho => by
  obtain ⟨hN, hT, hO, hR⟩ := par.insF_nil.1 h
  unfold insO at hO
  obtain ⟨h1, h2⟩ := (par.ofltsTo_nil x.orders.length).1 hO
  obtain ⟨j, hj⟩ := List.mem_iff_getElem?.1 ho
  have he := h2 j o (List.getElem?_eq_some_iff.1 hj).1 hj
  unfold ord.errsO at he
  have e8 := par.pushIf_nil.1 he
  have e7 := par.pushIf_nil.1 e8.1
  have e6 := par.pushIf_nil.1 e7.1
  have hw := e6.2
  unfold ord.winB at hw
  simp only [Bool.and_eq_true, beq_iff_eq] at hw
  exact ⟨chk_good hw.1, chk_good hw.2⟩
/-- An order that is there. -/
theorem thr_ok {x : Ins} {k : Int} (h : thrF x k = 0) : ∃ (j : Nat) (o : Ord), k = j ∧ x.orders[j]? = some o ∧ o.off = false := by
  unfold thrF at h
  split at h
  · cases h
  · rename_i h1
    split at h
    · cases h
    · rename_i o ho
      split at h
      · cases h
      · rename_i h2
        exact ⟨k.toNat, o, by omega, ho, by simpa using h2⟩
theorem insCs_ord (x : Ins) (P : InP) (os : List Ord) (A : Option Addr) (N c : Nat) (h : os.length = N) : (insCs x P).set 3 (.slice A N c) = insCs { x with orders := os } ⟨P.a0, P.c0, P.a1, P.c1, P.a2, P.c2, A, c, P.a4, P.c4, P.a5, P.c5⟩ := by
  subst h
  rfl
theorem ord_at {w : World} {x : Ins} {P : InP} {os : List Ord} {A : Option Addr} {c : Nat} (h : InAt w w.heap.size x P) (hr : RowAt rOrd w w.heap.size A os) (hc : os.length ≤ c) : InAt w w.heap.size { x with orders := os } ⟨P.a0, P.c0, P.a1, P.c1, P.a2, P.c2, A, c, P.a4, P.c4, P.a5, P.c5⟩ :=
  ⟨h.places, h.arcs, h.types, hr, h.apart, h.before, h.capT, hc, h.capA, h.capB⟩
/-- Where an event about an order stands: its boxes, and the orders, copied. -/
structure ConSt (B : Nat) (x : Ins) (P : InP) (e : Evt) (C : Option Addr) (c : Nat) (w : World) (N g d : Nat) (CS : List Value) (xs : List Ord) (wx : World) : Prop where
  own : wx.ownsRow (w.heap.size + 3) 35 16 (.slice (some ⟨g, 0, none⟩) N d) N CS
  els : EG oOrd wx (fun b => b < B) CS xs
  hB : B ≤ w.heap.size
  len : xs.length = N
  bx : Blk wx w.heap.size 30 ((insCs x P).set 3 (.slice (some ⟨g, 0, none⟩) N d))
  be : Blk wx (w.heap.size + 1) 37 (EvtCells e C c)
  br : Blk wx (w.heap.size + 2) 30 nilCs
  bel : Below w.heap.size w wx
section
variable {B : Nat} {x : Ins} {P : InP} {e : Evt} {C : Option Addr} {c : Nat} {w wx wy : World} {N g d : Nat} {CS : List Value} {xs : List Ord}
theorem ConSt.lo (h : ConSt B x P e C c w N g d CS xs wx) : w.heap.size + 3 ≤ g ∧ g < wx.heap.size := World.ownsRow.lt h.own g rfl
theorem ConSt.below (h : ConSt B x P e C c w N g d CS xs wx) (hb : Below wx.heap.size wx wy) : ConSt B x P e C c w N g d CS xs wy :=
  ⟨own_below h.own hb, h.els.below hb, h.hB, h.len, h.bx.below hb, h.be.below hb, h.br.below hb, h.bel.trans (hb.mono (by have := h.lo; omega))⟩
/-- Cells of the orders' row are written. -/
theorem ConSt.cells {xs' : List Ord} {o : Nat} {vs : List Value} (h : ConSt B x P e C c w N g d CS xs wx) (hl : xs'.length = N) (he : EG oOrd wx (fun b => b < B) (setM CS o vs) xs') :
    ConSt B x P e C c w N g d (setM CS o vs) xs' (wx.setCells g o vs) := by
  have hlo := h.lo
  have hBB := h.hB
  obtain ⟨h1, h2⟩ := own_setCells vs o wx CS h.own
  refine ⟨h1, he.keep h2.size (fun b hb hp => ⟨hp, h2.block b hb (fun e => by injection e; omega)⟩), hBB, hl, h.bx.kept h2 (fun e => by injection e; omega), h.be.kept h2 (fun e => by injection e; omega), h.br.kept h2 (fun e => by injection e; omega), ?_⟩
  exact h.bel.grown h2 (by omega) (fun q e => by injection e; omega)
theorem ConSt.elem {j : Nat} {o : Ord} (h : ConSt B x P e C c w N g d CS xs wx) (hj : xs[j]? = some o) : ∃ C0 c0, CellsAt wx ⟨g, j * 16, none⟩ (OrdCells o C0 c0) ∧ OrdFits o ∧ IntsOff wx (fun b => b < B) C0 o.load ∧ wx.there g (j * 16) 16 := by
  have hkl := (List.getElem?_eq_some_iff.1 hj).1
  obtain ⟨cc, h3, h4, h5⟩ := h.els.at_ hj
  obtain ⟨C0, c0, rfl, h0, hf⟩ := oOrd_at h3
  have hll := h.len
  have hcl := h.own.1
  refine ⟨C0, c0, fun i u hu => ?_, hf, h0, own_there h.own (by omega)⟩
  have hi : i < 16 := (List.getElem?_eq_some_iff.1 hu).1
  rw [Addr.add_mid, h.own.cellAt (j * 16 + i) (by omega)]
  exact h5 i u hu
end
/-- The orders of what is handed back, in the call's own row. -/
theorem con_fr {B N c' : Nat} {x : Ins} {P : InP} {w wz : World} {A : Option Addr} {CS : List Value} {os : List Ord} (hA : InAt w B x P) (hB : B ≤ w.heap.size) (hbz : Below w.heap.size w wz) (hown : wz.ownsRow (w.heap.size + 3) 35 16 (.slice A N c') N CS) (hels : EG oOrd wz (fun b => b < B) CS os) (hlen : os.length = N) (hN : N ≤ 1000000) :
    InFr wz B w.heap.size { x with orders := os } ⟨P.a0, P.c0, P.a1, P.c1, P.a2, P.c2, A, c', P.a4, P.c4, P.a5, P.c5⟩ := fun w' hs hk => by
  have hsz := hbz.size
  have hi := (hA.blocks (w' := w') (fun b hb => (hk b (by omega) (.inl hb)).trans (hbz.block b (by omega)))).more (show B ≤ w'.heap.size by omega)
  have ho := own_fr hown (w' := w') ⟨hs, fun b hb hp => hk b hb (.inr (by have h : w.heap.size + 3 ≤ b := hp; omega))⟩
  have he := hels.keep hs (fun b hb hp => ⟨hp, hk b hb (.inl hp)⟩)
  exact ord_at hi (EG.row (by rw [hlen]; exact ho) he (by omega)) (by rw [hlen]; exact own_len_cap ho)
theorem shfR_ok {o : Ord} {n : Int} (h : (shfB o.pick n && shfB o.drop n) = true) : shfR o n = (shfO o n, 0) := by
  rw [Bool.and_eq_true] at h
  unfold shfR shfO
  rw [if_pos h.1, if_pos h.2, show shfT o.drop n = shfS o.drop n by unfold shfT; rw [if_pos h.2]]
theorem shfR_bad {o : Ord} {n : Int} (h : (shfB o.pick n && shfB o.drop n) = false) : (shfR o n).2 = 2 := by
  unfold shfR
  split
  · rename_i h1
    rw [h1, Bool.true_and] at h
    show (if shfB o.drop n = true then (0 : Int) else 2) = 2
    rw [if_neg (by rw [h]; decide)]
  · rfl
theorem shfT_fits {s : Stp} {n : Int} (hg : goodS s) (hf : StpFits s) : StpFits (shfT s n) ∧ StpFits zeroS := by
  have hz : StpFits zeroS := by unfold StpFits zeroS; simp only; omega
  refine ⟨?_, hz⟩
  unfold shfT
  split
  · rename_i h
    unfold shfB at h
    have h' := of_decide_eq_true h
    unfold shfS
    split
    · exact hf
    · rename_i hp
      unfold goodS win.Good at hg
      unfold StpFits at hf ⊢
      simp only
      omega
  · exact hz
theorem shfR_fits {o : Ord} {n : Int} (h1 : goodS o.pick) (h2 : goodS o.drop) (hf : OrdFits o) : OrdFits (shfR o n).1 := by
  obtain ⟨f0, f1, f2, f3⟩ := hf
  obtain ⟨a1, a2⟩ := shfT_fits (n := n) h1 f1
  obtain ⟨a3, _⟩ := shfT_fits (n := n) h2 f2
  unfold shfR
  split
  · rename_i h
    have e : shfT o.pick n = shfS o.pick n := by unfold shfT; rw [if_pos h]
    rw [e] at a1
    exact ⟨f0, a1, a3, f3⟩
  · exact ⟨f0, a2, f2, f3⟩
theorem step_loadS {t : TypeId} {n : Nat} (T : StructOf t n) {o : Oper} {a : Act} {w : World} {ops : Array Oper} {K : Act → World → Prop} {Q : Exit → Act → World → Prop} {E' : Prop} (hgd : o.guard = none) (p : Operand) (ho : o.op = Op.load t p)
    (ad : Addr) (cs : List Value) (hp : a.eval p = .pointer (some ad)) (hc : CellsAt w ad cs) (hn : cs.length = n) (h : K (a.put o.dst (.agg cs.toArray)) w) :
    if Region.wanted o (yielded ops a.tmps) = true then Oper.wp Tryz.prog o a w K Q else E' := by
  have hw : Region.wanted o (yielded ops a.tmps) = true := by simp [Region.wanted, hgd]
  rw [if_pos hw]
  have hr := run_loadS T hc hn
  unfold Oper.wp execOp
  simp only [ho, hp, Sem.run_bind, hr, Result.andThen_ok, Sem.run_pure]
  exact h
set_option maxRecDepth 20000 in
set_option maxHeartbeats 8000000 in
theorem concerns_any (x : Ins) (P : InP) (e : Evt) (C : Option Addr) (c : Nat) (B : Nat) (w : World) (hB : B ≤ w.heap.size) (hA : InAt w B x P) (hF : insF x = []) (hn : -9223372036854775808 ≤ e.n ∧ e.n ≤ 9223372036854775807) :
    Calls Tryz.prog 106 #[InV x P, .agg (EvtCells e C c).toArray] w (HapOut w B (conF x e)) := by
  have h : InAt w w.heap.size x P := hA.more hB
  have HA := Lib.hid hA
  show Calls Tryz.prog 106 #[InV x P, .agg #[.int .i64 e.at_, .int .i64 e.kind, .int .i64 e.a, .int .i64 e.b, .int .i64 e.n, .string e.order.name, .slice C e.order.load.length c, .int .i64 e.order.pick.place, .int .i64 e.order.pick.opn, .int .i64 e.order.pick.close, .int .i64 e.order.pick.service, .int .i64 e.order.drop.place, .int .i64 e.order.drop.opn, .int .i64 e.order.drop.close, .int .i64 e.order.drop.service, .int .i64 e.order.skills, .int .i64 e.order.penalty, .int .i64 e.order.split, .int .i64 e.order.last, .int .i64 e.order.now, .bool e.order.off]] w _
  have HG := Lib.hid (good_of hF)
  have HN := Lib.hid hn
  have hl10 := (lim.lim_of hF).orders
  obtain ⟨W0, hW0⟩ : ∃ W0, ((w.alloc (.cells (insCs x P).toArray 30)).alloc (.cells (EvtCells e C c).toArray 37)).alloc (.cells nilCs.toArray 30) = W0 := ⟨_, rfl⟩
  have hB0 : Below w.heap.size w W0 := by rw [← hW0]; exact (((Below.refl _ _).alloc (Nat.le_refl _) _).alloc (by simp) _).alloc (by simp; omega) _
  have z0 : W0.heap.size = w.heap.size + 3 := by rw [← hW0]; simp
  have b0 : Blk W0 w.heap.size 30 (insCs x P) := by
    rw [← hW0]
    exact ((Blk.new w _ _).kept (World.grownBy_alloc _ _ none) (by simp)).kept (World.grownBy_alloc _ _ none) (by simp)
  have b1 : Blk W0 (w.heap.size + 1) 37 (EvtCells e C c) := by
    rw [← hW0]
    have h := Blk.new (w.alloc (.cells (insCs x P).toArray 30)) 37 (EvtCells e C c)
    rw [show (w.alloc (.cells (insCs x P).toArray 30)).heap.size = w.heap.size + 1 by simp] at h
    exact h.kept (World.grownBy_alloc _ _ none) (by simp)
  have b2 : Blk W0 (w.heap.size + 2) 30 nilCs := by
    rw [← hW0]
    have h := Blk.new ((w.alloc (.cells (insCs x P).toArray 30)).alloc (.cells (EvtCells e C c).toArray 37)) 30 nilCs
    rw [show ((w.alloc (.cells (insCs x P).toArray 30)).alloc (.cells (EvtCells e C c).toArray 37)).heap.size = w.heap.size + 2 by simp] at h
    exact h
  have hW1 : ((w.alloc (.cells #[.slice P.a0 x.net.places.length P.c0, .slice P.a1 x.net.arcs.length P.c1, .slice P.a2 x.types.length P.c2, .slice P.a3 x.orders.length P.c3, .slice P.a4 x.apart.length P.c4, .slice P.a5 x.before.length P.c5] 30)).alloc (.cells #[.int .i64 e.at_, .int .i64 e.kind, .int .i64 e.a, .int .i64 e.b, .int .i64 e.n, .string e.order.name, .slice C e.order.load.length c, .int .i64 e.order.pick.place, .int .i64 e.order.pick.opn, .int .i64 e.order.pick.close, .int .i64 e.order.pick.service, .int .i64 e.order.drop.place, .int .i64 e.order.drop.opn, .int .i64 e.order.drop.close, .int .i64 e.order.drop.service, .int .i64 e.order.skills, .int .i64 e.order.penalty, .int .i64 e.order.split, .int .i64 e.order.last, .int .i64 e.order.now, .bool e.order.off] 37)).alloc (.cells #[.slice none 0 0, .slice none 0 0, .slice none 0 0, .slice none 0 0, .slice none 0 0, .slice none 0 0] 30) = W0 := hW0
  have HX := Lib.hid (fun w' (h' : Below W0.heap.size W0 w') => And.intro (b0.below h') (And.intro (b1.below h') (b2.below h')))
  have HI := Lib.hid (fun w' (h' : Below w.heap.size w w') => h.go h')
  have HW1 := Lib.hid hW1
  have C0 := Below.refl W0.heap.size W0
  clear hW0 hW1 b0 b1 b2
  simp only [InV]
  obtain ⟨r, hr⟩ : ∃ r, conF x e = r := ⟨_, rfl⟩
  have HR := Lib.hid hr
  rw [hr]
  obtain ⟨N, hNN⟩ : ∃ N, x.orders.length = N := ⟨_, rfl⟩
  have HNN := Lib.hid hNN
  rw [hNN] at HW1 hl10 ⊢
  have HOR := Lib.hid hA.orders
  have c1 := (HX.out _ C0).2.1.cell (j := 2) rfl
  clear h hA hF hn hr hNN
  go_enter Tryz.func106, Tryz.ntmps106
  go_upto_region 1 with fail
  rw [HW1.out]
  clear HW1
  go_wp2_with ((with_reducible refine wpList_loadG stIns _ rfl ⟨w.heap.size, 0, none⟩ (insCs (x) P) ?_ ?_ ?_ ?_ ?_); exact rfl; exact rfl; exact (HX.out _ C0).1.cells; exact rfl)
  refine (there_any x P e.a W0 (HI.out _ hB0)).mono ?_
  rintro e1 w1 ⟨rfl, b1⟩
  have HB1 := Lib.hid b1
  have HX1 := Lib.hid (HX.out _ b1)
  have HBW := Lib.hid (hB0.trans (b1.mono (by omega)))
  clear c1 b1
  by_cases ht : thrF x e.a = 0
  rotate_left
  · have HRR : Hid (r = .error (thrF x e.a)) := Lib.hid (by rw [← HR.out]; unfold conF; rw [if_pos ht])
    obtain ⟨k, hk⟩ : ∃ k, thrF x e.a = k := ⟨_, rfl⟩
    have hkk : (k != 0) = true := by rw [← hk]; simp [ht]
    rw [hk] at HRR ⊢
    clear hk ht HR
    go_wp2_with (first
      | ((with_reducible refine wpList_loadG stIns _ rfl ⟨w.heap.size, 0, none⟩ (insCs (x) P) ?_ ?_ ?_ ?_ ?_); exact rfl; exact rfl; exact HX1.out.1.cells; exact rfl)
      | ((with_reducible refine wpList_storeL stIns rfl _ _ rfl (w.heap.size + 2) nilCs (insCs (x) P) ?_ ?_ ?_ ?_ ?_ (insCs_one _ _) ?_); exact rfl; exact rfl; exact HX1.out.2.2; exact rfl; exact rfl; intro wz k1 k2 k3 k4; have K := Lib.hid (And.intro k1 (And.intro k2 (And.intro k3 k4))); clear k1 k2 k3 k4))
    have HRz : Blk wz (w.heap.size + 2) 30 (insCs (x) P) := K.out.1
    refine bodyPost_ret (v := .tuple #[.agg (insCs (x) P).toArray, .int .i64 k]) (big.res_cell_tmp stIns Tryz.results106 rfl rfl HRz.cells rfl) rfl ?_
    rw [HRR.out]
    exact ⟨x, P, rfl, HBW.out.trans (K.out.2.2.2.mono (by omega))⟩
  rw [ht]
  obtain ⟨j, o, hj, ho, hoff⟩ := thr_ok ht
  have hjN : j < N := by rw [← HNN.out]; exact (List.getElem?_eq_some_iff.1 ho).1
  have HG9 := Lib.hid (HG.out o (List.mem_of_getElem? ho))
  have HR2 : Hid (r = if e.kind = 2 then .ok { x with orders := x.orders.set j { o with off := true } } else if shfB o.pick e.n && shfB o.drop e.n then .ok { x with orders := x.orders.set j (shfO o e.n) } else .error 2) := Lib.hid (by
    rw [← HR.out]
    unfold conF
    rw [if_neg (fun h => h ht), hj, Int.toNat_natCast, ho])
  have HO := Lib.hid ho
  have x3 : w1.cell? ⟨w.heap.size, 3, none⟩ = some (.slice P.a3 N P.c3) := by rw [← HNN.out]; exact HX1.out.1.cell (j := 3) rfl
  have f3 := HX1.out.1.frozen 3
  clear ht HR ho hoff HG
  go_wp2_with fail
  have hcl := cloneO_any P.a3 P.c3 x.orders B w1 (Nat.le_trans hB HBW.out.size) (HOR.out.below (HBW.out.mono hB)) (by rw [HNN.out]; omega)
  rw [HNN.out] at hcl
  refine hcl.mono ?_
  rintro e2 w2 ⟨A', c', CS, rfl, hown, hels, b2⟩
  obtain ⟨g, cap, hv, hgb, hglt⟩ := hown.form (by omega)
  obtain rfl : A' = some ⟨g, 0, none⟩ := by injection hv
  have hz1 : w.heap.size + 3 ≤ w1.heap.size := by have := HB1.out.size; omega
  have hX2 := HX.out _ (HB1.out.trans (b2.mono HB1.out.size))
  have x3 : w2.cell? ⟨w.heap.size, 3, none⟩ = some (.slice P.a3 N P.c3) := by rw [← HNN.out]; exact hX2.1.cell (j := 3) rfl
  have f3 := hX2.1.frozen 3
  go_upto_region 5 with fail
  obtain ⟨W3, hW3⟩ : ∃ W, w2.setCell ⟨w.heap.size, 3, none⟩ (.slice (some ⟨g, 0, none⟩) N c') = W := ⟨_, rfl⟩
  rw [hW3]
  have HS : Hid (ConSt B x P e C c w N g c' CS x.orders W3) := Lib.hid (by
    have hgr := grownBy_set w2 w.heap.size 3 (.slice (some ⟨g, 0, none⟩) N c')
    rw [← hW3]
    refine ⟨own_less (ownsRow_setCell_below hown (by show w.heap.size < w1.heap.size; omega) _) hz1, hels.keep hgr.size (fun b hb hp => ⟨hp, hgr.block b hb (fun e => by injection e; omega)⟩), hB, HNN.out, hX2.1.set 3 _, hX2.2.1.kept hgr (fun e => by injection e; omega), hX2.2.2.kept hgr (fun e => by injection e; omega), ?_⟩
    exact (HBW.out.trans (b2.mono HBW.out.size)).setCell (p := ⟨w.heap.size, 3, none⟩) (Nat.le_refl _) _)
  clear hW3 hown hels b2 hX2 x3 f3 hcl hz1 hgb hglt
  have x3 : W3.cell? ⟨w.heap.size, 3, none⟩ = some (.slice (some ⟨g, 0, none⟩) N c') := HS.out.bx.cell (j := 3) rfl
  have e1 := HS.out.be.cell (j := 1) rfl
  have e2 := HS.out.be.cell (j := 2) rfl
  have hj0 : (0 : Int) ≤ (j : Int) := by omega
  have hjn : (j : Int) < (N : Int) := by omega
  obtain ⟨C0, c0, hce, hof, hio, hth⟩ := HS.out.elem HO.out
  have HE := Lib.hid (And.intro hce (And.intro hof (And.intro hio hth)))
  clear hce hof hio hth
  obtain ⟨kb, hkb⟩ : ∃ b, (e.kind == 2) = b := ⟨_, rfl⟩
  have HKB : Hid ((e.kind = 2) ↔ kb = true) := Lib.hid (by rw [← hkb]; simp)
  cases kb
  · have HR3 : Hid (r = if shfB o.pick e.n && shfB o.drop e.n then .ok { x with orders := x.orders.set j (shfO o e.n) } else .error 2) := Lib.hid (by rw [HR2.out, if_neg (fun h => by have := HKB.out.1 h; cases this)])
    clear HR2
    obtain ⟨o', ho'⟩ : ∃ o', (shfR o e.n).1 = o' := ⟨_, rfl⟩
    obtain ⟨kk, hkk⟩ : ∃ kk, (shfR o e.n).2 = kk := ⟨_, rfl⟩
    have HFT : Hid (OrdFits o' ∧ o'.load = o.load) := Lib.hid (by
      rw [← ho']
      refine ⟨shfR_fits HG9.out.1 HG9.out.2 HE.out.2.1, ?_⟩
      unfold shfR
      split <;> rfl)
    have HRR : Hid ((r = .ok { x with orders := x.orders.set j o' } ∧ kk = 0) ∨ (r = .error 2 ∧ kk = 2)) := Lib.hid (by
      rw [HR3.out, ← ho', ← hkk]
      cases hb : shfB o.pick e.n && shfB o.drop e.n
      · exact .inr ⟨rfl, shfR_bad hb⟩
      · rw [shfR_ok hb]
        exact .inl ⟨rfl, rfl⟩)
    have HSH : Hid (∀ w, Calls Tryz.prog 166 #[.agg (OrdCells o C0 c0).toArray, .int .i64 e.n] w fun e1 w' => e1 = .returned (.tuple #[.agg (OrdCells o' C0 c0).toArray, .int .i64 kk]) ∧ Below w.heap.size w w') := Lib.hid (fun w => by
      have h := shifted_any o C0 c0 e.n w HG9.out.1 HG9.out.2 HN.out
      rw [ho', hkk] at h
      exact h)
    clear HR3 ho' hkk
    go_upto_region 10 with fail
    clear x3 e1 e2
    have HSS : Hid (∀ w', Below W3.heap.size W3 w' → w'.cell? ⟨w.heap.size + 1, 4, none⟩ = some (.int .i64 e.n)) := Lib.hid (fun w' hb => (HS.out.be.below hb).cell (j := 4) rfl)
    (refine wp_region_held_drew (S := (fun w' => w'.cell? ⟨w.heap.size + 1, 4, none⟩ = some (.int .i64 e.n))) (by kernel_rfl) ?_ (fun hHeld => ?_))
    · exact HSS.out _ (Below.refl _ _).drew
    (refine wpAnyH_take (i := 0) (v := ?_) rfl (by kernel_rfl) (by kernel_rfl) (by kernel_rfl) (fun _ _ _ h => h) (Or.inl ⟨by kernel_rfl, ?_⟩) (by assumption) ?_; rotate_left; (focus (intro w hSw; (try dsimp only at hSw); go_simp; all_goals with_reducible rfl)); (try simp only [Act.put, List.getElem_toArray, List.getElem_cons_succ, List.getElem_cons_zero, List.setIfInBounds_toArray, List.set_cons_zero, List.set_cons_succ]))
    (refine wpAnyH_take (i := 1) (v := ?_) rfl (by kernel_rfl) (by kernel_rfl) (by kernel_rfl) (fun _ _ _ h => h) (Or.inl ⟨by kernel_rfl, ?_⟩) (by assumption) ?_; rotate_left; (focus (intro w hSw; (try dsimp only at hSw); go_simp; all_goals with_reducible rfl)); (try simp only [Act.put, List.getElem_toArray, List.getElem_cons_succ, List.getElem_cons_zero, List.setIfInBounds_toArray, List.set_cons_zero, List.set_cons_succ]))
    (refine wpAnyH_take (i := 2) (v := ?_) rfl (by kernel_rfl) (by kernel_rfl) (by kernel_rfl) (fun _ _ _ h => h) (Or.inl ⟨by kernel_rfl, ?_⟩) (by assumption) ?_; rotate_left; (focus (intro w hSw; (try dsimp only at hSw); go_simp; all_goals with_reducible rfl)); (try simp only [Act.put, List.getElem_toArray, List.getElem_cons_succ, List.getElem_cons_zero, List.setIfInBounds_toArray, List.set_cons_zero, List.set_cons_succ]))
    (refine wpAnyH_take (i := 4) (v := ?_) rfl (by kernel_rfl) (by kernel_rfl) (by kernel_rfl) (fun _ _ _ h => h) (Or.inl ⟨by kernel_rfl, ?_⟩) (by assumption) ?_; rotate_left; (focus (intro w hSw; (try dsimp only at hSw); go_simp; all_goals with_reducible rfl)); (try simp only [Act.put, List.getElem_toArray, List.getElem_cons_succ, List.getElem_cons_zero, List.setIfInBounds_toArray, List.set_cons_zero, List.set_cons_succ]))
    (refine wpAnyH_take (i := 5) (v := ?_) rfl (by kernel_rfl) (by kernel_rfl) (by kernel_rfl) (fun _ _ _ h => h) (Or.inl ⟨by kernel_rfl, ?_⟩) (by assumption) ?_; rotate_left; (focus (intro w hSw; (try dsimp only at hSw); go_simp; all_goals with_reducible rfl)); (try simp only [Act.put, List.getElem_toArray, List.getElem_cons_succ, List.getElem_cons_zero, List.setIfInBounds_toArray, List.set_cons_zero, List.set_cons_succ]))
    (refine wpAnyH_ready (rs := [3]) (by kernel_rfl) (by simp) ?_; refine AllReadyH.cons rfl (fun K hK => ?_) AllReadyH.nil)
    refine step_loadS stOrd' rfl _ rfl ⟨g, j * 16, none⟩ (OrdCells o C0 c0) rfl HE.out.1 rfl ?_
    refine hK.out _ _ (HSS.out _ (Below.refl _ _).drew) (fun hHeld => ?_)
    clear hK K
    (try simp only [Act.put, List.getElem_toArray, List.getElem_cons_succ, List.getElem_cons_zero, List.setIfInBounds_toArray, List.set_cons_zero, List.set_cons_succ])
    (refine wpAnyH_ready (rs := [6]) (by kernel_rfl) (by simp) ?_; refine AllReadyH.cons rfl (fun K hK => ?_) AllReadyH.nil)
    go_simp
    refine (HSH.out _).mono ?_
    rintro e5 w5 ⟨rfl, b5⟩
    have B5 : Below W3.heap.size W3 w5 := ((Below.refl _ _).drew).trans b5
    have HS5 := Lib.hid (HS.out.below B5)
    clear b5
    refine hK.out _ _ (HSS.out _ B5) (fun hHeld => ?_)
    clear hK K
    (try simp only [Act.put, List.getElem_toArray, List.getElem_cons_succ, List.getElem_cons_zero, List.setIfInBounds_toArray, List.set_cons_zero, List.set_cons_succ])
    (refine wpAnyH_take (i := 7) (v := ?_) rfl (by kernel_rfl) (by kernel_rfl) (by kernel_rfl) (fun _ _ _ h => h) (Or.inl ⟨by kernel_rfl, ?_⟩) (by assumption) ?_; rotate_left; (focus (intro w hSw; (try dsimp only at hSw); go_simp; all_goals with_reducible rfl)); (try simp only [Act.put, List.getElem_toArray, List.getElem_cons_succ, List.getElem_cons_zero, List.setIfInBounds_toArray, List.set_cons_zero, List.set_cons_succ]))
    (refine wpAnyH_take (i := 8) (v := ?_) rfl (by kernel_rfl) (by kernel_rfl) (by kernel_rfl) (fun _ _ _ h => h) (Or.inl ⟨by kernel_rfl, ?_⟩) (by assumption) ?_; rotate_left; (focus (intro w hSw; (try dsimp only at hSw); go_simp; all_goals with_reducible rfl)); (try simp only [Act.put, List.getElem_toArray, List.getElem_cons_succ, List.getElem_cons_zero, List.setIfInBounds_toArray, List.set_cons_zero, List.set_cons_succ]))
    (refine wpAnyH_take (i := 9) (v := ?_) rfl (by kernel_rfl) (by kernel_rfl) (by kernel_rfl) (fun _ _ _ h => h) (Or.inl ⟨by kernel_rfl, ?_⟩) (by assumption) ?_; rotate_left; (focus (intro w hSw; (try dsimp only at hSw); go_simp; all_goals with_reducible rfl)); (try simp only [Act.put, List.getElem_toArray, List.getElem_cons_succ, List.getElem_cons_zero, List.setIfInBounds_toArray, List.set_cons_zero, List.set_cons_succ]))
    (refine wpAnyH_take (i := 10) (v := ?_) rfl (by kernel_rfl) (by kernel_rfl) (by kernel_rfl) (fun _ _ _ h => h) (Or.inl ⟨by kernel_rfl, ?_⟩) (by assumption) ?_; rotate_left; (focus (intro w hSw; (try dsimp only at hSw); go_simp; all_goals with_reducible rfl)); (try simp only [Act.put, List.getElem_toArray, List.getElem_cons_succ, List.getElem_cons_zero, List.setIfInBounds_toArray, List.set_cons_zero, List.set_cons_succ]))
    (refine wpAnyH_ready (rs := [11]) (by kernel_rfl) (by simp) ?_; refine AllReadyH.cons rfl (fun K hK => ?_) AllReadyH.nil)
    refine step_storeM stOrd' rfl _ _ rfl g (j * 16) (OrdCells o' C0 c0) rfl rfl (own_there HS5.out.own (by have h1 := HS5.out.own.1; omega)) rfl (ordCells_one _ _ _) ?_
    have HS6 : Hid (ConSt B x P e C c w N g c' (setM CS (j * 16) (OrdCells o' C0 c0)) (x.orders.set j o') (w5.setCells g (j * 16) (OrdCells o' C0 c0))) := Lib.hid (by
      refine HS5.out.cells (by rw [List.length_set]; exact HNN.out) ?_
      refine EG.put (r := oOrd) HS5.out.els (by rw [HNN.out]; exact hjN) rfl (oOrd_mk (t := o') ?_ HFT.out.1)
      rw [HFT.out.2]
      exact intsOff_keep HE.out.2.2.1 B5.size (fun b hb hp => ⟨hp, B5.block b hb⟩))
    obtain ⟨W6, hW6⟩ : ∃ W, w5.setCells g (j * 16) (OrdCells o' C0 c0) = W := ⟨_, rfl⟩
    rw [hW6] at HS6 ⊢
    clear hW6 HS5 B5 HSS
    refine hK.out _ _ ((HS6.out.be.cell (j := 4) rfl)) (fun hHeld => ?_)
    clear hK K
    (try simp only [Act.put, List.getElem_toArray, List.getElem_cons_succ, List.getElem_cons_zero, List.setIfInBounds_toArray, List.set_cons_zero, List.set_cons_succ])
    (refine wpAnyH_take (i := 12) (v := ?_) rfl (by kernel_rfl) (by kernel_rfl) (by kernel_rfl) (fun _ _ _ h => h) (Or.inl ⟨by kernel_rfl, ?_⟩) (by assumption) ?_; rotate_left; (focus (intro w hSw; (try dsimp only at hSw); go_simp; all_goals with_reducible rfl)); (try simp only [Act.put, List.getElem_toArray, List.getElem_cons_succ, List.getElem_cons_zero, List.setIfInBounds_toArray, List.set_cons_zero, List.set_cons_succ]))
    (refine wpAnyH_done (by kernel_rfl) ?_ _)
    have HB4 : Hid (Blk W6 w.heap.size 30 (insCs { x with orders := x.orders.set j o' } ⟨P.a0, P.c0, P.a1, P.c1, P.a2, P.c2, some ⟨g, 0, none⟩, c', P.a4, P.c4, P.a5, P.c5⟩)) := Lib.hid (by
      have h := HS6.out.bx
      rw [insCs_ord x P (x.orders.set j o') _ N c' (by rw [List.length_set]; exact HNN.out)] at h
      exact h)
    go_wp2_with (first
      | ((with_reducible refine wpList_loadG stIns _ rfl ⟨w.heap.size, 0, none⟩ (insCs ({ x with orders := x.orders.set j o' }) ⟨P.a0, P.c0, P.a1, P.c1, P.a2, P.c2, some ⟨g, 0, none⟩, c', P.a4, P.c4, P.a5, P.c5⟩) ?_ ?_ ?_ ?_ ?_); exact rfl; exact rfl; exact HB4.out.cells; exact rfl)
      | ((with_reducible refine wpList_storeL stIns rfl _ _ rfl (w.heap.size + 2) nilCs (insCs ({ x with orders := x.orders.set j o' }) ⟨P.a0, P.c0, P.a1, P.c1, P.a2, P.c2, some ⟨g, 0, none⟩, c', P.a4, P.c4, P.a5, P.c5⟩) ?_ ?_ ?_ ?_ ?_ (insCs_one _ _) ?_); exact rfl; exact rfl; exact HS6.out.br; exact rfl; exact rfl; intro wz k1 k2 k3 k4; have K := Lib.hid (And.intro k1 (And.intro k2 (And.intro k3 k4))); clear k1 k2 k3 k4))
    have HRz : Blk wz (w.heap.size + 2) 30 (insCs { x with orders := x.orders.set j o' } ⟨P.a0, P.c0, P.a1, P.c1, P.a2, P.c2, some ⟨g, 0, none⟩, c', P.a4, P.c4, P.a5, P.c5⟩) := K.out.1
    refine bodyPost_ret (v := .tuple #[.agg (insCs { x with orders := x.orders.set j o' } ⟨P.a0, P.c0, P.a1, P.c1, P.a2, P.c2, some ⟨g, 0, none⟩, c', P.a4, P.c4, P.a5, P.c5⟩).toArray, .int .i64 kk]) (big.res_cell_tmp stIns Tryz.results106 rfl rfl HRz.cells rfl) rfl ?_
    have hbz : Below w.heap.size w wz := HS6.out.bel.trans (K.out.2.2.2.mono (by omega))
    rcases HRR.out with ⟨h1, h2⟩ | ⟨h1, h2⟩
    · rw [h1, h2]
      have hgz : W6.heap.size ≤ wz.heap.size := by rw [K.out.2.2.1]; exact Nat.le_refl _
      have hown := own_skip HS6.out.own HS6.out.br (by decide) K.out.2.1
      have hels := EG.keep2 HS6.out.els (HS6.out.bel.mono hB) (hbz.mono hB) hgz
      exact ⟨_, rfl, con_fr HA.out hB hbz hown hels HS6.out.len (by omega), hbz⟩
    · rw [h1, h2]
      exact ⟨_, _, rfl, hbz⟩
  · have HRR : Hid (r = .ok { x with orders := x.orders.set j { o with off := true } }) := Lib.hid (by rw [HR2.out, if_pos (HKB.out.2 rfl)])
    clear HR2
    have y15 : W3.cell? ⟨g, j * 16 + 15, none⟩ = some (.bool o.off) := HE.out.1 15 _ rfl
    have f15 := HS.out.own.frozenAt (j * 16 + 15)
    go_upto_region 8 with fail
    obtain ⟨W4, hW4⟩ : ∃ W, W3.setCell ⟨g, j * 16 + 15, none⟩ (.bool true) = W := ⟨_, rfl⟩
    rw [hW4]
    have HS4 : Hid (ConSt B x P e C c w N g c' (setM CS (j * 16 + 15) [.bool true]) (x.orders.set j { o with off := true }) W4) := Lib.hid (by
      rw [← hW4]
      refine HS.out.cells (o := j * 16 + 15) (vs := [.bool true]) (by rw [List.length_set]; exact HNN.out) ?_
      refine EG.mod (r := oOrd) HS.out.els (by rw [HNN.out]; exact hjN) (show 15 < 16 by decide) ?_
      obtain ⟨D, dd, hc, hi, hf⟩ := oOrd_at (HS.out.els.2 j o HO.out)
      rw [hc]
      exact oOrd_mk (t := { o with off := true }) hi hf)
    clear hW4 y15 f15 x3 e1 e2
    have HB4 : Hid (Blk W4 w.heap.size 30 (insCs { x with orders := x.orders.set j { o with off := true } } ⟨P.a0, P.c0, P.a1, P.c1, P.a2, P.c2, some ⟨g, 0, none⟩, c', P.a4, P.c4, P.a5, P.c5⟩)) := Lib.hid (by
      have h := HS4.out.bx
      rw [insCs_ord x P (x.orders.set j { o with off := true }) _ N c' (by rw [List.length_set]; exact HNN.out)] at h
      exact h)
    go_wp2_with (first
      | ((with_reducible refine wpList_loadG stIns _ rfl ⟨w.heap.size, 0, none⟩ (insCs ({ x with orders := x.orders.set j { o with off := true } }) ⟨P.a0, P.c0, P.a1, P.c1, P.a2, P.c2, some ⟨g, 0, none⟩, c', P.a4, P.c4, P.a5, P.c5⟩) ?_ ?_ ?_ ?_ ?_); exact rfl; exact rfl; exact HB4.out.cells; exact rfl)
      | ((with_reducible refine wpList_storeL stIns rfl _ _ rfl (w.heap.size + 2) nilCs (insCs ({ x with orders := x.orders.set j { o with off := true } }) ⟨P.a0, P.c0, P.a1, P.c1, P.a2, P.c2, some ⟨g, 0, none⟩, c', P.a4, P.c4, P.a5, P.c5⟩) ?_ ?_ ?_ ?_ ?_ (insCs_one _ _) ?_); exact rfl; exact rfl; exact HS4.out.br; exact rfl; exact rfl; intro wz k1 k2 k3 k4; have K := Lib.hid (And.intro k1 (And.intro k2 (And.intro k3 k4))); clear k1 k2 k3 k4))
    have HRz : Blk wz (w.heap.size + 2) 30 (insCs ({ x with orders := x.orders.set j { o with off := true } }) ⟨P.a0, P.c0, P.a1, P.c1, P.a2, P.c2, some ⟨g, 0, none⟩, c', P.a4, P.c4, P.a5, P.c5⟩) := K.out.1
    refine bodyPost_ret (v := .tuple #[.agg (insCs ({ x with orders := x.orders.set j { o with off := true } }) ⟨P.a0, P.c0, P.a1, P.c1, P.a2, P.c2, some ⟨g, 0, none⟩, c', P.a4, P.c4, P.a5, P.c5⟩).toArray, .int .i64 0]) (big.res_cell_tmp stIns Tryz.results106 rfl rfl HRz.cells rfl) rfl ?_
    rw [HRR.out]
    have hbz : Below w.heap.size w wz := HS4.out.bel.trans (K.out.2.2.2.mono (by omega))
    have hgz : W4.heap.size ≤ wz.heap.size := by rw [K.out.2.2.1]; exact Nat.le_refl _
    have hown := own_skip HS4.out.own HS4.out.br (by decide) K.out.2.1
    have hels := EG.keep2 HS4.out.els (HS4.out.bel.mono hB) (hbz.mono hB) hgz
    exact ⟨_, rfl, con_fr HA.out hB hbz hown hels HS4.out.len (by omega), hbz⟩
end Go.Proofs.YtofabhenmplkoaaGreatDoor.evt

/- What an event does to an instance; which events can be applied. The program. -/
namespace Go.Proofs.YtofabhenmplkoaaGreatDoor.evt
open Go.RowKit
open Go.Proofs.YtofabhenmplkoaaGreatDoor.lib Go.Proofs.YtofabhenmplkoaaGreatDoor.rd Go.Proofs.YtofabhenmplkoaaGreatDoor.app Go.Proofs.YtofabhenmplkoaaGreatDoor.els Go.Proofs.YtofabhenmplkoaaGreatDoor.off Go.Proofs.YtofabhenmplkoaaGreatDoor.typ Go.Proofs.YtofabhenmplkoaaGreatDoor.big Go.Proofs.YtofabhenmplkoaaGreatDoor.ins Go.Proofs.YtofabhenmplkoaaGreatDoor.ord Go.Proofs.YtofabhenmplkoaaGreatDoor.gen
set_option linter.unusedVariables false
set_option linter.unusedSimpArgs false

/-- Where an event about a type stands: its boxes, and the types, copied. -/
structure TcSt (B : Nat) (x : Ins) (P : InP) (e : Evt) (C : Option Addr) (c : Nat) (w : World) (N g d : Nat) (CS : List Value) (xs : List Ty) (wx : World) : Prop where
  own : wx.ownsRow (w.heap.size + 3) 56 14 (.slice (some ⟨g, 0, none⟩) N d) N CS
  els : EG oTy wx (fun b => b < B) CS xs
  hB : B ≤ w.heap.size
  len : xs.length = N
  bx : Blk wx w.heap.size 30 ((insCs x P).set 2 (.slice (some ⟨g, 0, none⟩) N d))
  be : Blk wx (w.heap.size + 1) 37 (EvtCells e C c)
  br : Blk wx (w.heap.size + 2) 30 nilCs
  bel : Below w.heap.size w wx
section
variable {B : Nat} {x : Ins} {P : InP} {e : Evt} {C : Option Addr} {c : Nat} {w wx wy : World} {N g d : Nat} {CS : List Value} {xs : List Ty}
theorem TcSt.lo (h : TcSt B x P e C c w N g d CS xs wx) : w.heap.size + 3 ≤ g ∧ g < wx.heap.size := World.ownsRow.lt h.own g rfl
theorem TcSt.below (h : TcSt B x P e C c w N g d CS xs wx) (hb : Below wx.heap.size wx wy) : TcSt B x P e C c w N g d CS xs wy :=
  ⟨own_below h.own hb, h.els.below hb, h.hB, h.len, h.bx.below hb, h.be.below hb, h.br.below hb, h.bel.trans (hb.mono (by have := h.lo; omega))⟩
/-- Cells of the orders' row are written. -/
theorem TcSt.cells {xs' : List Ty} {o : Nat} {vs : List Value} (h : TcSt B x P e C c w N g d CS xs wx) (hl : xs'.length = N) (he : EG oTy wx (fun b => b < B) (setM CS o vs) xs') :
    TcSt B x P e C c w N g d (setM CS o vs) xs' (wx.setCells g o vs) := by
  have hlo := h.lo
  have hBB := h.hB
  obtain ⟨h1, h2⟩ := own_setCells vs o wx CS h.own
  refine ⟨h1, he.keep h2.size (fun b hb hp => ⟨hp, h2.block b hb (fun e => by injection e; omega)⟩), hBB, hl, h.bx.kept h2 (fun e => by injection e; omega), h.be.kept h2 (fun e => by injection e; omega), h.br.kept h2 (fun e => by injection e; omega), ?_⟩
  exact h.bel.grown h2 (by omega) (fun q e => by injection e; omega)
theorem TcSt.elem {j : Nat} {o : Ty} (h : TcSt B x P e C c w N g d CS xs wx) (hj : xs[j]? = some o) : ∃ C0 c0, CellsAt wx ⟨g, j * 14, none⟩ (TyCells o C0 c0) ∧ TyFits o ∧ IntsOff wx (fun b => b < B) C0 o.cap ∧ wx.there g (j * 14) 14 := by
  have hkl := (List.getElem?_eq_some_iff.1 hj).1
  obtain ⟨cc, h3, h4, h5⟩ := h.els.at_ hj
  obtain ⟨C0, c0, rfl, h0, hf⟩ := oTy_at h3
  have hll := h.len
  have hcl := h.own.1
  refine ⟨C0, c0, fun i u hu => ?_, hf, h0, own_there h.own (by omega)⟩
  have hi : i < 14 := (List.getElem?_eq_some_iff.1 hu).1
  rw [Addr.add_mid, h.own.cellAt (j * 14 + i) (by omega)]
  exact h5 i u hu
end
theorem insCs_ty (x : Ins) (P : InP) (ts : List Ty) (A : Option Addr) (N c : Nat) (h : ts.length = N) : (insCs x P).set 2 (.slice A N c) = insCs { x with types := ts } ⟨P.a0, P.c0, P.a1, P.c1, A, c, P.a3, P.c3, P.a4, P.c4, P.a5, P.c5⟩ := by
  subst h
  rfl
theorem ty_at' {w : World} {x : Ins} {P : InP} {ts : List Ty} {A : Option Addr} {c : Nat} (h : InAt w w.heap.size x P) (hr : RowAt rTy w w.heap.size A ts) (hc : ts.length ≤ c) : InAt w w.heap.size { x with types := ts } ⟨P.a0, P.c0, P.a1, P.c1, A, c, P.a3, P.c3, P.a4, P.c4, P.a5, P.c5⟩ :=
  ⟨h.places, h.arcs, hr, h.orders, h.apart, h.before, hc, h.capO, h.capA, h.capB⟩
theorem insCs_net (x : Ins) (P : InP) (N : Net) (A0 A1 : Option Addr) (n0 c0 n1 c1 : Nat) (h0 : N.places.length = n0) (h1 : N.arcs.length = n1) : ((insCs x P).set 0 (.slice A0 n0 c0)).set 1 (.slice A1 n1 c1) = insCs { x with net := N } ⟨A0, c0, A1, c1, P.a2, P.c2, P.a3, P.c3, P.a4, P.c4, P.a5, P.c5⟩ := by
  subst h0
  subst h1
  rfl
theorem net_at' {w : World} {x : Ins} {P : InP} {N : Net} {A : Option Addr} {c : Nat} (h : InAt w w.heap.size x P) (hr : RowAt rArc w w.heap.size A N.arcs) (hp : N.places = x.net.places) : InAt w w.heap.size { x with net := N } ⟨P.a0, P.c0, A, c, P.a2, P.c2, P.a3, P.c3, P.a4, P.c4, P.a5, P.c5⟩ :=
  ⟨by show RowAt rStr w w.heap.size P.a0 N.places; rw [hp]; exact h.places, hr, h.types, h.orders, h.apart, h.before, h.capT, h.capO, h.capA, h.capB⟩
/-- The types of what is handed back, in the call's own row. -/
theorem ty_fr {B N c' : Nat} {x : Ins} {P : InP} {w wz : World} {A : Option Addr} {CS : List Value} {ts : List Ty} (hA : InAt w B x P) (hB : B ≤ w.heap.size) (hbz : Below w.heap.size w wz) (hown : wz.ownsRow (w.heap.size + 3) 56 14 (.slice A N c') N CS) (hels : EG oTy wz (fun b => b < B) CS ts) (hlen : ts.length = N) (hN : N ≤ 1000000) :
    InFr wz B w.heap.size { x with types := ts } ⟨P.a0, P.c0, P.a1, P.c1, A, c', P.a3, P.c3, P.a4, P.c4, P.a5, P.c5⟩ := fun w' hs hk => by
  have hsz := hbz.size
  have hi := (hA.blocks (w' := w') (fun b hb => (hk b (by omega) (.inl hb)).trans (hbz.block b (by omega)))).more (show B ≤ w'.heap.size by omega)
  have ho := own_fr hown (w' := w') ⟨hs, fun b hb hp => hk b hb (.inr (by have h : w.heap.size + 3 ≤ b := hp; omega))⟩
  have he := hels.keep hs (fun b hb hp => ⟨hp, hk b hb (.inl hp)⟩)
  exact ty_at' hi (EG.row (by rw [hlen]; exact ho) he (by omega)) (by rw [hlen]; exact own_len_cap ho)
/-- The network of what is handed back. -/
theorem net_fr {B c : Nat} {x : Ins} {P : InP} {w wz : World} {A : Option Addr} {N : Net} (hA : InAt w B x P) (hB : B ≤ w.heap.size) (hbz : Below w.heap.size w wz) (hrow : RowOff oArc wz (fun b => b < B ∨ w.heap.size + 3 ≤ b) A N.arcs) (hp : N.places = x.net.places) :
    InFr wz B w.heap.size { x with net := N } ⟨P.a0, P.c0, A, c, P.a2, P.c2, P.a3, P.c3, P.a4, P.c4, P.a5, P.c5⟩ := fun w' hs hk => by
  have hsz := hbz.size
  have hi := (hA.blocks (w' := w') (fun b hb => (hk b (by omega) (.inl hb)).trans (hbz.block b (by omega)))).more (show B ≤ w'.heap.size by omega)
  have hr := (hrow.keep (P' := fun _ => True) hs (fun b hb hp => ⟨trivial, hk b hb (by rcases hp with h | h <;> omega)⟩)).row
  exact net_at' hi hr hp
theorem slw_places {N N' : Net} {f t at_ n : Int} (h : slwF N f t at_ n = .ok N') : N'.places = N.places := by
  unfold slwF at h
  split at h
  · cases h
  · split at h
    · cases h
    · split at h
      · cases h
      · split at h
        · injection h with h
          rw [← h]
        · cases h
theorem lim_add {x : Ins} (o : Ord) (h : Lim x) : x.orders.length < 10 → Lim (addI x o) := fun hl =>
  ⟨h.places, h.arcs, h.points, h.few, h.net, h.types, by show (x.orders ++ [o]).length ≤ 20; rw [List.length_append]; show _ + 1 ≤ 20; omega, h.apart, h.before⟩
theorem hap_con {x : Ins} {e : Evt} (h1 : ¬ e.kind = 1) (h3 : ¬ e.kind = 3) (h4 : ¬ e.kind = 4) : hapF x e = conF x e := by
  unfold hapF conF
  rw [if_neg h1, if_neg h3, if_neg h4]
  by_cases ht : thrF x e.a = 0
  · rw [if_neg (fun h => h ht), if_neg (fun h => h ht)]
    cases x.orders[e.a.toNat]? <;> rfl
  · rw [if_pos ht, if_pos ht]
/-- The code of what is handed back. -/
def hapK (r : Except Int Ins) : Int := match r with
  | .error k => k
  | .ok _ => 0
/-- The delays of an instance that is accepted. -/
theorem slow_of {x : Ins} (h : insF x = []) : ∀ a ∈ x.net.arcs, a.slow.length ≤ 500 ∧ ∀ p ∈ a.slow, -1000000 ≤ p.a ∧ p.a ≤ 1000000 := fun a ha => by
  obtain ⟨hN, hT, hO, hR⟩ := par.insF_nil.1 h
  unfold insN at hN
  obtain ⟨j, hj⟩ := List.mem_iff_getElem?.1 ha
  have h1 := (lim.netTo_nil _ hN).2 j a (List.getElem?_eq_some_iff.1 hj).1 hj
  unfold net.arcE at h1
  rw [List.append_eq_nil_iff, List.append_eq_nil_iff, List.map_eq_nil_iff] at h1
  have h2 := h1.2
  have key : ∀ k, net.slTo a.slow k = [] → a.slow.length ≤ 16 ∧ ∀ (i : Nat) p, i < k → a.slow[i]? = some p → net.slBad a.slow i p = false := by
    intro k
    induction k with
    | zero =>
      intro h
      unfold net.slTo at h
      split at h
      · cases h
      · exact ⟨by omega, fun i p hi => absurd hi (by omega)⟩
    | succ k ih =>
      intro h
      rw [net.slTo, List.append_eq_nil_iff] at h
      obtain ⟨g1, g2⟩ := ih h.1
      refine ⟨g1, fun i p hi hp => ?_⟩
      rcases Nat.lt_or_ge i k with hlt | hge
      · exact g2 i p hlt hp
      · obtain rfl : i = k := by omega
        have h3 := h.2
        unfold net.slAt at h3
        rw [hp] at h3
        have h4 : net.slP a.slow i p = [] := h3
        unfold net.slP at h4
        split at h4
        · cases h4
        · rename_i h5
          simpa using h5
  obtain ⟨g1, g2⟩ := key _ h2
  refine ⟨by omega, fun p hp => ?_⟩
  obtain ⟨i, hi⟩ := List.mem_iff_getElem?.1 hp
  have h3 := g2 i p (List.getElem?_eq_some_iff.1 hi).1 hi
  unfold net.slBad win.tickB at h3
  simp only [Bool.or_eq_false_iff] at h3
  simp at h3
  omega
/-- The counts of an instance that is accepted. -/
theorem cnt_of {x : Ins} (h : insF x = []) : ∀ t ∈ x.types, 0 ≤ t.count ∧ t.count ≤ 10 := fun t ht => by
  obtain ⟨hN, hT, hO, hR⟩ := par.insF_nil.1 h
  unfold insT at hT
  obtain ⟨j, hj⟩ := List.mem_iff_getElem?.1 ht
  have key : ∀ k, flt.fltsTo ((x.net.places.length : Int) - 1) x.types k = [] → ∀ (i : Nat) t, i < k → x.types[i]? = some t → flt.errsL ((x.net.places.length : Int) - 1) x.types i t (flt.dimsN x.types) = [] := by
    intro k
    induction k with
    | zero => intro _ i t hi; omega
    | succ k ih =>
      intro hk i t hi ht
      rw [flt.fltsTo, List.append_eq_nil_iff] at hk
      rcases Nat.lt_or_ge i k with h | h
      · exact ih hk.1 i t h ht
      · obtain rfl : i = k := by omega
        have h3 := hk.2
        unfold flt.fltsAt at h3
        rw [ht] at h3
        exact List.map_eq_nil_iff.1 h3
  have h0 := key _ hT j t (List.getElem?_eq_some_iff.1 hj).1 hj
  unfold flt.errsL at h0
  have hp : ∀ {xs : List Int} {r : Bool} {u : Int}, flt.pushIf xs r u = [] → xs = [] ∧ r = true := fun {xs r u} h => by
    unfold flt.pushIf at h
    cases r
    · simp at h
    · exact ⟨by simpa using h, rfl⟩
  have h7 := (hp (hp (hp (hp (hp (hp (hp h0).1).1).1).1).1).1).2
  unfold flt.inB at h7
  simpa using h7
set_option maxRecDepth 20000 in
set_option maxHeartbeats 8000000 in
theorem happens_any (x : Ins) (P : InP) (e : Evt) (C : Option Addr) (c : Nat) (B : Nat) (w : World) (hB : B ≤ w.heap.size) (hA : InAt w B x P) (hF : insF x = []) (hC : Ints w B C e.order.load) (hf : EvtFits e) :
    Calls Tryz.prog 46 #[InV x P, .agg (EvtCells e C c).toArray] w (HapOut w B (hapF x e)) := by
  have h : InAt w w.heap.size x P := hA.more hB
  have HA := Lib.hid hA
  show Calls Tryz.prog 46 #[InV x P, .agg #[.int .i64 e.at_, .int .i64 e.kind, .int .i64 e.a, .int .i64 e.b, .int .i64 e.n, .string e.order.name, .slice C e.order.load.length c, .int .i64 e.order.pick.place, .int .i64 e.order.pick.opn, .int .i64 e.order.pick.close, .int .i64 e.order.pick.service, .int .i64 e.order.drop.place, .int .i64 e.order.drop.opn, .int .i64 e.order.drop.close, .int .i64 e.order.drop.service, .int .i64 e.order.skills, .int .i64 e.order.penalty, .int .i64 e.order.split, .int .i64 e.order.last, .int .i64 e.order.now, .bool e.order.off]] w _
  have HF := Lib.hid hF
  have HFT := Lib.hid hf
  have HCC := Lib.hid hC
  have HLM := Lib.hid (lim.lim_of hF)
  have HOW := Lib.hid h
  obtain ⟨W0, hW0⟩ : ∃ W0, ((w.alloc (.cells (insCs x P).toArray 30)).alloc (.cells (EvtCells e C c).toArray 37)).alloc (.cells nilCs.toArray 30) = W0 := ⟨_, rfl⟩
  have hB0 : Below w.heap.size w W0 := by rw [← hW0]; exact (((Below.refl _ _).alloc (Nat.le_refl _) _).alloc (by simp) _).alloc (by simp; omega) _
  have z0 : W0.heap.size = w.heap.size + 3 := by rw [← hW0]; simp
  have b0 : Blk W0 w.heap.size 30 (insCs x P) := by
    rw [← hW0]
    exact ((Blk.new w _ _).kept (World.grownBy_alloc _ _ none) (by simp)).kept (World.grownBy_alloc _ _ none) (by simp)
  have b1 : Blk W0 (w.heap.size + 1) 37 (EvtCells e C c) := by
    rw [← hW0]
    have h := Blk.new (w.alloc (.cells (insCs x P).toArray 30)) 37 (EvtCells e C c)
    rw [show (w.alloc (.cells (insCs x P).toArray 30)).heap.size = w.heap.size + 1 by simp] at h
    exact h.kept (World.grownBy_alloc _ _ none) (by simp)
  have b2 : Blk W0 (w.heap.size + 2) 30 nilCs := by
    rw [← hW0]
    have h := Blk.new ((w.alloc (.cells (insCs x P).toArray 30)).alloc (.cells (EvtCells e C c).toArray 37)) 30 nilCs
    rw [show ((w.alloc (.cells (insCs x P).toArray 30)).alloc (.cells (EvtCells e C c).toArray 37)).heap.size = w.heap.size + 2 by simp] at h
    exact h
  have hW1 : ((w.alloc (.cells #[.slice P.a0 x.net.places.length P.c0, .slice P.a1 x.net.arcs.length P.c1, .slice P.a2 x.types.length P.c2, .slice P.a3 x.orders.length P.c3, .slice P.a4 x.apart.length P.c4, .slice P.a5 x.before.length P.c5] 30)).alloc (.cells #[.int .i64 e.at_, .int .i64 e.kind, .int .i64 e.a, .int .i64 e.b, .int .i64 e.n, .string e.order.name, .slice C e.order.load.length c, .int .i64 e.order.pick.place, .int .i64 e.order.pick.opn, .int .i64 e.order.pick.close, .int .i64 e.order.pick.service, .int .i64 e.order.drop.place, .int .i64 e.order.drop.opn, .int .i64 e.order.drop.close, .int .i64 e.order.drop.service, .int .i64 e.order.skills, .int .i64 e.order.penalty, .int .i64 e.order.split, .int .i64 e.order.last, .int .i64 e.order.now, .bool e.order.off] 37)).alloc (.cells #[.slice none 0 0, .slice none 0 0, .slice none 0 0, .slice none 0 0, .slice none 0 0, .slice none 0 0] 30) = W0 := hW0
  have HX := Lib.hid (fun w' (h' : Below W0.heap.size W0 w') => And.intro (b0.below h') (And.intro (b1.below h') (b2.below h')))
  have HI := Lib.hid (fun w' (h' : Below w.heap.size w w') => h.go h')
  have HW1 := Lib.hid hW1
  have C0 := Below.refl W0.heap.size W0
  clear hW0 hW1 b0 b1 b2
  simp only [InV]
  obtain ⟨r, hr⟩ : ∃ r, hapF x e = r := ⟨_, rfl⟩
  have HR := Lib.hid hr
  rw [hr]
  have HX0 := Lib.hid (HX.out _ C0)
  have e1 := HX0.out.2.1.cell (j := 1) rfl
  clear h hA hF hr hC hf
  go_enter Tryz.func46, Tryz.ntmps46
  go_upto_region 1 with fail
  rw [HW1.out]
  clear HW1
  obtain ⟨k1, hk1⟩ : ∃ b, (e.kind == 1) = b := ⟨_, rfl⟩
  obtain ⟨k3, hk3⟩ : ∃ b, (e.kind == 3) = b := ⟨_, rfl⟩
  obtain ⟨k4, hk4⟩ : ∃ b, (e.kind == 4) = b := ⟨_, rfl⟩
  have HK : Hid ((e.kind = 1 ↔ k1 = true) ∧ (e.kind = 3 ↔ k3 = true) ∧ (e.kind = 4 ↔ k4 = true)) := Lib.hid ⟨by rw [← hk1]; simp, by rw [← hk3]; simp, by rw [← hk4]; simp⟩
  cases k1
  rotate_left
  · have hkk := HK.out.1.2 rfl
    have HR1 : Hid (r = if e.order.off then .error 9 else if (addR x e.order).2 = 0 then .ok (addR x e.order).1 else .error (addR x e.order).2) := Lib.hid (by
      rw [← HR.out]
      unfold hapF
      rw [if_pos hkk])
    clear HR hkk
    have e20 := HX0.out.2.1.cell (j := 20) rfl
    obtain ⟨b, hb⟩ : ∃ b, e.order.off = b := ⟨_, rfl⟩
    cases b
    · have HR2 : Hid (r = if (addR x e.order).2 = 0 then .ok (addR x e.order).1 else .error (addR x e.order).2) := Lib.hid (by rw [HR1.out, hb]; rfl)
      clear HR1
      go_wp2_with (first
        | ((with_reducible refine wpList_loadG stIns _ rfl ⟨w.heap.size, 0, none⟩ (insCs (x) P) ?_ ?_ ?_ ?_ ?_); exact rfl; exact rfl; exact HX0.out.1.cells; exact rfl)
        | ((with_reducible refine wpList_loadG stOrd' _ rfl ⟨(w.heap.size + 1), 5, none⟩ (OrdCells e.order C c) ?_ ?_ ?_ ?_ ?_); exact rfl; exact rfl; exact (ord_evt HX0.out.2.1); exact rfl))
      clear e20
      refine (addF_any x P e.order C c B W0 (Nat.le_trans hB hB0.size) (HA.out.below (hB0.mono hB)) (HCC.out.below (hB0.mono hB)) HFT.out.2.2.2.2.2 (lim_add e.order HLM.out)).mono ?_
      rintro e2 w1 ⟨P1, rfl, hI1, b1⟩
      obtain ⟨Y, hY⟩ : ∃ Y, (addR x e.order).1 = Y := ⟨_, rfl⟩
      obtain ⟨k, hk⟩ : ∃ k, (addR x e.order).2 = k := ⟨_, rfl⟩
      rw [hY, hk] at HR2
      rw [hY] at hI1
      rw [hY, hk]
      have HX1 := Lib.hid (HX.out _ b1)
      have HB1 := Lib.hid (hB0.trans (b1.mono (by omega)))
      have HI1 := Lib.hid hI1
      clear hI1 hY hk b1
      go_wp2_with ((with_reducible refine wpList_storeL stIns rfl _ _ rfl (w.heap.size + 2) nilCs (insCs (Y) P1) ?_ ?_ ?_ ?_ ?_ (insCs_one _ _) ?_); exact rfl; exact rfl; exact HX1.out.2.2; exact rfl; exact rfl; intro wz k1 k2 k3 k4; have K := Lib.hid (And.intro k1 (And.intro k2 (And.intro k3 k4))); clear k1 k2 k3 k4)
      by_cases hk0 : k = 0
      · have HRR : Hid (r = .ok Y) := Lib.hid (by rw [HR2.out, if_pos hk0])
        subst hk0
        have HRz : Blk wz (w.heap.size + 2) 30 (insCs (Y) P1) := K.out.1
        refine bodyPost_ret (v := .tuple #[.agg (insCs (Y) P1).toArray, .int .i64 0]) (big.res_cell_tmp stIns Tryz.results46 rfl rfl HRz.cells rfl) rfl ?_
        have hgz : w1.heap.size ≤ wz.heap.size := by rw [K.out.2.2.1]; exact Nat.le_refl _
        have hbz : Below w.heap.size w wz := (HB1.out).trans (K.out.2.2.2.mono (by omega))
        rw [HRR.out]
        exact ⟨_, rfl, (InFr.keep HI1.out hgz (fun b hb hp => K.out.2.1 b (by rcases hp with h | h <;> omega))).weak (Nat.le_refl _) (by omega), hbz⟩
      · have HRR : Hid (r = .error k) := Lib.hid (by rw [HR2.out, if_neg hk0])
        have HRz : Blk wz (w.heap.size + 2) 30 (insCs (Y) P1) := K.out.1
        refine bodyPost_ret (v := .tuple #[.agg (insCs (Y) P1).toArray, .int .i64 k]) (big.res_cell_tmp stIns Tryz.results46 rfl rfl HRz.cells rfl) rfl ?_
        rw [HRR.out]
        exact ⟨_, _, rfl, (HB1.out).trans (K.out.2.2.2.mono (by omega))⟩
    · have HRR : Hid (r = .error 9) := Lib.hid (by rw [HR1.out, hb]; rfl)
      clear HR1
      go_wp2_with (first
        | ((with_reducible refine wpList_loadG stIns _ rfl ⟨w.heap.size, 0, none⟩ (insCs (x) P) ?_ ?_ ?_ ?_ ?_); exact rfl; exact rfl; exact HX0.out.1.cells; exact rfl)
        | ((with_reducible refine wpList_storeL stIns rfl _ _ rfl (w.heap.size + 2) nilCs (insCs (x) P) ?_ ?_ ?_ ?_ ?_ (insCs_one _ _) ?_); exact rfl; exact rfl; exact HX0.out.2.2; exact rfl; exact rfl; intro wz k1 k2 k3 k4; have K := Lib.hid (And.intro k1 (And.intro k2 (And.intro k3 k4))); clear k1 k2 k3 k4))
      have HRz : Blk wz (w.heap.size + 2) 30 (insCs (x) P) := K.out.1
      refine bodyPost_ret (v := .tuple #[.agg (insCs (x) P).toArray, .int .i64 9]) (big.res_cell_tmp stIns Tryz.results46 rfl rfl HRz.cells rfl) rfl ?_
      rw [HRR.out]
      exact ⟨_, _, rfl, (hB0).trans (K.out.2.2.2.mono (by omega))⟩
  cases k3
  rotate_left
  · have hkk := HK.out.2.1.2 rfl
    have hk1' : ¬ e.kind = 1 := fun h => by have := HK.out.1.1 h; cases this
    have HR1 : Hid (r = if ¬ (1 ≤ e.n ∧ e.n ≤ 4096) then .error 2 else match slwF x.net e.a e.b e.at_ e.n with
        | .error k => .error k
        | .ok N => .ok { x with net := N }) := Lib.hid (by
      rw [← HR.out]
      unfold hapF
      rw [if_neg hk1', if_pos hkk]
      by_cases hn : 1 ≤ e.n ∧ e.n ≤ 4096
      · rw [if_neg (fun h => h hn), if_neg (fun h => h hn)]
        cases slwF x.net e.a e.b e.at_ e.n <;> rfl
      · rw [if_pos hn, if_pos hn])
    clear HR hkk hk1'
    have e4 := HX0.out.2.1.cell (j := 4) rfl
    by_cases hn1 : e.n < 1
    · have HRR : Hid (r = .error 2) := Lib.hid (by rw [HR1.out, if_pos (by omega)])
      clear HR1
      go_wp2_with (first
        | ((with_reducible refine wpList_loadG stIns _ rfl ⟨w.heap.size, 0, none⟩ (insCs (x) P) ?_ ?_ ?_ ?_ ?_); exact rfl; exact rfl; exact HX0.out.1.cells; exact rfl)
        | ((with_reducible refine wpList_storeL stIns rfl _ _ rfl (w.heap.size + 2) nilCs (insCs (x) P) ?_ ?_ ?_ ?_ ?_ (insCs_one _ _) ?_); exact rfl; exact rfl; exact HX0.out.2.2; exact rfl; exact rfl; intro wz k1 k2 k3 k4; have K := Lib.hid (And.intro k1 (And.intro k2 (And.intro k3 k4))); clear k1 k2 k3 k4))
      have HRz : Blk wz (w.heap.size + 2) 30 (insCs (x) P) := K.out.1
      refine bodyPost_ret (v := .tuple #[.agg (insCs (x) P).toArray, .int .i64 2]) (big.res_cell_tmp stIns Tryz.results46 rfl rfl HRz.cells rfl) rfl ?_
      rw [HRR.out]
      exact ⟨_, _, rfl, (hB0).trans (K.out.2.2.2.mono (by omega))⟩
    by_cases hn2 : 4096 < e.n
    · have HRR : Hid (r = .error 2) := Lib.hid (by rw [HR1.out, if_pos (by omega)])
      clear HR1
      go_wp2_with (first
        | ((with_reducible refine wpList_loadG stIns _ rfl ⟨w.heap.size, 0, none⟩ (insCs (x) P) ?_ ?_ ?_ ?_ ?_); exact rfl; exact rfl; exact HX0.out.1.cells; exact rfl)
        | ((with_reducible refine wpList_storeL stIns rfl _ _ rfl (w.heap.size + 2) nilCs (insCs (x) P) ?_ ?_ ?_ ?_ ?_ (insCs_one _ _) ?_); exact rfl; exact rfl; exact HX0.out.2.2; exact rfl; exact rfl; intro wz k1 k2 k3 k4; have K := Lib.hid (And.intro k1 (And.intro k2 (And.intro k3 k4))); clear k1 k2 k3 k4))
      have HRz : Blk wz (w.heap.size + 2) 30 (insCs (x) P) := K.out.1
      refine bodyPost_ret (v := .tuple #[.agg (insCs (x) P).toArray, .int .i64 2]) (big.res_cell_tmp stIns Tryz.results46 rfl rfl HRz.cells rfl) rfl ?_
      rw [HRR.out]
      exact ⟨_, _, rfl, (hB0).trans (K.out.2.2.2.mono (by omega))⟩
    obtain ⟨s, hs⟩ : ∃ s, slwF x.net e.a e.b e.at_ e.n = s := ⟨_, rfl⟩
    have HR2 : Hid ((∀ k, s = .error k → r = .error k) ∧ ∀ N, s = .ok N → r = .ok { x with net := N }) := Lib.hid (by
      rw [HR1.out, if_neg (by omega), hs]
      exact ⟨fun k h => by rw [h], fun N h => by rw [h]⟩)
    have HS := Lib.hid hs
    clear HR1 hs
    have x0 := HX0.out.1.cell (j := 0) rfl
    have x1 := HX0.out.1.cell (j := 1) rfl
    have e0 := HX0.out.2.1.cell (j := 0) rfl
    have e2 := HX0.out.2.1.cell (j := 2) rfl
    have e3 := HX0.out.2.1.cell (j := 3) rfl
    go_wp2_with fail
    refine (slower_any x.net P.a0 P.c0 P.a1 P.c1 e.a e.b e.at_ e.n B W0 (Nat.le_trans hB hB0.size) (HA.out.below (hB0.mono hB)).arcs (by have := HLM.out.arcs; omega) (slow_of HF.out)).mono ?_
    rw [HS.out]
    intro e5 w1 h2
    clear x0 x1 e0 e2 e3 e4
    rcases s with k | N'
    · obtain ⟨rfl, b1⟩ := h2
      have HRR : Hid (r = .error k) := Lib.hid (HR2.out.1 k rfl)
      have HX1 := Lib.hid (HX.out _ b1)
      have HB1 := Lib.hid (hB0.trans (b1.mono (by omega)))
      clear b1
      have p0 := HX1.out.1.cell (j := 0) rfl
      have p1 := HX1.out.1.cell (j := 1) rfl
      have g0 := HX1.out.1.frozen 0
      have g1 := HX1.out.1.frozen 1
      go_upto_region 11 with fail
      clear p0 p1 g0 g1
      obtain ⟨W4, hW4⟩ : ∃ W, (w1.setCell ⟨w.heap.size, 0, none⟩ (.slice none 0 0)).setCell ⟨w.heap.size, 1, none⟩ (.slice none 0 0) = W := ⟨_, rfl⟩
      rw [hW4]
      have X4 : Hid (Blk W4 w.heap.size 30 (insCs { x with net := (⟨[], []⟩ : Net) } ⟨none, 0, none, 0, P.a2, P.c2, P.a3, P.c3, P.a4, P.c4, P.a5, P.c5⟩)) := Lib.hid (by
        rw [← hW4, ← insCs_net x P (⟨[], []⟩ : Net) none none (0) 0 (0) 0 (rfl) (rfl)]
        exact (HX1.out.1.set 0 (.slice none 0 0)).set 1 (.slice none 0 0))
      have R4 : Hid (Blk W4 (w.heap.size + 2) 30 nilCs) := Lib.hid (by rw [← hW4]; exact blk_other (blk_other HX1.out.2.2 (by omega) _ _) (by omega) _ _)
      have B4 : Hid (Below w.heap.size w W4) := Lib.hid (by rw [← hW4]; exact (HB1.out.setCell (p := ⟨w.heap.size, 0, none⟩) (Nat.le_refl _) _).setCell (p := ⟨w.heap.size, 1, none⟩) (Nat.le_refl _) _)
      have HK4 : Hid (∀ b, b ≠ w.heap.size → W4.heap[b]? = w1.heap[b]?) := Lib.hid (fun b hb => by rw [← hW4]; exact (Below.heap_setCell _ ⟨w.heap.size, 1, none⟩ _ b hb).trans (Below.heap_setCell _ ⟨w.heap.size, 0, none⟩ _ b hb))
      have HZ4 : Hid (W4.heap.size = w1.heap.size) := Lib.hid (by rw [← hW4]; simp [World.setCell])
      clear hW4
      go_wp2_with (first
        | ((with_reducible refine wpList_loadG stIns _ rfl ⟨w.heap.size, 0, none⟩ (insCs ({ x with net := (⟨[], []⟩ : Net) }) ⟨none, 0, none, 0, P.a2, P.c2, P.a3, P.c3, P.a4, P.c4, P.a5, P.c5⟩) ?_ ?_ ?_ ?_ ?_); exact rfl; exact rfl; exact X4.out.cells; exact rfl)
        | ((with_reducible refine wpList_storeL stIns rfl _ _ rfl (w.heap.size + 2) nilCs (insCs ({ x with net := (⟨[], []⟩ : Net) }) ⟨none, 0, none, 0, P.a2, P.c2, P.a3, P.c3, P.a4, P.c4, P.a5, P.c5⟩) ?_ ?_ ?_ ?_ ?_ (insCs_one _ _) ?_); exact rfl; exact rfl; exact R4.out; exact rfl; exact rfl; intro wz k1 k2 k3 k4; have K := Lib.hid (And.intro k1 (And.intro k2 (And.intro k3 k4))); clear k1 k2 k3 k4))
      have HRz : Blk wz (w.heap.size + 2) 30 (insCs ({ x with net := (⟨[], []⟩ : Net) }) ⟨none, 0, none, 0, P.a2, P.c2, P.a3, P.c3, P.a4, P.c4, P.a5, P.c5⟩) := K.out.1
      refine bodyPost_ret (v := .tuple #[.agg (insCs ({ x with net := (⟨[], []⟩ : Net) }) ⟨none, 0, none, 0, P.a2, P.c2, P.a3, P.c3, P.a4, P.c4, P.a5, P.c5⟩).toArray, .int .i64 k]) (big.res_cell_tmp stIns Tryz.results46 rfl rfl HRz.cells rfl) rfl ?_
      rw [HRR.out]
      exact ⟨_, _, rfl, (B4.out).trans (K.out.2.2.2.mono (by omega))⟩
    · obtain ⟨A9, c9, rfl, hrow, b1⟩ := h2
      have HRR : Hid (r = .ok { x with net := N' }) := Lib.hid (HR2.out.2 N' rfl)
      have HROW := Lib.hid hrow
      have HPL := Lib.hid (slw_places HS.out)
      have HX1 := Lib.hid (HX.out _ b1)
      have HB1 := Lib.hid (hB0.trans (b1.mono (by omega)))
      clear b1 hrow
      have p0 := HX1.out.1.cell (j := 0) rfl
      have p1 := HX1.out.1.cell (j := 1) rfl
      have g0 := HX1.out.1.frozen 0
      have g1 := HX1.out.1.frozen 1
      go_upto_region 11 with fail
      clear p0 p1 g0 g1
      obtain ⟨W4, hW4⟩ : ∃ W, (w1.setCell ⟨w.heap.size, 0, none⟩ (.slice P.a0 N'.places.length P.c0)).setCell ⟨w.heap.size, 1, none⟩ (.slice A9 N'.arcs.length c9) = W := ⟨_, rfl⟩
      rw [hW4]
      have X4 : Hid (Blk W4 w.heap.size 30 (insCs { x with net := N' } ⟨P.a0, P.c0, A9, c9, P.a2, P.c2, P.a3, P.c3, P.a4, P.c4, P.a5, P.c5⟩)) := Lib.hid (by
        rw [← hW4, ← insCs_net x P N' P.a0 A9 (N'.places.length) P.c0 (N'.arcs.length) c9 (rfl) (rfl)]
        exact (HX1.out.1.set 0 (.slice P.a0 N'.places.length P.c0)).set 1 (.slice A9 N'.arcs.length c9))
      have R4 : Hid (Blk W4 (w.heap.size + 2) 30 nilCs) := Lib.hid (by rw [← hW4]; exact blk_other (blk_other HX1.out.2.2 (by omega) _ _) (by omega) _ _)
      have B4 : Hid (Below w.heap.size w W4) := Lib.hid (by rw [← hW4]; exact (HB1.out.setCell (p := ⟨w.heap.size, 0, none⟩) (Nat.le_refl _) _).setCell (p := ⟨w.heap.size, 1, none⟩) (Nat.le_refl _) _)
      have HK4 : Hid (∀ b, b ≠ w.heap.size → W4.heap[b]? = w1.heap[b]?) := Lib.hid (fun b hb => by rw [← hW4]; exact (Below.heap_setCell _ ⟨w.heap.size, 1, none⟩ _ b hb).trans (Below.heap_setCell _ ⟨w.heap.size, 0, none⟩ _ b hb))
      have HZ4 : Hid (W4.heap.size = w1.heap.size) := Lib.hid (by rw [← hW4]; simp [World.setCell])
      clear hW4
      go_wp2_with (first
        | ((with_reducible refine wpList_loadG stIns _ rfl ⟨w.heap.size, 0, none⟩ (insCs ({ x with net := N' }) ⟨P.a0, P.c0, A9, c9, P.a2, P.c2, P.a3, P.c3, P.a4, P.c4, P.a5, P.c5⟩) ?_ ?_ ?_ ?_ ?_); exact rfl; exact rfl; exact X4.out.cells; exact rfl)
        | ((with_reducible refine wpList_storeL stIns rfl _ _ rfl (w.heap.size + 2) nilCs (insCs ({ x with net := N' }) ⟨P.a0, P.c0, A9, c9, P.a2, P.c2, P.a3, P.c3, P.a4, P.c4, P.a5, P.c5⟩) ?_ ?_ ?_ ?_ ?_ (insCs_one _ _) ?_); exact rfl; exact rfl; exact R4.out; exact rfl; exact rfl; intro wz k1 k2 k3 k4; have K := Lib.hid (And.intro k1 (And.intro k2 (And.intro k3 k4))); clear k1 k2 k3 k4))
      have HRz : Blk wz (w.heap.size + 2) 30 (insCs ({ x with net := N' }) ⟨P.a0, P.c0, A9, c9, P.a2, P.c2, P.a3, P.c3, P.a4, P.c4, P.a5, P.c5⟩) := K.out.1
      refine bodyPost_ret (v := .tuple #[.agg (insCs ({ x with net := N' }) ⟨P.a0, P.c0, A9, c9, P.a2, P.c2, P.a3, P.c3, P.a4, P.c4, P.a5, P.c5⟩).toArray, .int .i64 0]) (big.res_cell_tmp stIns Tryz.results46 rfl rfl HRz.cells rfl) rfl ?_
      have hgz : W4.heap.size ≤ wz.heap.size := by rw [K.out.2.2.1]; exact Nat.le_refl _
      have hbz : Below w.heap.size w wz := (B4.out).trans (K.out.2.2.2.mono (by omega))
      rw [HRR.out]
      exact ⟨_, rfl, net_fr HA.out hB hbz (HROW.out.keep (by rw [← HZ4.out]; exact hgz) (fun b hb hp => ⟨by rcases hp with h | h <;> omega, (K.out.2.1 b (by rcases hp with h | h <;> omega)).trans (HK4.out b (by rcases hp with h | h <;> omega))⟩)) HPL.out, hbz⟩
  cases k4
  rotate_left
  · have hkk := HK.out.2.2.2 rfl
    have hk1' : ¬ e.kind = 1 := fun h => by have := HK.out.1.1 h; cases this
    have hk3' : ¬ e.kind = 3 := fun h => by have := HK.out.2.1.1 h; cases this
    have HR1 : Hid (r = (if e.a < 0 ∨ (x.types.length : Int) ≤ e.a then .error 7 else match x.types[e.a.toNat]? with
        | none => .error 7
        | some t => if t.count = 0 then .error 22 else .ok { x with types := x.types.set e.a.toNat { t with count := t.count - 1 } })) := Lib.hid (by
      rw [← HR.out]
      unfold hapF
      rw [if_neg hk1', if_neg hk3', if_pos hkk]
      by_cases hz : (e.a < 0 ∨ (x.types.length : Int) ≤ e.a)
      · rw [if_pos hz, if_pos hz]
      · rw [if_neg hz, if_neg hz]
        cases x.types[e.a.toNat]? <;> rfl)
    clear HR hkk hk1' hk3'
    obtain ⟨N, hNN⟩ : ∃ N, x.types.length = N := ⟨_, rfl⟩
    rw [hNN] at HR1
    have HNN := Lib.hid hNN
    have x2 : W0.cell? ⟨w.heap.size, 2, none⟩ = some (.slice P.a2 N P.c2) := by rw [← hNN]; exact HX0.out.1.cell (j := 2) rfl
    have f2 := HX0.out.1.frozen 2
    have e2 := HX0.out.2.1.cell (j := 2) rfl
    have hN20 : N ≤ 20 := by rw [← hNN]; exact HLM.out.types
    clear hNN
    by_cases ha1 : e.a < 0
    · have HRR : Hid (r = .error 7) := Lib.hid (by rw [HR1.out, if_pos (.inl ha1)])
      clear HR1
      go_wp2_with (first
        | ((with_reducible refine wpList_loadG stIns _ rfl ⟨w.heap.size, 0, none⟩ (insCs (x) P) ?_ ?_ ?_ ?_ ?_); exact rfl; exact rfl; exact HX0.out.1.cells; exact rfl)
        | ((with_reducible refine wpList_storeL stIns rfl _ _ rfl (w.heap.size + 2) nilCs (insCs (x) P) ?_ ?_ ?_ ?_ ?_ (insCs_one _ _) ?_); exact rfl; exact rfl; exact HX0.out.2.2; exact rfl; exact rfl; intro wz k1 k2 k3 k4; have K := Lib.hid (And.intro k1 (And.intro k2 (And.intro k3 k4))); clear k1 k2 k3 k4))
      have HRz : Blk wz (w.heap.size + 2) 30 (insCs (x) P) := K.out.1
      refine bodyPost_ret (v := .tuple #[.agg (insCs (x) P).toArray, .int .i64 7]) (big.res_cell_tmp stIns Tryz.results46 rfl rfl HRz.cells rfl) rfl ?_
      rw [HRR.out]
      exact ⟨_, _, rfl, (hB0).trans (K.out.2.2.2.mono (by omega))⟩
    by_cases ha2 : (N : Int) ≤ e.a
    · have HRR : Hid (r = .error 7) := Lib.hid (by rw [HR1.out, if_pos (.inr ha2)])
      clear HR1
      go_wp2_with (first
        | ((with_reducible refine wpList_loadG stIns _ rfl ⟨w.heap.size, 0, none⟩ (insCs (x) P) ?_ ?_ ?_ ?_ ?_); exact rfl; exact rfl; exact HX0.out.1.cells; exact rfl)
        | ((with_reducible refine wpList_storeL stIns rfl _ _ rfl (w.heap.size + 2) nilCs (insCs (x) P) ?_ ?_ ?_ ?_ ?_ (insCs_one _ _) ?_); exact rfl; exact rfl; exact HX0.out.2.2; exact rfl; exact rfl; intro wz k1 k2 k3 k4; have K := Lib.hid (And.intro k1 (And.intro k2 (And.intro k3 k4))); clear k1 k2 k3 k4))
      have HRz : Blk wz (w.heap.size + 2) 30 (insCs (x) P) := K.out.1
      refine bodyPost_ret (v := .tuple #[.agg (insCs (x) P).toArray, .int .i64 7]) (big.res_cell_tmp stIns Tryz.results46 rfl rfl HRz.cells rfl) rfl ?_
      rw [HRR.out]
      exact ⟨_, _, rfl, (hB0).trans (K.out.2.2.2.mono (by omega))⟩
    obtain ⟨j, hj⟩ : ∃ j : Nat, e.a = j := ⟨e.a.toNat, by omega⟩
    have hjN : j < N := by omega
    obtain ⟨t, ht⟩ : ∃ t, x.types[j]? = some t := ⟨_, List.getElem?_eq_getElem (by rw [HNN.out]; exact hjN)⟩
    have HR2 : Hid (r = if t.count = 0 then .error 22 else .ok { x with types := x.types.set j { t with count := t.count - 1 } }) := Lib.hid (by
      rw [HR1.out, if_neg (by omega), hj, Int.toNat_natCast, ht])
    have hcb := cnt_of HF.out t (List.mem_of_getElem? ht)
    have HT := Lib.hid ht
    obtain ⟨ad, cs0, hA, hadb, hat, hcs⟩ := ((HI.out _ hB0).types).elem ht
    obtain ⟨D, dd, rfl, hI, hf⟩ := rTy_at hat
    have y1 : W0.cell? ⟨(ad.add (j * 14)).block, (ad.add (j * 14)).off + 1, none⟩ = some (.int .i64 t.count) := by rw [← add_split, ← add_of_add]; exact hcs 1 _ rfl
    rw [hA] at x2
    rw [hj] at e2
    have hj0 : (0 : Int) ≤ (j : Int) := by omega
    have hjn : (j : Int) < (N : Int) := by omega
    clear HR1 ha1 ha2 ht hat hcs hI hf
    by_cases hc0 : t.count = 0
    · have HRR : Hid (r = .error 22) := Lib.hid (by rw [HR2.out, if_pos hc0])
      have hcc : (t.count == 0) = true := by simp [hc0]
      clear HR2 hc0
      go_wp2_with (first
        | ((with_reducible refine wpList_loadG stIns _ rfl ⟨w.heap.size, 0, none⟩ (insCs (x) P) ?_ ?_ ?_ ?_ ?_); exact rfl; exact rfl; exact HX0.out.1.cells; exact rfl)
        | ((with_reducible refine wpList_storeL stIns rfl _ _ rfl (w.heap.size + 2) nilCs (insCs (x) P) ?_ ?_ ?_ ?_ ?_ (insCs_one _ _) ?_); exact rfl; exact rfl; exact HX0.out.2.2; exact rfl; exact rfl; intro wz k1 k2 k3 k4; have K := Lib.hid (And.intro k1 (And.intro k2 (And.intro k3 k4))); clear k1 k2 k3 k4))
      have HRz : Blk wz (w.heap.size + 2) 30 (insCs (x) P) := K.out.1
      refine bodyPost_ret (v := .tuple #[.agg (insCs (x) P).toArray, .int .i64 22]) (big.res_cell_tmp stIns Tryz.results46 rfl rfl HRz.cells rfl) rfl ?_
      rw [HRR.out]
      exact ⟨_, _, rfl, (hB0).trans (K.out.2.2.2.mono (by omega))⟩
    have HRR : Hid (r = .ok { x with types := x.types.set j { t with count := t.count - 1 } }) := Lib.hid (by rw [HR2.out, if_neg hc0])
    have hcc : (t.count == 0) = false := by simp [hc0]
    clear HR2 hc0
    go_wp2_with fail
    have hcl := cloneT_any P.a2 P.c2 x.types B W0 (Nat.le_trans hB hB0.size) (HA.out.types.below (hB0.mono hB)) (by rw [HNN.out]; omega)
    rw [HNN.out, hA] at hcl
    refine hcl.mono ?_
    rintro e9 w2 ⟨A', c', CS, rfl, hown, hels, b2⟩
    obtain ⟨g, cap, hv, hgb, hglt⟩ := hown.form (by omega)
    obtain rfl : A' = some ⟨g, 0, none⟩ := by injection hv
    have hX2 := HX.out _ b2
    have x2 : w2.cell? ⟨w.heap.size, 2, none⟩ = some (.slice (some ad) N P.c2) := by rw [← HNN.out, ← hA]; exact hX2.1.cell (j := 2) rfl
    have f2 := hX2.1.frozen 2
    clear y1
    go_upto_region 18 with fail
    obtain ⟨W3, hW3⟩ : ∃ W, w2.setCell ⟨w.heap.size, 2, none⟩ (.slice (some ⟨g, 0, none⟩) N c') = W := ⟨_, rfl⟩
    rw [hW3]
    have HS : Hid (TcSt B x P e C c w N g c' CS x.types W3) := Lib.hid (by
      have hgr := grownBy_set w2 w.heap.size 2 (.slice (some ⟨g, 0, none⟩) N c')
      rw [← hW3]
      refine ⟨own_less (ownsRow_setCell_below hown (by show w.heap.size < W0.heap.size; omega) _) (by omega), hels.keep hgr.size (fun b hb hp => ⟨hp, hgr.block b hb (fun e => by injection e; omega)⟩), hB, HNN.out, hX2.1.set 2 _, hX2.2.1.kept hgr (fun e => by injection e; omega), hX2.2.2.kept hgr (fun e => by injection e; omega), ?_⟩
      exact (hB0.trans (b2.mono hB0.size)).setCell (p := ⟨w.heap.size, 2, none⟩) (Nat.le_refl _) _)
    clear hW3 hown hels b2 hX2 x2 f2 hcl hgb hglt
    obtain ⟨D1, d1, hce, hof, hio, hth⟩ := HS.out.elem HT.out
    have x2 : W3.cell? ⟨w.heap.size, 2, none⟩ = some (.slice (some ⟨g, 0, none⟩) N c') := HS.out.bx.cell (j := 2) rfl
    have e2 : W3.cell? ⟨w.heap.size + 1, 2, none⟩ = some (.int .i64 j) := by rw [← hj]; exact HS.out.be.cell (j := 2) rfl
    have y1 : W3.cell? ⟨g, j * 14 + 1, none⟩ = some (.int .i64 t.count) := hce 1 _ rfl
    have f1 := HS.out.own.frozenAt (j * 14 + 1)
    obtain ⟨hcb1, hcb2⟩ := hcb
    clear hce hof hio hth
    go_upto_region 19 with fail
    obtain ⟨W4, hW4⟩ : ∃ W, W3.setCell ⟨g, j * 14 + 1, none⟩ (.int .i64 (t.count - 1)) = W := ⟨_, rfl⟩
    rw [hW4]
    have HS4 : Hid (TcSt B x P e C c w N g c' (setM CS (j * 14 + 1) [.int .i64 (t.count - 1)]) (x.types.set j { t with count := t.count - 1 }) W4) := Lib.hid (by
      rw [← hW4]
      refine HS.out.cells (o := j * 14 + 1) (vs := [.int .i64 (t.count - 1)]) (by rw [List.length_set]; exact HNN.out) ?_
      refine EG.mod (r := oTy) HS.out.els (by rw [HNN.out]; exact hjN) (show 1 < 14 by decide) ?_
      obtain ⟨D, dd, hc, hi, hf⟩ := oTy_at (HS.out.els.2 j t HT.out)
      rw [hc]
      refine oTy_mk (t := { t with count := t.count - 1 }) hi ?_
      unfold TyFits at hf ⊢
      simp only
      omega)
    clear hW4 y1 f1 x2 e2
    have HB4 : Hid (Blk W4 w.heap.size 30 (insCs { x with types := x.types.set j { t with count := t.count - 1 } } ⟨P.a0, P.c0, P.a1, P.c1, some ⟨g, 0, none⟩, c', P.a3, P.c3, P.a4, P.c4, P.a5, P.c5⟩)) := Lib.hid (by
      have h := HS4.out.bx
      rw [insCs_ty x P (x.types.set j { t with count := t.count - 1 }) _ N c' (by rw [List.length_set]; exact HNN.out)] at h
      exact h)
    go_wp2_with (first
      | ((with_reducible refine wpList_loadG stIns _ rfl ⟨w.heap.size, 0, none⟩ (insCs ({ x with types := x.types.set j { t with count := t.count - 1 } }) ⟨P.a0, P.c0, P.a1, P.c1, some ⟨g, 0, none⟩, c', P.a3, P.c3, P.a4, P.c4, P.a5, P.c5⟩) ?_ ?_ ?_ ?_ ?_); exact rfl; exact rfl; exact HB4.out.cells; exact rfl)
      | ((with_reducible refine wpList_storeL stIns rfl _ _ rfl (w.heap.size + 2) nilCs (insCs ({ x with types := x.types.set j { t with count := t.count - 1 } }) ⟨P.a0, P.c0, P.a1, P.c1, some ⟨g, 0, none⟩, c', P.a3, P.c3, P.a4, P.c4, P.a5, P.c5⟩) ?_ ?_ ?_ ?_ ?_ (insCs_one _ _) ?_); exact rfl; exact rfl; exact HS4.out.br; exact rfl; exact rfl; intro wz k1 k2 k3 k4; have K := Lib.hid (And.intro k1 (And.intro k2 (And.intro k3 k4))); clear k1 k2 k3 k4))
    have HRz : Blk wz (w.heap.size + 2) 30 (insCs ({ x with types := x.types.set j { t with count := t.count - 1 } }) ⟨P.a0, P.c0, P.a1, P.c1, some ⟨g, 0, none⟩, c', P.a3, P.c3, P.a4, P.c4, P.a5, P.c5⟩) := K.out.1
    refine bodyPost_ret (v := .tuple #[.agg (insCs ({ x with types := x.types.set j { t with count := t.count - 1 } }) ⟨P.a0, P.c0, P.a1, P.c1, some ⟨g, 0, none⟩, c', P.a3, P.c3, P.a4, P.c4, P.a5, P.c5⟩).toArray, .int .i64 0]) (big.res_cell_tmp stIns Tryz.results46 rfl rfl HRz.cells rfl) rfl ?_
    have hgz : W4.heap.size ≤ wz.heap.size := by rw [K.out.2.2.1]; exact Nat.le_refl _
    have hbz : Below w.heap.size w wz := (HS4.out.bel).trans (K.out.2.2.2.mono (by omega))
    rw [HRR.out]
    exact ⟨_, rfl, ty_fr HA.out hB hbz (own_skip HS4.out.own HS4.out.br (by decide) K.out.2.1) (EG.keep2 HS4.out.els (HS4.out.bel.mono hB) (hbz.mono hB) hgz) HS4.out.len (by omega), hbz⟩
  · have HR1 : Hid (conF x e = r) := Lib.hid (by
      rw [← hap_con (fun h => by have := HK.out.1.1 h; cases this) (fun h => by have := HK.out.2.1.1 h; cases this) (fun h => by have := HK.out.2.2.1 h; cases this)]
      exact HR.out)
    clear HR
    go_wp2_with (first
      | ((with_reducible refine wpList_loadG stIns _ rfl ⟨w.heap.size, 0, none⟩ (insCs (x) P) ?_ ?_ ?_ ?_ ?_); exact rfl; exact rfl; exact HX0.out.1.cells; exact rfl)
      | ((with_reducible refine wpList_loadG stEvt _ rfl ⟨(w.heap.size + 1), 0, none⟩ (EvtCells e C c) ?_ ?_ ?_ ?_ ?_); exact rfl; exact rfl; exact HX0.out.2.1.cells; exact rfl))
    refine (concerns_any x P e C c B W0 (Nat.le_trans hB hB0.size) (HA.out.below (hB0.mono hB)) HF.out HFT.out.2.2.2.2.1).mono ?_
    rw [HR1.out]
    intro e2 w1 h2
    rcases r with k | Y
    · obtain ⟨Y, P1, rfl, b1⟩ := h2
      have HX1 := Lib.hid (HX.out _ b1)
      have HB1 := Lib.hid (hB0.trans (b1.mono (by omega)))
      clear b1 HR1
      go_wp2_with ((with_reducible refine wpList_storeL stIns rfl _ _ rfl (w.heap.size + 2) nilCs (insCs (Y) P1) ?_ ?_ ?_ ?_ ?_ (insCs_one _ _) ?_); exact rfl; exact rfl; exact HX1.out.2.2; exact rfl; exact rfl; intro wz k1 k2 k3 k4; have K := Lib.hid (And.intro k1 (And.intro k2 (And.intro k3 k4))); clear k1 k2 k3 k4)
      have HRz : Blk wz (w.heap.size + 2) 30 (insCs Y P1) := K.out.1
      refine bodyPost_ret (v := .tuple #[.agg (insCs Y P1).toArray, .int .i64 k]) (big.res_cell_tmp stIns Tryz.results46 rfl rfl HRz.cells rfl) rfl ?_
      exact ⟨_, _, rfl, HB1.out.trans (K.out.2.2.2.mono (by omega))⟩
    · obtain ⟨P1, rfl, hI1, b1⟩ := h2
      have HX1 := Lib.hid (HX.out _ b1)
      have HB1 := Lib.hid (hB0.trans (b1.mono (by omega)))
      have HI1 := Lib.hid hI1
      clear b1 HR1 hI1
      go_wp2_with ((with_reducible refine wpList_storeL stIns rfl _ _ rfl (w.heap.size + 2) nilCs (insCs (Y) P1) ?_ ?_ ?_ ?_ ?_ (insCs_one _ _) ?_); exact rfl; exact rfl; exact HX1.out.2.2; exact rfl; exact rfl; intro wz k1 k2 k3 k4; have K := Lib.hid (And.intro k1 (And.intro k2 (And.intro k3 k4))); clear k1 k2 k3 k4)
      have HRz : Blk wz (w.heap.size + 2) 30 (insCs Y P1) := K.out.1
      refine bodyPost_ret (v := .tuple #[.agg (insCs Y P1).toArray, .int .i64 0]) (big.res_cell_tmp stIns Tryz.results46 rfl rfl HRz.cells rfl) rfl ?_
      have hgz : w1.heap.size ≤ wz.heap.size := by rw [K.out.2.2.1]; exact Nat.le_refl _
      exact ⟨_, rfl, (InFr.keep HI1.out hgz (fun b hb hp => K.out.2.1 b (by rcases hp with h | h <;> omega))).weak (Nat.le_refl _) (by omega), HB1.out.trans (K.out.2.2.2.mono (by omega))⟩
end Go.Proofs.YtofabhenmplkoaaGreatDoor.evt

/- Which events can be applied. The program. -/
namespace Go.Proofs.YtofabhenmplkoaaGreatDoor.evt
open Go.RowKit
open Go.Proofs.YtofabhenmplkoaaGreatDoor.lib Go.Proofs.YtofabhenmplkoaaGreatDoor.rd Go.Proofs.YtofabhenmplkoaaGreatDoor.app Go.Proofs.YtofabhenmplkoaaGreatDoor.els Go.Proofs.YtofabhenmplkoaaGreatDoor.off Go.Proofs.YtofabhenmplkoaaGreatDoor.typ Go.Proofs.YtofabhenmplkoaaGreatDoor.big Go.Proofs.YtofabhenmplkoaaGreatDoor.ins Go.Proofs.YtofabhenmplkoaaGreatDoor.ord Go.Proofs.YtofabhenmplkoaaGreatDoor.gen
set_option linter.unusedVariables false
set_option linter.unusedSimpArgs false

theorem HapOut.err {w w' : World} {B : Nat} {r : Except Int Ins} {e : Ending} (h : HapOut w B r e w') : ∃ Y Q, e = .returned (.tuple #[InV Y Q, .int .i64 (hapK r)]) ∧ Below w.heap.size w w' := by
  rcases r with k | Y
  · exact h
  · obtain ⟨Q, h1, h2, h3⟩ := h
    exact ⟨Y, Q, h1, h3⟩
theorem chk_hap {x : Ins} {now : Int} {e : Evt} : chkF x now e = if alwF now e = 0 then hapK (hapF x e) else alwF now e := by
  unfold chkF
  by_cases h : alwF now e = 0
  · rw [if_neg (fun g => g h), if_pos h]
    cases hapF x e <;> rfl
  · rw [if_pos h, if_neg h]
set_option maxRecDepth 20000 in
set_option maxHeartbeats 8000000 in
theorem echeck_any (x : Ins) (P : InP) (now : Int) (e : Evt) (C : Option Addr) (c : Nat) (w : World) (h : InAt w w.heap.size x P) (hF : insF x = []) (hC : Ints w w.heap.size C e.order.load) (hf : EvtFits e) :
    Calls Tryz.prog 15 #[InV x P, .int .i64 now, .agg (EvtCells e C c).toArray] w fun en w' => en = .returned (.int .i64 (chkF x now e)) ∧ Below w.heap.size w w' := by
  show Calls Tryz.prog 15 #[InV x P, .int .i64 now, .agg #[.int .i64 e.at_, .int .i64 e.kind, .int .i64 e.a, .int .i64 e.b, .int .i64 e.n, .string e.order.name, .slice C e.order.load.length c, .int .i64 e.order.pick.place, .int .i64 e.order.pick.opn, .int .i64 e.order.pick.close, .int .i64 e.order.pick.service, .int .i64 e.order.drop.place, .int .i64 e.order.drop.opn, .int .i64 e.order.drop.close, .int .i64 e.order.drop.service, .int .i64 e.order.skills, .int .i64 e.order.penalty, .int .i64 e.order.split, .int .i64 e.order.last, .int .i64 e.order.now, .bool e.order.off]] w _
  obtain ⟨W0, hW0⟩ : ∃ W0, (w.alloc (.cells (insCs x P).toArray 30)).alloc (.cells (EvtCells e C c).toArray 37) = W0 := ⟨_, rfl⟩
  have hB0 : Below w.heap.size w W0 := by rw [← hW0]; exact ((Below.refl _ _).alloc (Nat.le_refl _) _).alloc (by simp) _
  have z0 : W0.heap.size = w.heap.size + 2 := by rw [← hW0]; simp
  have b0 : Blk W0 w.heap.size 30 (insCs x P) := by
    rw [← hW0]
    exact (Blk.new w _ _).kept (World.grownBy_alloc _ _ none) (by simp)
  have b1 : Blk W0 (w.heap.size + 1) 37 (EvtCells e C c) := by
    rw [← hW0]
    have h := Blk.new (w.alloc (.cells (insCs x P).toArray 30)) 37 (EvtCells e C c)
    rw [show (w.alloc (.cells (insCs x P).toArray 30)).heap.size = w.heap.size + 1 by simp] at h
    exact h
  have hW1 : (w.alloc (.cells #[.slice P.a0 x.net.places.length P.c0, .slice P.a1 x.net.arcs.length P.c1, .slice P.a2 x.types.length P.c2, .slice P.a3 x.orders.length P.c3, .slice P.a4 x.apart.length P.c4, .slice P.a5 x.before.length P.c5] 30)).alloc (.cells #[.int .i64 e.at_, .int .i64 e.kind, .int .i64 e.a, .int .i64 e.b, .int .i64 e.n, .string e.order.name, .slice C e.order.load.length c, .int .i64 e.order.pick.place, .int .i64 e.order.pick.opn, .int .i64 e.order.pick.close, .int .i64 e.order.pick.service, .int .i64 e.order.drop.place, .int .i64 e.order.drop.opn, .int .i64 e.order.drop.close, .int .i64 e.order.drop.service, .int .i64 e.order.skills, .int .i64 e.order.penalty, .int .i64 e.order.split, .int .i64 e.order.last, .int .i64 e.order.now, .bool e.order.off] 37) = W0 := hW0
  have HX := Lib.hid (fun w' (h' : Below W0.heap.size W0 w') => And.intro (b0.below h') (b1.below h'))
  have HI := Lib.hid (fun w' (h' : Below w.heap.size w w') => h.go h')
  have HW1 := Lib.hid hW1
  have HF := Lib.hid hF
  have HFT := Lib.hid hf
  have HCC := Lib.hid hC
  have C0 := Below.refl W0.heap.size W0
  clear hW0 hW1 b0 b1 h hF hC hf
  simp only [InV]
  obtain ⟨r, hr⟩ : ∃ r, chkF x now e = r := ⟨_, rfl⟩
  have HR : Hid (r = if alwF now e = 0 then hapK (hapF x e) else alwF now e) := Lib.hid (by rw [← hr]; exact chk_hap)
  rw [hr]
  clear hr
  go_enter Tryz.func15, Tryz.ntmps15
  go_upto_region 1 with fail
  rw [HW1.out]
  clear HW1
  go_wp2_with ((with_reducible refine wpList_loadG stEvt _ rfl ⟨(w.heap.size + 1), 0, none⟩ (EvtCells e C c) ?_ ?_ ?_ ?_ ?_); exact rfl; exact rfl; exact (HX.out _ C0).2.cells; exact rfl)
  refine (allowed_any now e C c W0).mono ?_
  rintro e2 w1 ⟨rfl, b1⟩
  have HB1 := Lib.hid b1
  have HBW := Lib.hid (hB0.trans (b1.mono (by omega)))
  have HX1 := Lib.hid (HX.out _ b1)
  clear b1
  obtain ⟨k, hk⟩ : ∃ k, alwF now e = k := ⟨_, rfl⟩
  rw [hk] at HR ⊢
  clear hk
  by_cases hk0 : k = 0
  · have HR2 : Hid (r = hapK (hapF x e)) := Lib.hid (by rw [HR.out, if_pos hk0])
    have hkk : (k != 0) = false := by simp [hk0]
    clear HR hk0
    go_wp2_with (first
      | ((with_reducible refine wpList_loadG stIns _ rfl ⟨w.heap.size, 0, none⟩ (insCs (x) P) ?_ ?_ ?_ ?_ ?_); exact rfl; exact rfl; exact HX1.out.1.cells; exact rfl)
      | ((with_reducible refine wpList_loadG stEvt _ rfl ⟨(w.heap.size + 1), 0, none⟩ (EvtCells e C c) ?_ ?_ ?_ ?_ ?_); exact rfl; exact rfl; exact HX1.out.2.cells; exact rfl))
    refine (happens_any x P e C c w1.heap.size w1 (Nat.le_refl _) (HI.out _ HBW.out) HF.out ((HCC.out.below HBW.out).more HBW.out.size) HFT.out).mono ?_
    intro e3 w2 h2
    obtain ⟨Y, Q, rfl, b2⟩ := h2.err
    rw [← HR2.out]
    clear h2
    have HB2 := Lib.hid (HBW.out.trans (b2.mono HBW.out.size))
    clear b2
    go_wp2_with fail
    go_ret
    exact ⟨rfl, HB2.out.alloc HB2.out.size _⟩
  · have HR2 : Hid (r = k) := Lib.hid (by rw [HR.out, if_neg hk0])
    have hkk : (k != 0) = true := by simp [hk0]
    clear HR hk0
    go_wp2_with fail
    go_ret
    exact ⟨by rw [HR2.out]; rfl, HBW.out⟩
end Go.Proofs.YtofabhenmplkoaaGreatDoor.evt

/- The instance after an event. The program. -/
namespace Go.Proofs.YtofabhenmplkoaaGreatDoor.evt
open Go.RowKit
open Go.Proofs.YtofabhenmplkoaaGreatDoor.lib Go.Proofs.YtofabhenmplkoaaGreatDoor.rd Go.Proofs.YtofabhenmplkoaaGreatDoor.app Go.Proofs.YtofabhenmplkoaaGreatDoor.els Go.Proofs.YtofabhenmplkoaaGreatDoor.off Go.Proofs.YtofabhenmplkoaaGreatDoor.typ Go.Proofs.YtofabhenmplkoaaGreatDoor.big Go.Proofs.YtofabhenmplkoaaGreatDoor.ins Go.Proofs.YtofabhenmplkoaaGreatDoor.ord Go.Proofs.YtofabhenmplkoaaGreatDoor.gen
set_option linter.unusedVariables false
set_option linter.unusedSimpArgs false

/-- Apply: the instance after an event, and the error. -/
def appF (x : Ins) (e : Evt) : Ins × Int := if ¬ alwF 0 e = 0 then (nilI, alwF 0 e) else match hapF x e with
  | .error k => (nilI, k)
  | .ok y => (y, 0)
/-- An instance and an error handed back. -/
def AplOut (w : World) (B : Nat) (r : Ins × Int) (e : Ending) (w' : World) : Prop := ∃ P, e = .returned (.tuple #[InV r.1 P, .int .i64 r.2]) ∧ InFr w' B w.heap.size r.1 P ∧ Below w.heap.size w w'
/-- The errors of what happens are none of them 0. -/
theorem slw_err {N : Net} {f t at_ n k : Int} (h : slwF N f t at_ n = .error k) : k ≠ 0 := by
  have key : ∀ j k, slwTo N.arcs f t at_ n j = .error k → k ≠ 0 := by
    intro j
    induction j with
    | zero => intro k h; cases h
    | succ j ih =>
      intro k h
      rw [slwTo] at h
      split at h
      · rename_i e he
        injection h with h
        rw [← h]
        exact ih e he
      · split at h
        · cases h
        · split at h
          · split at h
            · rename_i e he
              injection h with h
              rw [← h]
              rcases late_err he with h' | h' <;> rw [h'] <;> decide
            · cases h
          · cases h
  unfold slwF at h
  split at h
  · injection h with h; rw [← h]; decide
  · split at h
    · injection h with h; rw [← h]; decide
    · split at h
      · rename_i e he
        injection h with h
        rw [← h]
        exact key _ e he
      · split at h
        · cases h
        · injection h with h; rw [← h]; decide
theorem hap_err {x : Ins} {e : Evt} {k : Int} (h : hapF x e = .error k) : k ≠ 0 := by
  unfold hapF at h
  split at h
  · split at h
    · injection h with h; rw [← h]; decide
    · split at h
      · cases h
      · rename_i h9
        injection h with h
        rw [← h]
        exact h9
  · split at h
    · split at h
      · injection h with h; rw [← h]; decide
      · split at h
        · rename_i k' hk'
          injection h with h
          rw [← h]
          exact slw_err hk'
        · cases h
    · split at h
      · split at h
        · injection h with h; rw [← h]; decide
        · split at h
          · injection h with h; rw [← h]; decide
          · split at h
            · injection h with h; rw [← h]; decide
            · cases h
      · split at h
        · rename_i h9
          injection h with h
          rw [← h]
          exact h9
        · split at h
          · injection h with h; rw [← h]; decide
          · split at h
            · cases h
            · split at h
              · cases h
              · injection h with h; rw [← h]; decide
set_option maxRecDepth 20000 in
set_option maxHeartbeats 8000000 in
theorem apply_any (x : Ins) (P : InP) (e : Evt) (C : Option Addr) (c : Nat) (B : Nat) (w : World) (hB : B ≤ w.heap.size) (hA : InAt w B x P) (hF : insF x = []) (hC : Ints w B C e.order.load) (hf : EvtFits e) :
    Calls Tryz.prog 17 #[InV x P, .agg (EvtCells e C c).toArray] w (AplOut w B (appF x e)) := by
  have h : InAt w w.heap.size x P := hA.more hB
  have HA := Lib.hid hA
  show Calls Tryz.prog 17 #[InV x P, .agg #[.int .i64 e.at_, .int .i64 e.kind, .int .i64 e.a, .int .i64 e.b, .int .i64 e.n, .string e.order.name, .slice C e.order.load.length c, .int .i64 e.order.pick.place, .int .i64 e.order.pick.opn, .int .i64 e.order.pick.close, .int .i64 e.order.pick.service, .int .i64 e.order.drop.place, .int .i64 e.order.drop.opn, .int .i64 e.order.drop.close, .int .i64 e.order.drop.service, .int .i64 e.order.skills, .int .i64 e.order.penalty, .int .i64 e.order.split, .int .i64 e.order.last, .int .i64 e.order.now, .bool e.order.off]] w _
  have HF := Lib.hid hF
  have HFT := Lib.hid hf
  have HCC := Lib.hid hC
  obtain ⟨W0, hW0⟩ : ∃ W0, ((w.alloc (.cells (insCs x P).toArray 30)).alloc (.cells (EvtCells e C c).toArray 37)).alloc (.cells nilCs.toArray 30) = W0 := ⟨_, rfl⟩
  have hB0 : Below w.heap.size w W0 := by rw [← hW0]; exact (((Below.refl _ _).alloc (Nat.le_refl _) _).alloc (by simp) _).alloc (by simp; omega) _
  have z0 : W0.heap.size = w.heap.size + 3 := by rw [← hW0]; simp
  have b0 : Blk W0 w.heap.size 30 (insCs x P) := by
    rw [← hW0]
    exact ((Blk.new w _ _).kept (World.grownBy_alloc _ _ none) (by simp)).kept (World.grownBy_alloc _ _ none) (by simp)
  have b1 : Blk W0 (w.heap.size + 1) 37 (EvtCells e C c) := by
    rw [← hW0]
    have h := Blk.new (w.alloc (.cells (insCs x P).toArray 30)) 37 (EvtCells e C c)
    rw [show (w.alloc (.cells (insCs x P).toArray 30)).heap.size = w.heap.size + 1 by simp] at h
    exact h.kept (World.grownBy_alloc _ _ none) (by simp)
  have b2 : Blk W0 (w.heap.size + 2) 30 nilCs := by
    rw [← hW0]
    have h := Blk.new ((w.alloc (.cells (insCs x P).toArray 30)).alloc (.cells (EvtCells e C c).toArray 37)) 30 nilCs
    rw [show ((w.alloc (.cells (insCs x P).toArray 30)).alloc (.cells (EvtCells e C c).toArray 37)).heap.size = w.heap.size + 2 by simp] at h
    exact h
  have hW1 : ((w.alloc (.cells #[.slice P.a0 x.net.places.length P.c0, .slice P.a1 x.net.arcs.length P.c1, .slice P.a2 x.types.length P.c2, .slice P.a3 x.orders.length P.c3, .slice P.a4 x.apart.length P.c4, .slice P.a5 x.before.length P.c5] 30)).alloc (.cells #[.int .i64 e.at_, .int .i64 e.kind, .int .i64 e.a, .int .i64 e.b, .int .i64 e.n, .string e.order.name, .slice C e.order.load.length c, .int .i64 e.order.pick.place, .int .i64 e.order.pick.opn, .int .i64 e.order.pick.close, .int .i64 e.order.pick.service, .int .i64 e.order.drop.place, .int .i64 e.order.drop.opn, .int .i64 e.order.drop.close, .int .i64 e.order.drop.service, .int .i64 e.order.skills, .int .i64 e.order.penalty, .int .i64 e.order.split, .int .i64 e.order.last, .int .i64 e.order.now, .bool e.order.off] 37)).alloc (.cells #[.slice none 0 0, .slice none 0 0, .slice none 0 0, .slice none 0 0, .slice none 0 0, .slice none 0 0] 30) = W0 := hW0
  have HX := Lib.hid (fun w' (h' : Below W0.heap.size W0 w') => And.intro (b0.below h') (And.intro (b1.below h') (b2.below h')))
  have HI := Lib.hid (fun w' (h' : Below w.heap.size w w') => h.go h')
  have HW1 := Lib.hid hW1
  have C0 := Below.refl W0.heap.size W0
  clear hW0 hW1 b0 b1 b2
  simp only [InV]
  obtain ⟨r, hr⟩ : ∃ r, appF x e = r := ⟨_, rfl⟩
  have HR := Lib.hid hr
  rw [hr]
  have HX0 := Lib.hid (HX.out _ C0)
  clear h hA hF hr hC hf
  go_enter Tryz.func17, Tryz.ntmps17
  go_upto_region 1 with fail
  rw [HW1.out]
  clear HW1
  go_wp2_with ((with_reducible refine wpList_loadG stEvt _ rfl ⟨(w.heap.size + 1), 0, none⟩ (EvtCells e C c) ?_ ?_ ?_ ?_ ?_); exact rfl; exact rfl; exact HX0.out.2.1.cells; exact rfl)
  refine (allowed_any 0 e C c W0).mono ?_
  rintro e2 w1 ⟨rfl, b1⟩
  have HBW := Lib.hid (hB0.trans (b1.mono (by omega)))
  have HX1 := Lib.hid (HX.out _ b1)
  have hz1 : w.heap.size + 3 ≤ w1.heap.size := by have := b1.size; omega
  clear b1 HX0
  obtain ⟨k, hk⟩ : ∃ k, alwF 0 e = k := ⟨_, rfl⟩
  have HR1 : Hid (r = if ¬ k = 0 then (nilI, k) else match hapF x e with
    | .error k => (nilI, k)
    | .ok y => (y, 0)) := Lib.hid (by rw [← HR.out, ← hk]; rfl)
  rw [hk]
  clear hk HR
  by_cases hk0 : k = 0
  rotate_left
  · have HRR : Hid (r = (nilI, k)) := Lib.hid (by rw [HR1.out, if_pos hk0])
    have hkk : (k != 0) = true := by simp [hk0]
    clear HR1 hk0
    go_wp2_with ((with_reducible refine wpList_storeL stIns rfl _ _ rfl (w.heap.size + 2) nilCs (insCs (nilI) nilP) ?_ ?_ ?_ ?_ ?_ (insCs_one _ _) ?_); exact rfl; exact rfl; exact HX1.out.2.2; exact rfl; exact rfl; intro wz k1 k2 k3 k4; have K := Lib.hid (And.intro k1 (And.intro k2 (And.intro k3 k4))); clear k1 k2 k3 k4)
    have HRz : Blk wz (w.heap.size + 2) 30 (insCs (nilI) nilP) := K.out.1
    refine bodyPost_ret (v := .tuple #[.agg (insCs (nilI) nilP).toArray, .int .i64 k]) (big.res_cell_tmp stIns Tryz.results17 rfl rfl HRz.cells rfl) rfl ?_
    rw [HRR.out]
    exact ⟨nilP, rfl, InFr.nil, HBW.out.trans (K.out.2.2.2.mono (by omega))⟩
  have HR2 : Hid (r = match hapF x e with
    | .error k => (nilI, k)
    | .ok y => (y, 0)) := Lib.hid (by rw [HR1.out, if_neg (fun h => h hk0)])
  have hkk : (k != 0) = false := by simp [hk0]
  clear HR1 hk0
  go_wp2_with (first
    | ((with_reducible refine wpList_loadG stIns _ rfl ⟨w.heap.size, 0, none⟩ (insCs (x) P) ?_ ?_ ?_ ?_ ?_); exact rfl; exact rfl; exact HX1.out.1.cells; exact rfl)
    | ((with_reducible refine wpList_loadG stEvt _ rfl ⟨(w.heap.size + 1), 0, none⟩ (EvtCells e C c) ?_ ?_ ?_ ?_ ?_); exact rfl; exact rfl; exact HX1.out.2.1.cells; exact rfl))
  refine (happens_any x P e C c B w1 (Nat.le_trans hB HBW.out.size) (HA.out.below (HBW.out.mono hB)) HF.out (HCC.out.below (HBW.out.mono hB)) HFT.out).mono ?_
  obtain ⟨q, hq⟩ : ∃ q, hapF x e = q := ⟨_, rfl⟩
  rw [hq] at HR2 ⊢
  have HQ := Lib.hid hq
  clear hq
  intro e3 w2 h2
  rcases q with kk | Y
  · obtain ⟨Y, Q, rfl, b2⟩ := h2
    have hke : (kk != 0) = true := by simp [hap_err HQ.out]
    have HRR : Hid (r = (nilI, kk)) := Lib.hid HR2.out
    go_upto_region 5 with fail
    obtain ⟨w3, hw3⟩ : ∃ W, w2.alloc (.cells (insCs (Y) Q).toArray 30) = W := ⟨_, rfl⟩
    have hw3' : w2.alloc (.cells #[.slice Q.a0 (Y).net.places.length Q.c0, .slice Q.a1 (Y).net.arcs.length Q.c1, .slice Q.a2 (Y).types.length Q.c2, .slice Q.a3 (Y).orders.length Q.c3, .slice Q.a4 (Y).apart.length Q.c4, .slice Q.a5 (Y).before.length Q.c5] 30) = w3 := hw3
    rw [hw3']
    have k1' : SixAt w3 w2.heap.size (insCs (Y) Q) := by rw [← hw3]; exact World.alloc_heap_new _ _
    have bx : Below w2.heap.size w2 w3 := by rw [← hw3]; exact (Below.refl _ _).alloc (Nat.le_refl _) _
    clear hw3 hw3'
    have HX3 := Lib.hid (And.intro ((HX1.out.2.2.below b2).below bx) True.intro)
    have HB3 := Lib.hid (HBW.out.trans ((b2.trans (bx.mono b2.size)).mono HBW.out.size))
    clear b2 bx k1' HX1 HR2
    go_wp2_with ((with_reducible refine wpList_storeL stIns rfl _ _ rfl (w.heap.size + 2) nilCs (insCs (nilI) nilP) ?_ ?_ ?_ ?_ ?_ (insCs_one _ _) ?_); exact rfl; exact rfl; exact HX3.out.1; exact rfl; exact rfl; intro wz k1 k2 k3 k4; have K := Lib.hid (And.intro k1 (And.intro k2 (And.intro k3 k4))); clear k1 k2 k3 k4)
    have HRz : Blk wz (w.heap.size + 2) 30 (insCs (nilI) nilP) := K.out.1
    refine bodyPost_ret (v := .tuple #[.agg (insCs (nilI) nilP).toArray, .int .i64 kk]) (big.res_cell_tmp stIns Tryz.results17 rfl rfl HRz.cells rfl) rfl ?_
    rw [HRR.out]
    exact ⟨nilP, rfl, InFr.nil, HB3.out.trans (K.out.2.2.2.mono (by omega))⟩
  · obtain ⟨Q, rfl, hfr, b2⟩ := h2
    have HRR : Hid (r = (Y, 0)) := Lib.hid HR2.out
    go_upto_region 5 with fail
    obtain ⟨w3, hw3⟩ : ∃ W, w2.alloc (.cells (insCs (Y) Q).toArray 30) = W := ⟨_, rfl⟩
    have hw3' : w2.alloc (.cells #[.slice Q.a0 (Y).net.places.length Q.c0, .slice Q.a1 (Y).net.arcs.length Q.c1, .slice Q.a2 (Y).types.length Q.c2, .slice Q.a3 (Y).orders.length Q.c3, .slice Q.a4 (Y).apart.length Q.c4, .slice Q.a5 (Y).before.length Q.c5] 30) = w3 := hw3
    rw [hw3']
    have k1' : SixAt w3 w2.heap.size (insCs (Y) Q) := by rw [← hw3]; exact World.alloc_heap_new _ _
    have bx : Below w2.heap.size w2 w3 := by rw [← hw3]; exact (Below.refl _ _).alloc (Nat.le_refl _) _
    clear hw3 hw3'
    have HX3 := Lib.hid (And.intro ((HX1.out.2.2.below b2).below bx) (And.intro k1' (hfr.below bx)))
    have HB3 := Lib.hid (HBW.out.trans ((b2.trans (bx.mono b2.size)).mono HBW.out.size))
    obtain ⟨g, hg⟩ : ∃ g, w2.heap.size = g := ⟨_, rfl⟩
    rw [hg] at HX3 ⊢
    clear b2 bx k1' HX1 HR2 hfr hg
    go_wp2_with (first
      | ((with_reducible refine wpList_loadG stIns _ rfl ⟨g, 0, none⟩ (insCs (Y) Q) ?_ ?_ ?_ ?_ ?_); exact rfl; exact rfl; exact HX3.out.2.1.cells; exact rfl)
      | ((with_reducible refine wpList_storeL stIns rfl _ _ rfl (w.heap.size + 2) nilCs (insCs (Y) Q) ?_ ?_ ?_ ?_ ?_ (insCs_one _ _) ?_); exact rfl; exact rfl; exact HX3.out.1; exact rfl; exact rfl; intro wz k1 k2 k3 k4; have K := Lib.hid (And.intro k1 (And.intro k2 (And.intro k3 k4))); clear k1 k2 k3 k4))
    have HRz : Blk wz (w.heap.size + 2) 30 (insCs (Y) Q) := K.out.1
    refine bodyPost_ret (v := .tuple #[.agg (insCs (Y) Q).toArray, .int .i64 0]) (big.res_cell_tmp stIns Tryz.results17 rfl rfl HRz.cells rfl) rfl ?_
    rw [HRR.out]
    have hgz : w3.heap.size ≤ wz.heap.size := by rw [K.out.2.2.1]; exact Nat.le_refl _
    exact ⟨Q, rfl, (InFr.keep HX3.out.2.2 hgz (fun b hb hp => K.out.2.1 b (by rcases hp with h | h <;> omega))).weak (Nat.le_refl _) (by omega), HB3.out.trans (K.out.2.2.2.mono (by omega))⟩
end Go.Proofs.YtofabhenmplkoaaGreatDoor.evt

/- awake of the laws of events: the event, the line and the instance that it tries. -/
namespace Go.Proofs.YtofabhenmplkoaaGreatDoor.evt
open Go.RowKit
open Go.Proofs.YtofabhenmplkoaaGreatDoor.lib Go.Proofs.YtofabhenmplkoaaGreatDoor.rd Go.Proofs.YtofabhenmplkoaaGreatDoor.app Go.Proofs.YtofabhenmplkoaaGreatDoor.els Go.Proofs.YtofabhenmplkoaaGreatDoor.typ Go.Proofs.YtofabhenmplkoaaGreatDoor.big Go.Proofs.YtofabhenmplkoaaGreatDoor.ins Go.Proofs.YtofabhenmplkoaaGreatDoor.ord
open Go.Proofs.YtofabhenmplkoaaGreatDoor.gen hiding zOrd bOrd
open Go.Proofs.YtofabhenmplkoaaGreatDoor.txt (in64 By strV strV_of joinS decW decW_any Tabs elem_str nameB name_any toList_data Strs numL number_any own_cap WordsOk WdOut words_any)
set_option linter.unusedVariables false
set_option linter.unusedSimpArgs false

def freshO : Ord := ⟨⟨#[110, 101, 119]⟩, [2], ⟨-1, 0, 0, 0⟩, ⟨3, 10, 90, 4⟩, 0, 50, 1, -1, -1, false⟩
def freshE : Evt := ⟨5, 1, 0, 0, 0, freshO⟩
def freshS : By := [111, 114, 100, 101, 114, 32, 53, 32, 110, 101, 119, 32, 49, 32, 50, 32, 45, 49, 32, 48, 32, 48, 32, 48, 32, 51, 32, 49, 48, 32, 57, 48, 32, 52, 32, 48, 32, 53, 48, 32, 49, 32, 45, 49, 32, 45, 49]
def brkS : By := [98, 114, 101, 97, 107, 32, 55, 32, 48]
def brkE : Evt := ⟨7, 4, 0, 0, 0, ordO⟩
def vanE : Ty := ⟨⟨#[118, 97, 110]⟩, 2, 0, 0, [5], 0, 0, 0, 100, 50, 0, 0, 0, 0⟩
def awkI : Ins := ⟨⟨[⟨#[104, 117, 98]⟩], []⟩, [vanE], [], [], []⟩
theorem dec1 {u : Nat} (h : u < 10) : Lib.decDigits u = [UInt8.ofNat (48 + u)] := Lib.decDigits_one h
theorem dec2 {u : Nat} (h : 10 ≤ u) (h2 : u < 100) : Lib.decDigits u = [UInt8.ofNat (48 + u / 10), UInt8.ofNat (48 + u % 10)] := by
  rw [Lib.decDigits, dif_neg (by omega), dec1 (by omega)]
  rfl
theorem fresh_parts : joinS (partsF freshE) = freshS := by
  have e : partsF freshE = [[111, 114, 100, 101, 114], Lib.itoa 5, [110, 101, 119], Lib.itoa 1, Lib.itoa 2, Lib.itoa (-1), Lib.itoa 0, Lib.itoa 0, Lib.itoa 0, Lib.itoa 3, Lib.itoa 10, Lib.itoa 90, Lib.itoa 4, Lib.itoa 0, Lib.itoa 50, Lib.itoa 1, Lib.itoa (-1), Lib.itoa (-1)] := rfl
  have i0 : Lib.itoa 0 = [48] := by show Lib.decDigits 0 = _; rw [dec1 (by decide)]; rfl
  have i1 : Lib.itoa 1 = [49] := by show Lib.decDigits 1 = _; rw [dec1 (by decide)]; rfl
  have i2 : Lib.itoa 2 = [50] := by show Lib.decDigits 2 = _; rw [dec1 (by decide)]; rfl
  have i3 : Lib.itoa 3 = [51] := by show Lib.decDigits 3 = _; rw [dec1 (by decide)]; rfl
  have i4 : Lib.itoa 4 = [52] := by show Lib.decDigits 4 = _; rw [dec1 (by decide)]; rfl
  have i5 : Lib.itoa 5 = [53] := by show Lib.decDigits 5 = _; rw [dec1 (by decide)]; rfl
  have i10 : Lib.itoa 10 = [49, 48] := by show Lib.decDigits 10 = _; rw [dec2 (by decide) (by decide)]; rfl
  have i50 : Lib.itoa 50 = [53, 48] := by show Lib.decDigits 50 = _; rw [dec2 (by decide) (by decide)]; rfl
  have i90 : Lib.itoa 90 = [57, 48] := by show Lib.decDigits 90 = _; rw [dec2 (by decide) (by decide)]; rfl
  have im : Lib.itoa (-1) = [45, 49] := by show 45 :: Lib.decDigits 1 = _; rw [dec1 (by decide)]; rfl
  rw [e, i0, i1, i2, i3, i4, i5, i10, i50, i90, im]
  rfl
theorem brk_parts : joinS (partsF brkE) = brkS := by
  have e : partsF brkE = [[98, 114, 101, 97, 107], Lib.itoa 7, Lib.itoa 0] := rfl
  have i0 : Lib.itoa 0 = [48] := by show Lib.decDigits 0 = _; rw [dec1 (by decide)]; rfl
  have i7 : Lib.itoa 7 = [55] := by show Lib.decDigits 7 = _; rw [dec1 (by decide)]; rfl
  rw [e, i0, i7]
  rfl
theorem fresh_prt : prtE freshE = 0 ∧ prtS freshE = freshS := by
  have h : prtE freshE = 0 := by kernel_rfl
  refine ⟨h, ?_⟩
  unfold prtS
  rw [if_pos h, fresh_parts]
theorem fresh_64 : Evt64 freshE := by
  refine ⟨?_, fun x hx => ?_⟩
  · unfold EvtFits OrdFits StpFits freshE freshO
    decide
  · have h : x = 2 := by simpa [freshE, freshO] using hx
    subst h
    exact ⟨by decide, by decide⟩
theorem brk_line : LineOf brkS brkE := by
  refine ⟨?_, brk_parts, ⟨?_, fun x hx => by cases hx⟩, by decide⟩
  · unfold prtE cleanB
    simp [brkE, blank_O]
  · unfold EvtFits OrdFits StpFits brkE ordO stpO
    decide
theorem awk_ok : insF awkI = [] := by kernel_rfl
theorem awk_app : appF awkI brkE = ({ awkI with types := [{ vanE with count := 1 }] }, 0) := by
  have h0 : alwF 0 brkE = 0 := by
    unfold alwF cleanB
    simp [brkE, blank_O, tkB]
  unfold appF
  rw [if_neg (not_not_intro h0)]
  rfl
theorem awk_chk : chkF awkI 8 brkE = 32 := by
  have h0 : alwF 8 brkE = 32 := by
    unfold alwF
    simp [brkE, tkB]
  unfold chkF
  rw [if_pos (by rw [h0]; decide), h0]
theorem fresh_fill2 (A : Option Addr) : Instr.fill ((#[(0, 1), (1, 1), (2, 1), (3, 1), (4, 1), (5, 16)] : Array (Nat × Nat))[·]?) (Value.agg (EvtCells zE none 0).toArray).cells [(0, .int .i64 5), (1, .int .i64 1), (5, .agg (OrdCells freshO A 1).toArray)] = some (EvtCells freshE A 1).toArray := by kernel_rfl
set_option maxRecDepth 20000 in
set_option maxHeartbeats 4000000 in
theorem fresh_any (w : World) : Calls Tryz.prog 44 #[] w fun en w' => ∃ C c, en = .returned (.tuple #[.agg (EvtCells freshE C c).toArray, .string ⟨freshS.toArray⟩]) ∧ Below w.heap.size w w' ∧ Ints w' w'.heap.size C [2] := by
  obtain ⟨W0, hW0⟩ : ∃ W0, w.alloc (.cells (EvtCells zE none 0).toArray 37) = W0 := ⟨_, rfl⟩
  have hB0 : Below w.heap.size w W0 := by rw [← hW0]; exact (Below.refl _ _).alloc (Nat.le_refl _) _
  have z0 : W0.heap.size = w.heap.size + 1 := by rw [← hW0]; simp
  have b0 : Blk W0 w.heap.size 37 (EvtCells zE none 0) := by rw [← hW0]; exact Blk.new w _ _
  have HR0 := Lib.hid b0
  have HB0 := Lib.hid hB0
  have HW0 := Lib.hid (show w.alloc (.cells #[.int .i64 0, .int .i64 0, .int .i64 0, .int .i64 0, .int .i64 0, .string ⟨#[]⟩, .slice none 0 0, .int .i64 0, .int .i64 0, .int .i64 0, .int .i64 0, .int .i64 0, .int .i64 0, .int .i64 0, .int .i64 0, .int .i64 0, .int .i64 0, .int .i64 0, .int .i64 0, .int .i64 0, .bool false] 37) = W0 from hW0)
  clear b0 hB0 hW0
  go_enter Tryz.func44, Tryz.ntmps44
  go_upto_region 1 with fail
  rw [HW0.out]
  clear HW0
  go_upto_region 2 with fail
  obtain ⟨w2, hw2⟩ : ∃ W, (W0.alloc (.cells #[.int .i64 2] 3)).alloc (.cells (OrdCells freshO (some ⟨w.heap.size + 1, 0, none⟩) 1).toArray 35) = W := ⟨_, rfl⟩
  have hw2' : (W0.alloc (.cells #[.int .i64 2] 3)).alloc (.cells #[.string ⟨#[110, 101, 119]⟩, .slice (some ⟨w.heap.size + 1, 0, none⟩) 1 1, .int .i64 (-1), .int .i64 0, .int .i64 0, .int .i64 0, .int .i64 3, .int .i64 10, .int .i64 90, .int .i64 4, .int .i64 0, .int .i64 50, .int .i64 1, .int .i64 (-1), .int .i64 (-1), .bool false] 35) = w2 := hw2
  rw [hw2']
  have b01 : Below W0.heap.size W0 (W0.alloc (.cells #[.int .i64 2] 3)) := (Below.refl _ _).alloc (Nat.le_refl _) _
  have hz1 : (W0.alloc (.cells #[.int .i64 2] 3)).heap.size = w.heap.size + 2 := by simp [z0]
  have b12 : Below (w.heap.size + 2) (W0.alloc (.cells #[.int .i64 2] 3)) w2 := by rw [← hw2]; exact (Below.refl _ _).alloc (by omega) _
  have HQ : Hid (Blk w2 (w.heap.size + 1 + 1) 35 (OrdCells freshO (some ⟨w.heap.size + 1, 0, none⟩) 1)) := Lib.hid (by
    have h := Blk.new (W0.alloc (.cells #[.int .i64 2] 3)) 35 (OrdCells freshO (some ⟨w.heap.size + 1, 0, none⟩) 1)
    rw [hz1] at h
    rw [← hw2]
    exact h)
  have HBz : Hid (Below W0.heap.size W0 w2) := Lib.hid (b01.trans (b12.mono (by omega)))
  have HRz : Hid (Blk w2 w.heap.size 37 (EvtCells zE none 0)) := Lib.hid ((HBz.out.block _ (by omega)).trans HR0.out)
  have HIz : Hid (Ints w2 (w.heap.size + 2) (some ⟨w.heap.size + 1, 0, none⟩) [2]) := Lib.hid (by
    have h := Ints.lit W0 [2] (by simp)
    rw [z0] at h
    exact h.below b12)
  obtain ⟨q1, hq1⟩ : ∃ q, w.heap.size + 1 + 1 = q := ⟨_, rfl⟩
  rw [hq1] at HQ ⊢
  clear b01 b12 hw2 hw2' hz1
  go_wp2_with (first
    | ((with_reducible refine wpList_loadG stOrd' _ rfl ⟨q1, 0, none⟩ (OrdCells freshO (some ⟨w.heap.size + 1, 0, none⟩) 1) ?_ ?_ ?_ ?_ ?_); exact rfl; exact rfl; exact HQ.out.cells; exact rfl)
    | ((with_reducible refine wpList_buildL bEvt rfl _ rfl _ (EvtCells freshE (some ⟨w.heap.size + 1, 0, none⟩) 1) ?_ (fresh_fill2 _) ?_); exact rfl)
    | ((with_reducible refine wpList_storeL stEvt rfl _ _ rfl (w.heap.size) (EvtCells zE none 0) (EvtCells freshE (some ⟨w.heap.size + 1, 0, none⟩) 1) ?_ ?_ ?_ ?_ ?_ (evtC_one _ _ _) ?_); exact rfl; exact rfl; exact HRz.out; exact rfl; exact rfl; intro wz k1 k2 k3 k4; have K := Lib.hid (And.intro k1 (And.intro k2 (And.intro k3 k4))); clear k1 k2 k3 k4))
  have HR9 : Blk wz w.heap.size 37 (EvtCells freshE (some ⟨w.heap.size + 1, 0, none⟩) 1) := K.out.1
  refine bodyPost_ret (v := .tuple #[.agg (EvtCells freshE (some ⟨w.heap.size + 1, 0, none⟩) 1).toArray, .string ⟨freshS.toArray⟩]) (big.res_cell_tmp stEvt Tryz.results44 rfl rfl HR9.cells rfl) rfl ?_
  refine ⟨_, 1, rfl, HB0.out.trans ((HBz.out.mono (by omega)).trans K.out.2.2.2), ?_⟩
  have hsz := K.out.2.2.1
  have hbz := HBz.out.size
  have hq2 := HQ.out.lt
  refine ⟨⟨rfl, fun _ => ⟨_, rfl, by show w.heap.size + 1 < wz.heap.size; omega, fun j u hu => ?_⟩⟩, by simp⟩
  obtain ⟨ad, _, h1, _, h2⟩ := HIz.out.at_ (k := j) (by
    have := (List.getElem?_eq_some_iff.1 hu).1
    simpa using this)
  obtain rfl := Option.some.inj h1
  obtain ⟨h3, h4⟩ := h2
  rw [List.getElem?_map, h3] at hu
  rw [← Option.some.inj hu]
  exact (World.cell?_of_block (by rw [block_of_add]; exact K.out.2.1 _ (by show w.heap.size + 1 ≠ w.heap.size; omega))).trans h4
end Go.Proofs.YtofabhenmplkoaaGreatDoor.evt

/- awake of the laws of events, walked. -/
namespace Go.Proofs.YtofabhenmplkoaaGreatDoor.evt
open Go.RowKit
open Go.Proofs.YtofabhenmplkoaaGreatDoor.lib Go.Proofs.YtofabhenmplkoaaGreatDoor.rd Go.Proofs.YtofabhenmplkoaaGreatDoor.app Go.Proofs.YtofabhenmplkoaaGreatDoor.els Go.Proofs.YtofabhenmplkoaaGreatDoor.typ Go.Proofs.YtofabhenmplkoaaGreatDoor.big Go.Proofs.YtofabhenmplkoaaGreatDoor.ins Go.Proofs.YtofabhenmplkoaaGreatDoor.ord
open Go.Proofs.YtofabhenmplkoaaGreatDoor.gen hiding zOrd bOrd
open Go.Proofs.YtofabhenmplkoaaGreatDoor.off (intsOff_keep)
open Go.Proofs.YtofabhenmplkoaaGreatDoor.txt (in64 By strV strV_of joinS decW decW_any Tabs elem_str nameB name_any toList_data Strs numL number_any own_cap WordsOk WdOut words_any)
set_option linter.unusedVariables false
set_option linter.unusedSimpArgs false

theorem vanE_fill (ad : Addr) : Instr.fill ((#[(0, 1), (1, 1), (2, 1), (3, 1), (4, 1), (5, 1), (6, 1), (7, 1), (8, 1), (9, 1), (10, 1), (11, 1), (12, 1), (13, 1)] : Array (Nat × Nat))[·]?) (Value.agg ins.zTy.toArray).cells [(0, .string ⟨#[118, 97, 110]⟩), (1, .int .i64 2), (4, .slice (some ad) 1 1), (8, .int .i64 100), (9, .int .i64 50)] = some (TyCells vanE (some ad) 1).toArray := by kernel_rfl
theorem vanE_fill2 (ad : Addr) : Instr.fill (fun i => some (i * 14, 14)) ins.zTy.toArray [(0, .agg (TyCells vanE (some ad) 1).toArray)] = some (TyCells vanE (some ad) 1).toArray := by kernel_rfl
def awkP (k : Nat) : InP := ⟨some ⟨k, 0, none⟩, 1, none, 0, some ⟨k + 1 + 1, 0, none⟩, 1, none, 0, none, 0, none, 0⟩
def awkJ : Ins := { awkI with types := [{ vanE with count := 1 }] }
/-- The rows of the instance that is tried. -/
theorem awk_at {w : World} : InAt (((w.alloc (.cells #[.string ⟨#[104, 117, 98]⟩] 9)).alloc (.cells #[.int .i64 5] 3)).alloc (.cells (TyCells vanE (some ⟨w.heap.size + 1, 0, none⟩) 1).toArray 56)) (w.heap.size + 1 + 1 + 1) awkI (awkP w.heap.size) := by
  have h1 : RowAt rStr (w.alloc (.cells #[.string ⟨#[104, 117, 98]⟩] 9)) (w.heap.size + 1) (some ⟨w.heap.size, 0, none⟩) [⟨#[104, 117, 98]⟩] := row_one (cs := [.string ⟨#[104, 117, 98]⟩]) ⟨rfl, by decide⟩
  have z1 : (w.alloc (.cells #[.string ⟨#[104, 117, 98]⟩] 9)).heap.size = w.heap.size + 1 := by simp
  have h2 := Ints.lit (w.alloc (.cells #[.string ⟨#[104, 117, 98]⟩] 9)) [5] (by simp)
  rw [z1] at h2
  have b12 : Below (w.heap.size + 1) (w.alloc (.cells #[.string ⟨#[104, 117, 98]⟩] 9)) ((w.alloc (.cells #[.string ⟨#[104, 117, 98]⟩] 9)).alloc (.cells #[.int .i64 5] 3)) := (Below.refl _ _).alloc (by simp) _
  have z2 : ((w.alloc (.cells #[.string ⟨#[104, 117, 98]⟩] 9)).alloc (.cells #[.int .i64 5] 3)).heap.size = w.heap.size + 1 + 1 := by simp
  have b23 : Below (w.heap.size + 1 + 1) ((w.alloc (.cells #[.string ⟨#[104, 117, 98]⟩] 9)).alloc (.cells #[.int .i64 5] 3)) (((w.alloc (.cells #[.string ⟨#[104, 117, 98]⟩] 9)).alloc (.cells #[.int .i64 5] 3)).alloc (.cells (TyCells vanE (some ⟨w.heap.size + 1, 0, none⟩) 1).toArray 56)) := (Below.refl _ _).alloc (by rw [z2]; exact Nat.le_refl _) _
  have h3 : Ints (((w.alloc (.cells #[.string ⟨#[104, 117, 98]⟩] 9)).alloc (.cells #[.int .i64 5] 3)).alloc (.cells (TyCells vanE (some ⟨w.heap.size + 1, 0, none⟩) 1).toArray 56)) (w.heap.size + 1 + 1) (some ⟨w.heap.size + 1, 0, none⟩) [5] := h2.below b23
  have hf : TyFits vanE := by unfold TyFits vanE; decide
  have h4 : RowAt rTy (((w.alloc (.cells #[.string ⟨#[104, 117, 98]⟩] 9)).alloc (.cells #[.int .i64 5] 3)).alloc (.cells (TyCells vanE (some ⟨w.heap.size + 1, 0, none⟩) 1).toArray 56)) (((w.alloc (.cells #[.string ⟨#[104, 117, 98]⟩] 9)).alloc (.cells #[.int .i64 5] 3)).heap.size + 1) (some ⟨((w.alloc (.cells #[.string ⟨#[104, 117, 98]⟩] 9)).alloc (.cells #[.int .i64 5] 3)).heap.size, 0, none⟩) [vanE] := row_one (rTy_mk (t := vanE) (h3.more (by rw [z2]; omega)) hf)
  rw [z2] at h4
  exact ⟨((h1.below b12).below (b23.mono (by omega))).more (by omega), RowAt.nil, h4, RowAt.nil, RowAt.nil, RowAt.nil, Nat.le_refl 1, Nat.le_refl 0, Nat.le_refl 0, Nat.le_refl 0⟩
set_option maxRecDepth 20000 in
set_option maxHeartbeats 8000000 in
theorem awake_any (w : World) (ht : Tabs w) : Calls Tryz.prog 14 #[] w fun e w' => e = .returned (.bool true) ∧ Below w.heap.size w w' := by
  have HT := Lib.hid ht
  clear ht
  go_enter Tryz.func14, Tryz.ntmps14
  go_upto_region 2 with (first
    | (go_at_call 44; refine (fresh_any _).mono ?_; rintro e1 w1 ⟨C1, c1, rfl, hb1, hi1⟩; have HI1 := Lib.hid hi1; clear hi1)
    | ((with_reducible refine wpList_storeL stEvt rfl _ _ rfl (w1.heap.size) (EvtCells zE none 0) (EvtCells freshE C1 c1) ?_ ?_ ?_ ?_ ?_ (evtC_one _ _ _) ?_); exact rfl; exact rfl; exact Blk.new w1 _ _; exact rfl; exact rfl; intro wz k1 k2 k3 k4; have K := Lib.hid (And.intro k1 (And.intro k2 (And.intro k3 k4))); clear k1 k2 k3 k4))
  have z1 := hb1.size
  have b2 : Below w1.heap.size w1 wz := ((Below.refl _ _).alloc (Nat.le_refl _) _).trans K.out.2.2.2
  obtain ⟨w2, hw2⟩ : ∃ W, wz = W := ⟨_, rfl⟩
  obtain ⟨q1, hq1⟩ : ∃ q, w1.heap.size = q := ⟨_, rfl⟩
  have HE2 : Hid (Blk w2 q1 37 (EvtCells freshE C1 c1)) := Lib.hid (by rw [← hw2, ← hq1]; exact K.out.1)
  rw [hw2] at b2 ⊢
  have HI2 : Hid (Ints w2 w2.heap.size C1 freshE.order.load) := Lib.hid ((HI1.out.below b2).more b2.size)
  have HB2 : Hid (Below w.heap.size w w2) := Lib.hid (hb1.trans (b2.mono z1))
  rw [hq1]
  obtain ⟨fs, hfs⟩ : ∃ b, (⟨freshS.toArray⟩ : ByteArray) = b := ⟨_, rfl⟩
  rw [hfs]
  have hpr : Calls Tryz.prog 22 #[.agg (EvtCells freshE C1 c1).toArray] w2 fun en w' => en = .returned (.tuple #[.string fs, .int .i64 0]) ∧ Below w2.heap.size w2 w' := (print_any freshE C1 c1 w2 (HT.out.below HB2.out) fresh_64 HI2.out (by decide) (by decide)).mono (by
    rintro en w' ⟨rfl, hb⟩
    rw [fresh_prt.1, fresh_prt.2, hfs]
    exact ⟨rfl, hb⟩)
  clear K hw2 hq1 b2 hb1 z1 HI1 HI2 hfs
  go_upto_region 3 with (first
    | ((with_reducible refine wpList_loadG stEvt _ rfl ⟨q1, 0, none⟩ (EvtCells freshE C1 c1) ?_ ?_ ?_ ?_ ?_); exact rfl; exact rfl; exact (HE2.out).cells; exact rfl)
    | (go_at_call 22; refine hpr.mono ?_; rintro e3 w3 ⟨rfl, hb3⟩))
  have HB3 : Hid (Below w.heap.size w w3) := Lib.hid (HB2.out.trans (hb3.mono HB2.out.size))
  clear hb3 hpr HE2 HB2
  have hps : Calls Tryz.prog 24 #[.string ⟨#[98, 114, 101, 97, 107, 32, 55, 32, 48]⟩] w3 fun en w' => ∃ C c, en = .returned (.tuple #[.agg (EvtCells brkE C c).toArray, .int .i64 0]) ∧ Below w3.heap.size w3 w' ∧ Ints w' w'.heap.size C brkE.order.load := (eparse_any ⟨#[98, 114, 101, 97, 107, 32, 55, 32, 48]⟩ (by decide) w3 (HT.out.below HB3.out)).mono (by
    rintro en w' ⟨hb, ⟨h, _⟩ | ⟨e, C, c, h, _, _, rfl, hi⟩⟩
    · exact absurd brk_line (h.2 rfl brkE)
    · obtain rfl : e = brkE := (h.1 e rfl).one brk_line
      exact ⟨C, c, rfl, hb, hi.1⟩)
  go_upto_region 4 with (first
    | (go_at_call 24; refine hps.mono ?_; rintro e4 w4 ⟨C4, c4, rfl, hb4, hi4⟩; have HI4 := Lib.hid hi4; clear hi4)
    | ((with_reducible refine wpList_storeL stEvt rfl _ _ rfl (w4.heap.size) (EvtCells zE none 0) (EvtCells brkE C4 c4) ?_ ?_ ?_ ?_ ?_ (evtC_one _ _ _) ?_); exact rfl; exact rfl; exact Blk.new w4 _ _; exact rfl; exact rfl; intro wz k1 k2 k3 k4; have K := Lib.hid (And.intro k1 (And.intro k2 (And.intro k3 k4))); clear k1 k2 k3 k4))
  have z4 := hb4.size
  have b5 : Below w4.heap.size w4 wz := ((Below.refl _ _).alloc (Nat.le_refl _) _).trans K.out.2.2.2
  obtain ⟨w5, hw5⟩ : ∃ W, wz = W := ⟨_, rfl⟩
  obtain ⟨q5, hq5⟩ : ∃ q, w4.heap.size = q := ⟨_, rfl⟩
  have HE5 : Hid (Blk w5 q5 37 (EvtCells brkE C4 c4)) := Lib.hid (by rw [← hw5, ← hq5]; exact K.out.1)
  rw [hw5] at b5 ⊢
  have HI5 : Hid (Ints w5 w5.heap.size C4 brkE.order.load) := Lib.hid ((HI4.out.below b5).more b5.size)
  have HB5 : Hid (Below w.heap.size w w5) := Lib.hid (HB3.out.trans ((hb4.trans (b5.mono z4)).mono HB3.out.size))
  rw [hq5]
  clear K hw5 hq5 b5 hb4 z4 HI4 hps HB3
  go_upto_region 5 with (first
    | ((with_reducible refine wpList_buildL ins.bTy rfl _ rfl _ (TyCells vanE (some ⟨w5.heap.size + 1, 0, none⟩) 1) ?_ (vanE_fill _) ?_); exact rfl)
    | ((with_reducible refine wpList_bsliceL ins.ty_elem rfl 1 _ rfl _ (TyCells vanE (some ⟨w5.heap.size + 1, 0, none⟩) 1) ins.zTy ?_ (by decide) (by decide) ins.ty_range (vanE_fill2 _) ?_); exact rfl))
  obtain ⟨V, hV⟩ : ∃ V, ((w5.alloc (.cells #[.string ⟨#[104, 117, 98]⟩] 9)).alloc (.cells #[.int .i64 5] 3)).alloc (.cells (TyCells vanE (some ⟨w5.heap.size + 1, 0, none⟩) 1).toArray 56) = V := ⟨_, rfl⟩
  have hat := awk_at (w := w5)
  rw [hV] at hat ⊢
  have hzV : V.heap.size = w5.heap.size + 3 := by rw [← hV]; simp
  have b5V : Below w5.heap.size w5 V := by rw [← hV]; exact (((Below.refl _ _).alloc (Nat.le_refl _) _).alloc (by simp) _).alloc (by simp; omega) _
  obtain ⟨k5, hk5⟩ : ∃ k, w5.heap.size = k := ⟨_, rfl⟩
  rw [hk5] at hat hzV ⊢
  obtain ⟨w6, hw6⟩ : ∃ W, V.alloc (.cells (insCs awkI (awkP k5)).toArray 30) = W := ⟨_, rfl⟩
  have hw6' : V.alloc (.cells #[.slice (some ⟨k5, 0, none⟩) 1 1, .slice none 0 0, .slice (some ⟨k5 + 1 + 1, 0, none⟩) 1 1, .slice none 0 0, .slice none 0 0, .slice none 0 0] 30) = w6 := hw6
  rw [hw6']
  have b6 : Below V.heap.size V w6 := by rw [← hw6]; exact (Below.refl _ _).alloc (Nat.le_refl _) _
  obtain ⟨q6, hq6⟩ : ∃ q, V.heap.size = q := ⟨_, rfl⟩
  have HX6 : Hid (Blk w6 q6 30 (insCs awkI (awkP k5))) := Lib.hid (by rw [← hq6, ← hw6]; exact Blk.new V _ _)
  have HA6 : Hid (InAt w6 w6.heap.size awkI (awkP k5)) := Lib.hid ((hat.below (b6.mono (by omega))).more (by have := b6.size; omega))
  have b56 : Below w5.heap.size w5 w6 := b5V.trans (b6.mono (by omega))
  have HE6 := Lib.hid (HE5.out.below b56)
  have HI6 : Hid (Ints w6 w6.heap.size C4 brkE.order.load) := Lib.hid ((HI5.out.below b56).more b56.size)
  have HB6 : Hid (Below w.heap.size w w6) := Lib.hid (HB5.out.trans (b56.mono HB5.out.size))
  have hf64 : EvtFits brkE := brk_line.2.2.1.1
  have hap : Calls Tryz.prog 17 #[InV awkI (awkP k5), .agg (EvtCells brkE C4 c4).toArray] w6 fun en w' => ∃ P, en = .returned (.tuple #[.agg #[.slice P.a0 1 P.c0, .slice P.a1 0 P.c1, .slice P.a2 1 P.c2, .slice P.a3 0 P.c3, .slice P.a4 0 P.c4, .slice P.a5 0 P.c5], .int .i64 0]) ∧ InAt w' w'.heap.size awkJ P ∧ Below w6.heap.size w6 w' := (apply_any awkI (awkP k5) brkE C4 c4 w6.heap.size w6 (Nat.le_refl _) HA6.out awk_ok HI6.out hf64).mono (by
    rintro en w' ⟨P, rfl, hfr, hb⟩
    rw [awk_app] at hfr ⊢
    exact ⟨P, rfl, hfr.here, hb⟩)
  have hfi := Lib.hid hf64
  have hq6' : k5 + 1 + 1 + 1 = q6 := by omega
  rw [hq6']
  clear hV hat hzV b5V hk5 hw6 hw6' b6 hq6 hq6' b56 HE5 HI5 HB5 hf64
  go_upto_region 6 with (first
    | ((with_reducible refine wpList_loadG stIns _ rfl ⟨q6, 0, none⟩ (insCs awkI (awkP k5)) ?_ ?_ ?_ ?_ ?_); exact rfl; exact rfl; exact HX6.out.cells; exact rfl)
    | ((with_reducible refine wpList_loadG stEvt _ rfl ⟨q5, 0, none⟩ (EvtCells brkE C4 c4) ?_ ?_ ?_ ?_ ?_); exact rfl; exact rfl; exact (HE6.out).cells; exact rfl)
    | (go_at_call 17; refine hap.mono ?_; rintro e7 w7 ⟨P, rfl, ha7, hb7⟩; have HA7 := Lib.hid (And.intro ha7 hb7); clear ha7 hb7))
  obtain ⟨w8, hw8⟩ : ∃ W, w7.alloc (.cells #[.slice P.a0 1 P.c0, .slice P.a1 0 P.c1, .slice P.a2 1 P.c2, .slice P.a3 0 P.c3, .slice P.a4 0 P.c4, .slice P.a5 0 P.c5] 30) = W := ⟨_, rfl⟩
  rw [hw8]
  have b8 : Below w7.heap.size w7 w8 := by rw [← hw8]; exact (Below.refl _ _).alloc (Nat.le_refl _) _
  have HX8 : Blk w8 w7.heap.size 30 [.slice P.a0 1 P.c0, .slice P.a1 0 P.c1, .slice P.a2 1 P.c2, .slice P.a3 0 P.c3, .slice P.a4 0 P.c4, .slice P.a5 0 P.c5] := by rw [← hw8]; exact Blk.new w7 _ _
  obtain ⟨ad, D1, d1, hP2, hadb, hty, -, -⟩ := row_Ty (HA7.out.1.types.below b8) (i := 0) (t := { vanE with count := 1 }) rfl
  have b68 : Below w6.heap.size w6 w8 := HA7.out.2.trans (b8.mono HA7.out.2.size)
  have hE8 : Blk w8 q5 37 (EvtCells brkE C4 c4) := HE6.out.below b68
  have hX8 : Blk w8 q6 30 (insCs awkI (awkP k5)) := HX6.out.below b68
  have c0 : w8.cell? ⟨q5, 0, none⟩ = some (.int .i64 7) := hE8.cell rfl
  have c1' : w8.cell? ⟨q5, 1, none⟩ = some (.int .i64 4) := hE8.cell rfl
  obtain ⟨q7, hq7⟩ : ∃ q, w7.heap.size = q := ⟨_, rfl⟩
  rw [hq7] at HX8 ⊢
  have c2 : w8.cell? ⟨q7, 2, none⟩ = some (.slice P.a2 1 P.c2) := HX8.cell rfl
  have c3 : w8.cell? ⟨ad.block, ad.off + 1, none⟩ = some (.int .i64 1) := by have := hty.2.1; simpa [Addr.add] using this
  have hck : Calls Tryz.prog 15 #[InV awkI (awkP k5), .int .i64 8, .agg (EvtCells brkE C4 c4).toArray] w8 fun en w' => en = .returned (.int .i64 32) ∧ Below w8.heap.size w8 w' := (echeck_any awkI (awkP k5) 8 brkE C4 c4 w8 ((HA6.out.below b68).more b68.size) awk_ok ((HI6.out.below b68).more b68.size) hfi.out).mono (by
    rintro en w' ⟨rfl, hb⟩
    rw [awk_chk]
    exact ⟨rfl, hb⟩)
  have HB8 : Hid (Below w.heap.size w w8) := Lib.hid (HB6.out.trans (b68.mono HB6.out.size))
  have HP2 := Lib.hid hP2
  rw [hP2] at c2
  have HX := Lib.hid hX8
  have HE := Lib.hid hE8
  clear hw8 b8 HX8 hty hadb b68 hE8 hX8 hq7 HX6 HA6 HE6 HI6 HB6 hap hfi HA7 hP2
  go_wp2_with (first
    | ((with_reducible refine wpList_loadG stIns _ rfl ⟨q6, 0, none⟩ (insCs awkI (awkP k5)) ?_ ?_ ?_ ?_ ?_); exact rfl; exact rfl; exact HX.out.cells; exact rfl)
    | ((with_reducible refine wpList_loadG stEvt _ rfl ⟨q5, 0, none⟩ (EvtCells brkE C4 c4) ?_ ?_ ?_ ?_ ?_); exact rfl; exact rfl; exact (HE.out).cells; exact rfl)
    | (go_at_call 15; refine hck.mono ?_; rintro e9 w9 ⟨rfl, hb9⟩; have HB9 := Lib.hid hb9; clear hb9))
  refine bodyPost_ret (v := .bool true) (by simp [results, Tryz.results14, go_sem]) rfl ⟨rfl, ?_⟩
  exact HB8.out.trans (HB9.out.mono HB8.out.size)
end Go.Proofs.YtofabhenmplkoaaGreatDoor.evt

/- short of the laws of events. -/
namespace Go.Proofs.YtofabhenmplkoaaGreatDoor.evt
open Go.RowKit
open Go.Proofs.YtofabhenmplkoaaGreatDoor.lib Go.Proofs.YtofabhenmplkoaaGreatDoor.rd Go.Proofs.YtofabhenmplkoaaGreatDoor.app Go.Proofs.YtofabhenmplkoaaGreatDoor.els Go.Proofs.YtofabhenmplkoaaGreatDoor.typ Go.Proofs.YtofabhenmplkoaaGreatDoor.big Go.Proofs.YtofabhenmplkoaaGreatDoor.ins Go.Proofs.YtofabhenmplkoaaGreatDoor.ord
open Go.Proofs.YtofabhenmplkoaaGreatDoor.gen hiding zOrd bOrd
set_option linter.unusedVariables false
set_option linter.unusedSimpArgs false

def shrB (e : Evt) : Bool := decide (e.order.name.size ≤ 100 ∧ e.order.load.length ≤ 6)
theorem short_any (e : Evt) (C : Option Addr) (c : Nat) (w : World) : Calls Tryz.prog 21 #[.agg (EvtCells e C c).toArray] w fun en w' => en = .returned (.bool (shrB e)) ∧ Below w.heap.size w w' := by
  obtain ⟨R, hR⟩ : ∃ R, shrB e = R := ⟨_, rfl⟩
  rw [hR]
  have HR := Lib.hid hR
  clear hR
  show Calls Tryz.prog 21 #[.agg #[.int .i64 e.at_, .int .i64 e.kind, .int .i64 e.a, .int .i64 e.b, .int .i64 e.n, .string e.order.name, .slice C e.order.load.length c, .int .i64 e.order.pick.place, .int .i64 e.order.pick.opn, .int .i64 e.order.pick.close, .int .i64 e.order.pick.service, .int .i64 e.order.drop.place, .int .i64 e.order.drop.opn, .int .i64 e.order.drop.close, .int .i64 e.order.drop.service, .int .i64 e.order.skills, .int .i64 e.order.penalty, .int .i64 e.order.split, .int .i64 e.order.last, .int .i64 e.order.now, .bool e.order.off]] w _
  obtain ⟨W0, hW0⟩ : ∃ W0, w.alloc (.cells (EvtCells e C c).toArray 37) = W0 := ⟨_, rfl⟩
  have hB0 : Below w.heap.size w W0 := by rw [← hW0]; exact (Below.refl _ _).alloc (Nat.le_refl _) _
  have z0 := hB0.size
  have b0 : Blk W0 w.heap.size 37 (EvtCells e C c) := by rw [← hW0]; exact Blk.new w _ _
  have HE0 := Lib.hid b0
  have hW1 : w.alloc (.cells #[.int .i64 e.at_, .int .i64 e.kind, .int .i64 e.a, .int .i64 e.b, .int .i64 e.n, .string e.order.name, .slice C e.order.load.length c, .int .i64 e.order.pick.place, .int .i64 e.order.pick.opn, .int .i64 e.order.pick.close, .int .i64 e.order.pick.service, .int .i64 e.order.drop.place, .int .i64 e.order.drop.opn, .int .i64 e.order.drop.close, .int .i64 e.order.drop.service, .int .i64 e.order.skills, .int .i64 e.order.penalty, .int .i64 e.order.split, .int .i64 e.order.last, .int .i64 e.order.now, .bool e.order.off] 37) = W0 := hW0
  have HW1 := Lib.hid hW1
  have c0 := b0.cell (j := 0) rfl
  have c1 := b0.cell (j := 1) rfl
  have c2 := b0.cell (j := 2) rfl
  have c3 := b0.cell (j := 3) rfl
  have c4 := b0.cell (j := 4) rfl
  clear hW0 hW1 b0
  have c5 : W0.cell? ⟨w.heap.size, 5, none⟩ = some (.string e.order.name) := HE0.out.cell rfl
  have c6 : W0.cell? ⟨w.heap.size, 6, none⟩ = some (.slice C e.order.load.length c) := HE0.out.cell rfl
  have HB0 := Lib.hid hB0
  clear hB0
  go_enter Tryz.func21, Tryz.ntmps21
  go_upto_region 1 with fail
  rw [HW1.out]
  clear HW1
  obtain ⟨a, ha⟩ : ∃ a, e.order.name.size = a := ⟨_, rfl⟩
  obtain ⟨b, hb⟩ : ∃ b, e.order.load.length = b := ⟨_, rfl⟩
  have HS : Hid (R = decide (a ≤ 100 ∧ b ≤ 6)) := Lib.hid (by rw [← HR.out, ← ha, ← hb]; rfl)
  by_cases h1 : a ≤ 100
  · by_cases h2 : b ≤ 6
    · have HS2 : Hid (R = true) := Lib.hid (by rw [HS.out, decide_eq_true ⟨h1, h2⟩])
      have h1i : (a : Int) ≤ 100 := by omega
      have h2i : (b : Int) ≤ 6 := by omega
      go_wp2
      go_ret
      exact ⟨by rw [HS2.out]; rfl, HB0.out⟩
    · have HS2 : Hid (R = false) := Lib.hid (by rw [HS.out]; exact decide_eq_false (fun h => h2 h.2))
      have h1i : (a : Int) ≤ 100 := by omega
      have h2i : ¬ (b : Int) ≤ 6 := by omega
      go_wp2
      go_ret
      exact ⟨by rw [HS2.out]; rfl, HB0.out⟩
  · have HS2 : Hid (R = false) := Lib.hid (by rw [HS.out]; exact decide_eq_false (fun h => h1 h.1))
    have h1i : ¬ (a : Int) ≤ 100 := by omega
    go_wp2
    go_ret
    exact ⟨by rw [HS2.out]; rfl, HB0.out⟩
end Go.Proofs.YtofabhenmplkoaaGreatDoor.evt

/- short and events of the laws of events; what an argument reads as. -/
namespace Go.Proofs.YtofabhenmplkoaaGreatDoor.evt
open Go.RowKit
open Go.Proofs.YtofabhenmplkoaaGreatDoor.lib Go.Proofs.YtofabhenmplkoaaGreatDoor.rd Go.Proofs.YtofabhenmplkoaaGreatDoor.app Go.Proofs.YtofabhenmplkoaaGreatDoor.els Go.Proofs.YtofabhenmplkoaaGreatDoor.typ Go.Proofs.YtofabhenmplkoaaGreatDoor.big Go.Proofs.YtofabhenmplkoaaGreatDoor.ins Go.Proofs.YtofabhenmplkoaaGreatDoor.ord
open Go.Proofs.YtofabhenmplkoaaGreatDoor.gen hiding zOrd bOrd
open Go.Proofs.YtofabhenmplkoaaGreatDoor.txt (in64 By strV strV_of joinS decW elem_str nameB toList_data Strs numL own_cap)
set_option linter.unusedVariables false
set_option linter.unusedSimpArgs false

set_option maxRecDepth 20000 in
set_option maxHeartbeats 8000000 in
theorem events_same (e : Evt) (C C' : Option Addr) (c c' : Nat) (w : World) (hI : Ints w w.heap.size C e.order.load) (hI' : Ints w w.heap.size C' e.order.load) : Calls Tryz.prog 25 #[.agg (EvtCells e C c).toArray, .agg (EvtCells e C' c').toArray] w fun en w' => en = .returned (.bool true) ∧ Below w.heap.size w w' := by
  show Calls Tryz.prog 25 #[.agg #[.int .i64 e.at_, .int .i64 e.kind, .int .i64 e.a, .int .i64 e.b, .int .i64 e.n, .string e.order.name, .slice C e.order.load.length c, .int .i64 e.order.pick.place, .int .i64 e.order.pick.opn, .int .i64 e.order.pick.close, .int .i64 e.order.pick.service, .int .i64 e.order.drop.place, .int .i64 e.order.drop.opn, .int .i64 e.order.drop.close, .int .i64 e.order.drop.service, .int .i64 e.order.skills, .int .i64 e.order.penalty, .int .i64 e.order.split, .int .i64 e.order.last, .int .i64 e.order.now, .bool e.order.off], .agg #[.int .i64 e.at_, .int .i64 e.kind, .int .i64 e.a, .int .i64 e.b, .int .i64 e.n, .string e.order.name, .slice C' e.order.load.length c', .int .i64 e.order.pick.place, .int .i64 e.order.pick.opn, .int .i64 e.order.pick.close, .int .i64 e.order.pick.service, .int .i64 e.order.drop.place, .int .i64 e.order.drop.opn, .int .i64 e.order.drop.close, .int .i64 e.order.drop.service, .int .i64 e.order.skills, .int .i64 e.order.penalty, .int .i64 e.order.split, .int .i64 e.order.last, .int .i64 e.order.now, .bool e.order.off]] w _
  obtain ⟨W0, hW0⟩ : ∃ W0, (w.alloc (.cells (EvtCells e C c).toArray 37)).alloc (.cells (EvtCells e C' c').toArray 37) = W0 := ⟨_, rfl⟩
  have hB0 : Below w.heap.size w W0 := by rw [← hW0]; exact ((Below.refl _ _).alloc (Nat.le_refl _) _).alloc (by simp) _
  have z0 : W0.heap.size = w.heap.size + 2 := by rw [← hW0]; simp
  have e0 : Blk W0 w.heap.size 37 (EvtCells e C c) := by
    rw [← hW0]
    exact (Blk.new w _ _).below ((Below.refl _ _).alloc (by simp) _)
  have e1 : Blk W0 (w.heap.size + 1) 37 (EvtCells e C' c') := by
    rw [← hW0]
    have h := Blk.new (w.alloc (.cells (EvtCells e C c).toArray 37)) 37 (EvtCells e C' c')
    simpa using h
  have HW0 := Lib.hid (show (w.alloc (.cells (#[.int .i64 e.at_, .int .i64 e.kind, .int .i64 e.a, .int .i64 e.b, .int .i64 e.n, .string e.order.name, .slice C e.order.load.length c, .int .i64 e.order.pick.place, .int .i64 e.order.pick.opn, .int .i64 e.order.pick.close, .int .i64 e.order.pick.service, .int .i64 e.order.drop.place, .int .i64 e.order.drop.opn, .int .i64 e.order.drop.close, .int .i64 e.order.drop.service, .int .i64 e.order.skills, .int .i64 e.order.penalty, .int .i64 e.order.split, .int .i64 e.order.last, .int .i64 e.order.now, .bool e.order.off]) 37)).alloc (.cells (#[.int .i64 e.at_, .int .i64 e.kind, .int .i64 e.a, .int .i64 e.b, .int .i64 e.n, .string e.order.name, .slice C' e.order.load.length c', .int .i64 e.order.pick.place, .int .i64 e.order.pick.opn, .int .i64 e.order.pick.close, .int .i64 e.order.pick.service, .int .i64 e.order.drop.place, .int .i64 e.order.drop.opn, .int .i64 e.order.drop.close, .int .i64 e.order.drop.service, .int .i64 e.order.skills, .int .i64 e.order.penalty, .int .i64 e.order.split, .int .i64 e.order.last, .int .i64 e.order.now, .bool e.order.off]) 37) = W0 from hW0)
  obtain ⟨b1, hb1⟩ : ∃ b, w.heap.size + 1 = b := ⟨_, rfl⟩
  obtain ⟨b0, hb0⟩ : ∃ b, w.heap.size = b := ⟨_, rfl⟩
  have HBQ := Lib.hid hb0
  have HBR := Lib.hid hb1
  rw [hb0] at e0
  rw [hb1] at e1
  have HE0 := Lib.hid e0
  have HE1 := Lib.hid e1
  have HB0 := Lib.hid hB0
  have hbs0 : b0 < W0.heap.size := by omega
  have hbs1 : b1 < W0.heap.size := by omega
  have HI : Hid (∀ w', Below W0.heap.size W0 w' → Ints w' w.heap.size C e.order.load ∧ Ints w' w.heap.size C' e.order.load) := Lib.hid (fun w' h => ⟨(hI.below hB0).below (h.mono (by omega)), (hI'.below hB0).below (h.mono (by omega))⟩)
  have z0' : w.heap.size ≤ W0.heap.size := by omega
  have hb10 : b0 + 1 = b1 := by omega
  have HB10 := Lib.hid hb10
  clear e0 e1 hB0 hW0 hI hI' z0 hb0 hb1 hb10
  go_enter Tryz.func25, Tryz.ntmps25
  go_upto_region 1 with fail
  rw [HW0.out, HBR.out, HBQ.out]
  clear HW0 HBR HBQ
  go_upto_region 2 with (first
    | ((with_reducible refine wpList_loadG stOrd' _ rfl ⟨b0, 5, none⟩ (OrdCells e.order C c) ?_ ?_ ?_ ?_ ?_); exact rfl; exact rfl; exact (ord_evt HE0.out); exact rfl)
    | ((with_reducible refine wpList_storeL stOrd' rfl _ _ rfl W0.heap.size gen.zOrd (OrdCells e.order C c) ?_ ?_ ?_ ?_ ?_ (ordCells_one _ _ _) ?_); exact rfl; exact rfl; exact World.alloc_heap_new W0 _; exact rfl; exact rfl; intro wz k1 k2 k3 k4; have KZ := Lib.hid (And.intro k1 (And.intro k2 (And.intro k3 k4))); clear k1 k2 k3 k4))
  have hbz : Below W0.heap.size W0 wz := ((Below.refl _ _).alloc (Nat.le_refl _) _).trans KZ.out.2.2.2
  obtain ⟨w1, hw1⟩ : ∃ W, wz = W := ⟨_, rfl⟩
  obtain ⟨q0, hq0⟩ : ∃ q, W0.heap.size = q := ⟨_, rfl⟩
  have HO0 : Hid (Blk w1 q0 35 (OrdCells e.order C c)) := Lib.hid (by rw [← hw1, ← hq0]; exact KZ.out.1)
  rw [hw1] at hbz
  have HB1 := Lib.hid hbz
  have HF1 := Lib.hid (HE1.out.below hbz)
  rw [hw1, hq0]
  have z1 := hbz.size
  clear KZ hw1 hbz
  go_upto_region 3 with (first
    | ((with_reducible refine wpList_loadG stOrd' _ rfl ⟨b1, 5, none⟩ (OrdCells e.order C' c') ?_ ?_ ?_ ?_ ?_); exact rfl; exact rfl; exact (ord_evt HF1.out); exact rfl)
    | ((with_reducible refine wpList_storeL stOrd' rfl _ _ rfl w1.heap.size gen.zOrd (OrdCells e.order C' c') ?_ ?_ ?_ ?_ ?_ (ordCells_one _ _ _) ?_); exact rfl; exact rfl; exact World.alloc_heap_new w1 _; exact rfl; exact rfl; intro wz k1 k2 k3 k4; have KZ := Lib.hid (And.intro k1 (And.intro k2 (And.intro k3 k4))); clear k1 k2 k3 k4))
  have hbz : Below w1.heap.size w1 wz := ((Below.refl _ _).alloc (Nat.le_refl _) _).trans KZ.out.2.2.2
  obtain ⟨w2, hw2⟩ : ∃ W, wz = W := ⟨_, rfl⟩
  obtain ⟨q1, hq1⟩ : ∃ q, w1.heap.size = q := ⟨_, rfl⟩
  have HP1 : Hid (Blk w2 q1 35 (OrdCells e.order C' c')) := Lib.hid (by rw [← hw2, ← hq1]; exact KZ.out.1)
  rw [hw2] at hbz
  have HP0 := Lib.hid (HO0.out.below hbz)
  have HB2 := Lib.hid (HB1.out.trans (hbz.mono z1))
  rw [hw2, hq1]
  have z2 := hbz.size
  have HE0' := Lib.hid (HE0.out.below HB2.out)
  have HE1' := Lib.hid (HE1.out.below HB2.out)
  clear KZ hw2 hbz
  have a0 := HE0'.out.cell (j := 0) rfl
  have a1 := HE0'.out.cell (j := 1) rfl
  have a2 := HE0'.out.cell (j := 2) rfl
  have a3 := HE0'.out.cell (j := 3) rfl
  have a4 := HE0'.out.cell (j := 4) rfl
  have b0' := HE1'.out.cell (j := 0) rfl
  have b1' := HE1'.out.cell (j := 1) rfl
  have b2' := HE1'.out.cell (j := 2) rfl
  have b3' := HE1'.out.cell (j := 3) rfl
  have b4' := HE1'.out.cell (j := 4) rfl
  have o1 := HP0.out.cell (j := 1) rfl
  have p1 := HP1.out.cell (j := 1) rfl
  go_upto_region 6 with fail
  clear a0 a1 a2 a3 a4 b0' b1' b2' b3' b4' o1 p1
  obtain ⟨n, hn⟩ : ∃ n, e.order.load.length = n := ⟨_, rfl⟩
  have HN := Lib.hid hn
  have hnb : n ≤ 17592186043904 := by rw [← hn]; exact (HI.out _ (Below.refl _ _)).1.2
  have zw : w.heap.size ≤ w2.heap.size := Nat.le_trans HB0.out.size HB2.out.size
  clear hn
  have HOC : Hid (∀ w', Below w2.heap.size w2 w' → w'.cell? ⟨q0, 1, none⟩ = some (.slice C n c) ∧ w'.cell? ⟨q1, 1, none⟩ = some (.slice C' n c')) := Lib.hid (fun w' h => by
    rw [← HN.out]
    exact ⟨(HP0.out.below h).cell rfl, (HP1.out.below h).cell rfl⟩)
  go_loopw [7] (fun i wr => Below w2.heap.size w2 wr ∧ ∃ k : Nat, k ≤ n ∧ i = .int .i64 k) (fun i _ => n - (intOf i).toNat)
  case atStart => exact ⟨Below.refl _ _, 0, by omega, rfl⟩
  case round =>
    obtain ⟨hb, k, hk, rfl⟩ := hrel
    have hbz := hb.size
    obtain ⟨o1, p1⟩ := HOC.out wr hb
    by_cases hlt : k < n
    · have hBw : Below W0.heap.size W0 wr := HB2.out.trans (hb.mono (by omega))
      obtain ⟨ad, x, hA, _, hx, hc1⟩ := (HI.out wr hBw).1.at_ (k := k) (by rw [HN.out]; exact hlt)
      obtain ⟨ad', x', hA', _, hx', hc2⟩ := (HI.out wr hBw).2.at_ (k := k) (by rw [HN.out]; exact hlt)
      obtain rfl : x = x' := Option.some.inj (hx.symm.trans hx')
      have HBW := Lib.hid hb
      clear hx hx' hBw
      subst hA
      subst hA'
      go_upto_region 8 with fail
      go_quiet (fail)
      go_wp2
      exact ⟨⟨bel_drewN HBW.out _, k + 1, by omega, by go_num⟩, by simp [intOf]; omega⟩
    · have HQ0 := Lib.hid (HP0.out.below hb)
      have HQ1 := Lib.hid (HP1.out.below hb)
      have HBF := Lib.hid (HB0.out.trans ((HB2.out.trans (hb.mono (by omega))).mono z0'))
      have x0 := HQ0.out.cell (j := 0) rfl
      have y0 := HQ1.out.cell (j := 0) rfl
      have x2 := HQ0.out.cell (j := 2) rfl
      have y2 := HQ1.out.cell (j := 2) rfl
      have x3 := HQ0.out.cell (j := 3) rfl
      have y3 := HQ1.out.cell (j := 3) rfl
      have x4 := HQ0.out.cell (j := 4) rfl
      have y4 := HQ1.out.cell (j := 4) rfl
      have x5 := HQ0.out.cell (j := 5) rfl
      have y5 := HQ1.out.cell (j := 5) rfl
      have x6 := HQ0.out.cell (j := 6) rfl
      have y6 := HQ1.out.cell (j := 6) rfl
      have x7 := HQ0.out.cell (j := 7) rfl
      have y7 := HQ1.out.cell (j := 7) rfl
      have x8 := HQ0.out.cell (j := 8) rfl
      have y8 := HQ1.out.cell (j := 8) rfl
      have x9 := HQ0.out.cell (j := 9) rfl
      have y9 := HQ1.out.cell (j := 9) rfl
      have x10 := HQ0.out.cell (j := 10) rfl
      have y10 := HQ1.out.cell (j := 10) rfl
      have x11 := HQ0.out.cell (j := 11) rfl
      have y11 := HQ1.out.cell (j := 11) rfl
      have x12 := HQ0.out.cell (j := 12) rfl
      have y12 := HQ1.out.cell (j := 12) rfl
      have x13 := HQ0.out.cell (j := 13) rfl
      have y13 := HQ1.out.cell (j := 13) rfl
      have x14 := HQ0.out.cell (j := 14) rfl
      have y14 := HQ1.out.cell (j := 14) rfl
      have x15 := HQ0.out.cell (j := 15) rfl
      have y15 := HQ1.out.cell (j := 15) rfl
      go_wp2
      go_ret
      exact ⟨rfl, HBF.out⟩
end Go.Proofs.YtofabhenmplkoaaGreatDoor.evt

/- The library's tables, as the rows of the laws of events list them. -/
namespace Go.Proofs.YtofabhenmplkoaaGreatDoor.laid
open Go.ChangeShapes Go.WideShapes Go.ChangeAt Go.RowKit
open Go.Proofs.YtofabhenmplkoaaGreatDoor.txt (Tabs)

theorem own : ownKnob Tryz.prog.godebug = none := by kernel_rfl
theorem star : "*" ++ "errors.errorString" = "*errors.errorString" := by decide
theorem row_err (u : TypeId) (h : Tryz.prog.typeName? 3 u = some "*errors.errorString") : u = 273 :=
  typeName_ptr_named (nm := "errors.errorString") (by rw [star]; kernel_rfl) (by kernel_rfl) (by decide) u (by rw [star]; exact h)
theorem gPow : Tryz.prog.globalNamed "internal/strconv.uint64pow10" = some 3 := by kernel_rfl
theorem gPowT : (Tryz.prog.globals[3]?).map (·.type) = some 261 := by kernel_rfl
theorem gErr : Tryz.prog.globalNamed "strconv.ErrRange" = some 5 := by kernel_rfl
theorem gErrT : (Tryz.prog.globals[5]?).map (·.type) = some 172 := by kernel_rfl
theorem cE : Tryz.prog.cellsOf 275 = 1 := by kernel_rfl
theorem cS : Tryz.prog.cellsOf 9 = 1 := by kernel_rfl
theorem cU : Tryz.prog.cellsOf 238 = 1 := by kernel_rfl
theorem cP : Tryz.prog.cellsOf 261 = 20 := by kernel_rfl
theorem tabs_of {a b : String × DataW Unit} {r : List (String × DataW Unit)} {W : World} (h : laidMet Tryz.prog (a :: b :: ("internal/strconv.uint64pow10", Rows.laid_internal_strconv_uint64pow10) :: ("strconv.ErrRange", Rows.laid_strconv_ErrRange) :: r) W) : Tabs W := by
  have h2 := h.tail.tail
  refine ⟨?_, ?_⟩
  · have e : (Rows.laid_internal_strconv_uint64pow10 : DataW Unit) = Lib.tabData .u64 Lib.pow10Tab := by kernel_rfl
    rw [e] at h2
    exact Lib.tabIs_of_head gPow gPowT Tryz.underlying261 Tryz.underlying238 cU cP h2
  · obtain ⟨a1, s1, hv1, -, -, -⟩ := laid_sentinel h2.tail gErr gErrT Tryz.underlying172 row_err Tryz.underlying273 Tryz.underlying275 rfl rfl Tryz.underlying9 cE cS
    exact ⟨_, _, hv1⟩
end Go.Proofs.YtofabhenmplkoaaGreatDoor.laid
namespace Go.Proofs.YtofabhenmplkoaaGreatDoor.typ
open Go.RowKit
open Go.Proofs.YtofabhenmplkoaaGreatDoor.lib
open Go.Proofs.YtofabhenmplkoaaGreatDoor.rd
open Go.Proofs.YtofabhenmplkoaaGreatDoor.txt (in64)
/-- Numbers, each in the reach of an int. -/
def rI64 : Rd (List Int) where
  size := 1
  at_ w B cs x := rInts.at_ w B cs x ∧ ∀ y ∈ x, in64 y
  len h := rInts.len h.1
  keep hk h := ⟨rInts.keep hk h.1, h.2⟩
  more hB h := ⟨rInts.more hB h.1, h.2⟩
theorem opens_i64 {t e : TypeId} (ht : Tryz.prog.underlying t = some (.slice e)) (he : Tryz.prog.underlying e = some (.int .i64)) (hC : Tryz.prog.cellsOf e = 1) (h8 : 8 ≤ Tryz.prog.bytesOf e) : Opens t rI64 := fun H enc W fuel cs y h hw => by
  obtain ⟨l, A, c, rfl, hl, hr⟩ := opens_slice ht hC (by decide) h8 (opens_int he) H enc W fuel cs y h hw
  refine ⟨l, ⟨A, c, rfl, ⟨by simp, fun hn => ?_⟩, hl⟩, fun x hx => ?_⟩
  · obtain ⟨ad, cs0, hA, hb, _, _⟩ := hr 0 l[0] (List.getElem?_eq_getElem hn)
    refine ⟨ad, hA, hb, fun j u hu => ?_⟩
    rw [List.getElem?_map, Option.map_eq_some_iff] at hu
    obtain ⟨x, hx, rfl⟩ := hu
    obtain ⟨ad', cs1, hA', _, ⟨rfl, _⟩, h4⟩ := hr j x hx
    have e0 := Option.some.inj (hA.symm.trans hA')
    subst e0
    have := h4 0 _ rfl
    simpa [rInt] using this
  · obtain ⟨i, hi⟩ := List.getElem?_of_mem hx
    obtain ⟨ad', cs1, hA', _, ⟨rfl, h3⟩, h4⟩ := hr i x hi
    exact h3
def rOrd64 : Rd Ord := rMap (rPair rStr (rPair rI64 (rPair rStp (rPair rStp (rPair rInt (rPair rInt (rPair rInt (rPair rInt (rPair rInt rBool))))))))) fun x => ⟨x.1, x.2.1, x.2.2.1, x.2.2.2.1, x.2.2.2.2.1, x.2.2.2.2.2.1, x.2.2.2.2.2.2.1, x.2.2.2.2.2.2.2.1, x.2.2.2.2.2.2.2.2.1, x.2.2.2.2.2.2.2.2.2⟩
theorem rOrd64_at {w : World} {B : Nat} {cs : List Value} {t : Ord} (h : rOrd64.at_ w B cs t) : ∃ C0 c0, cs = OrdCells t C0 c0 ∧ Ints w B C0 t.load ∧ OrdFits t ∧ ∀ y ∈ t.load, in64 y := by
  obtain ⟨⟨f0, f1, f2, f3, f4, f5, f6, f7, f8, f9⟩, rfl, _, _, rfl, ⟨rfl, hf0⟩, _, _, rfl, ⟨⟨A0, d0, rfl, hr0⟩, h64⟩, _, _, rfl, hn2, _, _, rfl, hn3, _, _, rfl, ⟨rfl, hf4⟩, _, _, rfl, ⟨rfl, hf5⟩, _, _, rfl, ⟨rfl, hf6⟩, _, _, rfl, ⟨rfl, hf7⟩, _, _, rfl, ⟨rfl, hf8⟩, rfl⟩ := h
  obtain ⟨rfl, hf2⟩ := rStp_at hn2
  obtain ⟨rfl, hf3⟩ := rStp_at hn3
  exact ⟨A0, d0, rfl, hr0, ⟨hf0, hf2, hf3, hf4, hf5, hf6, hf7, hf8⟩, h64⟩
set_option maxRecDepth 20000 in
theorem opens_Ord64 : Opens 35 rOrd64 := opens_map _ (opens_struct Tryz.underlying35 (by kernel_rfl) (fieldsOpen_cons rfl (by kernel_rfl) (opens_str Tryz.underlying9) (fieldsOpen_cons rfl (by kernel_rfl) (opens_i64 Tryz.underlying31 Tryz.underlying3 (by kernel_rfl) (by rw [show Tryz.prog.bytesOf 3 = 8 by kernel_rfl]; omega)) (fieldsOpen_cons rfl (by kernel_rfl) opens_Stp (fieldsOpen_cons rfl (by kernel_rfl) opens_Stp (fieldsOpen_cons rfl (by kernel_rfl) (opens_int Tryz.underlying3) (fieldsOpen_cons rfl (by kernel_rfl) (opens_int Tryz.underlying3) (fieldsOpen_cons rfl (by kernel_rfl) (opens_int Tryz.underlying3) (fieldsOpen_cons rfl (by kernel_rfl) (opens_int Tryz.underlying3) (fieldsOpen_cons rfl (by kernel_rfl) (opens_int Tryz.underlying3) (fieldsOpen_one rfl (by kernel_rfl) (opens_bool Tryz.underlying4))))))))))))
def rEvt64 : Rd Evt := rMap (rPair rInt (rPair rInt (rPair rInt (rPair rInt (rPair rInt rOrd64))))) fun x => ⟨x.1, x.2.1, x.2.2.1, x.2.2.2.1, x.2.2.2.2.1, x.2.2.2.2.2⟩
theorem rEvt64_at {w : World} {B : Nat} {cs : List Value} {t : Evt} (h : rEvt64.at_ w B cs t) : ∃ C0 c0, cs = EvtCells t C0 c0 ∧ Ints w B C0 t.order.load ∧ (EvtFits t ∧ ∀ y ∈ t.order.load, in64 y) := by
  obtain ⟨⟨f0, f1, f2, f3, f4, f5⟩, rfl, _, _, rfl, ⟨rfl, hf0⟩, _, _, rfl, ⟨rfl, hf1⟩, _, _, rfl, ⟨rfl, hf2⟩, _, _, rfl, ⟨rfl, hf3⟩, _, _, rfl, ⟨rfl, hf4⟩, hn5⟩ := h
  obtain ⟨A0, d0, rfl, hr0, hf5, h64⟩ := rOrd64_at hn5
  exact ⟨A0, d0, rfl, hr0, ⟨hf0, hf1, hf2, hf3, hf4, hf5⟩, h64⟩
set_option maxRecDepth 20000 in
theorem opens_Evt64 : Opens 37 rEvt64 := opens_map _ (opens_struct Tryz.underlying37 (by kernel_rfl) (fieldsOpen_cons rfl (by kernel_rfl) (opens_int Tryz.underlying3) (fieldsOpen_cons rfl (by kernel_rfl) (opens_int Tryz.underlying3) (fieldsOpen_cons rfl (by kernel_rfl) (opens_int Tryz.underlying3) (fieldsOpen_cons rfl (by kernel_rfl) (opens_int Tryz.underlying3) (fieldsOpen_cons rfl (by kernel_rfl) (opens_int Tryz.underlying3) (fieldsOpen_one rfl (by kernel_rfl) opens_Ord64)))))))
end Go.Proofs.YtofabhenmplkoaaGreatDoor.typ

/- The laws EventWrites and EventReads, walked. -/
namespace Go.Proofs.YtofabhenmplkoaaGreatDoor.evt
open Go.RowKit
open Go.Proofs.YtofabhenmplkoaaGreatDoor.lib Go.Proofs.YtofabhenmplkoaaGreatDoor.rd Go.Proofs.YtofabhenmplkoaaGreatDoor.app Go.Proofs.YtofabhenmplkoaaGreatDoor.els Go.Proofs.YtofabhenmplkoaaGreatDoor.typ Go.Proofs.YtofabhenmplkoaaGreatDoor.big Go.Proofs.YtofabhenmplkoaaGreatDoor.ins Go.Proofs.YtofabhenmplkoaaGreatDoor.ord
open Go.Proofs.YtofabhenmplkoaaGreatDoor.gen hiding zOrd bOrd
open Go.Proofs.YtofabhenmplkoaaGreatDoor.off (intsOff_keep)
open Go.Proofs.YtofabhenmplkoaaGreatDoor.txt (in64 By strV strV_of joinS decW elem_str nameB toList_data Strs numL own_cap Tabs size_cons)
set_option linter.unusedVariables false
set_option linter.unusedSimpArgs false

theorem prt_str {e : Evt} (he : Evt64 e) (h : prtE e = 0) : prtS e = joinS (partsF e) ∧ (prtS e).length ≤ 5000 := by
  have e1 : prtS e = joinS (partsF e) := if_pos h
  exact ⟨e1, by rw [e1]; exact parts_len he h⟩
set_option maxRecDepth 20000 in
set_option maxHeartbeats 8000000 in
theorem lawWrites_any (e : Evt) (C : Option Addr) (c : Nat) (w : World) (ht : Tabs w) (he : Evt64 e) (hI : Ints w w.heap.size C e.order.load) : Calls Tryz.prog 5 #[.agg (EvtCells e C c).toArray] w fun en w' => en = .returned (.bool true) ∧ Below w.heap.size w w' := by
  show Calls Tryz.prog 5 #[.agg #[.int .i64 e.at_, .int .i64 e.kind, .int .i64 e.a, .int .i64 e.b, .int .i64 e.n, .string e.order.name, .slice C e.order.load.length c, .int .i64 e.order.pick.place, .int .i64 e.order.pick.opn, .int .i64 e.order.pick.close, .int .i64 e.order.pick.service, .int .i64 e.order.drop.place, .int .i64 e.order.drop.opn, .int .i64 e.order.drop.close, .int .i64 e.order.drop.service, .int .i64 e.order.skills, .int .i64 e.order.penalty, .int .i64 e.order.split, .int .i64 e.order.last, .int .i64 e.order.now, .bool e.order.off]] w _
  obtain ⟨W0, hW0⟩ : ∃ W0, w.alloc (.cells (EvtCells e C c).toArray 37) = W0 := ⟨_, rfl⟩
  have hB0 : Below w.heap.size w W0 := by rw [← hW0]; exact (Below.refl _ _).alloc (Nat.le_refl _) _
  have z0 := hB0.size
  have b0 : Blk W0 w.heap.size 37 (EvtCells e C c) := by rw [← hW0]; exact Blk.new w _ _
  have HE0 := Lib.hid b0
  have hW1 : w.alloc (.cells #[.int .i64 e.at_, .int .i64 e.kind, .int .i64 e.a, .int .i64 e.b, .int .i64 e.n, .string e.order.name, .slice C e.order.load.length c, .int .i64 e.order.pick.place, .int .i64 e.order.pick.opn, .int .i64 e.order.pick.close, .int .i64 e.order.pick.service, .int .i64 e.order.drop.place, .int .i64 e.order.drop.opn, .int .i64 e.order.drop.close, .int .i64 e.order.drop.service, .int .i64 e.order.skills, .int .i64 e.order.penalty, .int .i64 e.order.split, .int .i64 e.order.last, .int .i64 e.order.now, .bool e.order.off] 37) = W0 := hW0
  have HW1 := Lib.hid hW1
  have c0 := b0.cell (j := 0) rfl
  have c1 := b0.cell (j := 1) rfl
  have c2 := b0.cell (j := 2) rfl
  have c3 := b0.cell (j := 3) rfl
  have c4 := b0.cell (j := 4) rfl
  clear hW0 hW1 b0
  have zz : w.heap.size < W0.heap.size := Lib.lt_of_cell c0
  have HB0 := Lib.hid hB0
  have HTb : Hid (∀ w', Below W0.heap.size W0 w' → Tabs w') := Lib.hid (fun w' h => ht.below (hB0.trans (h.mono z0)))
  have HI0 : Hid (∀ w', Below W0.heap.size W0 w' → Ints w' w'.heap.size C e.order.load) := Lib.hid (fun w' h => ((hI.below hB0).below (h.mono z0)).more (Nat.le_trans z0 h.size))
  have HAw : Hid (∀ w', Below W0.heap.size W0 w' → Calls Tryz.prog 14 #[] w' fun en w'' => en = .returned (.bool true) ∧ Below W0.heap.size W0 w'') := Lib.hid (fun w' h => (awake_any w' (HTb.out w' h)).mono (by rintro en w'' ⟨h1, h2⟩; exact ⟨h1, h.trans (h2.mono h.size)⟩))
  have HQ : Hid (∀ w', Below W0.heap.size W0 w' → Below w.heap.size w w') := Lib.hid (fun w' h => hB0.trans (h.mono z0))
  have HEF := Lib.hid he
  have hsh := short_any e C c W0
  obtain ⟨sh, hshr⟩ : ∃ b, shrB e = b := ⟨_, rfl⟩
  rw [hshr] at hsh
  have HSH := Lib.hid hshr
  clear hB0 ht he hI c0 c1 c2 c3 c4 hshr
  have hbR : Below W0.heap.size W0 W0 := Below.refl _ _
  have HBR := Lib.hid hbR
  clear hbR
  go_enter Tryz.func5, Tryz.ntmps5
  go_upto_region 1 with fail
  rw [HW1.out]
  clear HW1
  go_upto_if 11 with (first | ((with_reducible refine wpList_loadG stEvt _ rfl ⟨w.heap.size, 0, none⟩ (EvtCells e C c) ?_ ?_ ?_ ?_ ?_); exact rfl; exact rfl; exact (HE0.out).cells; exact rfl) | (go_at_call 21; refine hsh.mono ?_; rintro e1 w1 ⟨rfl, hb1⟩))
  clear hsh
  cases sh
  · have haw := HAw.out w1 hb1
    go_wp2_with (go_at_call 14; refine haw.mono ?_; rintro e2 w2 ⟨rfl, hb2⟩)
    go_ret
    exact ⟨rfl, HQ.out _ hb2⟩
  have hsm : e.order.name.size ≤ 100 ∧ e.order.load.length ≤ 6 := of_decide_eq_true HSH.out
  have HSM := Lib.hid hsm
  have hp1 := print_any e C c w1 (HTb.out w1 hb1) HEF.out (HI0.out w1 hb1) (by omega) (by omega)
  obtain ⟨pe, hpe⟩ : ∃ n, prtE e = n := ⟨_, rfl⟩
  obtain ⟨ps, hps⟩ : ∃ n, prtS e = n := ⟨_, rfl⟩
  have HPE := Lib.hid hpe
  have HPS := Lib.hid hps
  unfold PrOut at hp1
  rw [hpe, hps] at hp1
  have hrp : Hid (∀ w', Below W0.heap.size W0 w' → Calls Tryz.prog 23 #[.agg (EvtCells e C c).toArray] w' fun en w'' => en = .returned (.tuple #[.string ⟨ps.toArray⟩, .int .i64 pe]) ∧ Below w'.heap.size w' w'') := Lib.hid (fun w' h => by
    have h1 := rprint_any e C c w' HEF.out (HI0.out w' h) (by have := HSM.out.1; omega)
    unfold PrOut at h1
    rw [HPE.out, HPS.out] at h1
    exact h1)
  have HE1 := Lib.hid (HE0.out.below (hb1.mono (by omega)))
  have HB1 := Lib.hid hb1
  have z1 := hb1.size
  clear hpe hps hsm hb1 HE0
  go_upto_region 5 with (first
    | ((with_reducible refine wpList_loadG stEvt _ rfl ⟨w.heap.size, 0, none⟩ (EvtCells e C c) ?_ ?_ ?_ ?_ ?_); exact rfl; exact rfl; exact (HE1.out).cells; exact rfl)
    | ((with_reducible refine wpList_loadG stEvt _ rfl ⟨w.heap.size, 0, none⟩ (EvtCells e C c) ?_ ?_ ?_ ?_ ?_); exact rfl; exact rfl; exact (HE2.out).cells; exact rfl)
    | (go_at_call 22; refine hp1.mono ?_; rintro e2 w2 ⟨rfl, hb2⟩; have HB2 := Lib.hid (HB1.out.trans (hb2.mono z1)); have HE2 := Lib.hid (HE1.out.below hb2); have z2 := hb2.size; clear hb2)
    | (go_at_call 23; refine (hrp.out w2 HB2.out).mono ?_; rintro e3 w3 ⟨rfl, hb3⟩))
  have HB3 := Lib.hid (HB2.out.trans (hb3.mono (by have := HB2.out.size; omega)))
  have HE3 := Lib.hid (HE2.out.below hb3)
  clear hb3 hp1 hrp
  have hss : ((⟨ps.toArray⟩ : ByteArray).toList != (⟨ps.toArray⟩ : ByteArray).toList) = false := by simp
  have hss2 : (ps != ps) = false := by simp
  by_cases hp0 : pe = 0
  case neg =>
    have hpb : (pe != 0) = true := by simpa using hp0
    have haw := HAw.out w3 HB3.out
    go_wp2_with (go_at_call 14; refine haw.mono ?_; rintro e2 w4 ⟨rfl, hb2⟩)
    go_ret
    exact ⟨rfl, HQ.out _ hb2⟩
  subst hp0
  obtain ⟨hj, hjl⟩ := prt_str HEF.out HPE.out
  have hln : LineOf ps e := ⟨HPE.out, by rw [← HPS.out, hj], HEF.out, by have := HSM.out.2; omega⟩
  rw [HPS.out] at hjl
  have hpa : Calls Tryz.prog 24 #[.string ⟨ps.toArray⟩] w3 fun en w' => ∃ (C' : Option Addr) (c' : Nat), en = .returned (.tuple #[.agg (EvtCells e C' c').toArray, .int .i64 0]) ∧ Below w3.heap.size w3 w' ∧ Ints w' w'.heap.size C' e.order.load := (eparse_any ⟨ps.toArray⟩ (by rw [size_cons]; omega) w3 (HTb.out w3 HB3.out)).mono (by
    rintro en w' ⟨hb, ⟨h, _⟩ | ⟨e', C', c', h, _, _, rfl, hi⟩⟩
    · exact absurd hln (h.2 rfl e)
    · obtain rfl : e' = e := (h.1 e' rfl).one hln
      exact ⟨C', c', rfl, hb, hi.1⟩)
  clear hj hjl hln
  go_upto_region 10 with (first
    | (go_at_call 24; refine hpa.mono ?_; rintro e4 w4 ⟨C4, c4, rfl, hb4, hi4⟩; have HI4 := Lib.hid hi4; clear hi4)
    | ((with_reducible refine wpList_storeL stEvt rfl _ _ rfl (w4.heap.size) (EvtCells zE none 0) (EvtCells e C4 c4) ?_ ?_ ?_ ?_ ?_ (evtC_one _ _ _) ?_); exact rfl; exact rfl; exact Blk.new w4 _ _; exact rfl; exact rfl; intro wz k1 k2 k3 k4; have K := Lib.hid (And.intro k1 (And.intro k2 (And.intro k3 k4))); clear k1 k2 k3 k4))
  have z4 := hb4.size
  have b5 : Below w4.heap.size w4 wz := ((Below.refl _ _).alloc (Nat.le_refl _) _).trans K.out.2.2.2
  obtain ⟨w5, hw5⟩ : ∃ W, wz = W := ⟨_, rfl⟩
  obtain ⟨q5, hq5⟩ : ∃ q, w4.heap.size = q := ⟨_, rfl⟩
  have HK5 : Hid (Blk w5 q5 37 (EvtCells e C4 c4)) := Lib.hid (by rw [← hw5, ← hq5]; exact K.out.1)
  rw [hw5] at b5 ⊢
  have HI5 : Hid (Ints w5 w5.heap.size C4 e.order.load) := Lib.hid ((HI4.out.below b5).more b5.size)
  have h35 : Below w3.heap.size w3 w5 := hb4.trans (b5.mono z4)
  have HB5 : Hid (Below W0.heap.size W0 w5) := Lib.hid (HB3.out.trans (h35.mono HB3.out.size))
  have HE5 := Lib.hid (HE3.out.below h35)
  rw [hq5]
  clear K hw5 hq5 b5 hb4 z4 HI4 hpa h35
  have hev := events_same e C C4 c c4 w5 (HI0.out w5 HB5.out) HI5.out
  go_wp2_with (first
    | ((with_reducible refine wpList_loadG stEvt _ rfl ⟨w.heap.size, 0, none⟩ (EvtCells e C c) ?_ ?_ ?_ ?_ ?_); exact rfl; exact rfl; exact (HE5.out).cells; exact rfl)
    | ((with_reducible refine wpList_loadG stEvt _ rfl ⟨q5, 0, none⟩ (EvtCells e C4 c4) ?_ ?_ ?_ ?_ ?_); exact rfl; exact rfl; exact (HK5.out).cells; exact rfl)
    | (go_at_call 25; refine hev.mono ?_; rintro e6 w6 ⟨rfl, hb6⟩; have HB6 := Lib.hid (HB5.out.trans (hb6.mono HB5.out.size)); clear hb6)
    | (go_at_call 14; refine (HAw.out _ HB6.out).mono ?_; rintro e7 w7 ⟨rfl, hb7⟩))
  go_ret
  exact ⟨rfl, HQ.out _ hb7⟩
end Go.Proofs.YtofabhenmplkoaaGreatDoor.evt

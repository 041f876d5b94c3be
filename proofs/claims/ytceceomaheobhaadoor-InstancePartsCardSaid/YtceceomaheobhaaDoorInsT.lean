/- Instances, read from memory. -/
import Derived.Test.YtceceomaheobhaaDoorRd
import Derived.Test.YtceceomaheobhaaDoorTyp
import Derived.Test.YtceceomaheobhaaDoorOrdT
namespace Go.Proofs.YtceceomaheobhaaDoor.typ
open Go.RowKit
open Go.Proofs.YtceceomaheobhaaDoor.lib
open Go.Proofs.YtceceomaheobhaaDoor.rd
set_option linter.unusedVariables false

structure Ins where
  net : Net
  types : List Ty
  orders : List Ord
  apart : List (Int × Int)
  before : List (Int × Int)
def rIns : Rd Ins := rMap (rPair rNet (rPair (rSliceC rTy) (rPair (rSliceC rOrd) (rPair (rSliceC (rPair rInt rInt)) (rSliceC (rPair rInt rInt)))))) fun x => ⟨x.1, x.2.1, x.2.2.1, x.2.2.2.1, x.2.2.2.2⟩
def InsCells (t : Ins) (C0 : Option Addr) (c0 : Nat) (C1 : Option Addr) (c1 : Nat) (C2 : Option Addr) (c2 : Nat) (C3 : Option Addr) (c3 : Nat) (C4 : Option Addr) (c4 : Nat) (C5 : Option Addr) (c5 : Nat) : List Value := [.slice C0 t.net.places.length c0, .slice C1 t.net.arcs.length c1, .slice C2 t.types.length c2, .slice C3 t.orders.length c3, .slice C4 t.apart.length c4, .slice C5 t.before.length c5]
def InsFits (t : Ins) : Prop := NetFits t.net
theorem rIns_at {w : World} {B : Nat} {cs : List Value} {t : Ins} (h : rIns.at_ w B cs t) : ∃ C0 c0 C1 c1 C2 c2 C3 c3 C4 c4 C5 c5, cs = InsCells t C0 c0 C1 c1 C2 c2 C3 c3 C4 c4 C5 c5 ∧ RowAt rStr w B C0 t.net.places ∧ RowAt rArc w B C1 t.net.arcs ∧ (RowAt rTy w B C2 t.types ∧ t.types.length ≤ c2) ∧ (RowAt rOrd w B C3 t.orders ∧ t.orders.length ≤ c3) ∧ (RowAt (rPair rInt rInt) w B C4 t.apart ∧ t.apart.length ≤ c4) ∧ (RowAt (rPair rInt rInt) w B C5 t.before ∧ t.before.length ≤ c5) ∧ InsFits t := by
  obtain ⟨⟨f0, f1, f2, f3, f4⟩, rfl, _, _, rfl, hn0, _, _, rfl, ⟨A2, d2, rfl, hr2⟩, _, _, rfl, ⟨A3, d3, rfl, hr3⟩, _, _, rfl, ⟨A4, d4, rfl, hr4⟩, ⟨A5, d5, rfl, hr5⟩⟩ := h
  obtain ⟨A0, d0, A1, d1, rfl, hr0, hr1, hf0⟩ := rNet_at hn0
  exact ⟨A0, d0, A1, d1, A2, d2, A3, d3, A4, d4, A5, d5, rfl, hr0, hr1, hr2, hr3, hr4, hr5, hf0⟩
theorem rIns_mk {w : World} {B : Nat} {t : Ins} {C0 : Option Addr} {c0 : Nat} {C1 : Option Addr} {c1 : Nat} {C2 : Option Addr} {c2 : Nat} {C3 : Option Addr} {c3 : Nat} {C4 : Option Addr} {c4 : Nat} {C5 : Option Addr} {c5 : Nat} (hr0 : RowAt rStr w B C0 t.net.places) (hr1 : RowAt rArc w B C1 t.net.arcs) (hr2 : (RowAt rTy w B C2 t.types ∧ t.types.length ≤ c2)) (hr3 : (RowAt rOrd w B C3 t.orders ∧ t.orders.length ≤ c3)) (hr4 : (RowAt (rPair rInt rInt) w B C4 t.apart ∧ t.apart.length ≤ c4)) (hr5 : (RowAt (rPair rInt rInt) w B C5 t.before ∧ t.before.length ≤ c5)) (hf : InsFits t) : rIns.at_ w B (InsCells t C0 c0 C1 c1 C2 c2 C3 c3 C4 c4 C5 c5) t := by
  exact ⟨(t.net, (t.types, (t.orders, (t.apart, t.before)))), rfl, _, _, rfl, rNet_mk hr0 hr1 (hf), _, _, rfl, ⟨_, _, rfl, hr2⟩, _, _, rfl, ⟨_, _, rfl, hr3⟩, _, _, rfl, ⟨_, _, rfl, hr4⟩, ⟨_, _, rfl, hr5⟩⟩
set_option maxRecDepth 20000 in
theorem opens_Ins : Opens 30 rIns := opens_map _ (opens_struct Tryd.underlying30 (by kernel_rfl) (fieldsOpen_cons rfl (by kernel_rfl) opens_Net (fieldsOpen_cons rfl (by kernel_rfl) (opens_sliceC Tryd.underlying26 (by kernel_rfl) (by decide) (of_decide_eq_true (by kernel_rfl)) opens_Ty) (fieldsOpen_cons rfl (by kernel_rfl) (opens_sliceC Tryd.underlying27 (by kernel_rfl) (by decide) (of_decide_eq_true (by kernel_rfl)) opens_Ord) (fieldsOpen_cons rfl (by kernel_rfl) (opens_sliceC Tryd.underlying28 (by kernel_rfl) (by decide) (of_decide_eq_true (by kernel_rfl)) (opens_two Tryd.underlying65 (by kernel_rfl) (by kernel_rfl) (opens_int Tryd.underlying3))) (fieldsOpen_one rfl (by kernel_rfl) (opens_sliceC Tryd.underlying28 (by kernel_rfl) (by decide) (of_decide_eq_true (by kernel_rfl)) (opens_two Tryd.underlying65 (by kernel_rfl) (by kernel_rfl) (opens_int Tryd.underlying3)))))))))
/-- What lies at an element's address. -/
def InsAt (w : World) (ea : Addr) (t : Ins) (C0 : Option Addr) (c0 : Nat) (C1 : Option Addr) (c1 : Nat) (C2 : Option Addr) (c2 : Nat) (C3 : Option Addr) (c3 : Nat) (C4 : Option Addr) (c4 : Nat) (C5 : Option Addr) (c5 : Nat) : Prop := w.cell? ea = some (.slice C0 t.net.places.length c0) ∧ w.cell? ⟨ea.block, ea.off + 1, none⟩ = some (.slice C1 t.net.arcs.length c1) ∧ w.cell? ⟨ea.block, ea.off + 2, none⟩ = some (.slice C2 t.types.length c2) ∧ w.cell? ⟨ea.block, ea.off + 3, none⟩ = some (.slice C3 t.orders.length c3) ∧ w.cell? ⟨ea.block, ea.off + 4, none⟩ = some (.slice C4 t.apart.length c4) ∧ w.cell? ⟨ea.block, ea.off + 5, none⟩ = some (.slice C5 t.before.length c5)
theorem row_Ins {w : World} {B : Nat} {A : Option Addr} {l : List Ins} (h : RowAt rIns w B A l) {i : Nat} {t : Ins} (hi : l[i]? = some t) : ∃ (ad : Addr) (C0 : Option Addr) (c0 : Nat) (C1 : Option Addr) (c1 : Nat) (C2 : Option Addr) (c2 : Nat) (C3 : Option Addr) (c3 : Nat) (C4 : Option Addr) (c4 : Nat) (C5 : Option Addr) (c5 : Nat), A = some ad ∧ ad.block < B ∧ InsAt w (ad.add (i * 6)) t C0 c0 C1 c1 C2 c2 C3 c3 C4 c4 C5 c5 ∧ RowAt rStr w B C0 t.net.places ∧ RowAt rArc w B C1 t.net.arcs ∧ (RowAt rTy w B C2 t.types ∧ t.types.length ≤ c2) ∧ (RowAt rOrd w B C3 t.orders ∧ t.orders.length ≤ c3) ∧ (RowAt (rPair rInt rInt) w B C4 t.apart ∧ t.apart.length ≤ c4) ∧ (RowAt (rPair rInt rInt) w B C5 t.before ∧ t.before.length ≤ c5) ∧ InsFits t := by
  obtain ⟨ad, cs, hA, hb, hr, hc⟩ := h.2 i t hi
  obtain ⟨C0, c0, C1, c1, C2, c2, C3, c3, C4, c4, C5, c5, rfl, hrest⟩ := rIns_at hr
  exact ⟨ad, C0, c0, C1, c1, C2, c2, C3, c3, C4, c4, C5, c5, hA, hb, ⟨hc 0 _ rfl, by rw [← add_split]; exact hc 1 _ rfl, by rw [← add_split]; exact hc 2 _ rfl, by rw [← add_split]; exact hc 3 _ rfl, by rw [← add_split]; exact hc 4 _ rfl, by rw [← add_split]; exact hc 5 _ rfl⟩, hrest⟩

end Go.Proofs.YtceceomaheobhaaDoor.typ

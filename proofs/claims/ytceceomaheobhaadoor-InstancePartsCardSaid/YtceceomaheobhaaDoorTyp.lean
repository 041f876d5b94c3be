/- Types of vehicles, networks, violations: read from memory. -/
import Derived.Test.YtceceomaheobhaaDoorRd
namespace Go.Proofs.YtceceomaheobhaaDoor.typ
open Go.RowKit
open Go.Proofs.YtceceomaheobhaaDoor.lib
open Go.Proofs.YtceceomaheobhaaDoor.rd
set_option linter.unusedVariables false

structure Ty where
  name : ByteArray
  count : Int
  frm : Int
  to : Int
  cap : List Int
  skills : Int
  profile : Int
  opn : Int
  close : Int
  drive : Int
  rest : Int
  fixed : Int
  mile : Int
  tick : Int
def rTy : Rd Ty := rMap (rPair rStr (rPair rInt (rPair rInt (rPair rInt (rPair rInts (rPair rInt (rPair rInt (rPair rInt (rPair rInt (rPair rInt (rPair rInt (rPair rInt (rPair rInt rInt))))))))))))) fun x => ⟨x.1, x.2.1, x.2.2.1, x.2.2.2.1, x.2.2.2.2.1, x.2.2.2.2.2.1, x.2.2.2.2.2.2.1, x.2.2.2.2.2.2.2.1, x.2.2.2.2.2.2.2.2.1, x.2.2.2.2.2.2.2.2.2.1, x.2.2.2.2.2.2.2.2.2.2.1, x.2.2.2.2.2.2.2.2.2.2.2.1, x.2.2.2.2.2.2.2.2.2.2.2.2.1, x.2.2.2.2.2.2.2.2.2.2.2.2.2⟩
def TyCells (t : Ty) (C0 : Option Addr) (c0 : Nat) : List Value := [.string t.name, .int .i64 t.count, .int .i64 t.frm, .int .i64 t.to, .slice C0 t.cap.length c0, .int .i64 t.skills, .int .i64 t.profile, .int .i64 t.opn, .int .i64 t.close, .int .i64 t.drive, .int .i64 t.rest, .int .i64 t.fixed, .int .i64 t.mile, .int .i64 t.tick]
def TyFits (t : Ty) : Prop := t.name.size ≤ 140737488351232 ∧ (-9223372036854775808 ≤ t.count ∧ t.count ≤ 9223372036854775807) ∧ (-9223372036854775808 ≤ t.frm ∧ t.frm ≤ 9223372036854775807) ∧ (-9223372036854775808 ≤ t.to ∧ t.to ≤ 9223372036854775807) ∧ (-9223372036854775808 ≤ t.skills ∧ t.skills ≤ 9223372036854775807) ∧ (-9223372036854775808 ≤ t.profile ∧ t.profile ≤ 9223372036854775807) ∧ (-9223372036854775808 ≤ t.opn ∧ t.opn ≤ 9223372036854775807) ∧ (-9223372036854775808 ≤ t.close ∧ t.close ≤ 9223372036854775807) ∧ (-9223372036854775808 ≤ t.drive ∧ t.drive ≤ 9223372036854775807) ∧ (-9223372036854775808 ≤ t.rest ∧ t.rest ≤ 9223372036854775807) ∧ (-9223372036854775808 ≤ t.fixed ∧ t.fixed ≤ 9223372036854775807) ∧ (-9223372036854775808 ≤ t.mile ∧ t.mile ≤ 9223372036854775807) ∧ (-9223372036854775808 ≤ t.tick ∧ t.tick ≤ 9223372036854775807)
theorem rTy_at {w : World} {B : Nat} {cs : List Value} {t : Ty} (h : rTy.at_ w B cs t) : ∃ C0 c0, cs = TyCells t C0 c0 ∧ Ints w B C0 t.cap ∧ TyFits t := by
  obtain ⟨⟨f0, f1, f2, f3, f4, f5, f6, f7, f8, f9, f10, f11, f12, f13⟩, rfl, _, _, rfl, ⟨rfl, hf0⟩, _, _, rfl, ⟨rfl, hf1⟩, _, _, rfl, ⟨rfl, hf2⟩, _, _, rfl, ⟨rfl, hf3⟩, _, _, rfl, ⟨A0, d0, rfl, hr0⟩, _, _, rfl, ⟨rfl, hf5⟩, _, _, rfl, ⟨rfl, hf6⟩, _, _, rfl, ⟨rfl, hf7⟩, _, _, rfl, ⟨rfl, hf8⟩, _, _, rfl, ⟨rfl, hf9⟩, _, _, rfl, ⟨rfl, hf10⟩, _, _, rfl, ⟨rfl, hf11⟩, _, _, rfl, ⟨rfl, hf12⟩, ⟨rfl, hf13⟩⟩ := h
  exact ⟨A0, d0, rfl, hr0, hf0, hf1, hf2, hf3, hf5, hf6, hf7, hf8, hf9, hf10, hf11, hf12, hf13⟩
theorem rTy_mk {w : World} {B : Nat} {t : Ty} {C0 : Option Addr} {c0 : Nat} (hr0 : Ints w B C0 t.cap) (hf : TyFits t) : rTy.at_ w B (TyCells t C0 c0) t := by
  exact ⟨(t.name, (t.count, (t.frm, (t.to, (t.cap, (t.skills, (t.profile, (t.opn, (t.close, (t.drive, (t.rest, (t.fixed, (t.mile, t.tick))))))))))))), rfl, _, _, rfl, ⟨rfl, hf.1⟩, _, _, rfl, ⟨rfl, hf.2.1⟩, _, _, rfl, ⟨rfl, hf.2.2.1⟩, _, _, rfl, ⟨rfl, hf.2.2.2.1⟩, _, _, rfl, ⟨_, _, rfl, hr0⟩, _, _, rfl, ⟨rfl, hf.2.2.2.2.1⟩, _, _, rfl, ⟨rfl, hf.2.2.2.2.2.1⟩, _, _, rfl, ⟨rfl, hf.2.2.2.2.2.2.1⟩, _, _, rfl, ⟨rfl, hf.2.2.2.2.2.2.2.1⟩, _, _, rfl, ⟨rfl, hf.2.2.2.2.2.2.2.2.1⟩, _, _, rfl, ⟨rfl, hf.2.2.2.2.2.2.2.2.2.1⟩, _, _, rfl, ⟨rfl, hf.2.2.2.2.2.2.2.2.2.2.1⟩, _, _, rfl, ⟨rfl, hf.2.2.2.2.2.2.2.2.2.2.2.1⟩, ⟨rfl, hf.2.2.2.2.2.2.2.2.2.2.2.2⟩⟩
set_option maxRecDepth 20000 in
theorem opens_Ty : Opens 47 rTy := opens_map _ (opens_struct Tryd.underlying47 (by kernel_rfl) (fieldsOpen_cons rfl (by kernel_rfl) (opens_str Tryd.underlying9) (fieldsOpen_cons rfl (by kernel_rfl) (opens_int Tryd.underlying3) (fieldsOpen_cons rfl (by kernel_rfl) (opens_int Tryd.underlying3) (fieldsOpen_cons rfl (by kernel_rfl) (opens_int Tryd.underlying3) (fieldsOpen_cons rfl (by kernel_rfl) (opens_ints Tryd.underlying37 Tryd.underlying3 (by kernel_rfl) (by rw [show Tryd.prog.bytesOf 3 = 8 by kernel_rfl]; omega)) (fieldsOpen_cons rfl (by kernel_rfl) (opens_int Tryd.underlying3) (fieldsOpen_cons rfl (by kernel_rfl) (opens_int Tryd.underlying3) (fieldsOpen_cons rfl (by kernel_rfl) (opens_int Tryd.underlying3) (fieldsOpen_cons rfl (by kernel_rfl) (opens_int Tryd.underlying3) (fieldsOpen_cons rfl (by kernel_rfl) (opens_int Tryd.underlying3) (fieldsOpen_cons rfl (by kernel_rfl) (opens_int Tryd.underlying3) (fieldsOpen_cons rfl (by kernel_rfl) (opens_int Tryd.underlying3) (fieldsOpen_cons rfl (by kernel_rfl) (opens_int Tryd.underlying3) (fieldsOpen_one rfl (by kernel_rfl) (opens_int Tryd.underlying3))))))))))))))))
/-- What lies at an element's address. -/
def TyAt (w : World) (ea : Addr) (t : Ty) (C0 : Option Addr) (c0 : Nat) : Prop := w.cell? ea = some (.string t.name) ∧ w.cell? ⟨ea.block, ea.off + 1, none⟩ = some (.int .i64 t.count) ∧ w.cell? ⟨ea.block, ea.off + 2, none⟩ = some (.int .i64 t.frm) ∧ w.cell? ⟨ea.block, ea.off + 3, none⟩ = some (.int .i64 t.to) ∧ w.cell? ⟨ea.block, ea.off + 4, none⟩ = some (.slice C0 t.cap.length c0) ∧ w.cell? ⟨ea.block, ea.off + 5, none⟩ = some (.int .i64 t.skills) ∧ w.cell? ⟨ea.block, ea.off + 6, none⟩ = some (.int .i64 t.profile) ∧ w.cell? ⟨ea.block, ea.off + 7, none⟩ = some (.int .i64 t.opn) ∧ w.cell? ⟨ea.block, ea.off + 8, none⟩ = some (.int .i64 t.close) ∧ w.cell? ⟨ea.block, ea.off + 9, none⟩ = some (.int .i64 t.drive) ∧ w.cell? ⟨ea.block, ea.off + 10, none⟩ = some (.int .i64 t.rest) ∧ w.cell? ⟨ea.block, ea.off + 11, none⟩ = some (.int .i64 t.fixed) ∧ w.cell? ⟨ea.block, ea.off + 12, none⟩ = some (.int .i64 t.mile) ∧ w.cell? ⟨ea.block, ea.off + 13, none⟩ = some (.int .i64 t.tick)
theorem row_Ty {w : World} {B : Nat} {A : Option Addr} {l : List Ty} (h : RowAt rTy w B A l) {i : Nat} {t : Ty} (hi : l[i]? = some t) : ∃ (ad : Addr) (C0 : Option Addr) (c0 : Nat), A = some ad ∧ ad.block < B ∧ TyAt w (ad.add (i * 14)) t C0 c0 ∧ Ints w B C0 t.cap ∧ TyFits t := by
  obtain ⟨ad, cs, hA, hb, hr, hc⟩ := h.2 i t hi
  obtain ⟨C0, c0, rfl, hrest⟩ := rTy_at hr
  exact ⟨ad, C0, c0, hA, hb, ⟨hc 0 _ rfl, by rw [← add_split]; exact hc 1 _ rfl, by rw [← add_split]; exact hc 2 _ rfl, by rw [← add_split]; exact hc 3 _ rfl, by rw [← add_split]; exact hc 4 _ rfl, by rw [← add_split]; exact hc 5 _ rfl, by rw [← add_split]; exact hc 6 _ rfl, by rw [← add_split]; exact hc 7 _ rfl, by rw [← add_split]; exact hc 8 _ rfl, by rw [← add_split]; exact hc 9 _ rfl, by rw [← add_split]; exact hc 10 _ rfl, by rw [← add_split]; exact hc 11 _ rfl, by rw [← add_split]; exact hc 12 _ rfl, by rw [← add_split]; exact hc 13 _ rfl⟩, hrest⟩

structure Flt where
  err : Int
  at_ : ByteArray
def rFlt : Rd Flt := rMap (rPair rInt rStr) fun x => ⟨x.1, x.2⟩
def FltCells (t : Flt) : List Value := [.int .i64 t.err, .string t.at_]
def FltFits (t : Flt) : Prop := (-9223372036854775808 ≤ t.err ∧ t.err ≤ 9223372036854775807) ∧ t.at_.size ≤ 140737488351232
theorem rFlt_at {w : World} {B : Nat} {cs : List Value} {t : Flt} (h : rFlt.at_ w B cs t) : cs = FltCells t ∧ FltFits t := by
  obtain ⟨⟨f0, f1⟩, rfl, _, _, rfl, ⟨rfl, hf0⟩, ⟨rfl, hf1⟩⟩ := h
  exact ⟨rfl, hf0, hf1⟩
theorem rFlt_mk {w : World} {B : Nat} {t : Flt} (hf : FltFits t) : rFlt.at_ w B (FltCells t) t := by
  exact ⟨(t.err, t.at_), rfl, _, _, rfl, ⟨rfl, hf.1⟩, ⟨rfl, hf.2⟩⟩
set_option maxRecDepth 20000 in
theorem opens_Flt : Opens 54 rFlt := opens_map _ (opens_struct Tryd.underlying54 (by kernel_rfl) (fieldsOpen_cons rfl (by kernel_rfl) (opens_int Tryd.underlying38) (fieldsOpen_one rfl (by kernel_rfl) (opens_str Tryd.underlying9))))
/-- What lies at an element's address. -/
def FltAt (w : World) (ea : Addr) (t : Flt) : Prop := w.cell? ea = some (.int .i64 t.err) ∧ w.cell? ⟨ea.block, ea.off + 1, none⟩ = some (.string t.at_)
theorem row_Flt {w : World} {B : Nat} {A : Option Addr} {l : List Flt} (h : RowAt rFlt w B A l) {i : Nat} {t : Flt} (hi : l[i]? = some t) : ∃ (ad : Addr), A = some ad ∧ ad.block < B ∧ FltAt w (ad.add (i * 2)) t ∧ FltFits t := by
  obtain ⟨ad, cs, hA, hb, hr, hc⟩ := h.2 i t hi
  obtain ⟨rfl, hrest⟩ := rFlt_at hr
  exact ⟨ad, hA, hb, ⟨hc 0 _ rfl, by rw [← add_split]; exact hc 1 _ rfl⟩, hrest⟩

structure Pt where
  t : Int
  a : Int
def rPt : Rd Pt := rMap (rPair rInt rInt) fun x => ⟨x.1, x.2⟩
def PtCells (t : Pt) : List Value := [.int .i64 t.t, .int .i64 t.a]
def PtFits (t : Pt) : Prop := (-9223372036854775808 ≤ t.t ∧ t.t ≤ 9223372036854775807) ∧ (-9223372036854775808 ≤ t.a ∧ t.a ≤ 9223372036854775807)
theorem rPt_at {w : World} {B : Nat} {cs : List Value} {t : Pt} (h : rPt.at_ w B cs t) : cs = PtCells t ∧ PtFits t := by
  obtain ⟨⟨f0, f1⟩, rfl, _, _, rfl, ⟨rfl, hf0⟩, ⟨rfl, hf1⟩⟩ := h
  exact ⟨rfl, hf0, hf1⟩
theorem rPt_mk {w : World} {B : Nat} {t : Pt} (hf : PtFits t) : rPt.at_ w B (PtCells t) t := by
  exact ⟨(t.t, t.a), rfl, _, _, rfl, ⟨rfl, hf.1⟩, ⟨rfl, hf.2⟩⟩
set_option maxRecDepth 20000 in
theorem opens_Pt : Opens 77 rPt := opens_map _ (opens_struct Tryd.underlying77 (by kernel_rfl) (fieldsOpen_cons rfl (by kernel_rfl) (opens_int Tryd.underlying3) (fieldsOpen_one rfl (by kernel_rfl) (opens_int Tryd.underlying3))))
/-- What lies at an element's address. -/
def PtAt (w : World) (ea : Addr) (t : Pt) : Prop := w.cell? ea = some (.int .i64 t.t) ∧ w.cell? ⟨ea.block, ea.off + 1, none⟩ = some (.int .i64 t.a)
theorem row_Pt {w : World} {B : Nat} {A : Option Addr} {l : List Pt} (h : RowAt rPt w B A l) {i : Nat} {t : Pt} (hi : l[i]? = some t) : ∃ (ad : Addr), A = some ad ∧ ad.block < B ∧ PtAt w (ad.add (i * 2)) t ∧ PtFits t := by
  obtain ⟨ad, cs, hA, hb, hr, hc⟩ := h.2 i t hi
  obtain ⟨rfl, hrest⟩ := rPt_at hr
  exact ⟨ad, hA, hb, ⟨hc 0 _ rfl, by rw [← add_split]; exact hc 1 _ rfl⟩, hrest⟩

structure Arc where
  frm : Int
  to : Int
  profile : Int
  miles : Int
  travel : List Pt
  slow : List Pt
def rArc : Rd Arc := rMap (rPair rInt (rPair rInt (rPair rInt (rPair rInt (rPair (rSlice rPt) (rSlice rPt)))))) fun x => ⟨x.1, x.2.1, x.2.2.1, x.2.2.2.1, x.2.2.2.2.1, x.2.2.2.2.2⟩
def ArcCells (t : Arc) (C0 : Option Addr) (c0 : Nat) (C1 : Option Addr) (c1 : Nat) : List Value := [.int .i64 t.frm, .int .i64 t.to, .int .i64 t.profile, .int .i64 t.miles, .slice C0 t.travel.length c0, .slice C1 t.slow.length c1]
def ArcFits (t : Arc) : Prop := (-9223372036854775808 ≤ t.frm ∧ t.frm ≤ 9223372036854775807) ∧ (-9223372036854775808 ≤ t.to ∧ t.to ≤ 9223372036854775807) ∧ (-9223372036854775808 ≤ t.profile ∧ t.profile ≤ 9223372036854775807) ∧ (-9223372036854775808 ≤ t.miles ∧ t.miles ≤ 9223372036854775807)
theorem rArc_at {w : World} {B : Nat} {cs : List Value} {t : Arc} (h : rArc.at_ w B cs t) : ∃ C0 c0 C1 c1, cs = ArcCells t C0 c0 C1 c1 ∧ RowAt rPt w B C0 t.travel ∧ RowAt rPt w B C1 t.slow ∧ ArcFits t := by
  obtain ⟨⟨f0, f1, f2, f3, f4, f5⟩, rfl, _, _, rfl, ⟨rfl, hf0⟩, _, _, rfl, ⟨rfl, hf1⟩, _, _, rfl, ⟨rfl, hf2⟩, _, _, rfl, ⟨rfl, hf3⟩, _, _, rfl, ⟨A0, d0, rfl, hr0⟩, ⟨A1, d1, rfl, hr1⟩⟩ := h
  exact ⟨A0, d0, A1, d1, rfl, hr0, hr1, hf0, hf1, hf2, hf3⟩
theorem rArc_mk {w : World} {B : Nat} {t : Arc} {C0 : Option Addr} {c0 : Nat} {C1 : Option Addr} {c1 : Nat} (hr0 : RowAt rPt w B C0 t.travel) (hr1 : RowAt rPt w B C1 t.slow) (hf : ArcFits t) : rArc.at_ w B (ArcCells t C0 c0 C1 c1) t := by
  exact ⟨(t.frm, (t.to, (t.profile, (t.miles, (t.travel, t.slow))))), rfl, _, _, rfl, ⟨rfl, hf.1⟩, _, _, rfl, ⟨rfl, hf.2.1⟩, _, _, rfl, ⟨rfl, hf.2.2.1⟩, _, _, rfl, ⟨rfl, hf.2.2.2⟩, _, _, rfl, ⟨_, _, rfl, hr0⟩, ⟨_, _, rfl, hr1⟩⟩
set_option maxRecDepth 20000 in
theorem opens_Arc : Opens 45 rArc := opens_map _ (opens_struct Tryd.underlying45 (by kernel_rfl) (fieldsOpen_cons rfl (by kernel_rfl) (opens_int Tryd.underlying3) (fieldsOpen_cons rfl (by kernel_rfl) (opens_int Tryd.underlying3) (fieldsOpen_cons rfl (by kernel_rfl) (opens_int Tryd.underlying3) (fieldsOpen_cons rfl (by kernel_rfl) (opens_int Tryd.underlying3) (fieldsOpen_cons rfl (by kernel_rfl) (opens_slice Tryd.underlying43 (by kernel_rfl) (by decide) (of_decide_eq_true (by kernel_rfl)) opens_Pt) (fieldsOpen_one rfl (by kernel_rfl) (opens_slice Tryd.underlying43 (by kernel_rfl) (by decide) (of_decide_eq_true (by kernel_rfl)) opens_Pt))))))))
/-- What lies at an element's address. -/
def ArcAt (w : World) (ea : Addr) (t : Arc) (C0 : Option Addr) (c0 : Nat) (C1 : Option Addr) (c1 : Nat) : Prop := w.cell? ea = some (.int .i64 t.frm) ∧ w.cell? ⟨ea.block, ea.off + 1, none⟩ = some (.int .i64 t.to) ∧ w.cell? ⟨ea.block, ea.off + 2, none⟩ = some (.int .i64 t.profile) ∧ w.cell? ⟨ea.block, ea.off + 3, none⟩ = some (.int .i64 t.miles) ∧ w.cell? ⟨ea.block, ea.off + 4, none⟩ = some (.slice C0 t.travel.length c0) ∧ w.cell? ⟨ea.block, ea.off + 5, none⟩ = some (.slice C1 t.slow.length c1)
theorem row_Arc {w : World} {B : Nat} {A : Option Addr} {l : List Arc} (h : RowAt rArc w B A l) {i : Nat} {t : Arc} (hi : l[i]? = some t) : ∃ (ad : Addr) (C0 : Option Addr) (c0 : Nat) (C1 : Option Addr) (c1 : Nat), A = some ad ∧ ad.block < B ∧ ArcAt w (ad.add (i * 6)) t C0 c0 C1 c1 ∧ RowAt rPt w B C0 t.travel ∧ RowAt rPt w B C1 t.slow ∧ ArcFits t := by
  obtain ⟨ad, cs, hA, hb, hr, hc⟩ := h.2 i t hi
  obtain ⟨C0, c0, C1, c1, rfl, hrest⟩ := rArc_at hr
  exact ⟨ad, C0, c0, C1, c1, hA, hb, ⟨hc 0 _ rfl, by rw [← add_split]; exact hc 1 _ rfl, by rw [← add_split]; exact hc 2 _ rfl, by rw [← add_split]; exact hc 3 _ rfl, by rw [← add_split]; exact hc 4 _ rfl, by rw [← add_split]; exact hc 5 _ rfl⟩, hrest⟩

structure Net where
  places : List ByteArray
  arcs : List Arc
def rNet : Rd Net := rMap (rPair (rSlice rStr) (rSlice rArc)) fun x => ⟨x.1, x.2⟩
def NetCells (t : Net) (C0 : Option Addr) (c0 : Nat) (C1 : Option Addr) (c1 : Nat) : List Value := [.slice C0 t.places.length c0, .slice C1 t.arcs.length c1]
def NetFits (t : Net) : Prop := True
theorem rNet_at {w : World} {B : Nat} {cs : List Value} {t : Net} (h : rNet.at_ w B cs t) : ∃ C0 c0 C1 c1, cs = NetCells t C0 c0 C1 c1 ∧ RowAt rStr w B C0 t.places ∧ RowAt rArc w B C1 t.arcs ∧ NetFits t := by
  obtain ⟨⟨f0, f1⟩, rfl, _, _, rfl, ⟨A0, d0, rfl, hr0⟩, ⟨A1, d1, rfl, hr1⟩⟩ := h
  exact ⟨A0, d0, A1, d1, rfl, hr0, hr1, trivial⟩
theorem rNet_mk {w : World} {B : Nat} {t : Net} {C0 : Option Addr} {c0 : Nat} {C1 : Option Addr} {c1 : Nat} (hr0 : RowAt rStr w B C0 t.places) (hr1 : RowAt rArc w B C1 t.arcs) (hf : NetFits t) : rNet.at_ w B (NetCells t C0 c0 C1 c1) t := by
  exact ⟨(t.places, t.arcs), rfl, _, _, rfl, ⟨_, _, rfl, hr0⟩, ⟨_, _, rfl, hr1⟩⟩
set_option maxRecDepth 20000 in
theorem opens_Net : Opens 25 rNet := opens_map _ (opens_struct Tryd.underlying25 (by kernel_rfl) (fieldsOpen_cons rfl (by kernel_rfl) (opens_slice Tryd.underlying22 (by kernel_rfl) (by decide) (of_decide_eq_true (by kernel_rfl)) (opens_str Tryd.underlying9)) (fieldsOpen_one rfl (by kernel_rfl) (opens_slice Tryd.underlying23 (by kernel_rfl) (by decide) (of_decide_eq_true (by kernel_rfl)) opens_Arc))))
/-- What lies at an element's address. -/
def NetAt (w : World) (ea : Addr) (t : Net) (C0 : Option Addr) (c0 : Nat) (C1 : Option Addr) (c1 : Nat) : Prop := w.cell? ea = some (.slice C0 t.places.length c0) ∧ w.cell? ⟨ea.block, ea.off + 1, none⟩ = some (.slice C1 t.arcs.length c1)
theorem row_Net {w : World} {B : Nat} {A : Option Addr} {l : List Net} (h : RowAt rNet w B A l) {i : Nat} {t : Net} (hi : l[i]? = some t) : ∃ (ad : Addr) (C0 : Option Addr) (c0 : Nat) (C1 : Option Addr) (c1 : Nat), A = some ad ∧ ad.block < B ∧ NetAt w (ad.add (i * 2)) t C0 c0 C1 c1 ∧ RowAt rStr w B C0 t.places ∧ RowAt rArc w B C1 t.arcs ∧ NetFits t := by
  obtain ⟨ad, cs, hA, hb, hr, hc⟩ := h.2 i t hi
  obtain ⟨C0, c0, C1, c1, rfl, hrest⟩ := rNet_at hr
  exact ⟨ad, C0, c0, C1, c1, hA, hb, ⟨hc 0 _ rfl, by rw [← add_split]; exact hc 1 _ rfl⟩, hrest⟩

end Go.Proofs.YtceceomaheobhaaDoor.typ

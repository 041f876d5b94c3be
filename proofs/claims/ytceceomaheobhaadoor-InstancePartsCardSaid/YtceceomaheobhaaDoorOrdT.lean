/- Orders, stops, visits: read from memory. -/
import Derived.Test.YtceceomaheobhaaDoorRd
import Derived.Test.YtceceomaheobhaaDoorRd
namespace Go.Proofs.YtceceomaheobhaaDoor.typ
open Go.RowKit
open Go.Proofs.YtceceomaheobhaaDoor.lib
open Go.Proofs.YtceceomaheobhaaDoor.rd
set_option linter.unusedVariables false

structure Stp where
  place : Int
  opn : Int
  close : Int
  service : Int
def rStp : Rd Stp := rMap (rPair rInt (rPair rInt (rPair rInt rInt))) fun x => ⟨x.1, x.2.1, x.2.2.1, x.2.2.2⟩
def StpCells (t : Stp) : List Value := [.int .i64 t.place, .int .i64 t.opn, .int .i64 t.close, .int .i64 t.service]
def StpFits (t : Stp) : Prop := (-9223372036854775808 ≤ t.place ∧ t.place ≤ 9223372036854775807) ∧ (-9223372036854775808 ≤ t.opn ∧ t.opn ≤ 9223372036854775807) ∧ (-9223372036854775808 ≤ t.close ∧ t.close ≤ 9223372036854775807) ∧ (-9223372036854775808 ≤ t.service ∧ t.service ≤ 9223372036854775807)
theorem rStp_at {w : World} {B : Nat} {cs : List Value} {t : Stp} (h : rStp.at_ w B cs t) : cs = StpCells t ∧ StpFits t := by
  obtain ⟨⟨f0, f1, f2, f3⟩, rfl, _, _, rfl, ⟨rfl, hf0⟩, _, _, rfl, ⟨rfl, hf1⟩, _, _, rfl, ⟨rfl, hf2⟩, ⟨rfl, hf3⟩⟩ := h
  exact ⟨rfl, hf0, hf1, hf2, hf3⟩
theorem rStp_mk {w : World} {B : Nat} {t : Stp} (hf : StpFits t) : rStp.at_ w B (StpCells t) t := by
  exact ⟨(t.place, (t.opn, (t.close, t.service))), rfl, _, _, rfl, ⟨rfl, hf.1⟩, _, _, rfl, ⟨rfl, hf.2.1⟩, _, _, rfl, ⟨rfl, hf.2.2.1⟩, ⟨rfl, hf.2.2.2⟩⟩
set_option maxRecDepth 20000 in
theorem opens_Stp : Opens 49 rStp := opens_map _ (opens_struct Tryd.underlying49 (by kernel_rfl) (fieldsOpen_cons rfl (by kernel_rfl) (opens_int Tryd.underlying3) (fieldsOpen_cons rfl (by kernel_rfl) (opens_int Tryd.underlying3) (fieldsOpen_cons rfl (by kernel_rfl) (opens_int Tryd.underlying3) (fieldsOpen_one rfl (by kernel_rfl) (opens_int Tryd.underlying3))))))
/-- What lies at an element's address. -/
def StpAt (w : World) (ea : Addr) (t : Stp) : Prop := w.cell? ea = some (.int .i64 t.place) ∧ w.cell? ⟨ea.block, ea.off + 1, none⟩ = some (.int .i64 t.opn) ∧ w.cell? ⟨ea.block, ea.off + 2, none⟩ = some (.int .i64 t.close) ∧ w.cell? ⟨ea.block, ea.off + 3, none⟩ = some (.int .i64 t.service)
theorem row_Stp {w : World} {B : Nat} {A : Option Addr} {l : List Stp} (h : RowAt rStp w B A l) {i : Nat} {t : Stp} (hi : l[i]? = some t) : ∃ (ad : Addr), A = some ad ∧ ad.block < B ∧ StpAt w (ad.add (i * 4)) t ∧ StpFits t := by
  obtain ⟨ad, cs, hA, hb, hr, hc⟩ := h.2 i t hi
  obtain ⟨rfl, hrest⟩ := rStp_at hr
  exact ⟨ad, hA, hb, ⟨hc 0 _ rfl, by rw [← add_split]; exact hc 1 _ rfl, by rw [← add_split]; exact hc 2 _ rfl, by rw [← add_split]; exact hc 3 _ rfl⟩, hrest⟩

structure Ord where
  name : ByteArray
  load : List Int
  pick : Stp
  drop : Stp
  skills : Int
  penalty : Int
  split : Int
  last : Int
  now : Int
  off : Bool
def rOrd : Rd Ord := rMap (rPair rStr (rPair rInts (rPair rStp (rPair rStp (rPair rInt (rPair rInt (rPair rInt (rPair rInt (rPair rInt rBool))))))))) fun x => ⟨x.1, x.2.1, x.2.2.1, x.2.2.2.1, x.2.2.2.2.1, x.2.2.2.2.2.1, x.2.2.2.2.2.2.1, x.2.2.2.2.2.2.2.1, x.2.2.2.2.2.2.2.2.1, x.2.2.2.2.2.2.2.2.2⟩
def OrdCells (t : Ord) (C0 : Option Addr) (c0 : Nat) : List Value := [.string t.name, .slice C0 t.load.length c0, .int .i64 t.pick.place, .int .i64 t.pick.opn, .int .i64 t.pick.close, .int .i64 t.pick.service, .int .i64 t.drop.place, .int .i64 t.drop.opn, .int .i64 t.drop.close, .int .i64 t.drop.service, .int .i64 t.skills, .int .i64 t.penalty, .int .i64 t.split, .int .i64 t.last, .int .i64 t.now, .bool t.off]
def OrdFits (t : Ord) : Prop := t.name.size ≤ 140737488351232 ∧ StpFits t.pick ∧ StpFits t.drop ∧ (-9223372036854775808 ≤ t.skills ∧ t.skills ≤ 9223372036854775807) ∧ (-9223372036854775808 ≤ t.penalty ∧ t.penalty ≤ 9223372036854775807) ∧ (-9223372036854775808 ≤ t.split ∧ t.split ≤ 9223372036854775807) ∧ (-9223372036854775808 ≤ t.last ∧ t.last ≤ 9223372036854775807) ∧ (-9223372036854775808 ≤ t.now ∧ t.now ≤ 9223372036854775807)
theorem rOrd_at {w : World} {B : Nat} {cs : List Value} {t : Ord} (h : rOrd.at_ w B cs t) : ∃ C0 c0, cs = OrdCells t C0 c0 ∧ Ints w B C0 t.load ∧ OrdFits t := by
  obtain ⟨⟨f0, f1, f2, f3, f4, f5, f6, f7, f8, f9⟩, rfl, _, _, rfl, ⟨rfl, hf0⟩, _, _, rfl, ⟨A0, d0, rfl, hr0⟩, _, _, rfl, hn2, _, _, rfl, hn3, _, _, rfl, ⟨rfl, hf4⟩, _, _, rfl, ⟨rfl, hf5⟩, _, _, rfl, ⟨rfl, hf6⟩, _, _, rfl, ⟨rfl, hf7⟩, _, _, rfl, ⟨rfl, hf8⟩, rfl⟩ := h
  obtain ⟨rfl, hf2⟩ := rStp_at hn2
  obtain ⟨rfl, hf3⟩ := rStp_at hn3
  exact ⟨A0, d0, rfl, hr0, hf0, hf2, hf3, hf4, hf5, hf6, hf7, hf8⟩
theorem rOrd_mk {w : World} {B : Nat} {t : Ord} {C0 : Option Addr} {c0 : Nat} (hr0 : Ints w B C0 t.load) (hf : OrdFits t) : rOrd.at_ w B (OrdCells t C0 c0) t := by
  exact ⟨(t.name, (t.load, (t.pick, (t.drop, (t.skills, (t.penalty, (t.split, (t.last, (t.now, t.off))))))))), rfl, _, _, rfl, ⟨rfl, hf.1⟩, _, _, rfl, ⟨_, _, rfl, hr0⟩, _, _, rfl, rStp_mk (hf.2.1), _, _, rfl, rStp_mk (hf.2.2.1), _, _, rfl, ⟨rfl, hf.2.2.2.1⟩, _, _, rfl, ⟨rfl, hf.2.2.2.2.1⟩, _, _, rfl, ⟨rfl, hf.2.2.2.2.2.1⟩, _, _, rfl, ⟨rfl, hf.2.2.2.2.2.2.1⟩, _, _, rfl, ⟨rfl, hf.2.2.2.2.2.2.2⟩, rfl⟩
set_option maxRecDepth 20000 in
theorem opens_Ord : Opens 51 rOrd := opens_map _ (opens_struct Tryd.underlying51 (by kernel_rfl) (fieldsOpen_cons rfl (by kernel_rfl) (opens_str Tryd.underlying9) (fieldsOpen_cons rfl (by kernel_rfl) (opens_ints Tryd.underlying37 Tryd.underlying3 (by kernel_rfl) (by rw [show Tryd.prog.bytesOf 3 = 8 by kernel_rfl]; omega)) (fieldsOpen_cons rfl (by kernel_rfl) opens_Stp (fieldsOpen_cons rfl (by kernel_rfl) opens_Stp (fieldsOpen_cons rfl (by kernel_rfl) (opens_int Tryd.underlying3) (fieldsOpen_cons rfl (by kernel_rfl) (opens_int Tryd.underlying3) (fieldsOpen_cons rfl (by kernel_rfl) (opens_int Tryd.underlying3) (fieldsOpen_cons rfl (by kernel_rfl) (opens_int Tryd.underlying3) (fieldsOpen_cons rfl (by kernel_rfl) (opens_int Tryd.underlying3) (fieldsOpen_one rfl (by kernel_rfl) (opens_bool Tryd.underlying4))))))))))))
/-- What lies at an element's address. -/
def OrdAt (w : World) (ea : Addr) (t : Ord) (C0 : Option Addr) (c0 : Nat) : Prop := w.cell? ea = some (.string t.name) ∧ w.cell? ⟨ea.block, ea.off + 1, none⟩ = some (.slice C0 t.load.length c0) ∧ w.cell? ⟨ea.block, ea.off + 2, none⟩ = some (.int .i64 t.pick.place) ∧ w.cell? ⟨ea.block, ea.off + 3, none⟩ = some (.int .i64 t.pick.opn) ∧ w.cell? ⟨ea.block, ea.off + 4, none⟩ = some (.int .i64 t.pick.close) ∧ w.cell? ⟨ea.block, ea.off + 5, none⟩ = some (.int .i64 t.pick.service) ∧ w.cell? ⟨ea.block, ea.off + 6, none⟩ = some (.int .i64 t.drop.place) ∧ w.cell? ⟨ea.block, ea.off + 7, none⟩ = some (.int .i64 t.drop.opn) ∧ w.cell? ⟨ea.block, ea.off + 8, none⟩ = some (.int .i64 t.drop.close) ∧ w.cell? ⟨ea.block, ea.off + 9, none⟩ = some (.int .i64 t.drop.service) ∧ w.cell? ⟨ea.block, ea.off + 10, none⟩ = some (.int .i64 t.skills) ∧ w.cell? ⟨ea.block, ea.off + 11, none⟩ = some (.int .i64 t.penalty) ∧ w.cell? ⟨ea.block, ea.off + 12, none⟩ = some (.int .i64 t.split) ∧ w.cell? ⟨ea.block, ea.off + 13, none⟩ = some (.int .i64 t.last) ∧ w.cell? ⟨ea.block, ea.off + 14, none⟩ = some (.int .i64 t.now) ∧ w.cell? ⟨ea.block, ea.off + 15, none⟩ = some (.bool t.off)
theorem row_Ord {w : World} {B : Nat} {A : Option Addr} {l : List Ord} (h : RowAt rOrd w B A l) {i : Nat} {t : Ord} (hi : l[i]? = some t) : ∃ (ad : Addr) (C0 : Option Addr) (c0 : Nat), A = some ad ∧ ad.block < B ∧ OrdAt w (ad.add (i * 16)) t C0 c0 ∧ Ints w B C0 t.load ∧ OrdFits t := by
  obtain ⟨ad, cs, hA, hb, hr, hc⟩ := h.2 i t hi
  obtain ⟨C0, c0, rfl, hrest⟩ := rOrd_at hr
  exact ⟨ad, C0, c0, hA, hb, ⟨hc 0 _ rfl, by rw [← add_split]; exact hc 1 _ rfl, by rw [← add_split]; exact hc 2 _ rfl, by rw [← add_split]; exact hc 3 _ rfl, by rw [← add_split]; exact hc 4 _ rfl, by rw [← add_split]; exact hc 5 _ rfl, by rw [← add_split]; exact hc 6 _ rfl, by rw [← add_split]; exact hc 7 _ rfl, by rw [← add_split]; exact hc 8 _ rfl, by rw [← add_split]; exact hc 9 _ rfl, by rw [← add_split]; exact hc 10 _ rfl, by rw [← add_split]; exact hc 11 _ rfl, by rw [← add_split]; exact hc 12 _ rfl, by rw [← add_split]; exact hc 13 _ rfl, by rw [← add_split]; exact hc 14 _ rfl, by rw [← add_split]; exact hc 15 _ rfl⟩, hrest⟩

end Go.Proofs.YtceceomaheobhaaDoor.typ

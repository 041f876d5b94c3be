/- Events, read from memory. -/
import Derived.Test.YtofabhenmplkoaaGreatDoorBase
namespace Go.Proofs.YtofabhenmplkoaaGreatDoor.typ
open Go.RowKit
open Go.Proofs.YtofabhenmplkoaaGreatDoor.lib
open Go.Proofs.YtofabhenmplkoaaGreatDoor.rd
set_option linter.unusedVariables false

structure Evt where
  at_ : Int
  kind : Int
  a : Int
  b : Int
  n : Int
  order : Ord
def rEvt : Rd Evt := rMap (rPair rInt (rPair rInt (rPair rInt (rPair rInt (rPair rInt rOrd))))) fun x => ⟨x.1, x.2.1, x.2.2.1, x.2.2.2.1, x.2.2.2.2.1, x.2.2.2.2.2⟩
def EvtCells (t : Evt) (C0 : Option Addr) (c0 : Nat) : List Value := [.int .i64 t.at_, .int .i64 t.kind, .int .i64 t.a, .int .i64 t.b, .int .i64 t.n, .string t.order.name, .slice C0 t.order.load.length c0, .int .i64 t.order.pick.place, .int .i64 t.order.pick.opn, .int .i64 t.order.pick.close, .int .i64 t.order.pick.service, .int .i64 t.order.drop.place, .int .i64 t.order.drop.opn, .int .i64 t.order.drop.close, .int .i64 t.order.drop.service, .int .i64 t.order.skills, .int .i64 t.order.penalty, .int .i64 t.order.split, .int .i64 t.order.last, .int .i64 t.order.now, .bool t.order.off]
def EvtFits (t : Evt) : Prop := (-9223372036854775808 ≤ t.at_ ∧ t.at_ ≤ 9223372036854775807) ∧ (-9223372036854775808 ≤ t.kind ∧ t.kind ≤ 9223372036854775807) ∧ (-9223372036854775808 ≤ t.a ∧ t.a ≤ 9223372036854775807) ∧ (-9223372036854775808 ≤ t.b ∧ t.b ≤ 9223372036854775807) ∧ (-9223372036854775808 ≤ t.n ∧ t.n ≤ 9223372036854775807) ∧ OrdFits t.order
theorem rEvt_at {w : World} {B : Nat} {cs : List Value} {t : Evt} (h : rEvt.at_ w B cs t) : ∃ C0 c0, cs = EvtCells t C0 c0 ∧ Ints w B C0 t.order.load ∧ EvtFits t := by
  obtain ⟨⟨f0, f1, f2, f3, f4, f5⟩, rfl, _, _, rfl, ⟨rfl, hf0⟩, _, _, rfl, ⟨rfl, hf1⟩, _, _, rfl, ⟨rfl, hf2⟩, _, _, rfl, ⟨rfl, hf3⟩, _, _, rfl, ⟨rfl, hf4⟩, hn5⟩ := h
  obtain ⟨A0, d0, rfl, hr0, hf5⟩ := rOrd_at hn5
  exact ⟨A0, d0, rfl, hr0, hf0, hf1, hf2, hf3, hf4, hf5⟩
theorem rEvt_mk {w : World} {B : Nat} {t : Evt} {C0 : Option Addr} {c0 : Nat} (hr0 : Ints w B C0 t.order.load) (hf : EvtFits t) : rEvt.at_ w B (EvtCells t C0 c0) t := by
  exact ⟨(t.at_, (t.kind, (t.a, (t.b, (t.n, t.order))))), rfl, _, _, rfl, ⟨rfl, hf.1⟩, _, _, rfl, ⟨rfl, hf.2.1⟩, _, _, rfl, ⟨rfl, hf.2.2.1⟩, _, _, rfl, ⟨rfl, hf.2.2.2.1⟩, _, _, rfl, ⟨rfl, hf.2.2.2.2.1⟩, rOrd_mk hr0 (hf.2.2.2.2.2)⟩
set_option maxRecDepth 20000 in
theorem opens_Evt : Opens 37 rEvt := opens_map _ (opens_struct Tryz.underlying37 (by kernel_rfl) (fieldsOpen_cons rfl (by kernel_rfl) (opens_int Tryz.underlying3) (fieldsOpen_cons rfl (by kernel_rfl) (opens_int Tryz.underlying3) (fieldsOpen_cons rfl (by kernel_rfl) (opens_int Tryz.underlying3) (fieldsOpen_cons rfl (by kernel_rfl) (opens_int Tryz.underlying3) (fieldsOpen_cons rfl (by kernel_rfl) (opens_int Tryz.underlying3) (fieldsOpen_one rfl (by kernel_rfl) opens_Ord)))))))
/-- What lies at an element's address. -/
def EvtAt (w : World) (ea : Addr) (t : Evt) (C0 : Option Addr) (c0 : Nat) : Prop := w.cell? ea = some (.int .i64 t.at_) ∧ w.cell? ⟨ea.block, ea.off + 1, none⟩ = some (.int .i64 t.kind) ∧ w.cell? ⟨ea.block, ea.off + 2, none⟩ = some (.int .i64 t.a) ∧ w.cell? ⟨ea.block, ea.off + 3, none⟩ = some (.int .i64 t.b) ∧ w.cell? ⟨ea.block, ea.off + 4, none⟩ = some (.int .i64 t.n) ∧ w.cell? ⟨ea.block, ea.off + 5, none⟩ = some (.string t.order.name) ∧ w.cell? ⟨ea.block, ea.off + 6, none⟩ = some (.slice C0 t.order.load.length c0) ∧ w.cell? ⟨ea.block, ea.off + 7, none⟩ = some (.int .i64 t.order.pick.place) ∧ w.cell? ⟨ea.block, ea.off + 8, none⟩ = some (.int .i64 t.order.pick.opn) ∧ w.cell? ⟨ea.block, ea.off + 9, none⟩ = some (.int .i64 t.order.pick.close) ∧ w.cell? ⟨ea.block, ea.off + 10, none⟩ = some (.int .i64 t.order.pick.service) ∧ w.cell? ⟨ea.block, ea.off + 11, none⟩ = some (.int .i64 t.order.drop.place) ∧ w.cell? ⟨ea.block, ea.off + 12, none⟩ = some (.int .i64 t.order.drop.opn) ∧ w.cell? ⟨ea.block, ea.off + 13, none⟩ = some (.int .i64 t.order.drop.close) ∧ w.cell? ⟨ea.block, ea.off + 14, none⟩ = some (.int .i64 t.order.drop.service) ∧ w.cell? ⟨ea.block, ea.off + 15, none⟩ = some (.int .i64 t.order.skills) ∧ w.cell? ⟨ea.block, ea.off + 16, none⟩ = some (.int .i64 t.order.penalty) ∧ w.cell? ⟨ea.block, ea.off + 17, none⟩ = some (.int .i64 t.order.split) ∧ w.cell? ⟨ea.block, ea.off + 18, none⟩ = some (.int .i64 t.order.last) ∧ w.cell? ⟨ea.block, ea.off + 19, none⟩ = some (.int .i64 t.order.now) ∧ w.cell? ⟨ea.block, ea.off + 20, none⟩ = some (.bool t.order.off)
theorem row_Evt {w : World} {B : Nat} {A : Option Addr} {l : List Evt} (h : RowAt rEvt w B A l) {i : Nat} {t : Evt} (hi : l[i]? = some t) : ∃ (ad : Addr) (C0 : Option Addr) (c0 : Nat), A = some ad ∧ ad.block < B ∧ EvtAt w (ad.add (i * 21)) t C0 c0 ∧ Ints w B C0 t.order.load ∧ EvtFits t := by
  obtain ⟨ad, cs, hA, hb, hr, hc⟩ := h.2 i t hi
  obtain ⟨C0, c0, rfl, hrest⟩ := rEvt_at hr
  exact ⟨ad, C0, c0, hA, hb, ⟨hc 0 _ rfl, by rw [← add_split]; exact hc 1 _ rfl, by rw [← add_split]; exact hc 2 _ rfl, by rw [← add_split]; exact hc 3 _ rfl, by rw [← add_split]; exact hc 4 _ rfl, by rw [← add_split]; exact hc 5 _ rfl, by rw [← add_split]; exact hc 6 _ rfl, by rw [← add_split]; exact hc 7 _ rfl, by rw [← add_split]; exact hc 8 _ rfl, by rw [← add_split]; exact hc 9 _ rfl, by rw [← add_split]; exact hc 10 _ rfl, by rw [← add_split]; exact hc 11 _ rfl, by rw [← add_split]; exact hc 12 _ rfl, by rw [← add_split]; exact hc 13 _ rfl, by rw [← add_split]; exact hc 14 _ rfl, by rw [← add_split]; exact hc 15 _ rfl, by rw [← add_split]; exact hc 16 _ rfl, by rw [← add_split]; exact hc 17 _ rfl, by rw [← add_split]; exact hc 18 _ rfl, by rw [← add_split]; exact hc 19 _ rfl, by rw [← add_split]; exact hc 20 _ rfl⟩, hrest⟩

end Go.Proofs.YtofabhenmplkoaaGreatDoor.typ

/- Shares of orders. -/
import Derived.Test.YtceceomaheobhaaBase
import Derived.Test.YtceceomaheobhaaOff
namespace Go.Proofs.Ytceceomaheobhaa.typ
open Go.RowKit
open Go.Proofs.Ytceceomaheobhaa.lib
open Go.Proofs.Ytceceomaheobhaa.rd
open Go.Proofs.Ytceceomaheobhaa.els Go.Proofs.Ytceceomaheobhaa.off
set_option linter.unusedVariables false

structure Sha where
  order : Int
  load : List Int
def rSha : Rd Sha := rMap (rPair rInt rInts) fun x => ⟨x.1, x.2⟩
def ShaCells (t : Sha) (C0 : Option Addr) (c0 : Nat) : List Value := [.int .i64 t.order, .slice C0 t.load.length c0]
def ShaFits (t : Sha) : Prop := (-9223372036854775808 ≤ t.order ∧ t.order ≤ 9223372036854775807)
theorem rSha_at {w : World} {B : Nat} {cs : List Value} {t : Sha} (h : rSha.at_ w B cs t) : ∃ C0 c0, cs = ShaCells t C0 c0 ∧ Ints w B C0 t.load ∧ ShaFits t := by
  obtain ⟨⟨f0, f1⟩, rfl, _, _, rfl, ⟨rfl, hf0⟩, ⟨A0, d0, rfl, hr0⟩⟩ := h
  exact ⟨A0, d0, rfl, hr0, hf0⟩
theorem rSha_mk {w : World} {B : Nat} {t : Sha} {C0 : Option Addr} {c0 : Nat} (hr0 : Ints w B C0 t.load) (hf : ShaFits t) : rSha.at_ w B (ShaCells t C0 c0) t := by
  exact ⟨(t.order, t.load), rfl, _, _, rfl, ⟨rfl, hf⟩, ⟨_, _, rfl, hr0⟩⟩
set_option maxRecDepth 20000 in
theorem opens_Sha : Opens 53 rSha := opens_map _ (opens_struct Try.underlying53 (by kernel_rfl) (fieldsOpen_cons rfl (by kernel_rfl) (opens_int Try.underlying3) (fieldsOpen_one rfl (by kernel_rfl) (opens_ints Try.underlying22 Try.underlying3 (by kernel_rfl) (by rw [show Try.prog.bytesOf 3 = 8 by kernel_rfl]; omega)))))
/-- What lies at an element's address. -/
def ShaAt (w : World) (ea : Addr) (t : Sha) (C0 : Option Addr) (c0 : Nat) : Prop := w.cell? ea = some (.int .i64 t.order) ∧ w.cell? ⟨ea.block, ea.off + 1, none⟩ = some (.slice C0 t.load.length c0)
theorem row_Sha {w : World} {B : Nat} {A : Option Addr} {l : List Sha} (h : RowAt rSha w B A l) {i : Nat} {t : Sha} (hi : l[i]? = some t) : ∃ (ad : Addr) (C0 : Option Addr) (c0 : Nat), A = some ad ∧ ad.block < B ∧ ShaAt w (ad.add (i * 2)) t C0 c0 ∧ Ints w B C0 t.load ∧ ShaFits t := by
  obtain ⟨ad, cs, hA, hb, hr, hc⟩ := h.2 i t hi
  obtain ⟨C0, c0, rfl, hrest⟩ := rSha_at hr
  exact ⟨ad, C0, c0, hA, hb, ⟨hc 0 _ rfl, by rw [← add_split]; exact hc 1 _ rfl⟩, hrest⟩
def oSha : Off Sha := oMap (oPair oInt oInts) fun x => ⟨x.1, x.2⟩
theorem oSha_at {w : World} {P : Nat → Prop} {cs : List Value} {t : Sha} (h : oSha.at_ w P cs t) : ∃ C0 c0, cs = ShaCells t C0 c0 ∧ IntsOff w P C0 t.load ∧ ShaFits t := by
  obtain ⟨⟨f0, f1⟩, rfl, _, _, rfl, ⟨rfl, hf0⟩, ⟨A0, d0, rfl, hr0⟩⟩ := h
  exact ⟨A0, d0, rfl, hr0, hf0⟩
theorem oSha_mk {w : World} {P : Nat → Prop} {t : Sha} {C0 : Option Addr} {c0 : Nat} (hr0 : IntsOff w P C0 t.load) (hf : ShaFits t) : oSha.at_ w P (ShaCells t C0 c0) t := by
  exact ⟨(t.order, t.load), rfl, _, _, rfl, ⟨rfl, hf⟩, ⟨_, _, rfl, hr0⟩⟩


end Go.Proofs.Ytceceomaheobhaa.typ

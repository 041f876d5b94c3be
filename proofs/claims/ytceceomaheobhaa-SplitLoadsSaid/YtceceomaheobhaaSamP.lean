/- The same instances: symmetry; an instance's block. -/
import Derived.Test.YtceceomaheobhaaInsH
import Derived.Test.YtceceomaheobhaaBase
import Derived.Test.YtceceomaheobhaaOnlA
namespace Go.Proofs.Ytceceomaheobhaa.ins
open Go.RowKit
open Go.Proofs.Ytceceomaheobhaa.lib Go.Proofs.Ytceceomaheobhaa.rd Go.Proofs.Ytceceomaheobhaa.typ Go.Proofs.Ytceceomaheobhaa.eqg Go.Proofs.Ytceceomaheobhaa.note Go.Proofs.Ytceceomaheobhaa.big Go.Proofs.Ytceceomaheobhaa.eqs
set_option linter.unusedVariables false
set_option linter.unusedSimpArgs false

theorem sameS_comm (a b : ByteArray) : sameS a b = sameS b a := by unfold sameS; rw [Bool.eq_iff_iff, beq_iff_eq, beq_iff_eq]; exact eq_comm
theorem sameS_self (a : ByteArray) : sameS a a = true := by simp [sameS]
theorem sameB_comm (a b : List Int) : sameB a b = sameB b a := by unfold sameB; rw [Bool.eq_iff_iff, decide_eq_true_eq, decide_eq_true_eq]; exact eq_comm
theorem stpEq_comm (a b : Stp) : ord.stpEq a b = ord.stpEq b a := by unfold ord.stpEq; rw [int_comm a.place, int_comm a.opn, int_comm a.close, int_comm a.service]
theorem sameO_comm (a b : Ord) : ord.sameO a b = ord.sameO b a := by
  unfold ord.sameO
  have h2 : ord.numsO a b = ord.numsO b a := by
    unfold ord.numsO
    rw [Bool.eq_iff_iff]
    simp only [decide_eq_true_eq]
    constructor <;> (rintro ⟨h1, h2, h3, h4, h5⟩; exact ⟨h1.symm, h2.symm, h3.symm, h4.symm, h5.symm⟩)
  have h3 : (a.off == b.off) = (b.off == a.off) := by cases a.off <;> cases b.off <;> rfl
  rw [sameS_comm a.name, sameB_comm a.load, stpEq_comm a.pick, stpEq_comm a.drop, h2, h3]
theorem sameO_self (a : Ord) : ord.sameO a a = true := by simp [ord.sameO, sameB, sameS, ord.numsO, ord.stpEq]
theorem sameT_comm (a b : Ty) : flt.sameT a b = flt.sameT b a := by
  unfold flt.sameT
  have h2 : flt.numsB a b = flt.numsB b a := by
    unfold flt.numsB
    rw [Bool.eq_iff_iff]
    simp only [decide_eq_true_eq]
    constructor <;> (rintro ⟨h1, h2, h3, h4, h5, h6, h7, h8, h9, h10, h11, h12⟩; exact ⟨h1.symm, h2.symm, h3.symm, h4.symm, h5.symm, h6.symm, h7.symm, h8.symm, h9.symm, h10.symm, h11.symm, h12.symm⟩)
  rw [show flt.sameB a.cap b.cap = flt.sameB b.cap a.cap from sameB_comm _ _, show flt.sameS a.name b.name = flt.sameS b.name a.name from sameS_comm _ _, h2]
theorem sameT_self (a : Ty) : flt.sameT a a = true := by simp [flt.sameT, flt.sameB, flt.sameS, flt.numsB]
theorem sameI_comm (a b : Ins) : sameI a b = sameI b a := by
  unfold sameI
  rw [eqL_comm sameS_comm a.net.places, eqL_comm sameA_comm a.net.arcs, eqL_comm sameT_comm a.types, eqL_comm sameO_comm a.orders, eqL_comm twoEq_comm a.apart, eqL_comm twoEq_comm a.before]
theorem sameI_self (a : Ins) : sameI a a = true := by
  unfold sameI
  rw [eqL_self sameS_self, eqL_self sameA_self, eqL_self sameT_self, eqL_self sameO_self, eqL_self twoEq_self, eqL_self twoEq_self]
  rfl
theorem stIns : StructOf 38 6 := ⟨⟨_, Try.underlying38⟩, by kernel_rfl⟩
theorem SixAt.cells {w : World} {k : Nat} {cs : List Value} (h : SixAt w k cs) : CellsAt w ⟨k, 0, none⟩ cs := fun j u hu => h.cell hu
end Go.Proofs.Ytceceomaheobhaa.ins

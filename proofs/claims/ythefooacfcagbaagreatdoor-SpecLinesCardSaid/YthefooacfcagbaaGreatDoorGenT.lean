/- Structs in rows of the call's own that lead to other rows. -/
import Derived.Test.YthefooacfcagbaaGreatDoorBase
import Derived.Test.YthefooacfcagbaaGreatDoorOff
namespace Go.Proofs.YthefooacfcagbaaGreatDoor.typ
open Go.RowKit
open Go.Proofs.YthefooacfcagbaaGreatDoor.lib
open Go.Proofs.YthefooacfcagbaaGreatDoor.rd
open Go.Proofs.YthefooacfcagbaaGreatDoor.els Go.Proofs.YthefooacfcagbaaGreatDoor.off
set_option linter.unusedVariables false

def oPt : Off Pt := oMap (oPair oInt oInt) fun x => ⟨x.1, x.2⟩
theorem oPt_at {w : World} {P : Nat → Prop} {cs : List Value} {t : Pt} (h : oPt.at_ w P cs t) : cs = PtCells t ∧ PtFits t := by
  obtain ⟨⟨f0, f1⟩, rfl, _, _, rfl, ⟨rfl, hf0⟩, ⟨rfl, hf1⟩⟩ := h
  exact ⟨rfl, hf0, hf1⟩
theorem oPt_mk {w : World} {P : Nat → Prop} {t : Pt} (hf : PtFits t) : oPt.at_ w P (PtCells t) t := by
  exact ⟨(t.t, t.a), rfl, _, _, rfl, ⟨rfl, hf.1⟩, ⟨rfl, hf.2⟩⟩

def oArc : Off Arc := oMap (oPair oInt (oPair oInt (oPair oInt (oPair oInt (oPair (oSlice oPt) (oSlice oPt)))))) fun x => ⟨x.1, x.2.1, x.2.2.1, x.2.2.2.1, x.2.2.2.2.1, x.2.2.2.2.2⟩
theorem oArc_at {w : World} {P : Nat → Prop} {cs : List Value} {t : Arc} (h : oArc.at_ w P cs t) : ∃ C0 c0 C1 c1, cs = ArcCells t C0 c0 C1 c1 ∧ RowOff oPt w P C0 t.travel ∧ RowOff oPt w P C1 t.slow ∧ ArcFits t := by
  obtain ⟨⟨f0, f1, f2, f3, f4, f5⟩, rfl, _, _, rfl, ⟨rfl, hf0⟩, _, _, rfl, ⟨rfl, hf1⟩, _, _, rfl, ⟨rfl, hf2⟩, _, _, rfl, ⟨rfl, hf3⟩, _, _, rfl, ⟨A0, d0, rfl, hr0⟩, ⟨A1, d1, rfl, hr1⟩⟩ := h
  exact ⟨A0, d0, A1, d1, rfl, hr0, hr1, hf0, hf1, hf2, hf3⟩
theorem oArc_mk {w : World} {P : Nat → Prop} {t : Arc} {C0 : Option Addr} {c0 : Nat} {C1 : Option Addr} {c1 : Nat} (hr0 : RowOff oPt w P C0 t.travel) (hr1 : RowOff oPt w P C1 t.slow) (hf : ArcFits t) : oArc.at_ w P (ArcCells t C0 c0 C1 c1) t := by
  exact ⟨(t.frm, (t.to, (t.profile, (t.miles, (t.travel, t.slow))))), rfl, _, _, rfl, ⟨rfl, hf.1⟩, _, _, rfl, ⟨rfl, hf.2.1⟩, _, _, rfl, ⟨rfl, hf.2.2.1⟩, _, _, rfl, ⟨rfl, hf.2.2.2⟩, _, _, rfl, ⟨_, _, rfl, hr0⟩, ⟨_, _, rfl, hr1⟩⟩

def oTy : Off Ty := oMap (oPair oStr (oPair oInt (oPair oInt (oPair oInt (oPair oInts (oPair oInt (oPair oInt (oPair oInt (oPair oInt (oPair oInt (oPair oInt (oPair oInt (oPair oInt oInt))))))))))))) fun x => ⟨x.1, x.2.1, x.2.2.1, x.2.2.2.1, x.2.2.2.2.1, x.2.2.2.2.2.1, x.2.2.2.2.2.2.1, x.2.2.2.2.2.2.2.1, x.2.2.2.2.2.2.2.2.1, x.2.2.2.2.2.2.2.2.2.1, x.2.2.2.2.2.2.2.2.2.2.1, x.2.2.2.2.2.2.2.2.2.2.2.1, x.2.2.2.2.2.2.2.2.2.2.2.2.1, x.2.2.2.2.2.2.2.2.2.2.2.2.2⟩
theorem oTy_at {w : World} {P : Nat → Prop} {cs : List Value} {t : Ty} (h : oTy.at_ w P cs t) : ∃ C0 c0, cs = TyCells t C0 c0 ∧ IntsOff w P C0 t.cap ∧ TyFits t := by
  obtain ⟨⟨f0, f1, f2, f3, f4, f5, f6, f7, f8, f9, f10, f11, f12, f13⟩, rfl, _, _, rfl, ⟨rfl, hf0⟩, _, _, rfl, ⟨rfl, hf1⟩, _, _, rfl, ⟨rfl, hf2⟩, _, _, rfl, ⟨rfl, hf3⟩, _, _, rfl, ⟨A0, d0, rfl, hr0⟩, _, _, rfl, ⟨rfl, hf5⟩, _, _, rfl, ⟨rfl, hf6⟩, _, _, rfl, ⟨rfl, hf7⟩, _, _, rfl, ⟨rfl, hf8⟩, _, _, rfl, ⟨rfl, hf9⟩, _, _, rfl, ⟨rfl, hf10⟩, _, _, rfl, ⟨rfl, hf11⟩, _, _, rfl, ⟨rfl, hf12⟩, ⟨rfl, hf13⟩⟩ := h
  exact ⟨A0, d0, rfl, hr0, hf0, hf1, hf2, hf3, hf5, hf6, hf7, hf8, hf9, hf10, hf11, hf12, hf13⟩
theorem oTy_mk {w : World} {P : Nat → Prop} {t : Ty} {C0 : Option Addr} {c0 : Nat} (hr0 : IntsOff w P C0 t.cap) (hf : TyFits t) : oTy.at_ w P (TyCells t C0 c0) t := by
  exact ⟨(t.name, (t.count, (t.frm, (t.to, (t.cap, (t.skills, (t.profile, (t.opn, (t.close, (t.drive, (t.rest, (t.fixed, (t.mile, t.tick))))))))))))), rfl, _, _, rfl, ⟨rfl, hf.1⟩, _, _, rfl, ⟨rfl, hf.2.1⟩, _, _, rfl, ⟨rfl, hf.2.2.1⟩, _, _, rfl, ⟨rfl, hf.2.2.2.1⟩, _, _, rfl, ⟨_, _, rfl, hr0⟩, _, _, rfl, ⟨rfl, hf.2.2.2.2.1⟩, _, _, rfl, ⟨rfl, hf.2.2.2.2.2.1⟩, _, _, rfl, ⟨rfl, hf.2.2.2.2.2.2.1⟩, _, _, rfl, ⟨rfl, hf.2.2.2.2.2.2.2.1⟩, _, _, rfl, ⟨rfl, hf.2.2.2.2.2.2.2.2.1⟩, _, _, rfl, ⟨rfl, hf.2.2.2.2.2.2.2.2.2.1⟩, _, _, rfl, ⟨rfl, hf.2.2.2.2.2.2.2.2.2.2.1⟩, _, _, rfl, ⟨rfl, hf.2.2.2.2.2.2.2.2.2.2.2.1⟩, ⟨rfl, hf.2.2.2.2.2.2.2.2.2.2.2.2⟩⟩

def oStp : Off Stp := oMap (oPair oInt (oPair oInt (oPair oInt oInt))) fun x => ⟨x.1, x.2.1, x.2.2.1, x.2.2.2⟩
theorem oStp_at {w : World} {P : Nat → Prop} {cs : List Value} {t : Stp} (h : oStp.at_ w P cs t) : cs = StpCells t ∧ StpFits t := by
  obtain ⟨⟨f0, f1, f2, f3⟩, rfl, _, _, rfl, ⟨rfl, hf0⟩, _, _, rfl, ⟨rfl, hf1⟩, _, _, rfl, ⟨rfl, hf2⟩, ⟨rfl, hf3⟩⟩ := h
  exact ⟨rfl, hf0, hf1, hf2, hf3⟩
theorem oStp_mk {w : World} {P : Nat → Prop} {t : Stp} (hf : StpFits t) : oStp.at_ w P (StpCells t) t := by
  exact ⟨(t.place, (t.opn, (t.close, t.service))), rfl, _, _, rfl, ⟨rfl, hf.1⟩, _, _, rfl, ⟨rfl, hf.2.1⟩, _, _, rfl, ⟨rfl, hf.2.2.1⟩, ⟨rfl, hf.2.2.2⟩⟩

def oOrd : Off Ord := oMap (oPair oStr (oPair oInts (oPair oStp (oPair oStp (oPair oInt (oPair oInt (oPair oInt (oPair oInt (oPair oInt oBool))))))))) fun x => ⟨x.1, x.2.1, x.2.2.1, x.2.2.2.1, x.2.2.2.2.1, x.2.2.2.2.2.1, x.2.2.2.2.2.2.1, x.2.2.2.2.2.2.2.1, x.2.2.2.2.2.2.2.2.1, x.2.2.2.2.2.2.2.2.2⟩
theorem oOrd_at {w : World} {P : Nat → Prop} {cs : List Value} {t : Ord} (h : oOrd.at_ w P cs t) : ∃ C0 c0, cs = OrdCells t C0 c0 ∧ IntsOff w P C0 t.load ∧ OrdFits t := by
  obtain ⟨⟨f0, f1, f2, f3, f4, f5, f6, f7, f8, f9⟩, rfl, _, _, rfl, ⟨rfl, hf0⟩, _, _, rfl, ⟨A0, d0, rfl, hr0⟩, _, _, rfl, hn2, _, _, rfl, hn3, _, _, rfl, ⟨rfl, hf4⟩, _, _, rfl, ⟨rfl, hf5⟩, _, _, rfl, ⟨rfl, hf6⟩, _, _, rfl, ⟨rfl, hf7⟩, _, _, rfl, ⟨rfl, hf8⟩, rfl⟩ := h
  obtain ⟨rfl, hf2⟩ := oStp_at hn2
  obtain ⟨rfl, hf3⟩ := oStp_at hn3
  exact ⟨A0, d0, rfl, hr0, hf0, hf2, hf3, hf4, hf5, hf6, hf7, hf8⟩
theorem oOrd_mk {w : World} {P : Nat → Prop} {t : Ord} {C0 : Option Addr} {c0 : Nat} (hr0 : IntsOff w P C0 t.load) (hf : OrdFits t) : oOrd.at_ w P (OrdCells t C0 c0) t := by
  exact ⟨(t.name, (t.load, (t.pick, (t.drop, (t.skills, (t.penalty, (t.split, (t.last, (t.now, t.off))))))))), rfl, _, _, rfl, ⟨rfl, hf.1⟩, _, _, rfl, ⟨_, _, rfl, hr0⟩, _, _, rfl, oStp_mk (hf.2.1), _, _, rfl, oStp_mk (hf.2.2.1), _, _, rfl, ⟨rfl, hf.2.2.2.1⟩, _, _, rfl, ⟨rfl, hf.2.2.2.2.1⟩, _, _, rfl, ⟨rfl, hf.2.2.2.2.2.1⟩, _, _, rfl, ⟨rfl, hf.2.2.2.2.2.2.1⟩, _, _, rfl, ⟨rfl, hf.2.2.2.2.2.2.2⟩, rfl⟩

end Go.Proofs.YthefooacfcagbaaGreatDoor.typ

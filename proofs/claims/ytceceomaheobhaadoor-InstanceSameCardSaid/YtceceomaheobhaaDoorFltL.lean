/- The same types. -/
import Derived.Test.YtceceomaheobhaaDoorFltK
import Derived.Test.YtceceomaheobhaaDoorArr
namespace Go.Proofs.YtceceomaheobhaaDoor.flt
open Go.RowKit
open Go.Proofs.YtceceomaheobhaaDoor.lib Go.Proofs.YtceceomaheobhaaDoor.rd Go.Proofs.YtceceomaheobhaaDoor.typ
set_option linter.unusedVariables false

/-- The numbers of two types are the same. -/
def numsB (a b : Ty) : Bool := decide (a.count = b.count ∧ a.frm = b.frm ∧ a.to = b.to ∧ a.skills = b.skills ∧ a.profile = b.profile ∧ a.opn = b.opn ∧ a.close = b.close ∧ a.drive = b.drive ∧ a.rest = b.rest ∧ a.fixed = b.fixed ∧ a.mile = b.mile ∧ a.tick = b.tick)
def sameT (a b : Ty) : Bool := sameB a.cap b.cap && (sameS a.name b.name && numsB a b)

theorem nums_eq (a b : Ty) (w : World) : (Op.equalIn 10000 79 (.agg #[.int .i64 a.count, .int .i64 a.frm, .int .i64 a.to, .int .i64 a.skills, .int .i64 a.profile, .int .i64 a.opn, .int .i64 a.close, .int .i64 a.drive, .int .i64 a.rest, .int .i64 a.fixed, .int .i64 a.mile, .int .i64 a.tick, .int .i64 0]) (.agg #[.int .i64 b.count, .int .i64 b.frm, .int .i64 b.to, .int .i64 b.skills, .int .i64 b.profile, .int .i64 b.opn, .int .i64 b.close, .int .i64 b.drive, .int .i64 b.rest, .int .i64 b.fixed, .int .i64 b.mile, .int .i64 b.tick, .int .i64 0])).run Tryd.prog w = .ok (numsB a b) w := by
  obtain ⟨i0, hi, _⟩ := info_parts int_info
  have h := arr.run_eq_ints (t := 79) w 9998 Tryd.underlying79 hi [a.count, a.frm, a.to, a.skills, a.profile, a.opn, a.close, a.drive, a.rest, a.fixed, a.mile, a.tick, 0] [b.count, b.frm, b.to, b.skills, b.profile, b.opn, b.close, b.drive, b.rest, b.fixed, b.mile, b.tick, 0] rfl rfl
  have e : decide ([a.count, a.frm, a.to, a.skills, a.profile, a.opn, a.close, a.drive, a.rest, a.fixed, a.mile, a.tick, 0] = [b.count, b.frm, b.to, b.skills, b.profile, b.opn, b.close, b.drive, b.rest, b.fixed, b.mile, b.tick, 0]) = numsB a b := by
    unfold numsB
    rw [Bool.eq_iff_iff]
    simp
  rw [e] at h
  exact h
set_option maxRecDepth 100000 in
set_option maxHeartbeats 4000000 in
theorem same_any (a b : Ty) (C : Option Addr) (c : Nat) (C' : Option Addr) (c' : Nat) (w : World) (hC : Ints w w.heap.size C a.cap) (hC' : Ints w w.heap.size C' b.cap) :
    Calls Tryd.prog 24 #[.agg #[.string a.name, .int .i64 a.count, .int .i64 a.frm, .int .i64 a.to, .slice C a.cap.length c, .int .i64 a.skills, .int .i64 a.profile, .int .i64 a.opn, .int .i64 a.close, .int .i64 a.drive, .int .i64 a.rest, .int .i64 a.fixed, .int .i64 a.mile, .int .i64 a.tick], .agg #[.string b.name, .int .i64 b.count, .int .i64 b.frm, .int .i64 b.to, .slice C' b.cap.length c', .int .i64 b.skills, .int .i64 b.profile, .int .i64 b.opn, .int .i64 b.close, .int .i64 b.drive, .int .i64 b.rest, .int .i64 b.fixed, .int .i64 b.mile, .int .i64 b.tick]] w fun e w' => e = .returned (.bool (sameT a b)) ∧ Below w.heap.size w w' := by
  obtain ⟨q, hq⟩ : ∃ q, numsB a b = q := ⟨_, rfl⟩
  have heq := nums_eq a b
  rw [hq] at heq
  obtain ⟨R, hR⟩ : ∃ R, sameT a b = R := ⟨_, rfl⟩
  have HR : Hid (R = (sameB a.cap b.cap && ((a.name.toList == b.name.toList) && q))) := Lib.hid (by rw [← hR, ← hq]; rfl)
  rw [hR]
  clear hR hq
  go_enter Tryd.func24, Tryd.ntmps24
  go_wp2_with fail
  refine (equal_any C c a.cap _ rfl C' c' b.cap _ rfl _ w.heap.size w.heap.size (by simp; omega) (by simp; omega) ((hC.alloc (Nat.le_refl _) _).alloc (by simp) _) ((hC'.alloc (Nat.le_refl _) _).alloc (by simp) _)).mono ?_
  rintro e w1 ⟨rfl, hb1⟩
  have hz := hb1.size
  simp at hz
  have hc := fun b o h => hb1.cell (p := ⟨b, o, none⟩) h
  have hf := fun b o h => hb1.frozen (p := ⟨b, o, none⟩) h
  have l1 : w.heap.size < w1.heap.size := by omega
  have l2 : w.heap.size + 1 < w1.heap.size := by omega
  have hB : Below w.heap.size w w1 := (((Below.refl _ _).alloc (Nat.le_refl _) _).alloc (by simp) _).trans (hb1.mono (by simp; omega))
  have hB2 : ∀ o o', Below w.heap.size w ((w1.alloc o).alloc o') := fun o o' => (hB.alloc (by omega) _).alloc (by simp; omega) _
  cases hq : sameB a.cap b.cap
  · have HT : Hid (R = false) := Lib.hid (by rw [HR.out, hq]; rfl)
    clear hb1
    go_wp2
    go_ret
    exact ⟨ret_bool HT.out.symm, hB2 _ _⟩
  · cases hs : a.name.toList == b.name.toList
    · have HT : Hid (R = false) := Lib.hid (by rw [HR.out, hq, hs]; rfl)
      clear hb1
      go_wp2
      go_ret
      exact ⟨ret_bool HT.out.symm, hB2 _ _⟩
    · have HT : Hid (R = q) := Lib.hid (by rw [HR.out, hq, hs]; rfl)
      clear hb1
      go_wp2
      go_ret
      exact ⟨ret_bool HT.out.symm, hB2 _ _⟩
end Go.Proofs.YtceceomaheobhaaDoor.flt

/- The examples of layer 13: awake. -/
import Derived.Test.YtceceomaheobhaaInsG
import Derived.Test.YtceceomaheobhaaInsJ
import Derived.Test.YtceceomaheobhaaInsH
import Derived.Test.YtceceomaheobhaaOnlB
import Derived.BigRegion
namespace Go.Proofs.Ytceceomaheobhaa.ins
open Go.RowKit
open Go.Proofs.Ytceceomaheobhaa.lib Go.Proofs.Ytceceomaheobhaa.rd Go.Proofs.Ytceceomaheobhaa.typ Go.Proofs.Ytceceomaheobhaa.big Go.Proofs.Ytceceomaheobhaa.app Go.Proofs.Ytceceomaheobhaa.flts
set_option linter.unusedVariables false
set_option linter.unusedSimpArgs false

def netI : Ins := ⟨littleI.net, [], [], [], []⟩
def onlyY : Ins := ⟨littleI.net, littleI.types, [obO], [], []⟩
theorem little_only : onlyI littleI 2 = onlyY := by rfl
theorem little_mem : sets.memTo 2 littleI.orders.length = [1] := by rfl
theorem little_check : insF littleI = [] := by kernel_rfl
theorem net_check : insF netI = [⟨4, ⟨#[116, 121, 112, 101, 115]⟩⟩] := by kernel_rfl
theorem little_all : sch.suchN allP littleI.orders littleI.orders.length = 3 := by kernel_rfl
theorem little_must : sch.suchN mustP littleI.orders littleI.orders.length = 1 := by kernel_rfl
theorem little_same : sameI littleI littleI = true := by kernel_rfl
theorem little_lim : Lim littleI := ⟨by decide, by decide, fun a h => (by cases h), fun j a h => (by simp [littleI] at h), by rw [show insN littleI = [] by kernel_rfl]; decide, by decide, by decide, by decide, by decide⟩
theorem net_lim : Lim netI := ⟨by decide, by decide, fun a h => (by cases h), fun j a h => (by simp [netI, littleI] at h), by rw [show insN netI = [] by kernel_rfl]; decide, by decide, by decide, by decide, by decide⟩
theorem awk_all (P : InP) (w : World) (h : InAt w w.heap.size littleI P) : Calls Try.prog 40 #[InV littleI P] w fun e w' => e = .returned (.int .i64 3) ∧ Below w.heap.size w w' := by
  have h := all_any littleI P w h (by decide)
  rw [little_all] at h
  exact h
theorem insCs_one (x : Ins) (P : InP) : ∀ u ∈ insCs x P, u.oneCell' = true := fun u hu => by
  simp only [insCs, List.mem_cons, List.not_mem_nil, or_false] at hu
  rcases hu with rfl | rfl | rfl | rfl | rfl | rfl <;> rfl
end Go.Proofs.Ytceceomaheobhaa.ins

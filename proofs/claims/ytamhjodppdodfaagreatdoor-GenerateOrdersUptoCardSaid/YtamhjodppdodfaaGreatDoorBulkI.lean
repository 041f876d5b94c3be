/- Bulk: an instance whose reading is small. -/
import Derived.Test.YtamhjodppdodfaaGreatDoorBulkR
import Derived.Test.YtamhjodppdodfaaGreatDoorR13C
namespace Go.Proofs.YtamhjodppdodfaaGreatDoor.typ
open Go.RowKit
open Go.Proofs.YtamhjodppdodfaaGreatDoor.lib Go.Proofs.YtamhjodppdodfaaGreatDoor.rd
set_option linter.unusedVariables false

def muPts (a : Arc) : Nat := a.travel.length + a.slow.length
def muNet (n : Net) : Nat := n.places.length + max n.arcs.length ((n.arcs.map muPts).sum)
def muIns (x : Ins) : Nat := muNet x.net + (x.types.length + (x.orders.length + (x.apart.length + x.before.length)))
theorem opensB_len {X : Type} {t e : TypeId} {r : Rd X} (ht : Tryz.prog.underlying t = some (.slice e)) (hC : Tryz.prog.cellsOf e = r.size) (hz : 0 < r.size) (h8 : 8 ≤ Tryz.prog.bytesOf e) (hr : Opens e r) : OpensB t (rSlice r) (fun l => l.length) := opensB_weak (fun l => Nat.le_max_left _ _) (opensB_slice ht hC hz h8 (opensB_of hr))
theorem opensB_lenC {X : Type} {t e : TypeId} {r : Rd X} (ht : Tryz.prog.underlying t = some (.slice e)) (hC : Tryz.prog.cellsOf e = r.size) (hz : 0 < r.size) (h8 : 8 ≤ Tryz.prog.bytesOf e) (hr : Opens e r) : OpensB t (rSliceC r) (fun l => l.length) := opensB_weak (fun l => Nat.le_max_left _ _) (opensB_sliceC ht hC hz h8 (opensB_of hr))
set_option maxRecDepth 20000 in
theorem opensB_Arc : OpensB 64 rArc muPts := opensB_map (μ := fun x => 0 + (0 + (0 + (0 + (x.2.2.2.2.1.length + x.2.2.2.2.2.length))))) _ (fun x => by show muPts _ ≤ _; unfold muPts; simp) (opensB_struct Tryz.underlying64 (by kernel_rfl) (fieldsOpenB_cons rfl (by kernel_rfl) (opensB_of (opens_int Tryz.underlying3)) (fieldsOpenB_cons rfl (by kernel_rfl) (opensB_of (opens_int Tryz.underlying3)) (fieldsOpenB_cons rfl (by kernel_rfl) (opensB_of (opens_int Tryz.underlying3)) (fieldsOpenB_cons rfl (by kernel_rfl) (opensB_of (opens_int Tryz.underlying3)) (fieldsOpenB_cons rfl (by kernel_rfl) (opensB_len Tryz.underlying62 (by kernel_rfl) (by decide) (of_decide_eq_true (by kernel_rfl)) opens_Pt) (fieldsOpenB_one rfl (by kernel_rfl) (opensB_len Tryz.underlying62 (by kernel_rfl) (by decide) (of_decide_eq_true (by kernel_rfl)) opens_Pt))))))))
set_option maxRecDepth 20000 in
theorem opensB_Net : OpensB 25 rNet muNet := opensB_map (μ := fun x => x.1.length + max x.2.length ((x.2.map muPts).sum)) _ (fun x => Nat.le_refl _) (opensB_struct Tryz.underlying25 (by kernel_rfl) (fieldsOpenB_cons rfl (by kernel_rfl) (opensB_len Tryz.underlying22 (by kernel_rfl) (by decide) (of_decide_eq_true (by kernel_rfl)) (opens_str Tryz.underlying9)) (fieldsOpenB_one rfl (by kernel_rfl) (opensB_slice Tryz.underlying23 (by kernel_rfl) (by decide) (of_decide_eq_true (by kernel_rfl)) opensB_Arc))))
set_option maxRecDepth 20000 in
theorem opensB_Ins : OpensB 30 rIns muIns := opensB_map (μ := fun x => muNet x.1 + (x.2.1.length + (x.2.2.1.length + (x.2.2.2.1.length + x.2.2.2.2.length)))) _ (fun x => Nat.le_refl _) (opensB_struct Tryz.underlying30 (by kernel_rfl) (fieldsOpenB_cons rfl (by kernel_rfl) opensB_Net (fieldsOpenB_cons rfl (by kernel_rfl) (opensB_lenC Tryz.underlying26 (by kernel_rfl) (by decide) (of_decide_eq_true (by kernel_rfl)) opens_Ty) (fieldsOpenB_cons rfl (by kernel_rfl) (opensB_lenC Tryz.underlying27 (by kernel_rfl) (by decide) (of_decide_eq_true (by kernel_rfl)) opens_Ord) (fieldsOpenB_cons rfl (by kernel_rfl) (opensB_lenC Tryz.underlying28 (by kernel_rfl) (by decide) (of_decide_eq_true (by kernel_rfl)) (opens_two Tryz.underlying89 (by kernel_rfl) (by kernel_rfl) (opens_int Tryz.underlying3))) (fieldsOpenB_one rfl (by kernel_rfl) (opensB_lenC Tryz.underlying28 (by kernel_rfl) (by decide) (of_decide_eq_true (by kernel_rfl)) (opens_two Tryz.underlying89 (by kernel_rfl) (by kernel_rfl) (opens_int Tryz.underlying3)))))))))
end Go.Proofs.YtamhjodppdodfaaGreatDoor.typ
namespace Go.Proofs.YtamhjodppdodfaaGreatDoor.ins
open Go.RowKit
open Go.Proofs.YtamhjodppdodfaaGreatDoor.lib Go.Proofs.YtamhjodppdodfaaGreatDoor.rd Go.Proofs.YtamhjodppdodfaaGreatDoor.typ
theorem arcE_le (P : Int) (ks : List (Int × Int × Int)) (x : Arc) : (net.arcE P ks x).length ≤ 5 + 2 * muPts x := by
  unfold net.arcE muPts
  rw [List.length_append, List.length_append, List.length_map]
  have h1 := net.pushIf_le _ (!mrk.hasB ks (net.wayK x)) 6 2 (net.pushIf_le _ (!net.arcBad x) 2 1 (net.pushIf_le [] (net.arcOk P x) 11 0 (Nat.le_refl _)))
  have h2 := trv.tvTo_len x.travel x.travel.length
  have h3 := net.slTo_len x.slow x.slow.length
  omega
theorem netTo_le (n : Net) : ∀ j, (net.netTo n j).length ≤ 2 + n.places.length + 5 * j + 2 * ((n.arcs.take j).map muPts).sum
  | 0 => by
    have := net.plTo_len n.places n.places.length
    unfold net.netTo
    rw [List.length_append]
    split <;> simp <;> omega
  | j + 1 => by
    have ih := netTo_le n j
    rw [net.netTo, List.length_append]
    unfold net.arAt
    split
    · rename_i a ha
      have h1 := arcE_le n.places.length ((n.arcs.take j).map net.wayK) a
      unfold net.arFs
      rw [List.length_map, net.take_snoc' ha, List.map_append, List.sum_append, List.map_cons, List.map_nil, List.sum_cons, List.sum_nil]
      omega
    · rename_i hn
      have hlen : n.arcs.length ≤ j := by
        rcases Nat.lt_or_ge j n.arcs.length with h | h
        · rw [List.getElem?_eq_getElem h] at hn; cases hn
        · exact h
      rw [List.take_of_length_le (by omega)]
      rw [List.take_of_length_le hlen] at ih
      simp only [List.length_nil]
      omega
theorem rlim_bulk {x : Ins} (h : muIns x ≤ 1048576) : RLim x := by
  unfold muIns muNet at h
  refine ⟨by omega, fun a ha => ?_, ?_, by omega, by omega, by omega, by omega⟩
  · have h1 := bulk_sum_mem (μ := muPts) ha
    unfold muPts at h1
    unfold muPts at h
    omega
  · have h1 := netTo_le x.net x.net.arcs.length
    rw [List.take_of_length_le (Nat.le_refl _)] at h1
    unfold insN
    omega
end Go.Proofs.YtamhjodppdodfaaGreatDoor.ins

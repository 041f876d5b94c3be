/- rules.Check: the violations of the pairs of an instance. -/
import Derived.Test.YtceceomaheobhaaGreatDoorRulB
import Derived.Test.YtceceomaheobhaaGreatDoorBase
namespace Go.Proofs.YtceceomaheobhaaGreatDoor.rul
open Go.RowKit
open Go.Proofs.YtceceomaheobhaaGreatDoor.lib Go.Proofs.YtceceomaheobhaaGreatDoor.rd Go.Proofs.YtceceomaheobhaaGreatDoor.typ Go.Proofs.YtceceomaheobhaaGreatDoor.app Go.Proofs.YtceceomaheobhaaGreatDoor.flts Go.Proofs.YtceceomaheobhaaGreatDoor.eqg Go.Proofs.YtceceomaheobhaaGreatDoor.txt Go.Proofs.YtceceomaheobhaaGreatDoor.note
set_option linter.unusedVariables false
set_option linter.unusedSimpArgs false

def apartS : ByteArray := ⟨#[97, 112, 97, 114, 116]⟩
def beforeS : ByteArray := ⟨#[98, 101, 102, 111, 114, 101]⟩
def rulesF (orders : Int) (a b : List (Int × Int)) : List Flt := pairsTo orders apartS looseB a a.length ++ pairsTo orders beforeS twoEq b b.length
theorem fcs_one (fs : List Flt) : ∀ u ∈ fcs fs, u.oneCell' = true := fun u hu => by
  unfold fcs at hu
  rw [List.mem_flatMap] at hu
  obtain ⟨f, _, hf⟩ := hu
  simp at hf
  rcases hf with rfl | rfl <;> rfl
theorem fcs_append (a b : List Flt) : fcs (a ++ b) = fcs a ++ fcs b := by simp [fcs]
set_option maxHeartbeats 1000000 in
theorem rcheck_any (orders : Int) (A : Option Addr) (c : Nat) (a : List (Int × Int)) (A' : Option Addr) (c' : Nat) (b : List (Int × Int)) (w : World) (hA : RowAt (rPair rInt rInt) w w.heap.size A a) (hB : RowAt (rPair rInt rInt) w w.heap.size A' b) (ha : a.length ≤ 24) (hb : b.length ≤ 24) (hca : a.length ≤ c) (hcb : b.length ≤ c') :
    Calls Tryz.prog 28 #[.int .i64 orders, .slice A a.length c, .slice A' b.length c'] w (FltsOut w (rulesF orders a b)) := by
  obtain ⟨E, hE⟩ : ∃ E, rulesF orders a b = E := ⟨_, rfl⟩
  obtain ⟨E1, hE1⟩ : ∃ E, pairsTo orders apartS looseB a a.length = E := ⟨_, rfl⟩
  obtain ⟨E2, hE2⟩ : ∃ E, pairsTo orders beforeS twoEq b b.length = E := ⟨_, rfl⟩
  have l1 : E1.length ≤ 25 := by rw [← hE1]; have := pairsTo_len orders apartS looseB a a.length; omega
  have l2 : E2.length ≤ 25 := by rw [← hE2]; have := pairsTo_len orders beforeS twoEq b b.length; omega
  have HE : Hid (E = E1 ++ E2) := Lib.hid (by rw [← hE, ← hE1, ← hE2]; rfl)
  have H1 : Hid (Calls Tryz.prog 68 #[.int .i64 orders, .string ⟨#[97, 112, 97, 114, 116]⟩, .slice A a.length c, .func (.func 69) #[] #[]] w (FltsOut w E1)) := Lib.hid (by rw [← hE1]; exact looseP_any orders apartS (by decide) A c a w hA ha hca)
  have H2 : Hid (∀ w', Below w.heap.size w w' → Calls Tryz.prog 68 #[.int .i64 orders, .string ⟨#[98, 101, 102, 111, 114, 101]⟩, .slice A' b.length c', .func (.func 70) #[] #[]] w' (FltsOut w' E2)) := Lib.hid (fun w' h => by rw [← hE2]; exact exactP_any orders beforeS (by decide) A' c' b w' ((hB.below h).more h.size) hb hcb)
  rw [hE]
  clear hE hE1 hE2 hA hB ha hb hca hcb
  go_enter Tryz.func28, Tryz.ntmps28
  go_wp2_with fail
  refine H1.out.mono ?_
  rintro e w1 ⟨A1, c1, rfl, hown1, hb1⟩
  have HO := Lib.hid hown1
  have z1 := hb1.size
  clear hown1
  go_wp2_with (first
    | (go_at_call 68; refine (H2.out _ hb1).mono ?_; rintro e w2 ⟨A2, c2, rfl, hown2, hb2⟩)
    | (at_builtin; refine wpList_appN fault_elem _ _ rfl w.heap.size (.slice A1 E1.length c1) E1.length (fcs E1) rfl (own_below HO.out hb2) w2.heap.size A2 E2.length c2 (fcs E2) rfl (Reads.of_own hown2) (fcs_one _) (by omega) (by have := hb2.size; omega) rfl ?_; intro A5 c5 w5 hown5 hg5))
  go_ret
  have hEl : E.length = E1.length + E2.length := by rw [HE.out]; simp
  refine ⟨A5, c5, by rw [hEl]; rfl, ?_, ?_⟩
  · unfold Fown
    rw [hEl, HE.out, fcs_append]
    exact hown5
  · have B2 : Below w.heap.size w w2 := hb1.trans (hb2.mono z1)
    exact B2.grown hg5 B2.size (fun q' e => (World.ownsRow.lt (own_below HO.out hb2) _ e).1)
end Go.Proofs.YtceceomaheobhaaGreatDoor.rul

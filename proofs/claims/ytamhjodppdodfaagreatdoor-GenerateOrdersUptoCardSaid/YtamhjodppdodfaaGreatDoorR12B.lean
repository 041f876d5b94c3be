/- The reference's check of the rules. -/
import Derived.Test.YtamhjodppdodfaaGreatDoorR12A
import Derived.Test.YtamhjodppdodfaaGreatDoorAppF
namespace Go.Proofs.YtamhjodppdodfaaGreatDoor.rrul
open Go.RowKit
open Go.Proofs.YtamhjodppdodfaaGreatDoor.lib Go.Proofs.YtamhjodppdodfaaGreatDoor.rd Go.Proofs.YtamhjodppdodfaaGreatDoor.typ Go.Proofs.YtamhjodppdodfaaGreatDoor.app Go.Proofs.YtamhjodppdodfaaGreatDoor.flts Go.Proofs.YtamhjodppdodfaaGreatDoor.eqg Go.Proofs.YtamhjodppdodfaaGreatDoor.txt Go.Proofs.YtamhjodppdodfaaGreatDoor.note Go.Proofs.YtamhjodppdodfaaGreatDoor.rul
set_option linter.unusedVariables false
set_option linter.unusedSimpArgs false

set_option maxHeartbeats 1000000 in
theorem rrcheck_any (orders : Int) (A : Option Addr) (c : Nat) (a : List (Int × Int)) (A' : Option Addr) (c' : Nat) (b : List (Int × Int)) (w : World) (hA : RowAt (rPair rInt rInt) w w.heap.size A a) (hB : RowAt (rPair rInt rInt) w w.heap.size A' b) (ha : a.length ≤ 10000000) (hb : b.length ≤ 10000000) :
    Calls Tryz.prog 32 #[.int .i64 orders, .slice A a.length c, .slice A' b.length c'] w (FltsOut w (rulesF orders a b)) := by
  obtain ⟨E, hE⟩ : ∃ E, rulesF orders a b = E := ⟨_, rfl⟩
  obtain ⟨E1, hE1⟩ : ∃ E, pairsTo orders apartS looseB a a.length = E := ⟨_, rfl⟩
  obtain ⟨E2, hE2⟩ : ∃ E, pairsTo orders beforeS twoEq b b.length = E := ⟨_, rfl⟩
  have l1 : E1.length ≤ 10000001 := by rw [← hE1]; have := pairsTo_len orders apartS looseB a a.length; omega
  have l2 : E2.length ≤ 10000001 := by rw [← hE2]; have := pairsTo_len orders beforeS twoEq b b.length; omega
  have HE : Hid (E = E1 ++ E2) := Lib.hid (by rw [← hE, ← hE1, ← hE2]; rfl)
  have lE : E.length ≤ 1000000000 := by rw [HE.out, List.length_append]; omega
  have H1 : Hid (Calls Tryz.prog 56 #[.int .i64 orders, .slice A a.length c, .string ⟨#[97, 112, 97, 114, 116]⟩, .bool true] w (FltsOut w E1)) := Lib.hid (by rw [← hE1, ← either_loose]; exact rfaults_any orders apartS true A c a w hA ha (by decide))
  have H2 : Hid (∀ w', Below w.heap.size w w' → Calls Tryz.prog 56 #[.int .i64 orders, .slice A' b.length c', .string ⟨#[98, 101, 102, 111, 114, 101]⟩, .bool false] w' (FltsOut w' E2)) := Lib.hid (fun w' h => by rw [← hE2, ← either_exact]; exact rfaults_any orders beforeS false A' c' b w' ((hB.below h).more h.size) hb (by decide))
  rw [hE]
  clear hE hE1 hE2 hA hB ha hb
  go_enter Tryz.func32, Tryz.ntmps32
  go_wp2_with fail
  refine H1.out.mono ?_
  rintro e w1 ⟨A1, c1, rfl, hown1, hb1⟩
  have HO := Lib.hid hown1
  have z1 := hb1.size
  clear hown1
  go_wp2_with (first
    | (go_at_call 56; refine (H2.out _ hb1).mono ?_; rintro e w2 ⟨A2, c2, rfl, hown2, hb2⟩; have z2 := hb2.size; have HO2 := Lib.hid (And.intro (HO.out.below hb2) (Reads.of_own hown2)); clear hown2)
    | (at_builtin; refine wpList_appF rfl _ _ rfl w.heap.size A1 E1 c1 rfl HO2.out.1 A2 E2 c2 rfl HO2.out.2 E HE.out lE (by omega) ?_; intro A5 c5 w5 hown5 hb5))
  go_ret
  exact ⟨A5, c5, rfl, hown5, (hb1.trans (hb2.mono z1)).trans hb5⟩
end Go.Proofs.YtamhjodppdodfaaGreatDoor.rrul

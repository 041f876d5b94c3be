/- The reference's under. -/
import Derived.Test.YtamhjodppdodfaaGreatDoorZ1
import Derived.Test.YtamhjodppdodfaaGreatDoorPshF
import Derived.Deep.DeepCutAuto
namespace Go.Proofs.YtamhjodppdodfaaGreatDoor.und
open Go.RowKit
open Go.Proofs.YtamhjodppdodfaaGreatDoor.lib Go.Proofs.YtamhjodppdodfaaGreatDoor.rd Go.Proofs.YtamhjodppdodfaaGreatDoor.typ Go.Proofs.YtamhjodppdodfaaGreatDoor.app Go.Proofs.YtamhjodppdodfaaGreatDoor.flts Go.Proofs.YtamhjodppdodfaaGreatDoor.note
set_option linter.unusedVariables false
set_option linter.unusedSimpArgs false

set_option maxRecDepth 20000 in
set_option maxHeartbeats 4000000 in
theorem runder_any (word : ByteArray) (A0 : Option Addr) (d0 : Nat) (fs : List Flt) (w : World) (hL : RowAt rFlt w w.heap.size A0 fs) (hl : fs.length ≤ 500000000) (hws : word.size ≤ 1000000) (hfs : ∀ f ∈ fs, f.at_.size ≤ 1000000) :
    Calls Tryz.prog 27 #[.string word, .slice A0 fs.length d0] w (FltsOut w (undL word fs)) := by
  obtain ⟨n, hn⟩ : ∃ n, fs.length = n := ⟨_, rfl⟩
  have HN := Lib.hid hn
  obtain ⟨U, hU⟩ : ∃ U : Nat → List Flt, (fun k => undL word (fs.take k)) = U := ⟨_, rfl⟩
  have hUl : ∀ k, k ≤ n → (U k).length ≤ k := fun k hk => by
    rw [← hU]
    show (undL word (fs.take k)).length ≤ k
    unfold undL
    rw [List.length_map, List.length_take]
    omega
  have HU0 : Hid (U 0 = []) := Lib.hid (by rw [← hU]; rfl)
  have HUS : Hid (∀ (k : Nat) f, fs[k]? = some f → U (k + 1) = U k ++ [undP word f]) := Lib.hid fun k f hf => by rw [← hU]; exact undL_take hf
  have HUT : Hid (undL word fs = U n) := Lib.hid (by rw [← hU, ← hn]; show _ = undL word (fs.take fs.length); rw [List.take_length])
  have HFS := Lib.hid hfs
  rw [hn] at hl ⊢
  clear hn hU hfs
  have B0 : Below w.heap.size w w := Below.refl _ _
  go_enter Tryz.func27, Tryz.ntmps27
  go_upto_region 3 with fail
  go_loopw [5, 6, 7] (fun v i _ wr => ∃ (j : Nat) (A : Option Addr) (c : Nat), j ≤ n ∧ i = .int .i64 j ∧ v = .slice A (U j).length c ∧ Fown wr w.heap.size A c (U j) ∧ Below w.heap.size w wr) (fun _ i _ _ => n - (intOf i).toNat)
  case atStart => exact ⟨0, none, 0, by omega, rfl, by rw [HU0.out]; rfl, by rw [HU0.out]; exact Fown.nil _ _, B0⟩
  case round =>
    obtain ⟨j, A, c, hj, rfl, rfl, hown, hB⟩ := hrel
    have hz := hB.size
    by_cases hlt : j < n
    · obtain ⟨f, hf⟩ : ∃ f, fs[j]? = some f := ⟨_, List.getElem?_eq_getElem (by rw [HN.out]; exact hlt)⟩
      obtain ⟨ad, rfl, hadb, ⟨m0, m1⟩, hff⟩ := row_Flt (hL.below hB) hf
      have hj0 : (0 : Int) ≤ (j : Int) := by omega
      have hjn : (j : Int) < (n : Int) := by omega
      have hUj := hUl j hj
      have hfsz := HFS.out f (List.mem_of_getElem? hf)
      have hwsz : (word ++ ⟨#[32]⟩ : ByteArray).size ≤ 1000001 := by rw [ByteArray.size_append]; exact Nat.add_le_add_right hws 1
      have HS := Lib.hid (HUS.out j f hf)
      have HO := Lib.hid hown
      clear hf hown
      obtain ⟨q, hq⟩ : ∃ q, f.at_.toList.isEmpty = q := ⟨_, rfl⟩
      have HQ := Lib.hid hq
      clear hq
      cases q
      · have hE : Hid (U (j + 1) = U j ++ [⟨f.err, word ++ ⟨#[32]⟩ ++ f.at_⟩]) := Lib.hid (by rw [HS.out]; unfold undP; rw [HQ.out, if_neg (by decide), ByteArray.append_assoc])
        have hq := HQ.out
        go_wp2_with (at_builtin; refine wpList_pushF rfl _ _ rfl w.heap.size A (U j) c rfl HO.out (⟨f.err, word ++ ⟨#[32]⟩ ++ f.at_⟩) (U (j + 1)) hE.out rfl (by first | omega | decide) (by omega) ?_; intro g3 c3 w3 hown3 hb3 hs3 hk3 hd3)
        go_roundw
        case rel => exact ⟨j + 1, _, _, by omega, by go_num, rfl, hown3, hB.trans (hb3.mono (Nat.le_refl _))⟩
        case measure => simp [intOf]; omega
      · have hE : Hid (U (j + 1) = U j ++ [⟨f.err, word⟩]) := Lib.hid (by rw [HS.out]; unfold undP; rw [HQ.out, if_pos rfl])
        have hq := HQ.out
        go_wp2_with (at_builtin; refine wpList_pushF rfl _ _ rfl w.heap.size A (U j) c rfl HO.out (⟨f.err, word⟩) (U (j + 1)) hE.out rfl (by first | omega | decide) (by omega) ?_; intro g3 c3 w3 hown3 hb3 hs3 hk3 hd3)
        go_roundw
        case rel => exact ⟨j + 1, _, _, by omega, by go_num, rfl, hown3, hB.trans (hb3.mono (Nat.le_refl _))⟩
        case measure => simp [intOf]; omega
    · have hjn : j = n := by omega
      subst hjn
      clear hlt
      go_wp2
      go_ret
      rw [HUT.out]
      exact ⟨A, c, rfl, hown, hB⟩
end Go.Proofs.YtamhjodppdodfaaGreatDoor.und

/- Violations with a word ahead of their places: under. -/
import Derived.Test.YtceceomaheobhaaGreatDoorBase
import Derived.OwnWalk
import Derived.Deep.QuietTactic
namespace Go.Proofs.YtceceomaheobhaaGreatDoor.und
open Go.RowKit
open Go.Proofs.YtceceomaheobhaaGreatDoor.lib Go.Proofs.YtceceomaheobhaaGreatDoor.rd Go.Proofs.YtceceomaheobhaaGreatDoor.typ Go.Proofs.YtceceomaheobhaaGreatDoor.app Go.Proofs.YtceceomaheobhaaGreatDoor.flts Go.Proofs.YtceceomaheobhaaGreatDoor.note
set_option linter.unusedVariables false
set_option linter.unusedSimpArgs false

def undP (word : ByteArray) (f : Flt) : Flt := ⟨f.err, if f.at_.toList.isEmpty = true then word else word ++ (⟨#[32]⟩ ++ f.at_)⟩
def undL (word : ByteArray) (fs : List Flt) : List Flt := fs.map (undP word)
theorem undL_take {word : ByteArray} {fs : List Flt} {k : Nat} {f : Flt} (h : fs[k]? = some f) : undL word (fs.take (k + 1)) = undL word (fs.take k) ++ [undP word f] := by
  obtain ⟨h1, h2⟩ := List.getElem?_eq_some_iff.1 h
  unfold undL
  rw [List.take_succ_eq_append_getElem h1, h2, List.map_append]
  rfl
set_option maxRecDepth 20000 in
set_option maxHeartbeats 4000000 in
theorem under_any (word : ByteArray) (A : Option Addr) (c : Nat) (fs : List Flt) (w : World) (hL : RowAt rFlt w w.heap.size A fs) (hl : fs.length ≤ 1000000) (hws : word.size ≤ 1000000) (hfs : ∀ f ∈ fs, f.at_.size ≤ 1000000) :
    Calls Tryz.prog 23 #[.string word, .slice A fs.length c] w (FltsOut w (undL word fs)) := by
  obtain ⟨n, hn⟩ : ∃ n, fs.length = n := ⟨_, rfl⟩
  have HN := Lib.hid hn
  rw [hn] at hl ⊢
  clear hn
  obtain ⟨i0, hi, hz0, hz1, hz2⟩ := info_parts fault_elem.info
  have HI := Lib.hid (And.intro hi (And.intro hz0 (And.intro hz1 hz2)))
  clear hi hz0 hz1 hz2
  go_enter Tryz.func23, Tryz.ntmps23
  go_wp2_with (at_make; refine wpList_make_own _ rfl _ _ 33 rfl w.heap.size 37 i0 (.agg #[.int .i64 0, .string ⟨#[]⟩]) 2 Tryz.underlying33 HI.out.1 HI.out.2.1 HI.out.2.2.1 .i64 .i64 n n rfl rfl rfl (by rw [HI.out.2.2.2]; omega) (by unfold maxLen; omega) (Nat.le_refl _) ?_; intro w1 hown1 hg1; have hb1 : Below w.heap.size w w1 := (Below.refl _ _).grown hg1 (Nat.le_refl _) (by intro k hk; cases hk))
  go_loopw [5, 7, 8, 14] (fun v _ _ i wr => ∃ (k : Nat) (A2 : Option Addr) (c2 : Nat), k ≤ n ∧ i = .int .i64 k ∧ v = .slice A2 k c2 ∧ wr.ownsRow w.heap.size 37 2 (.slice A2 k c2) k (fcs (undL word (fs.take k))) ∧ Below w.heap.size w wr) (fun _ _ _ i _ => n - (intOf i).toNat)
  case atStart => exact ⟨0, _, _, by omega, rfl, rfl, hown1, hb1⟩
  case round =>
    obtain ⟨k, A2, c2, hk, rfl, rfl, hown, hb⟩ := hrel
    have hz := hb.size
    by_cases hlt : k < n
    · obtain ⟨f, hf⟩ : ∃ f, fs[k]? = some f := ⟨_, List.getElem?_eq_getElem (by rw [HN.out]; exact hlt)⟩
      obtain ⟨ad, rfl, hadb, ⟨m0, m1⟩, _⟩ := row_Flt (hL.below hb) hf
      have hk0 : (0 : Int) ≤ (k : Int) := by omega
      have hkn : (k : Int) < (n : Int) := by omega
      have HT := Lib.hid (undL_take (word := word) hf)
      have HP : Hid (undP word f = ⟨f.err, if f.at_.toList.isEmpty = true then word else word ++ (⟨#[32]⟩ ++ f.at_)⟩) := Lib.hid rfl
      have hsz := hfs f (List.mem_of_getElem? hf)
      clear hf
      have s1 : ¬ 9223372036854775807 < 1 + f.at_.size := by omega
      have s2 : ¬ 9223372036854775807 < word.size + (1 + f.at_.size) := by omega
      obtain ⟨q, hq⟩ : ∃ q, f.at_.toList.isEmpty = q := ⟨_, rfl⟩
      rw [hq] at HP
      cases q
      · have HE : Hid (undL word (fs.take (k + 1)) = undL word (fs.take k) ++ [⟨f.err, word ++ (⟨#[32]⟩ ++ f.at_)⟩]) := Lib.hid (by rw [HT.out, HP.out]; rfl)
        go_wp2_with (at_builtin; refine wpList_app fault_elem _ _ rfl w.heap.size A2 k c2 (fcs (undL word (fs.take k))) rfl ((hown.alloc _).alloc _) ⟨wr.heap.size + 1, 0, none⟩ 1 [.int .i64 f.err, .string (word ++ (⟨#[32]⟩ ++ f.at_))] rfl rfl (fun j u hu => by have h := two_new (wr.alloc (.cells #[.int .i64 f.err, .string f.at_] 37)) (.int .i64 f.err) (.string (word ++ (⟨#[32]⟩ ++ f.at_))) 37 j u hu; rw [World.size_alloc] at h; exact h) (by simp [Value.oneCell']) (by omega) (by simp; omega) rfl ?_; intro g3 c3 w3 hown3 hg3 hd3)
        go_roundw
        case rel => exact ⟨k + 1, some ⟨g3, 0, none⟩, c3, by omega, by go_num, rfl, by rw [HE.out, fcs_snoc]; exact hown3, ((hb.alloc hz _).alloc (by simp; omega) _).grown hg3 (by simp; omega) (fun q e => (World.ownsRow.lt hown q e).1)⟩
        case measure => simp [intOf]; omega
      · have HE : Hid (undL word (fs.take (k + 1)) = undL word (fs.take k) ++ [⟨f.err, word⟩]) := Lib.hid (by rw [HT.out, HP.out]; rfl)
        go_wp2_with (at_builtin; refine wpList_app fault_elem _ _ rfl w.heap.size A2 k c2 (fcs (undL word (fs.take k))) rfl ((hown.alloc _).alloc _) ⟨wr.heap.size + 1, 0, none⟩ 1 [.int .i64 f.err, .string (word)] rfl rfl (fun j u hu => by have h := two_new (wr.alloc (.cells #[.int .i64 f.err, .string f.at_] 37)) (.int .i64 f.err) (.string (word)) 37 j u hu; rw [World.size_alloc] at h; exact h) (by simp [Value.oneCell']) (by omega) (by simp; omega) rfl ?_; intro g3 c3 w3 hown3 hg3 hd3)
        go_roundw
        case rel => exact ⟨k + 1, some ⟨g3, 0, none⟩, c3, by omega, by go_num, rfl, by rw [HE.out, fcs_snoc]; exact hown3, ((hb.alloc hz _).alloc (by simp; omega) _).grown hg3 (by simp; omega) (fun q e => (World.ownsRow.lt hown q e).1)⟩
        case measure => simp [intOf]; omega
    · have hkn : k = n := by omega
      subst hkn
      have HE : Hid (fs.take k = fs) := Lib.hid (List.take_of_length_le (by rw [HN.out]; exact Nat.le_refl _))
      have HU : Hid ((undL word fs).length = k) := Lib.hid (by unfold undL; rw [List.length_map]; exact HN.out)
      go_wp2
      go_ret
      rw [HE.out] at hown
      exact ⟨A2, c2, by rw [HU.out]; rfl, by unfold Fown; rw [HU.out]; exact hown, hb⟩
end Go.Proofs.YtceceomaheobhaaGreatDoor.und

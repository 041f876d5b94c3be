/- slices.Clone of numbers. -/
import Derived.Test.YtceceomaheobhaaBase
import Derived.Test.YtceceomaheobhaaOnlA
import Derived.Deep.DeepCutAuto
namespace Go.Proofs.Ytceceomaheobhaa.spl
open Go.RowKit
open Go.Proofs.Ytceceomaheobhaa.lib Go.Proofs.Ytceceomaheobhaa.rd Go.Proofs.Ytceceomaheobhaa.app Go.Proofs.Ytceceomaheobhaa.ins
set_option linter.unusedVariables false
set_option linter.unusedSimpArgs false

set_option maxRecDepth 20000 in
theorem clone_any (A : Option Addr) (c : Nat) (l : List Int) (w : World) (h : Ints w w.heap.size A l) (hl : l.length ≤ 1000000) :
    Calls Try.prog 60 #[.slice A l.length c] w fun e w' => ∃ A' c', e = .returned (.slice A' l.length c') ∧ w'.ownsRow w.heap.size 3 1 (.slice A' l.length c') l.length (l.map (.int .i64)) ∧ Below w.heap.size w w' := by
  have HI := Lib.hid h
  have B0 : Below w.heap.size w (w.alloc (.cells #[] 3)) := (Below.refl _ _).alloc (Nat.le_refl _) _
  obtain ⟨m, hm⟩ : ∃ m, l.length = m := ⟨_, rfl⟩
  rw [hm] at hl ⊢
  have HM := Lib.hid hm
  clear h hm
  rcases A with _ | ad
  · have hl0 : l = [] := by
      rcases Nat.eq_zero_or_pos l.length with h0 | h0
      · exact List.eq_nil_of_length_eq_zero h0
      · obtain ⟨ad, _, hA, _⟩ := HI.out.at_ h0
        cases hA
    have hm0 : m = 0 := by rw [← HM.out, hl0]; rfl
    subst hm0
    have HL := Lib.hid hl0
    clear hl0
    have he : ∀ w : World, (binOp .eql 22 (.slice none 0 c) (.slice none 0 0)).run Try.prog w = .ok (.bool true) w := fun _ => rfl
    go_enter Try.func60, Try.ntmps60
    go_wp2
    go_ret
    exact ⟨none, 0, rfl, by rw [HL.out]; exact World.ownsRow_nil _ _ _ _, Below.refl _ _⟩
  · have HR : Hid (Reads (w.alloc (.cells #[] 3)) w.heap.size 1 (some ad) m (l.map (.int .i64))) := Lib.hid (by rw [← HM.out]; exact (HI.out.below B0).1)
    have HE0 : Hid ((w.alloc (.cells #[] 3)).ownsRow w.heap.size 3 1 (.slice (some ⟨w.heap.size, 0, none⟩) 0 0) 0 []) := Lib.hid (World.ownsRow_made w #[] 0 (Nat.le_refl _) (by decide) rfl)
    have HBA : Hid (w.heap.size ≤ (w.alloc (.cells #[] 3)).heap.size) := Lib.hid B0.size
    have HB := Lib.hid B0
    clear B0
    have he : ∀ w : World, (binOp .eql 22 (.slice (some ad) m c) (.slice none 0 0)).run Try.prog w = .ok (.bool false) w := fun _ => rfl
    go_enter Try.func60, Try.ntmps60
    go_wp2_with (at_builtin; go_loud (refine wpList_appN int_elem _ _ rfl w.heap.size (.slice (some ⟨w.heap.size, 0, none⟩) 0 0) 0 [] rfl HE0.out w.heap.size (some ad) m c (l.map (.int .i64)) rfl HR.out (fun u hu => by obtain ⟨y, _, rfl⟩ := List.mem_map.1 hu; rfl) (by omega) HBA.out rfl ?_); intro A5 c5 w5 hown5 hg5; have HK := Lib.hid (And.intro hown5 hg5); clear hown5 hg5)
    go_ret
    refine ⟨A5, c5, rfl, ?_, HB.out.grown HK.out.2 HBA.out (fun q e => own_base HE0.out q e)⟩
    have h := HK.out.1
    rw [Nat.zero_add, List.nil_append] at h
    exact h
end Go.Proofs.Ytceceomaheobhaa.spl

/- The law SplitLoads, walked. -/
import Derived.Test.YtceceomaheobhaaSplV
import Derived.Test.YtceceomaheobhaaSplY
import Derived.Deep.DeepCutAuto
namespace Go.Proofs.Ytceceomaheobhaa.spl
open Go.RowKit
open Go.Proofs.Ytceceomaheobhaa.lib Go.Proofs.Ytceceomaheobhaa.rd Go.Proofs.Ytceceomaheobhaa.app Go.Proofs.Ytceceomaheobhaa.els Go.Proofs.Ytceceomaheobhaa.loads
set_option linter.unusedVariables false
set_option linter.unusedSimpArgs false

theorem LoadsOut.gen {w w' : World} {r : Option (List (List Int))} {e : Ending} (h : LoadsOut w r e w') (hr : ∀ ll, r = some ll → ll.length ≤ 1000) : ∃ A n c k, e = .returned (.tuple #[.slice A n c, .int .i64 k]) ∧ n = (r.getD []).length ∧ Rows2 w' w'.heap.size A (r.getD []) ∧ Below w.heap.size w w' ∧ (k = 0 ∨ k = 2) ∧ (k = 0 ↔ r.isSome = true) := by
  rcases h with ⟨ll, A, c, cs, rfl, rfl, hown, hels, hb⟩ | ⟨rfl, rfl, hb⟩
  · have hl : ll.length ≤ 17592186043904 := by have := hr ll rfl; omega
    exact ⟨A, _, c, 0, rfl, rfl, hels.rows2 hown hl, hb, .inl rfl, by simp⟩
  · exact ⟨none, 0, 0, 2, rfl, rfl, Rows2.nil, hb, .inr rfl, by simp⟩
theorem loadsF_few {l : List Int} {n : Int} : ∀ ll, loadsF l n = some ll → ll.length ≤ 1000 := fun ll h => by
  unfold loadsF at h
  split at h
  · injection h with h
    rw [← h, partsL_len]
    omega
  · cases h
theorem lawLoads_any (A : Option Addr) (c : Nat) (l : List Int) (n : Int) (w : World) (h : Ints w w.heap.size A l) :
    Calls Try.prog 3 #[.slice A l.length c, .int .i64 n] w fun e w' => e = .returned (.bool true) ∧ Below w.heap.size w w' := by
  have HI := Lib.hid h
  clear h
  go_enter Try.func3, Try.ntmps3
  go_wp2_with fail
  refine (loads_any A c l n w HI.out).mono ?_
  intro e w1 h1
  obtain ⟨A1, n1, c1, k1, rfl, hn1, hr1, b1, hk1', hk1⟩ := h1.gen loadsF_few
  have z1 := b1.size
  have H1 := Lib.hid (And.intro hn1 (And.intro hr1 (And.intro b1 (And.intro hk1 hk1'))))
  have HI1 := Lib.hid ((HI.out.below b1).more z1)
  clear h1 hn1 hr1 b1 hk1 hk1'
  go_wp2_with fail
  refine (rloads_any A c l n w1 HI1.out).mono ?_
  intro e w2 h2
  obtain ⟨A2, n2, c2, k2, rfl, hn2, hr2, b2, hk2', hk2⟩ := h2.gen loadsF_few
  have z2 := b2.size
  have hk : k1 = k2 := by
    obtain ⟨e1, e2⟩ := H1.out.2.2.2
    cases hs : (loadsF l n).isSome
    · rw [hs] at e1 hk2
      have h3 : ¬ k1 = 0 := fun h => by have := e1.1 h; cases this
      have h4 : ¬ k2 = 0 := fun h => by have := hk2.1 h; cases this
      omega
    · rw [hs] at e1 hk2
      rw [e1.2 rfl, hk2.2 rfl]
  subst hk
  have H2 := Lib.hid (And.intro hn2 (And.intro hr2 b2))
  clear h2 hn2 hr2 b2 hk2 hk2'
  go_wp2_with fail
  refine (lists_any A1 c1 _ n1 H1.out.1.symm A2 c2 _ n2 H2.out.1.symm w2 ((H1.out.2.1.below H2.out.2.2).more z2) H2.out.2.1).mono ?_
  rintro e w3 ⟨rfl, b3⟩
  rw [show listsB ((loadsF l n).getD []) ((loadsF l n).getD []) = true by unfold listsB; simp]
  have HB := Lib.hid ((H1.out.2.2.1.trans (H2.out.2.2.mono z1)).trans (b3.mono (by omega)))
  go_wp2_with fail
  refine (examples_any w3).mono ?_
  rintro e w4 ⟨rfl, b4⟩
  have HB4 := Lib.hid (HB.out.trans (b4.mono HB.out.size))
  go_wp2_with fail
  go_ret
  exact ⟨rfl, HB4.out⟩
end Go.Proofs.Ytceceomaheobhaa.spl

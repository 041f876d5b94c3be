/- The examples: plain facts. -/
import Derived.Test.YtceceomaheobhaaGreatDoorSplS
import Derived.Test.YtceceomaheobhaaGreatDoorSplK
import Derived.Test.YtceceomaheobhaaGreatDoorSplN
import Derived.Test.YtceceomaheobhaaGreatDoorSpR
namespace Go.Proofs.YtceceomaheobhaaGreatDoor.spl
open Go.RowKit
open Go.Proofs.YtceceomaheobhaaGreatDoor.lib Go.Proofs.YtceceomaheobhaaGreatDoor.rd Go.Proofs.YtceceomaheobhaaGreatDoor.app Go.Proofs.YtceceomaheobhaaGreatDoor.els Go.Proofs.YtceceomaheobhaaGreatDoor.loads Go.Proofs.YtceceomaheobhaaGreatDoor.typ Go.Proofs.YtceceomaheobhaaGreatDoor.big Go.Proofs.YtceceomaheobhaaGreatDoor.ins Go.Proofs.YtceceomaheobhaaGreatDoor.ord Go.Proofs.YtceceomaheobhaaGreatDoor.flts Go.Proofs.YtceceomaheobhaaGreatDoor.off
set_option linter.unusedVariables false
set_option linter.unusedSimpArgs false

def exO (k : Nat) : Ord := ⟨if k = 1 then ⟨#[111, 95, 49]⟩ else ⟨#[111, 95, 50]⟩, [if k = 1 then 4 else 3], ⟨-1, 0, 0, 0⟩, ⟨0, 0, 50, 0⟩, 0, if k = 1 then 5 else 4, 1, -1, -1, false⟩
def exI : Ins := ⟨⟨[⟨#[65]⟩], []⟩, [smpT], [exO 1, exO 2, smpO 1], [(0, 2), (1, 2)], []⟩
theorem ex_loads : loadsF [7, 2] 3 = some [[3, 1], [2, 1], [2, 0]] := by kernel_rfl
theorem ex_exp : expF smpI = .ok (exI, [0, 0, 1]) := by kernel_rfl
def exR : List Rou := [⟨0, 0, [⟨0, true⟩]⟩, ⟨0, 0, [⟨2, true⟩]⟩]
theorem ex_merge : mergeF smpI [0, 0, 1] exR = .ok [[⟨0, [4]⟩], [⟨1, [7]⟩]] := by kernel_rfl
theorem ex_whole : wholeF smpI.orders [⟨0, [4]⟩, ⟨1, [7]⟩] [0] = 0 := by kernel_rfl
theorem ex_miss : wholeF smpI.orders [⟨0, [4]⟩, ⟨1, [7]⟩] [] = 23 := by kernel_rfl
theorem ex_lim : ExpLim smpI := by
  refine ⟨by decide, fun o ho => ?_, by decide, by decide⟩
  simp only [smpI, List.mem_cons, List.not_mem_nil, or_false] at ho
  rcases ho with rfl | rfl
  all_goals (unfold smpO; decide)
theorem ex_good : ∀ y want, expF smpI = .ok (y, want) → ExpGood y want := fun y want h => by
  rw [ex_exp] at h
  injection h with h
  injection h with h1 h2
  subst h1
  subst h2
  have hm : ∀ o ∈ exI.orders, o = exO 1 ∨ o = exO 2 ∨ o = smpO 1 := fun o ho => by simpa [exI] using ho
  refine ⟨rfl, by decide, fun o ho => ?_, fun o ho => ?_, fun g hg => ?_⟩
  · rcases hm o ho with rfl | rfl | rfl
    all_goals
      intro v hv
      simp [exO, smpO] at hv
      omega
  · rcases hm o ho with rfl | rfl | rfl
    all_goals decide
  · simp at hg
    omega
/-- Equal lists. -/
theorem ints_yes (l : List Int) (n : Nat) (hn : l.length = n) (A : Option Addr) (c : Nat) (A' : Option Addr) (c' : Nat) (w : World) (ha : Ints w w.heap.size A l) (hb : Ints w w.heap.size A' l) :
    Calls Tryz.prog 42 #[.slice A n c, .slice A' n c'] w fun e w' => e = .returned (.bool true) ∧ Below w.heap.size w w' := by
  have h := ints_any A c l n hn A' c' l n hn w _ _ (Nat.le_refl _) (Nat.le_refl _) ha hb
  rw [show eqs.sameB l l = true by unfold eqs.sameB; simp] at h
  exact h
/-- The rows of Loads, as cells. -/
theorem els_cell {X : Type} {f : X → El} {s : Nat} (hs : ∀ x A c, ((f x).cells A c).length = s) {w : World} {base n c : Nat} {e : TypeId} {A : Option Addr} {P : Nat → Prop} {cs : List Value} {xs : List X} (h : ElsIn f w P cs xs) (hown : w.ownsRow base e s (.slice A n c) n cs) (hn : xs.length = n) {i : Nat} {x : X} (hi : xs[i]? = some x) : ∃ g C d, A = some ⟨g, 0, none⟩ ∧ g < w.heap.size ∧ Ints w w.heap.size C (f x).nums ∧ ∀ (j : Nat) u, ((f x).cells C d)[j]? = some u → w.cell? ⟨g, i * s + j, none⟩ = some u := by
  obtain ⟨hl, h2⟩ := h.at_ hs
  obtain ⟨C, d, h3, h4⟩ := h2 i x hi
  have hin := (List.getElem?_eq_some_iff.1 hi).1
  rcases hown.2 with ⟨h5, h6⟩ | ⟨g, cap, cur, h5, h6, h7, h8⟩
  · omega
  injection h5 with h5 _ _
  subst h5
  refine ⟨g, C, d, rfl, (Array.getElem?_eq_some_iff.1 h7).1, h3.1, fun j u hu => ?_⟩
  have e1 := h4 j u hu
  have e2 := hown.cellAt (i * s + j) (by have h := (List.getElem?_eq_some_iff.1 e1).1; rw [hown.1] at h; exact h)
  rw [e2]
  exact e1
end Go.Proofs.YtceceomaheobhaaGreatDoor.spl

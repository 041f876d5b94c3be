/- The law SplitExpands, walked. -/
import Derived.Test.YtceceomaheobhaaGreatDoorSplF
import Derived.Test.YtceceomaheobhaaGreatDoorSpwQ
import Derived.Test.YtceceomaheobhaaGreatDoorSplY
import Derived.Test.YtceceomaheobhaaGreatDoorRsame
import Derived.Test.YtceceomaheobhaaGreatDoorR13C
import Derived.Test.YtceceomaheobhaaGreatDoorZ4
namespace Go.Proofs.YtceceomaheobhaaGreatDoor.spl
open Go.RowKit
open Go.Proofs.YtceceomaheobhaaGreatDoor.lib Go.Proofs.YtceceomaheobhaaGreatDoor.rd Go.Proofs.YtceceomaheobhaaGreatDoor.app Go.Proofs.YtceceomaheobhaaGreatDoor.els Go.Proofs.YtceceomaheobhaaGreatDoor.loads Go.Proofs.YtceceomaheobhaaGreatDoor.typ Go.Proofs.YtceceomaheobhaaGreatDoor.big Go.Proofs.YtceceomaheobhaaGreatDoor.ins Go.Proofs.YtceceomaheobhaaGreatDoor.ord Go.Proofs.YtceceomaheobhaaGreatDoor.flts
set_option linter.unusedVariables false
set_option linter.unusedSimpArgs false

theorem right_any (x : Ins) (P : InP) (w : World) (h : InAt w w.heap.size x P) (hl : RLim x) : Calls Tryz.prog 13 #[InV x P] w fun e w' => e = .returned (.bool (decide (insF x = []))) ∧ Below w.heap.size w w' := by
  obtain ⟨fs, hfs⟩ : ∃ fs, insF x = fs := ⟨_, rfl⟩
  rw [hfs]
  have HFS := Lib.hid hfs
  clear hfs
  obtain ⟨W0, hW0⟩ : ∃ W0, w.alloc (.cells (insCs x P).toArray 30) = W0 := ⟨_, rfl⟩
  have hB0 : Below w.heap.size w W0 := by rw [← hW0]; exact (Below.refl _ _).alloc (Nat.le_refl _) _
  have z0 := hB0.size
  have b0 : SixAt W0 w.heap.size (insCs x P) := by rw [← hW0]; exact World.alloc_heap_new w _
  have hs0 : w.heap.size < W0.heap.size := by rw [← hW0]; simp
  have HX := Lib.hid (fun w' (h' : Below W0.heap.size W0 w') => (b0.below h').cells)
  have HI := Lib.hid (fun w' (h' : Below W0.heap.size W0 w') => (h.go hB0).go h')
  have hW1 : w.alloc (.cells #[.slice P.a0 x.net.places.length P.c0, .slice P.a1 x.net.arcs.length P.c1, .slice P.a2 x.types.length P.c2, .slice P.a3 x.orders.length P.c3, .slice P.a4 x.apart.length P.c4, .slice P.a5 x.before.length P.c5] 30) = W0 := hW0
  have HW1 := Lib.hid hW1
  have C0 := Below.refl W0.heap.size W0
  clear hW0 hW1 h b0
  simp only [InV]
  have HL := Lib.hid hl
  clear hl
  go_enter Tryz.func13, Tryz.ntmps13
  go_upto_region 1 with fail
  rw [HW1.out]
  go_wp2_with ((with_reducible refine wpList_loadG stIns _ rfl ⟨w.heap.size, 0, none⟩ (insCs (x) P) ?_ ?_ ?_ ?_ ?_); exact rfl; exact rfl; exact HX.out _ C0; exact rfl)
  refine (richeck_any x P W0 (HI.out _ C0) HL.out).mono ?_
  rw [HFS.out]
  rintro e w1 ⟨A, c, rfl, -, b1⟩
  have HB := Lib.hid (hB0.trans (b1.mono z0))
  cases fs with
  | nil =>
    go_wp2_with fail
    go_ret
    exact ⟨ret_bool (by simp), HB.out⟩
  | cons f fs =>
    have hne : ¬ (((f :: fs).length : Nat) : Int) = 0 := by simp only [List.length_cons]; omega
    go_wp2_with fail
    go_ret
    exact ⟨ret_bool (by rw [decide_eq_false (show ¬ (f :: fs) = [] by simp), beq_eq_false_iff_ne]; omega), HB.out⟩
def expY (r : Except Int (Ins × List Int)) : Ins := match r with
  | .error _ => nilI
  | .ok (y, _) => y
def expG (r : Except Int (Ins × List Int)) : List Int := match r with
  | .error _ => []
  | .ok (_, g) => g
def expK (r : Except Int (Ins × List Int)) : Int := match r with
  | .error k => k
  | .ok _ => 0
theorem ExpOut.gen {w w' : World} {r : Except Int (Ins × List Int)} {e : Ending} (h : ExpOut w r e w') : ∃ Q A n c, e = .returned (.tuple #[InV (expY r) Q, .slice A n c, .int .i64 (expK r)]) ∧ (expG r).length = n ∧ InAt w' w'.heap.size (expY r) Q ∧ Ints w' w'.heap.size A (expG r) ∧ Below w.heap.size w w' := by
  match r, h with
  | .error k, ⟨h1, h2⟩ => exact ⟨nilP, none, 0, 0, h1, rfl, nil_at _, ⟨⟨rfl, fun h => absurd h (by simp [expG])⟩, by simp [expG]⟩, h2⟩
  | .ok (y, org), ⟨P, A, c, h1, h2, h3, h4⟩ => exact ⟨P, A, org.length, c, h1, rfl, h2, h3, h4⟩
theorem r15same_any (a b : Ins) (P Q : InP) (w : World) (hP : InAt w w.heap.size a P) (hQ : InAt w w.heap.size b Q) :
    Calls Tryz.prog 16 #[InV a P, InV b Q] w fun e w' => e = .returned (.bool (sameI a b)) ∧ Below w.heap.size w w' := by
  obtain ⟨W0, hW0⟩ : ∃ W0, (w.alloc (.cells (insCs a P).toArray 30)).alloc (.cells (insCs b Q).toArray 30) = W0 := ⟨_, rfl⟩
  have hB0 : Below w.heap.size w W0 := by rw [← hW0]; exact ((Below.refl _ _).alloc (Nat.le_refl _) _).alloc (by simp) _
  have z0 := hB0.size
  have b0 : SixAt W0 w.heap.size (insCs a P) := by
    rw [← hW0]
    unfold SixAt
    rw [Below.heap_alloc _ _ _ (by simp)]
    exact World.alloc_heap_new w _
  have b1 : SixAt W0 (w.heap.size + 1) (insCs b Q) := by
    rw [← hW0]
    have h := World.alloc_heap_new (w.alloc (.cells (insCs a P).toArray 30)) (.cells (insCs b Q).toArray 30)
    simpa [SixAt] using h
  have HX := Lib.hid (And.intro (And.intro b0.cells b1.cells) (And.intro (hP.go hB0) (hQ.go hB0)))
  have hW1 : (w.alloc (.cells #[.slice P.a0 a.net.places.length P.c0, .slice P.a1 a.net.arcs.length P.c1, .slice P.a2 a.types.length P.c2, .slice P.a3 a.orders.length P.c3, .slice P.a4 a.apart.length P.c4, .slice P.a5 a.before.length P.c5] 30)).alloc (.cells #[.slice Q.a0 b.net.places.length Q.c0, .slice Q.a1 b.net.arcs.length Q.c1, .slice Q.a2 b.types.length Q.c2, .slice Q.a3 b.orders.length Q.c3, .slice Q.a4 b.apart.length Q.c4, .slice Q.a5 b.before.length Q.c5] 30) = W0 := hW0
  have HW1 := Lib.hid hW1
  clear hW0 hW1 hP hQ b0 b1
  simp only [InV]
  go_enter Tryz.func16, Tryz.ntmps16
  go_upto_region 1 with fail
  rw [HW1.out]
  go_wp2_with (first
    | ((with_reducible refine wpList_loadG stIns _ rfl ⟨w.heap.size, 0, none⟩ (insCs (a) P) ?_ ?_ ?_ ?_ ?_); exact rfl; exact rfl; exact HX.out.1.1; exact rfl)
    | ((with_reducible refine wpList_loadG stIns _ rfl ⟨w.heap.size + 1, 0, none⟩ (insCs (b) Q) ?_ ?_ ?_ ?_ ?_); exact rfl; exact rfl; exact HX.out.1.2; exact rfl))
  refine (rsame_any a b P Q W0 HX.out.2.1 HX.out.2.2).mono ?_
  rintro e w1 ⟨rfl, b1⟩
  have HB := Lib.hid (hB0.trans (b1.mono z0))
  go_wp2_with fail
  go_ret
  exact ⟨rfl, HB.out⟩
end Go.Proofs.YtceceomaheobhaaGreatDoor.spl

/- The reference's Subsets, walked. -/
import Derived.Test.YtdmedphpddhjcaaDoorSubK
import Derived.Deep.QuietTactic
import Derived.BigQuiet
import Derived.Deep.RegionHeld3
namespace Go.Proofs.YtdmedphpddhjcaaDoor.sets
open Go.RowKit Go.Shelf
open Go.Proofs.YtdmedphpddhjcaaDoor.lib
set_option linter.unusedVariables false

/-- What the inner loop has made when k of the old ones are doubled. -/
def half (D : List Int) (m : Int) (k : Nat) : List Int := D ++ (D.take k).map (fun x => x + pow2 m.toNat)
theorem half_zero (D : List Int) (m : Int) : half D m 0 = D := by simp [half]
theorem half_end (D : List Int) (m : Int) : half D m D.length = D ++ D.map (fun x => x + pow2 m.toNat) := by simp [half]
theorem half_len (D : List Int) (m : Int) (k : Nat) (h : k ≤ D.length) : (half D m k).length = D.length + k := by simp [half]; omega
theorem half_step {D : List Int} {m x : Int} {k : Nat} (h : D[k]? = some x) : half D m (k + 1) = half D m k ++ [x + pow2 m.toNat] := by
  obtain ⟨h1, h2⟩ := List.getElem?_eq_some_iff.1 h
  unfold half
  rw [List.take_succ_eq_append_getElem h1, h2, List.map_append, List.append_assoc]
  rfl
theorem half_at {D : List Int} {m x : Int} {k : Nat} (j : Nat) (h : D[k]? = some x) : (half D m j)[k]?.getD 0 = x := by
  obtain ⟨h1, h2⟩ := List.getElem?_eq_some_iff.1 h
  rw [half, List.getElem?_append_left h1, h]
  rfl

set_option maxHeartbeats 2000000 in
theorem rsubsets_few (s : Nat) (hs : s < 9223372036854775808) (hfew : cntN s ≤ 13) (w : World) :
    Calls Tryd.prog 13 #[.int .i64 s] w fun e w' => (∃ A c, e = .returned (.tuple #[.slice A (subL s).length c, .int .i64 0]) ∧ w'.ownsRow w.heap.size 3 1 (.slice A (subL s).length c) (subL s).length ((subL s).map (.int .i64))) ∧ Below w.heap.size w w' := by
  have hm : (memL (s : Int)).length ≤ 63 := memTo_len (s : Int) 63
  go_enter Tryd.func13, Tryd.ntmps13
  go_wp2_with fail
  refine (rsize_any s hs _).mono ?_
  rintro e w0 ⟨rfl, rfl⟩
  have hf' : ¬ ((13 : Int) < (cntN s : Int)) := by omega
  go_wp2_with fail
  refine (rmembers_any _ (by omega) (by omega) _).mono ?_
  rintro e w1 ⟨A, c, rfl, hownL, hbL⟩
  have s1 := hbL.size
  rw [World.size_alloc] at s1 hownL hbL
  obtain ⟨L, hL⟩ : ∃ L, memL (s : Int) = L := ⟨_, rfl⟩
  have hpre : ∀ i, Hid (dblL (L.take i) <+: subL s) := fun i => Lib.hid (by rw [← dbl_subL s hs, hL]; exact dbl_prefix L i)
  have hall : Hid (dblL L = subL s) := Lib.hid (by rw [← hL]; exact dbl_subL s hs)
  have hmem : ∀ m ∈ L, 0 ≤ m ∧ m ≤ 62 := by
    intro m hmm
    rw [← hL] at hmm
    have := mem_memL.1 hmm
    unfold hasB at this
    rw [decide_eq_true_eq] at this
    exact ⟨this.1, this.2.1⟩
  have hlen13 : (subL s).length ≤ 8192 := by
    rcases Nat.lt_or_ge 8192 (subL s).length with h | h
    · exact absurd ((big_iff s hs).1 h) (by omega)
    · exact h
  rw [hL] at hownL hm ⊢
  clear hL hf'
  have hown0 : w1.ownsRow w.heap.size 3 1 (.slice (some ⟨w.heap.size, 0, none⟩) 1 1) 1 ((dblL (L.take 0)).map (.int .i64)) := by
    have hh : w1.heap[w.heap.size]? = some (.cells #[.int .i64 0] 3 (0, 0)) := (hbL.block w.heap.size (by omega)).trans (World.alloc_heap_new w _)
    exact ⟨rfl, .inr ⟨w.heap.size, 1, #[.int .i64 0], rfl, Nat.le_refl _, hh, Nat.le_refl _, by decide, rfl, rfl⟩⟩
  by_cases h0 : L.length = 0
  · obtain rfl : L = [] := List.eq_nil_of_length_eq_zero h0
    have hB1 : Below w.heap.size w w1 := ((Below.refl w.heap.size w).alloc (Nat.le_refl _) _).trans (hbL.mono (by omega))
    clear hownL hbL
    go_wp2_with fail
    go_loopw [4, 6, 7, 8] (fun v i _ _ wr => i = .int .i64 0 ∧ v = .slice (some ⟨w.heap.size, 0, none⟩) 1 1 ∧ wr = w1) (fun _ _ _ _ _ => 0)
    case atStart => exact ⟨rfl, rfl, rfl⟩
    case round =>
      obtain ⟨rfl, rfl, rfl⟩ := hrel
      go_wp2
      have e1 : subL s = [0] := hall.out.symm
      refine bodyPost_ret (v := .tuple #[.slice (some ⟨w.heap.size, 0, none⟩) 1 1, .int .i64 0]) (by simp [results, Tryd.results13, go_sem]) rfl ⟨⟨some ⟨w.heap.size, 0, none⟩, 1, by rw [e1]; rfl, by rw [e1]; exact hown0⟩, hB1⟩
  obtain ⟨gL, hA, hgL, hgL2⟩ : ∃ gL, A = some ⟨gL, 0, none⟩ ∧ w.heap.size < gL ∧ gL < w1.heap.size := by
    rcases hownL.2 with ⟨_, hz⟩ | ⟨g, cap, cur, h, hb, hg, _⟩
    · exact absurd hz h0
    · injection h with h _ _
      exact ⟨g, h, by omega, (Array.getElem?_eq_some_iff.1 hg).1⟩
  subst hA
  have hLc : ∀ j, j < L.length → w1.cell? ⟨gL, j, none⟩ = some (.int .i64 (L[j]?.getD 0)) := own_cells hownL
  have hB1 : Below w.heap.size w w1 := ((Below.refl w.heap.size w).alloc (Nat.le_refl _) _).trans (hbL.mono (by omega))
  clear hownL hbL
  go_wp2_with fail
  go_loopw [4, 6, 7, 8] (fun v i _ _ wr => ∃ (j g c : Nat), j ≤ L.length ∧ i = .int .i64 j ∧ v = .slice (some ⟨g, 0, none⟩) (dblL (L.take j)).length c ∧ wr.ownsRow w.heap.size 3 1 (.slice (some ⟨g, 0, none⟩) (dblL (L.take j)).length c) (dblL (L.take j)).length ((dblL (L.take j)).map (.int .i64)) ∧ g ≠ gL ∧ gL < wr.heap.size ∧
    (∀ j, j < L.length → wr.cell? ⟨gL, j, none⟩ = some (.int .i64 (L[j]?.getD 0))) ∧ Below w.heap.size w wr) (fun _ i _ _ _ => L.length - (intOf i).toNat)
  case atStart => exact ⟨0, w.heap.size, 1, by omega, rfl, rfl, hown0, by omega, hgL2, hLc, hB1⟩
  case round =>
    obtain ⟨j, g, c2, hj, rfl, rfl, hown, hgg, hgw, hcs, hB⟩ := hrel
    by_cases hlt : j < L.length
    · obtain ⟨m, hmj⟩ : ∃ m, L[j]? = some m := ⟨_, List.getElem?_eq_getElem hlt⟩
      have hcm : wr.cell? ⟨gL, j, none⟩ = some (.int .i64 m) := by have := hcs j hlt; rw [hmj] at this; exact this
      obtain ⟨m0, m1⟩ := hmem m (List.mem_of_getElem? hmj)
      have hTK := Lib.hid (dbl_take hmj)
      have hp1 := hpre (j + 1)
      obtain ⟨D, hD⟩ : ∃ D, dblL (L.take j) = D := ⟨_, rfl⟩
      rw [hD] at hown hTK ⊢
      have hDl : D.length + D.length ≤ 8192 := by
        have := hp1.out.length_le
        rw [hTK.out, List.length_append, List.length_map] at this
        omega
      obtain ⟨mm, rfl⟩ := Int.eq_ofNat_of_zero_le m0
      have hbd : ∀ x ∈ D, Hid (0 ≤ x ∧ x + pow2 mm < 9223372036854775808) := by
        intro x hx
        have h1 : x ∈ subL s := hp1.out.subset (by rw [hTK.out]; exact List.mem_append_left _ hx)
        have h2 : x + pow2 mm ∈ subL s := hp1.out.subset (by rw [hTK.out]; exact List.mem_append_right _ (List.mem_map.2 ⟨x, hx, rfl⟩))
        have h3 := subL_le s hs x h1
        have h4 := subL_le s hs _ h2
        exact Lib.hid ⟨h3.1, by omega⟩
      clear hmj hD hp1
      go_wp2
      go_loopw [4, 8] (fun v i wr => ∃ (k g c : Nat), k ≤ D.length ∧ i = .int .i64 k ∧ v = .slice (some ⟨g, 0, none⟩) (D.length + k) c ∧ wr.ownsRow w.heap.size 3 1 (.slice (some ⟨g, 0, none⟩) (D.length + k) c) (D.length + k) ((half D mm k).map (.int .i64)) ∧ g ≠ gL ∧ gL < wr.heap.size ∧
        (∀ j, j < L.length → wr.cell? ⟨gL, j, none⟩ = some (.int .i64 (L[j]?.getD 0))) ∧ wr.cell? ⟨gL, j, none⟩ = some (.int .i64 (mm : Int)) ∧ Below w.heap.size w wr) (fun _ i _ => D.length - (intOf i).toNat)
      case atStart => exact ⟨0, g, c2, by omega, rfl, rfl, by rw [half_zero]; exact hown, hgg, hgw, hcs, hcm, hB⟩
      case round =>
        obtain ⟨k, g3, c3, hk, rfl, rfl, hown3, hgg3, hgw3, hcs3, hcm3, hB3⟩ := hrel
        by_cases hlk : k < D.length
        · obtain ⟨x, hx⟩ : ∃ x, D[k]? = some x := ⟨_, List.getElem?_eq_getElem hlk⟩
          have hcx : wr.cell? ⟨g3, k, none⟩ = some (.int .i64 x) := by have := own_cells hown3 k (by omega); rw [half_at k hx] at this; exact this
          have hat : ∀ l : List Int, l = half D (mm : Int) k ++ [x + pow2 mm] → l[k]?.getD 0 = x := by
            intro l hl
            rw [hl, List.getElem?_append_left (by rw [half_len _ _ _ hk]; omega)]
            exact half_at k hx
          obtain ⟨x0, x1⟩ := (hbd x (List.mem_of_getElem? hx)).out
          have hpp := pow2_pos mm
          have hW : IntKind.i64.wrap (x + pow2 mm) = x + pow2 mm := IntWalk.i64_in _ (by generalize pow2 mm = p at *; omega)
          have HST := Lib.hid (half_step (m := (mm : Int)) hx)
          have HAT := Lib.hid hat
          have HGG := Lib.hid hgg3
          have HCS := Lib.hid hcs3
          obtain ⟨hg30, hg31⟩ := hown3.lt g3 rfl
          have hz := hB3.size
          have hk0 : (0 : Int) ≤ (k : Int) := by omega
          have hkn : (k : Int) < ((D.length + k : Nat) : Int) := by omega
          have hD0 : (0 : Int) < (D.length : Int) := by omega
          have hD0' : 0 < D.length := by omega
          have hkn2 : (k : Int) < (D.length : Int) + (k : Int) := by omega
          have hkn' : (k : Int) < (D.length : Int) := by omega
          have hj0 : (0 : Int) ≤ (j : Int) := by omega
          have hjn : (j : Int) < (L.length : Int) := by omega
          have hmm : mm ≤ 62 := by omega
          have hsx : ∀ o, (wr.alloc o).cell? ⟨g3, k, none⟩ = some (.int .i64 x) := fun o => (World.cell?_alloc_lt wr o _ hg31).trans hcx
          have hsm : ∀ o, (wr.alloc o).cell? ⟨gL, j, none⟩ = some (.int .i64 (mm : Int)) := fun o => (World.cell?_alloc_lt wr o _ hgw3).trans hcm3
          clear hx hat hgg3 hcs3 x1 x0 hpp hbd
          go_wp2
          go_region_held3 (fun w' => w'.cell? ⟨g3, k, none⟩ = some (.int .i64 x) ∧ w'.cell? ⟨gL, j, none⟩ = some (.int .i64 (mm : Int))) (go_keep)
            (first
              | (go_simp; go_at_call 26; refine (bit_any mm hmm _).mono ?_; rintro e w2 ⟨rfl, rfl⟩)
              | (refine step_push_apart (by rfl) _ _ (by rfl) w.heap.size g3 (D.length + k) c3 (half D mm k) (by rfl) (by exact (hown3.alloc _)) wr.heap.size (x + pow2 mm) (by rfl) (by simp) (by omega) (by simp; omega) ?_; intro g4 c4 w4 hown4 hg4 hd4; have k2 : w4.cell? ⟨gL, j, none⟩ = some (.int .i64 (mm : Int)) := hg4.cell (hsm _) (by intro e; injection e with e; exact HGG.out e.symm); have k1 : w4.cell? ⟨g3, k, none⟩ = some (.int .i64 x) := (by (rcases hd4 with rfl | ⟨_, hn⟩); (· have := own_cells hown4 k (by omega); rw [HAT.out _ rfl] at this; exact this); (· exact hn.cell (hsx _) (by simp)))))
          all_goals go_wp2
          all_goals go_roundw
          case rel =>
            refine ⟨k + 1, g4, c4, by omega, by go_num, rfl, by rw [HST.out]; exact hown4, ?_, Nat.lt_of_lt_of_le hgw3 (Nat.le_trans (by simp) hg4.size), ?_, k2, ?_⟩
            · rcases hd4 with rfl | ⟨h, _⟩
              · exact HGG.out
              · intro e
                subst e
                simp at h
                omega
            · intro j' hj'
              exact hg4.cell ((World.cell?_alloc_lt wr _ _ hgw3).trans (HCS.out j' hj')) (by intro e; injection e with e; exact HGG.out e.symm)
            · exact ((hB3.alloc hz _).drew).grown hg4 (Nat.le_trans hz (by simp)) (fun q e => by injection e with e; omega)
          case measure => simp [intOf]; omega
        · have hkn : k = D.length := by omega
          subst hkn
          clear hlk
          go_wp2
          go_roundw
          case rel => exact ⟨j + 1, g3, c3, by omega, by go_num, by rw [hTK.out]; simp, by rw [hTK.out]; simpa [half_end] using hown3, hgg3, hgw3, hcs3, hB3⟩
          case measure => simp [intOf]; omega
    · have hjn : j = L.length := by omega
      subst hjn
      rw [List.take_length, hall.out] at hown ⊢
      clear hlt
      go_wp2
      refine bodyPost_ret (v := .tuple #[.slice (some ⟨g, 0, none⟩) (subL s).length c2, .int .i64 0]) (by simp [results, Tryd.results13, go_sem]) rfl ⟨⟨_, _, rfl, hown⟩, hB⟩

theorem rsubsets_many (s : Nat) (hs : s < 9223372036854775808) (hmany : 13 < cntN s) (w : World) :
    Calls Tryd.prog 13 #[.int .i64 s] w fun e w' => e = .returned (.tuple #[.slice none 0 0, .int .i64 4]) ∧ w = w' := by
  have hf' : (13 : Int) < (cntN s : Int) := by omega
  go_enter Tryd.func13, Tryd.ntmps13
  go_wp2_with (go_at_call 16; refine (rsize_any s hs _).mono ?_; rintro e w0 ⟨rfl, rfl⟩)
  refine bodyPost_ret (v := .tuple #[.slice none 0 0, .int .i64 4]) (by simp [results, Tryd.results13, go_sem]) rfl ⟨rfl, rfl⟩
end Go.Proofs.YtdmedphpddhjcaaDoor.sets

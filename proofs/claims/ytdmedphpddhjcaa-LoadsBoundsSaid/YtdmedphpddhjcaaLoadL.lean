/- The law that Most and Sum bound the loads. -/
import Derived.Test.YtdmedphpddhjcaaLoadK
import Derived.Test.YtdmedphpddhjcaaLoadJ
namespace Go.Proofs.Ytdmedphpddhjcaa.loads
open Go.RowKit
open Go.Proofs.Ytdmedphpddhjcaa.lib
set_option linter.unusedVariables false

theorem fitsGo_of : ∀ {a b : List Int}, (∀ (i : Nat) (x y : Int), a[i]? = some x → b[i]? = some y → x ≤ y) → fitsGo a b = true
  | [], b, _ => by cases b <;> rfl
  | x :: xs, [], _ => rfl
  | x :: xs, y :: ys, h => by
    rw [fitsGo, decide_eq_true (h 0 x y rfl rfl), Bool.true_and]
    exact fitsGo_of (fun i u v hu hv => h (i + 1) u v (by simpa using hu) (by simpa using hv))
theorem fitsB_of {a b : List Int} (hl : a.length = b.length) (h : ∀ (i : Nat) (x y : Int), a[i]? = some x → b[i]? = some y → x ≤ y) : fitsB a b = true := by
  unfold fitsB
  rw [decide_eq_true hl, fitsGo_of h]
  rfl
abbrev mostL (ls : List (List Int)) (d : Nat) : List Int := colL (fun x y => max x y) ls (zeros d)
abbrev sumL (ls : List (List Int)) (d : Nat) : List Int := colL (fun x y => x + y) ls (zeros d)
theorem most_ge_z (ls : List (List Int)) (k : Nat) (z : Int) : z ≤ colD (fun x y => max x y) ls k z := by
  unfold colD
  induction ls generalizing z with
  | nil => exact Int.le_refl _
  | cons l ls ih => rw [List.foldl_cons]; exact Int.le_trans (by show z ≤ max z (l[k]?.getD 0); omega) (ih _)
theorem most_ge {ls : List (List Int)} {l : List Int} (h : l ∈ ls) (k : Nat) (z : Int) : l[k]?.getD 0 ≤ colD (fun x y => max x y) ls k z := by
  induction ls generalizing z with
  | nil => cases h
  | cons a ls ih =>
    have hc : colD (fun x y => max x y) (a :: ls) k z = colD (fun x y => max x y) ls k (max z (a[k]?.getD 0)) := rfl
    rw [hc]
    rcases List.mem_cons.1 h with rfl | h
    · exact Int.le_trans (by omega) (most_ge_z ls k _)
    · exact ih h _
theorem most_le_sum {ls : List (List Int)} (h : ∀ l, l ∈ ls → ∀ k : Nat, 0 ≤ l[k]?.getD 0) (k : Nat) (z y : Int) (hz : 0 ≤ z) (hzy : z ≤ y) : colD (fun x y => max x y) ls k z ≤ colD (fun x y => x + y) ls k y := by
  induction ls generalizing z y with
  | nil => exact hzy
  | cons a ls ih =>
    have h1 : colD (fun x y => max x y) (a :: ls) k z = colD (fun x y => max x y) ls k (max z (a[k]?.getD 0)) := rfl
    have h2 : colD (fun x y => x + y) (a :: ls) k y = colD (fun x y => x + y) ls k (y + a[k]?.getD 0) := rfl
    have h0 := h a (List.mem_cons_self ..) k
    rw [h1, h2]
    exact ih (fun l hl => h l (List.mem_cons_of_mem _ hl)) _ _ (by omega) (by omega)
theorem colL_at' {op : Int → Int → Int} {ls : List (List Int)} {d k : Nat} {x : Int} (h : (colL op ls (zeros d))[k]? = some x) : x = colD op ls k 0 := by
  have hk : k < d := by
    obtain ⟨h1, _⟩ := List.getElem?_eq_some_iff.1 h
    rw [colL_length] at h1
    simpa [zeros] using h1
  rw [colL_at hk] at h
  injection h with h
  exact h.symm
theorem colL_len (op : Int → Int → Int) (ls : List (List Int)) (d : Nat) : (colL op ls (zeros d)).length = d := by rw [colL_length]; simp [zeros]
theorem bounds_most {ls : List (List Int)} {l : List Int} {d : Nat} (hm : l ∈ ls) (hl : l.length = d) : fitsB l (mostL ls d) = true := by
  refine fitsB_of (by rw [hl, colL_len]) (fun i x y hx hy => ?_)
  have h1 := most_ge hm i 0
  rw [hx] at h1
  rw [colL_at' hy]
  exact h1
theorem bounds_sum {ls : List (List Int)} {d : Nat} (h : ∀ l, l ∈ ls → ∀ x, x ∈ l → 0 ≤ x ∧ x ≤ 1000) : fitsB (mostL ls d) (sumL ls d) = true := by
  refine fitsB_of (by rw [colL_len, colL_len]) (fun i x y hx hy => ?_)
  rw [colL_at' hx, colL_at' hy]
  refine most_le_sum (fun l hl k => ?_) i 0 0 (by omega) (by omega)
  rcases Nat.lt_or_ge k l.length with hk | hk
  · rw [List.getElem?_eq_getElem hk]
    exact (h l hl _ (List.getElem_mem hk)).1
  · rw [List.getElem?_eq_none hk]
    exact Int.le_refl _
theorem foldR_right {op : Int → Int → Int} {ls : List (List Int)} {d : Nat} (hd : d ≤ 3) (h : ∀ l, l ∈ ls → l.length = d) : foldR op ls d = some (colL op ls (zeros d)) := by
  rw [foldR_yes hd, foldGo_eq, if_pos]
  unfold evenB
  rw [List.all_eq_true]
  intro l hl
  simp [zeros, h l hl]

set_option maxHeartbeats 1000000 in
theorem law_bounds (A : Option Addr) (c : Nat) (ls : List (List Int)) (u : Int) (hu0 : 0 ≤ u) (hu1 : u ≤ 255) (w : World) (hr : Rows2 w w.heap.size A ls) :
    Calls Try.prog 8 #[.slice A ls.length c, .int .u8 u] w fun e w' => e = .returned (.bool true) ∧ Below w.heap.size w w' := by
  have hlen := hr.1
  by_cases h20 : 20 < ls.length
  · go_enter Try.func8, Try.ntmps8
    go_wp2_with (go_at_call 10; refine (examples_any _).mono ?_; rintro e w2 ⟨rfl, hb2⟩)
    go_ret
    exact ⟨rfl, hb2⟩
  · have h20' : ls.length ≤ 20 := by omega
    clear h20
    go_enter Try.func8, Try.ntmps8
    go_wp2
    obtain ⟨d, hd⟩ := Int.eq_ofNat_of_zero_le (show 0 ≤ u % 4 by omega)
    have hd3 : d ≤ 3 := by omega
    rw [hd]
    clear hd hu0 hu1
    go_loop [7, 23] (fun _ i => ∃ k : Nat, k ≤ ls.length ∧ i = .int .i64 k ∧ Hid (∀ l, l ∈ ls.take k → rightB l d = true)) (fun _ i => ls.length - (intOf i).toNat)
    case atStart => exact ⟨0, by omega, rfl, Lib.hid (by intro l hl; simp at hl)⟩
    case round =>
      obtain ⟨k, hk, rfl, hq⟩ := hrel
      by_cases hlt : k < ls.length
      · obtain ⟨ad, l, Ai, ci, rfl, hadb, hl, hcl, hil⟩ := hr.at_ hlt
        have RR := Lib.hid (rright_any Ai ci l d w _ hil)
        have HT : Hid (∀ x, x ∈ ls.take (k + 1) → x ∈ ls.take k ∨ x = l) := Lib.hid (by
          intro x hx
          obtain ⟨h2, h3⟩ := List.getElem?_eq_some_iff.1 hl
          rw [List.take_succ_eq_append_getElem h2, h3, List.mem_append, List.mem_singleton] at hx
          exact hx)
        clear hl
        cases hrb : rightB l d
        · rw [hrb] at RR
          clear hrb
          go_wp2_with (first
            | (go_at_call 24; refine RR.out.mono ?_; rintro e w' ⟨rfl, rfl⟩)
            | (go_at_call 10; refine (examples_any _).mono ?_; rintro e w2 ⟨rfl, hb2⟩))
          go_ret
          exact ⟨rfl, hb2⟩
        · rw [hrb] at RR
          have HRB := Lib.hid hrb
          clear hrb
          go_wp2_with (go_at_call 24; refine RR.out.mono ?_; rintro e w' ⟨rfl, rfl⟩)
          go_round
          case rel => exact ⟨k + 1, by omega, by go_num, Lib.hid (by
            intro x hx
            rcases HT.out x hx with h | rfl
            · exact hq.out x h
            · exact HRB.out)⟩
          case measure => simp [intOf]; omega
      · have hkn : k = ls.length := by omega
        subst hkn
        clear hlt
        have hall : ∀ l, l ∈ ls → rightB l d = true := by
          have h := hq.out
          rw [List.take_length] at h
          exact h
        have hi : ∀ l, l ∈ ls → InM 1073741824 l := fun l hl x hx => by have := (right_t (hall l hl)).1 x hx; omega
        have hln : ∀ l, l ∈ ls → l.length = d := fun l hl => by have := (right_t (hall l hl)).2; omega
        have h1 := (wmost_any A c ls d h20' w _ (Nat.le_refl _) hr hi).mono fun _ _ h => outF_G (foldR_len _ _ _) h
        rw [foldR_right hd3 hln] at h1
        have H1 := Lib.hid h1
        have H2 := Lib.hid (fun (w1 : World) (B : Nat) (hB : B ≤ w1.heap.size) (h : Rows2 w1 B A ls) => (wplus_any A c ls d h20' w1 B hB h hi).mono fun _ _ h => outF_G (foldR_len _ _ _) h)
        have HF := Lib.hid (foldR_right (op := fun x y => x + y) hd3 hln)
        have HM := Lib.hid (fun l (hm : l ∈ ls) => bounds_most hm (hln l hm))
        have HS := Lib.hid (bounds_sum (d := d) fun l hl => (right_t (hall l hl)).1)
        have HLM : Hid ((mostL ls d).length = d) := Lib.hid (colL_len _ _ _)
        have HLS : Hid ((sumL ls d).length = d) := Lib.hid (colL_len _ _ _)
        clear hq hall hi hln h1
        go_wp2_with fail
        refine H1.out.mono ?_
        rintro e w1 ⟨A1, c1, rfl, hm1, hb1⟩
        rw [show lst (some (mostL ls d)) = mostL ls d from rfl, show err (some (mostL ls d)) = 0 from rfl] at *
        have s1 := hb1.size
        go_wp2_with fail
        refine (H2.out _ w.heap.size s1 (hr.below hb1)).mono ?_
        rw [HF.out]
        rintro e w2 ⟨A2, c2, rfl, hm2, hb2⟩
        rw [show lst (some (sumL ls d)) = sumL ls d from rfl, show err (some (sumL ls d)) = 0 from rfl] at *
        have s2 := hb2.size
        have hr2 := (hr.below hb1).below (hb2.mono s1)
        have hm1' := hm1.below hb2
        go_wp2
        go_loop [13, 47] (fun _ i => ∃ k : Nat, k ≤ ls.length ∧ i = .int .i64 k) (fun _ i => ls.length - (intOf i).toNat)
        case atStart => exact ⟨0, by omega, rfl⟩
        case round =>
          obtain ⟨k, hk, rfl⟩ := hrel
          by_cases hlt : k < ls.length
          · obtain ⟨ad, l, Ai, ci, rfl, hadb, hl, hcl, hil⟩ := hr2.at_ hlt
            have hf := fits_any Ai ci l l.length rfl A1 c1 (mostL ls d) _ rfl w2 _ _ hil hm1'
            rw [HM.out l (List.mem_of_getElem? hl)] at hf
            have HFI := Lib.hid hf
            clear hf hl
            go_wp2_with (go_at_call 25; refine HFI.out.mono ?_; rintro e w' ⟨rfl, rfl⟩)
            go_round
            case rel => exact ⟨k + 1, by omega, by go_num⟩
            case measure => simp [intOf]; omega
          · have hf := fits_any A1 c1 (mostL ls d) _ rfl A2 c2 (sumL ls d) _ rfl w2 _ _ hm1' hm2
            rw [HS.out] at hf
            have HFI := Lib.hid hf
            clear hf
            go_wp2_with (first
              | (go_at_call 25; refine HFI.out.mono ?_; rintro e w' ⟨rfl, rfl⟩)
              | (go_at_call 10; refine (examples_any _).mono ?_; rintro e w3 ⟨rfl, hb3⟩))
            go_ret
            exact ⟨rfl, (hb1.trans (hb2.mono s1)).trans (hb3.mono (by omega))⟩
end Go.Proofs.Ytdmedphpddhjcaa.loads

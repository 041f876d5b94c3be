/- Contracts of Most, Sum, even and all, of the program and of the reference. -/
import Derived.Test.YtdmedphpddhjcaaLoadD
import Derived.Test.YtdmedphpddhjcaaLoadT
namespace Go.Proofs.Ytdmedphpddhjcaa.loads
open Go.RowKit
open Go.Proofs.Ytdmedphpddhjcaa.lib
set_option linter.unusedVariables false

/-- Whether so many dimensions are possible. -/
def foldR (op : Int → Int → Int) (ls : List (List Int)) (dims : Int) : Option (List Int) := if 0 ≤ dims ∧ dims ≤ 3 then foldGo op ls (zeros dims.toNat) else none
theorem foldR_no {op : Int → Int → Int} {ls : List (List Int)} {dims : Int} (h : dims < 0 ∨ 3 < dims) : foldR op ls dims = none := by unfold foldR; rw [if_neg (by omega)]
theorem foldR_yes {op : Int → Int → Int} {ls : List (List Int)} {d : Nat} (h : d ≤ 3) : foldR op ls d = foldGo op ls (zeros d) := by unfold foldR; rw [if_pos (by omega), Int.toNat_natCast]

theorem fold_no (A : Option Addr) (c n : Nat) (dims : Int) (h : dims < 0 ∨ 3 < dims) (f : Value) (w : World) :
    Calls Try.prog 31 #[.slice A n c, .int .i64 dims, f] w fun e w' => e = .returned (.tuple #[.slice none 0 0, .int .i64 2]) ∧ w = w' := by
  rcases h with h | h
  all_goals
    go_enter Try.func31, Try.ntmps31
    go_wp2
    go_ret2
    exact ⟨rfl, rfl⟩

theorem wmost_any (A : Option Addr) (c : Nat) (ls : List (List Int)) (dims : Int) (hls : ls.length ≤ 20) (w : World) (B : Nat) (hB : B ≤ w.heap.size) (hr : Rows2 w B A ls) (hi : ∀ l, l ∈ ls → InM 1073741824 l) :
    Calls Try.prog 19 #[.slice A ls.length c, .int .i64 dims] w (OutF w (foldR (fun x y => max x y) ls dims)) := by
  by_cases h : dims < 0 ∨ 3 < dims
  · have HN := Lib.hid (foldR_no (op := fun x y => max x y) (ls := ls) h)
    have HH := Lib.hid h
    clear h
    go_enter Try.func19, Try.ntmps19
    go_wp2_with (go_at_call 31; refine (fold_no _ _ _ _ HH.out _ _).mono ?_; rintro e w' ⟨rfl, rfl⟩)
    go_ret2
    exact .inr ⟨HN.out, rfl, Below.refl _ _⟩
  · obtain ⟨d, rfl⟩ := Int.eq_ofNat_of_zero_le (show 0 ≤ dims by omega)
    have hd : d ≤ 3 := by omega
    have HN := Lib.hid (foldR_yes (op := fun x y => max x y) (ls := ls) hd)
    have HF := Lib.hid (fold_most A c ls d hd hls w B hB hr hi)
    clear h
    go_enter Try.func19, Try.ntmps19
    go_wp2_with fail
    refine HF.out.mono ?_
    rintro e w1 (⟨l, hl, A1, c1, rfl, hown, hbel⟩ | ⟨hl, rfl, hbel⟩)
    · have HL := Lib.hid hl
      clear hl
      go_wp2
      go_ret2
      exact .inl ⟨l, by rw [HN.out, HL.out], A1, c1, rfl, hown, hbel⟩
    · have HL := Lib.hid hl
      clear hl
      go_wp2
      go_ret2
      exact .inr ⟨by rw [HN.out, HL.out], rfl, hbel⟩

theorem wplus_any (A : Option Addr) (c : Nat) (ls : List (List Int)) (dims : Int) (hls : ls.length ≤ 20) (w : World) (B : Nat) (hB : B ≤ w.heap.size) (hr : Rows2 w B A ls) (hi : ∀ l, l ∈ ls → InM 1073741824 l) :
    Calls Try.prog 21 #[.slice A ls.length c, .int .i64 dims] w (OutF w (foldR (fun x y => x + y) ls dims)) := by
  by_cases h : dims < 0 ∨ 3 < dims
  · have HN := Lib.hid (foldR_no (op := fun x y => x + y) (ls := ls) h)
    have HH := Lib.hid h
    clear h
    go_enter Try.func21, Try.ntmps21
    go_wp2_with (go_at_call 31; refine (fold_no _ _ _ _ HH.out _ _).mono ?_; rintro e w' ⟨rfl, rfl⟩)
    go_ret2
    exact .inr ⟨HN.out, rfl, Below.refl _ _⟩
  · obtain ⟨d, rfl⟩ := Int.eq_ofNat_of_zero_le (show 0 ≤ dims by omega)
    have hd : d ≤ 3 := by omega
    have HN := Lib.hid (foldR_yes (op := fun x y => x + y) (ls := ls) hd)
    have HF := Lib.hid (fold_plus A c ls d hd hls w B hB hr hi)
    clear h
    go_enter Try.func21, Try.ntmps21
    go_wp2_with fail
    refine HF.out.mono ?_
    rintro e w1 (⟨l, hl, A1, c1, rfl, hown, hbel⟩ | ⟨hl, rfl, hbel⟩)
    · have HL := Lib.hid hl
      clear hl
      go_wp2
      go_ret2
      exact .inl ⟨l, by rw [HN.out, HL.out], A1, c1, rfl, hown, hbel⟩
    · have HL := Lib.hid hl
      clear hl
      go_wp2
      go_ret2
      exact .inr ⟨by rw [HN.out, HL.out], rfl, hbel⟩

/-! The reference. -/
def evenI (ls : List (List Int)) (dims : Int) : Bool := decide (0 ≤ dims ∧ dims ≤ 3) && ls.all fun l => decide ((l.length : Int) = dims)
theorem all_at {α : Type} {p : α → Bool} {l : List α} {k : Nat} {x : α} (h : l[k]? = some x) : (l.drop k).all p = (p x && (l.drop (k + 1)).all p) := by
  rw [drop_at' h, List.all_cons]
theorem even_any (A : Option Addr) (c : Nat) (ls : List (List Int)) (dims : Int) (w : World) (B : Nat) (hr : Rows2 w B A ls) :
    Calls Try.prog 33 #[.slice A ls.length c, .int .i64 dims] w fun e w' => e = .returned (.bool (evenI ls dims)) ∧ w = w' := by
  have hlen := hr.1
  by_cases h : dims < 0 ∨ 3 < dims
  · have HE : Hid (evenI ls dims = false) := Lib.hid (by unfold evenI; rw [decide_eq_false (by omega)]; rfl)
    rcases h with h | h
    all_goals
      go_enter Try.func33, Try.ntmps33
      go_wp2
      go_ret
      exact ⟨ret_bool HE.out.symm, rfl⟩
  · obtain ⟨d, rfl⟩ := Int.eq_ofNat_of_zero_le (show 0 ≤ dims by omega)
    have hd : d ≤ 3 := by omega
    clear h
    have HE : Hid (evenI ls d = ls.all fun l => decide (l.length = d)) := Lib.hid (by
      unfold evenI
      rw [decide_eq_true (by omega), Bool.true_and]
      congr 1
      funext l
      congr 1
      apply propext
      omega)
    go_enter Try.func33, Try.ntmps33
    go_wp2
    go_loop [5] (fun i => ∃ k : Nat, k ≤ ls.length ∧ i = .int .i64 k ∧ Hid (evenI ls d = (ls.drop k).all fun l => decide (l.length = d))) (fun i => ls.length - (intOf i).toNat)
    case atStart => exact ⟨0, by omega, rfl, Lib.hid HE.out⟩
    case round =>
      obtain ⟨k, hk, rfl, hq⟩ := hrel
      by_cases hlt : k < ls.length
      · obtain ⟨ad, l, Ai, ci, rfl, hadb, hl, hcl, hil⟩ := hr.at_ hlt
        have HX := Lib.hid (all_at (p := fun l : List Int => decide (l.length = d)) hl)
        clear hl
        by_cases hld : l.length = d
        · have HLD := Lib.hid hld
          rw [hld] at hcl
          clear hld
          go_wp2
          go_round
          case rel => exact ⟨k + 1, by omega, by go_num, Lib.hid (by rw [hq.out, HX.out, decide_eq_true HLD.out]; rfl)⟩
          case measure => simp [intOf]; omega
        · have h2 : ((l.length : Int) == (d : Int)) = false := by simp; omega
          have h3 : ((l.length : Int) != (d : Int)) = true := by simp; omega
          have HLD := Lib.hid (decide_eq_false hld)
          clear hld
          go_wp2
          go_ret
          exact ⟨ret_bool (by rw [hq.out, HX.out, HLD.out]; rfl), rfl⟩
      · have hkn : k = ls.length := by omega
        subst hkn
        clear hlt
        go_wp2
        go_ret
        exact ⟨ret_bool (by rw [hq.out, List.drop_length]; rfl), rfl⟩

def allB (ls : List (List Int)) (m : Int) : Bool := decide (ls.length ≤ 20) && ls.all fun l => withinB l m
theorem allL_any (A : Option Addr) (c : Nat) (ls : List (List Int)) (m : Int) (h0 : 0 ≤ m) (hm : m ≤ 1073741824) (w : World) (B : Nat) (hr : Rows2 w B A ls) :
    Calls Try.prog 16 #[.slice A ls.length c, .int .i64 m] w fun e w' => e = .returned (.bool (allB ls m)) ∧ w = w' := by
  have hlen := hr.1
  by_cases h : 20 < ls.length
  · go_enter Try.func16, Try.ntmps16
    go_wp2
    go_ret
    exact ⟨ret_bool (by unfold allB; rw [decide_eq_false (by omega)]; rfl), rfl⟩
  · have h20 : ls.length ≤ 20 := by omega
    clear h
    go_enter Try.func16, Try.ntmps16
    go_wp2
    go_loop [6, 12] (fun _ i => ∃ k : Nat, k ≤ ls.length ∧ i = .int .i64 k ∧ Hid (allB ls m = (ls.drop k).all fun l => withinB l m)) (fun _ i => ls.length - (intOf i).toNat)
    case atStart => exact ⟨0, by omega, rfl, Lib.hid (by unfold allB; rw [decide_eq_true h20]; rfl)⟩
    case round =>
      obtain ⟨k, hk, rfl, hq⟩ := hrel
      by_cases hlt : k < ls.length
      · obtain ⟨ad, l, Ai, ci, rfl, hadb, hl, hcl, hil⟩ := hr.at_ hlt
        have HX := Lib.hid (all_at (p := fun l : List Int => withinB l m) hl)
        clear hl
        cases hwb : withinB l m
        · have HW := Lib.hid hwb
          go_wp2_with (go_at_call 9; refine (within_any _ _ _ _ h0 hm _ B hil).mono ?_; rintro e w' ⟨rfl, rfl⟩)
          go_ret
          exact ⟨ret_bool (by rw [hq.out, HX.out, HW.out]; rfl), rfl⟩
        · have HW := Lib.hid hwb
          go_wp2_with (go_at_call 9; refine (within_any _ _ _ _ h0 hm _ B hil).mono ?_; rintro e w' ⟨rfl, rfl⟩)
          go_round
          case rel => exact ⟨k + 1, by omega, by go_num, Lib.hid (by rw [hq.out, HX.out, HW.out]; rfl)⟩
          case measure => simp [intOf]; omega
      · have hkn : k = ls.length := by omega
        subst hkn
        clear hlt
        go_wp2
        go_ret
        exact ⟨ret_bool (by rw [hq.out, List.drop_length]; rfl), rfl⟩
end Go.Proofs.Ytdmedphpddhjcaa.loads

/- Contracts of Most and Sum, of the program. -/
import Derived.Test.YtdmedphpddhjcaaLoadC
import Derived.Deep.Onto
namespace Go.Proofs.Ytdmedphpddhjcaa.loads
open Go.RowKit
open Go.Proofs.Ytdmedphpddhjcaa.lib
set_option linter.unusedVariables false

theorem inM_zip {m k : Int} {op : Int → Int → Int} {a b : List Int} (ha : InM m a) (hb : InM k b) (hop : ∀ x y, -m ≤ x → x ≤ m → -k ≤ y → y ≤ k → -(m + k) ≤ op x y ∧ op x y ≤ m + k) : InM (m + k) (List.zipWith op a b) := by
  intro z hz
  obtain ⟨i, hi, rfl⟩ := List.getElem_of_mem hz
  rw [List.getElem_zipWith]
  rw [List.length_zipWith] at hi
  have h1 := ha (a[i]'(by omega)) (List.getElem_mem _)
  have h2 := hb (b[i]'(by omega)) (List.getElem_mem _)
  exact hop _ _ h1.1 h1.2 h2.1 h2.2

theorem combine_ne (A : Option Addr) (c : Nat) (n : Nat) (A' : Option Addr) (c' : Nat) (m : Nat) (h : ¬ n = m) (f : Value) (w : World) :
    Calls Try.prog 27 #[.slice A n c, .slice A' m c', f] w fun e w' => e = .returned (.tuple #[.slice none 0 0, .int .i64 2]) ∧ w = w' := by
  have hd2 : ((n : Int) == (m : Int)) = false := by simp; omega
  have hd3 : ((n : Int) != (m : Int)) = true := by simp; omega
  clear h
  go_enter Try.func27, Try.ntmps27
  go_wp2
  go_ret2
  exact ⟨rfl, rfl⟩

/-- What Most and Sum hand back: the list, or an error. -/
def OutF (w : World) (r : Option (List Int)) (e : Ending) (w' : World) : Prop :=
  (∃ l, r = some l ∧ OutE w l l.length 0 e w') ∨ (r = none ∧ e = .returned (.tuple #[.slice none 0 0, .int .i64 2]) ∧ Below w.heap.size w w')

set_option maxHeartbeats 1000000 in
theorem fold_most (A : Option Addr) (c : Nat) (ls : List (List Int)) (d : Nat) (hd : d ≤ 3) (hls : ls.length ≤ 20) (w : World) (B : Nat) (hB : B ≤ w.heap.size) (hr : Rows2 w B A ls) (hi : ∀ l, l ∈ ls → InM 1073741824 l) :
    Calls Try.prog 31 #[.slice A ls.length c, .int .i64 d, .func (.func 32) #[] #[]] w (OutF w (foldGo (fun x y => max x y) ls (zeros d))) := by
  have HI := Lib.hid hi
  clear hi
  go_enter Try.func31, Try.ntmps31
  go_wp2_with (at_make; refine make_ints rfl _ _ rfl w.heap.size d rfl rfl (by omega) (Nat.le_refl _) ?_; intro w1 hown1 hb1 hz1)
  go_loopw [8, 10, 11, 12, 23] (fun v _ _ _ i wr => ∃ (k : Nat) (acc : List Int), k ≤ ls.length ∧ i = .int .i64 k ∧ (∃ A c, v = .slice A d c) ∧ wr.ownsRow w.heap.size 3 1 v d (acc.map (.int .i64)) ∧ Hid (acc.length = d) ∧ InM (k * 1073741824) acc ∧ Hid (foldGo (fun x y => max x y) ls (zeros d) = foldGo (fun x y => max x y) (ls.drop k) acc) ∧ Below w.heap.size w wr) (fun _ _ _ _ i _ => ls.length - (intOf i).toNat)
  case atStart => exact ⟨0, zeros d, by omega, rfl, ⟨_, _, rfl⟩, hown1, Lib.hid (by simp [zeros]), by intro x hx; unfold zeros at hx; rw [List.mem_replicate] at hx; omega, Lib.hid rfl, hb1⟩
  case round =>
    obtain ⟨k, acc, hk, rfl, ⟨A1, c1, rfl⟩, hown, hacc, hin, hfold, hbel⟩ := hrel
    have HIN := Lib.hid hin
    have hz := hbel.size
    clear hin
    by_cases hlt : k < ls.length
    · obtain ⟨ad, l, Ai, ci, rfl, hadb, hl, hcl, hil⟩ := (hr.below (hbel.mono hB)).at_ hlt
      have hlm := List.mem_of_getElem? hl
      have HL := Lib.hid (HI.out l hlm)
      have HD := Lib.hid (drop_at' hl)
      have hacc2 : Ints wr wr.heap.size A1 acc := Ints.of_own (c := c1) (by rw [hacc.out]; exact hown) (by rw [hacc.out]; omega)
      clear hl hlm
      by_cases hle : l.length = d
      · have HLE := Lib.hid hle
        have HZ : Hid (InM ((k : Int) * 1073741824 + 1073741824) (List.zipWith (fun x y => max x y) acc l)) := Lib.hid (inM_zip HIN.out HL.out (by intro x y h1 h2 h3 h4; omega))
        rw [hle] at hcl
        have HC := Lib.hid (fun w1 => combine_most (fun x y => max x y) A1 c1 acc d hacc.out Ai ci l hle w1)
        have HOP : Hid (∀ x y w1, x ∈ acc → y ∈ l → Calls Try.prog 32 #[.int .i64 x, .int .i64 y] w1 fun e w' => e = .returned (.int .i64 (max x y)) ∧ w1 = w') := Lib.hid (fun x y w1 hx hy => by
          have h1 := HIN.out x hx
          have h2 := HL.out y hy
          first
            | exact most_any x y w1
            | exact most_any x y (by omega) w1)
        clear hle
        go_wp2_with (go_at_call 27; refine (HC.out _ wr.heap.size B (Nat.le_refl _) (by omega) hacc2 hil HOP.out).mono ?_; rintro e w2 ⟨A2, c2, rfl, hown2, hbel2⟩)
        go_roundw
        case rel =>
          refine ⟨k + 1, List.zipWith (fun x y => max x y) acc l, by omega, by go_num, ⟨A2, c2, rfl⟩, hown2.mono hz, Lib.hid (by rw [List.length_zipWith, hacc.out, HLE.out, Nat.min_self]), ?_, Lib.hid ?_, hbel.trans (hbel2.mono hz)⟩
          · have h := HZ.out
            rw [show ((k + 1 : Nat) : Int) * 1073741824 = (k : Int) * 1073741824 + 1073741824 by omega]
            exact h
          · rw [hfold.out, HD.out, foldGo, if_pos (by rw [hacc.out, HLE.out])]
        case measure => simp [intOf]; omega
      · have HLE := Lib.hid hle
        clear hle
        go_wp2_with (go_at_call 27; refine (combine_ne _ _ _ _ _ _ (fun h => HLE.out h.symm) _ _).mono ?_; rintro e w2 ⟨rfl, rfl⟩)
        go_ret2
        exact .inr ⟨by rw [hfold.out, HD.out, foldGo, if_neg (by rw [hacc.out]; exact HLE.out)], rfl, hbel⟩
    · have hkn : k = ls.length := by omega
      subst hkn
      clear hlt
      go_wp2
      go_ret2
      have hal : acc.length = d := hacc.out
      refine .inl ⟨acc, by rw [hfold.out, List.drop_length]; rfl, A1, c1, ?_, by rw [hal]; exact hown, hbel⟩
      rw [hal]
      rfl

set_option maxHeartbeats 1000000 in
theorem fold_plus (A : Option Addr) (c : Nat) (ls : List (List Int)) (d : Nat) (hd : d ≤ 3) (hls : ls.length ≤ 20) (w : World) (B : Nat) (hB : B ≤ w.heap.size) (hr : Rows2 w B A ls) (hi : ∀ l, l ∈ ls → InM 1073741824 l) :
    Calls Try.prog 31 #[.slice A ls.length c, .int .i64 d, .func (.func 28) #[] #[]] w (OutF w (foldGo (fun x y => x + y) ls (zeros d))) := by
  have HI := Lib.hid hi
  clear hi
  go_enter Try.func31, Try.ntmps31
  go_wp2_with (at_make; refine make_ints rfl _ _ rfl w.heap.size d rfl rfl (by omega) (Nat.le_refl _) ?_; intro w1 hown1 hb1 hz1)
  go_loopw [8, 10, 11, 12, 23] (fun v _ _ _ i wr => ∃ (k : Nat) (acc : List Int), k ≤ ls.length ∧ i = .int .i64 k ∧ (∃ A c, v = .slice A d c) ∧ wr.ownsRow w.heap.size 3 1 v d (acc.map (.int .i64)) ∧ Hid (acc.length = d) ∧ InM (k * 1073741824) acc ∧ Hid (foldGo (fun x y => x + y) ls (zeros d) = foldGo (fun x y => x + y) (ls.drop k) acc) ∧ Below w.heap.size w wr) (fun _ _ _ _ i _ => ls.length - (intOf i).toNat)
  case atStart => exact ⟨0, zeros d, by omega, rfl, ⟨_, _, rfl⟩, hown1, Lib.hid (by simp [zeros]), by intro x hx; unfold zeros at hx; rw [List.mem_replicate] at hx; omega, Lib.hid rfl, hb1⟩
  case round =>
    obtain ⟨k, acc, hk, rfl, ⟨A1, c1, rfl⟩, hown, hacc, hin, hfold, hbel⟩ := hrel
    have HIN := Lib.hid hin
    have hz := hbel.size
    clear hin
    by_cases hlt : k < ls.length
    · obtain ⟨ad, l, Ai, ci, rfl, hadb, hl, hcl, hil⟩ := (hr.below (hbel.mono hB)).at_ hlt
      have hlm := List.mem_of_getElem? hl
      have HL := Lib.hid (HI.out l hlm)
      have HD := Lib.hid (drop_at' hl)
      have hacc2 : Ints wr wr.heap.size A1 acc := Ints.of_own (c := c1) (by rw [hacc.out]; exact hown) (by rw [hacc.out]; omega)
      clear hl hlm
      by_cases hle : l.length = d
      · have HLE := Lib.hid hle
        have HZ : Hid (InM ((k : Int) * 1073741824 + 1073741824) (List.zipWith (fun x y => x + y) acc l)) := Lib.hid (inM_zip HIN.out HL.out (by intro x y h1 h2 h3 h4; omega))
        rw [hle] at hcl
        have HC := Lib.hid (fun w1 => combine_plus (fun x y => x + y) A1 c1 acc d hacc.out Ai ci l hle w1)
        have HOP : Hid (∀ x y w1, x ∈ acc → y ∈ l → Calls Try.prog 28 #[.int .i64 x, .int .i64 y] w1 fun e w' => e = .returned (.int .i64 (x + y)) ∧ w1 = w') := Lib.hid (fun x y w1 hx hy => by
          have h1 := HIN.out x hx
          have h2 := HL.out y hy
          first
            | exact most_any x y w1
            | exact plus_any x y (by omega) w1)
        clear hle
        go_wp2_with (go_at_call 27; refine (HC.out _ wr.heap.size B (Nat.le_refl _) (by omega) hacc2 hil HOP.out).mono ?_; rintro e w2 ⟨A2, c2, rfl, hown2, hbel2⟩)
        go_roundw
        case rel =>
          refine ⟨k + 1, List.zipWith (fun x y => x + y) acc l, by omega, by go_num, ⟨A2, c2, rfl⟩, hown2.mono hz, Lib.hid (by rw [List.length_zipWith, hacc.out, HLE.out, Nat.min_self]), ?_, Lib.hid ?_, hbel.trans (hbel2.mono hz)⟩
          · have h := HZ.out
            rw [show ((k + 1 : Nat) : Int) * 1073741824 = (k : Int) * 1073741824 + 1073741824 by omega]
            exact h
          · rw [hfold.out, HD.out, foldGo, if_pos (by rw [hacc.out, HLE.out])]
        case measure => simp [intOf]; omega
      · have HLE := Lib.hid hle
        clear hle
        go_wp2_with (go_at_call 27; refine (combine_ne _ _ _ _ _ _ (fun h => HLE.out h.symm) _ _).mono ?_; rintro e w2 ⟨rfl, rfl⟩)
        go_ret2
        exact .inr ⟨by rw [hfold.out, HD.out, foldGo, if_neg (by rw [hacc.out]; exact HLE.out)], rfl, hbel⟩
    · have hkn : k = ls.length := by omega
      subst hkn
      clear hlt
      go_wp2
      go_ret2
      have hal : acc.length = d := hacc.out
      refine .inl ⟨acc, by rw [hfold.out, List.drop_length]; rfl, A1, c1, ?_, by rw [hal]; exact hown, hbel⟩
      rw [hal]
      rfl
end Go.Proofs.Ytdmedphpddhjcaa.loads

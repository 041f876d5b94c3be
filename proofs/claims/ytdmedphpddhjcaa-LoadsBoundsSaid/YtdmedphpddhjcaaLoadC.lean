/- Contracts of Add and Sub, of the program and of the reference. -/
import Derived.Test.YtdmedphpddhjcaaLoadB
namespace Go.Proofs.Ytdmedphpddhjcaa.loads
open Go.RowKit
open Go.Proofs.Ytdmedphpddhjcaa.lib
set_option linter.unusedVariables false
attribute [local go_sem ↓] Go.wp_at_zero Go.wp_at_succ

/-- Numbers between -m and m. -/
def InM (m : Int) (l : List Int) : Prop := ∀ x, x ∈ l → -m ≤ x ∧ x ≤ m

theorem add_eq (A : Option Addr) (c : Nat) (a : List Int) (n : Nat) (hn : a.length = n) (A' : Option Addr) (c' : Nat) (b : List Int) (hm : b.length = n) (w : World) (B B' : Nat) (hB : B ≤ w.heap.size) (hB' : B' ≤ w.heap.size) (ha : Ints w B A a) (hb : Ints w B' A' b) (ia : InM 1073741824 a) (ib : InM 1073741824 b) :
    Calls Try.prog 13 #[.slice A n c, .slice A' n c'] w (OutE w (List.zipWith (fun x y => x + y) a b) n 0) := by
  have H := Lib.hid (combine_plus (fun x y => x + y) A c a n hn A' c' b hm w B B' hB hB' ha hb (fun x y w1 hx hy => plus_any x y (by have := ia x hx; have := ib y hy; omega) w1))
  clear hn hm ia ib
  go_enter Try.func13, Try.ntmps13
  go_wp2_with (go_at_call 27; refine H.out.mono ?_; rintro e w1 ⟨A1, c1, rfl, hown, hbel⟩)
  go_ret2
  exact ⟨_, _, rfl, hown, hbel⟩
theorem add_ne (A : Option Addr) (c : Nat) (n : Nat) (A' : Option Addr) (c' : Nat) (m : Nat) (h : ¬ n = m) (w : World) :
    Calls Try.prog 13 #[.slice A n c, .slice A' m c'] w fun e w' => e = .returned (.tuple #[.slice none 0 0, .int .i64 2]) ∧ w = w' := by
  have hd2 : ((n : Int) == (m : Int)) = false := by simp; omega
  have hd3 : ((n : Int) != (m : Int)) = true := by simp; omega
  clear h
  go_enter Try.func13, Try.ntmps13
  go_wp2
  go_ret2
  exact ⟨rfl, rfl⟩
theorem radd_ne (A : Option Addr) (c : Nat) (n : Nat) (A' : Option Addr) (c' : Nat) (m : Nat) (h : ¬ n = m) (w : World) :
    Calls Try.prog 17 #[.slice A n c, .slice A' m c'] w fun e w' => e = .returned (.tuple #[.slice none 0 0, .int .i64 2]) ∧ w = w' := by
  have hd2 : ((n : Int) == (m : Int)) = false := by simp; omega
  have hd3 : ((n : Int) != (m : Int)) = true := by simp; omega
  clear h
  go_enter Try.func17, Try.ntmps17
  go_wp2
  go_ret2
  exact ⟨rfl, rfl⟩
set_option maxHeartbeats 1000000 in
theorem radd_eq (A : Option Addr) (c : Nat) (a : List Int) (n : Nat) (hn : a.length = n) (A' : Option Addr) (c' : Nat) (b : List Int) (hm : b.length = n) (w : World) (B B' : Nat) (hB : B ≤ w.heap.size) (hB' : B' ≤ w.heap.size) (ha : Ints w B A a) (hb : Ints w B' A' b) (ia : InM 1073741824 a) (ib : InM 1073741824 b) :
    Calls Try.prog 17 #[.slice A n c, .slice A' n c'] w (OutE w (List.zipWith (fun x y => x + y) a b) n 0) := by
  have hlen := ha.len
  rw [hn] at hlen
  have HZ : Hid ((List.zipWith (fun x y => x + y) a b).length = n) := Lib.hid (by rw [List.length_zipWith]; omega)
  have HN := Lib.hid hn
  have HM := Lib.hid hm
  have IA := Lib.hid ia
  have IB := Lib.hid ib
  clear hn hm ia ib
  generalize hL : List.zipWith (fun x y => x + y) a b = L at *
  have HL := Lib.hid hL
  clear hL
  go_enter Try.func17, Try.ntmps17
  go_wp2
  go_loopw [6, 7] (fun v i wr => ∃ k : Nat, k ≤ n ∧ i = .int .i64 k ∧ (∃ A c, v = .slice A k c) ∧ wr.ownsRow w.heap.size 3 1 v k ((L.take k).map (.int .i64)) ∧ Below w.heap.size w wr) (fun _ i _ => n - (intOf i).toNat)
  case atStart => exact ⟨0, by omega, rfl, ⟨none, 0, rfl⟩, World.ownsRow_nil _ _ _ _, Below.refl _ _⟩
  case round =>
    obtain ⟨k, hk, rfl, ⟨A1, c1, rfl⟩, hown, hbel⟩ := hrel
    have hz := hbel.size
    by_cases hlt : k < n
    · obtain ⟨ad, x, rfl, hadb, hx, hcx⟩ := (ha.below (hbel.mono hB)).at_ (k := k) (by rw [HN.out]; exact hlt)
      obtain ⟨ad', y, rfl, hadb', hy, hcy⟩ := (hb.below (hbel.mono hB')).at_ (k := k) (by rw [HM.out]; exact hlt)
      have HX : Hid (L.take (k + 1) = L.take k ++ [x + y]) := Lib.hid (by
        have h1 := zip_at (op := fun x y => x + y) hx hy
        rw [HL.out] at h1
        obtain ⟨h2, h3⟩ := List.getElem?_eq_some_iff.1 h1
        rw [List.take_succ_eq_append_getElem h2, h3])
      obtain ⟨x0, x1⟩ := IA.out x (List.mem_of_getElem? hx)
      obtain ⟨y0, y1⟩ := IB.out y (List.mem_of_getElem? hy)
      have hk0 : (0 : Int) ≤ (k : Int) := by omega
      have hkn : (k : Int) < (n : Int) := by omega
      have fa : ad.block < wr.heap.size := by omega
      have fb : ad'.block < wr.heap.size := by omega
      have hsx : ∀ o, (wr.alloc o).cell? (ad.add k) = some (.int .i64 x) := fun o => (World.cell?_alloc_lt wr o _ (by rw [block_of_add]; exact fa)).trans hcx
      have hsy : ∀ o, (wr.alloc o).cell? (ad'.add k) = some (.int .i64 y) := fun o => (World.cell?_alloc_lt wr o _ (by rw [block_of_add]; exact fb)).trans hcy
      have hW : IntKind.i64.wrap (x + y) = x + y := IntWalk.i64_in _ (by omega)
      clear hx hy
      go_wp2
      go_region_held3 (fun w' => w'.cell? (ad.add k) = some (.int .i64 x) ∧ w'.cell? (ad'.add k) = some (.int .i64 y)) (go_keep)
        ((refine step_push_int (by rfl) _ _ (by rfl) w.heap.size _ k (L.take k) (by rfl) (by exact (hown.alloc _)) wr.heap.size (x + y) (by rfl) (by simp) (by omega) (by simp; omega) ?_; intro A2 c2 w2 hown2 hb2; have k1 : w2.cell? (ad.add k) = some (.int .i64 x) := (hb2.cell (by rw [block_of_add]; omega)).trans (hsx _); have k2 : w2.cell? (ad'.add k) = some (.int .i64 y) := (hb2.cell (by rw [block_of_add]; omega)).trans (hsy _)))
      go_wp2
      go_roundw
      case rel => exact ⟨k + 1, by omega, by go_num, ⟨A2, c2, rfl⟩, by rw [HX.out]; exact hown2, ((hbel.alloc hz _).drew).trans hb2⟩
      case measure => simp [intOf]; omega
    · have hkn : k = n := by omega
      subst hkn
      clear hlt
      rw [List.take_of_length_le (by rw [HZ.out]; exact Nat.le_refl _)] at hown
      go_wp2
      go_ret2
      exact ⟨_, _, rfl, hown, hbel⟩

theorem sub_eq (A : Option Addr) (c : Nat) (a : List Int) (n : Nat) (hn : a.length = n) (A' : Option Addr) (c' : Nat) (b : List Int) (hm : b.length = n) (w : World) (B B' : Nat) (hB : B ≤ w.heap.size) (hB' : B' ≤ w.heap.size) (ha : Ints w B A a) (hb : Ints w B' A' b) (ia : InM 1073741824 a) (ib : InM 1073741824 b) :
    Calls Try.prog 14 #[.slice A n c, .slice A' n c'] w (OutE w (List.zipWith (fun x y => x - y) a b) n 0) := by
  have H := Lib.hid (combine_minus (fun x y => x - y) A c a n hn A' c' b hm w B B' hB hB' ha hb (fun x y w1 hx hy => minus_any x y (by have := ia x hx; have := ib y hy; omega) w1))
  clear hn hm ia ib
  go_enter Try.func14, Try.ntmps14
  go_wp2_with (go_at_call 27; refine H.out.mono ?_; rintro e w1 ⟨A1, c1, rfl, hown, hbel⟩)
  go_ret2
  exact ⟨_, _, rfl, hown, hbel⟩
theorem sub_ne (A : Option Addr) (c : Nat) (n : Nat) (A' : Option Addr) (c' : Nat) (m : Nat) (h : ¬ n = m) (w : World) :
    Calls Try.prog 14 #[.slice A n c, .slice A' m c'] w fun e w' => e = .returned (.tuple #[.slice none 0 0, .int .i64 2]) ∧ w = w' := by
  have hd2 : ((n : Int) == (m : Int)) = false := by simp; omega
  have hd3 : ((n : Int) != (m : Int)) = true := by simp; omega
  clear h
  go_enter Try.func14, Try.ntmps14
  go_wp2
  go_ret2
  exact ⟨rfl, rfl⟩
theorem rsub_ne (A : Option Addr) (c : Nat) (n : Nat) (A' : Option Addr) (c' : Nat) (m : Nat) (h : ¬ n = m) (w : World) :
    Calls Try.prog 18 #[.slice A n c, .slice A' m c'] w fun e w' => e = .returned (.tuple #[.slice none 0 0, .int .i64 2]) ∧ w = w' := by
  have hd2 : ((n : Int) == (m : Int)) = false := by simp; omega
  have hd3 : ((n : Int) != (m : Int)) = true := by simp; omega
  clear h
  go_enter Try.func18, Try.ntmps18
  go_wp2
  go_ret2
  exact ⟨rfl, rfl⟩
set_option maxHeartbeats 1000000 in
theorem rsub_eq (A : Option Addr) (c : Nat) (a : List Int) (n : Nat) (hn : a.length = n) (A' : Option Addr) (c' : Nat) (b : List Int) (hm : b.length = n) (w : World) (B B' : Nat) (hB : B ≤ w.heap.size) (hB' : B' ≤ w.heap.size) (ha : Ints w B A a) (hb : Ints w B' A' b) (ia : InM 1073741824 a) (ib : InM 1073741824 b) :
    Calls Try.prog 18 #[.slice A n c, .slice A' n c'] w (OutE w (List.zipWith (fun x y => x - y) a b) n 0) := by
  have hlen := ha.len
  rw [hn] at hlen
  have HZ : Hid ((List.zipWith (fun x y => x - y) a b).length = n) := Lib.hid (by rw [List.length_zipWith]; omega)
  have HN := Lib.hid hn
  have HM := Lib.hid hm
  have IA := Lib.hid ia
  have IB := Lib.hid ib
  clear hn hm ia ib
  generalize hL : List.zipWith (fun x y => x - y) a b = L at *
  have HL := Lib.hid hL
  clear hL
  go_enter Try.func18, Try.ntmps18
  go_wp2
  go_loopw [6, 7] (fun v i wr => ∃ k : Nat, k ≤ n ∧ i = .int .i64 k ∧ (∃ A c, v = .slice A k c) ∧ wr.ownsRow w.heap.size 3 1 v k ((L.take k).map (.int .i64)) ∧ Below w.heap.size w wr) (fun _ i _ => n - (intOf i).toNat)
  case atStart => exact ⟨0, by omega, rfl, ⟨none, 0, rfl⟩, World.ownsRow_nil _ _ _ _, Below.refl _ _⟩
  case round =>
    obtain ⟨k, hk, rfl, ⟨A1, c1, rfl⟩, hown, hbel⟩ := hrel
    have hz := hbel.size
    by_cases hlt : k < n
    · obtain ⟨ad, x, rfl, hadb, hx, hcx⟩ := (ha.below (hbel.mono hB)).at_ (k := k) (by rw [HN.out]; exact hlt)
      obtain ⟨ad', y, rfl, hadb', hy, hcy⟩ := (hb.below (hbel.mono hB')).at_ (k := k) (by rw [HM.out]; exact hlt)
      have HX : Hid (L.take (k + 1) = L.take k ++ [x - y]) := Lib.hid (by
        have h1 := zip_at (op := fun x y => x - y) hx hy
        rw [HL.out] at h1
        obtain ⟨h2, h3⟩ := List.getElem?_eq_some_iff.1 h1
        rw [List.take_succ_eq_append_getElem h2, h3])
      obtain ⟨x0, x1⟩ := IA.out x (List.mem_of_getElem? hx)
      obtain ⟨y0, y1⟩ := IB.out y (List.mem_of_getElem? hy)
      have hk0 : (0 : Int) ≤ (k : Int) := by omega
      have hkn : (k : Int) < (n : Int) := by omega
      have fa : ad.block < wr.heap.size := by omega
      have fb : ad'.block < wr.heap.size := by omega
      have hsx : ∀ o, (wr.alloc o).cell? (ad.add k) = some (.int .i64 x) := fun o => (World.cell?_alloc_lt wr o _ (by rw [block_of_add]; exact fa)).trans hcx
      have hsy : ∀ o, (wr.alloc o).cell? (ad'.add k) = some (.int .i64 y) := fun o => (World.cell?_alloc_lt wr o _ (by rw [block_of_add]; exact fb)).trans hcy
      have hW : IntKind.i64.wrap (x - y) = x - y := IntWalk.i64_in _ (by omega)
      clear hx hy
      go_wp2
      go_region_held3 (fun w' => w'.cell? (ad.add k) = some (.int .i64 x) ∧ w'.cell? (ad'.add k) = some (.int .i64 y)) (go_keep)
        ((refine step_push_int (by rfl) _ _ (by rfl) w.heap.size _ k (L.take k) (by rfl) (by exact (hown.alloc _)) wr.heap.size (x - y) (by rfl) (by simp) (by omega) (by simp; omega) ?_; intro A2 c2 w2 hown2 hb2; have k1 : w2.cell? (ad.add k) = some (.int .i64 x) := (hb2.cell (by rw [block_of_add]; omega)).trans (hsx _); have k2 : w2.cell? (ad'.add k) = some (.int .i64 y) := (hb2.cell (by rw [block_of_add]; omega)).trans (hsy _)))
      go_wp2
      go_roundw
      case rel => exact ⟨k + 1, by omega, by go_num, ⟨A2, c2, rfl⟩, by rw [HX.out]; exact hown2, ((hbel.alloc hz _).drew).trans hb2⟩
      case measure => simp [intOf]; omega
    · have hkn : k = n := by omega
      subst hkn
      clear hlt
      rw [List.take_of_length_le (by rw [HZ.out]; exact Nat.le_refl _)] at hown
      go_wp2
      go_ret2
      exact ⟨_, _, rfl, hown, hbel⟩
end Go.Proofs.Ytdmedphpddhjcaa.loads

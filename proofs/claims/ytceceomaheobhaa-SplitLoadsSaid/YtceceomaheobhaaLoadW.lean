/- loads.Add alone: printed from LoadB, LoadC. Portable. -/
import Derived.Test.YtceceomaheobhaaBase
import Derived.Deep.RegionWith
import Derived.Deep.RegionHeld3
import Derived.Deep.DrawnRows
import Derived.Deep.DeepMust
namespace Go.Proofs.Ytceceomaheobhaa.lod
open Go.RowKit
open Go.Proofs.Ytceceomaheobhaa.lib Go.Proofs.Ytceceomaheobhaa.loads
set_option linter.unusedVariables false
attribute [local go_sem ↓] Go.wp_at_zero Go.wp_at_succ

theorem plus_any (x y : Int) (h : -1099511627776 ≤ x + y ∧ x + y ≤ 1099511627776) (w : World) : Calls Try.prog 77 #[.int .i64 x, .int .i64 y] w fun e w' => e = .returned (.int .i64 (x + y)) ∧ w = w' := by
  go_enter Try.func77, Try.ntmps77
  go_wp2
  go_ret
  exact ⟨rfl, rfl⟩
theorem far_ne {p q : Addr} (h : q.block < p.block) : q ≠ p := fun e => by subst e; omega

/-- What Add and its kin hand back: the list in new memory, or nil and an error. -/
def OutE (w : World) (l : List Int) (n : Nat) (x : Int) (e : Ending) (w' : World) : Prop :=
  ∃ A c, e = .returned (.tuple #[.slice A n c, .int .i64 x]) ∧ w'.ownsRow w.heap.size 3 1 (.slice A n c) n (l.map (.int .i64)) ∧ Below w.heap.size w w'

/-- Numbers between -m and m. -/
def InM (m : Int) (l : List Int) : Prop := ∀ x, x ∈ l → -m ≤ x ∧ x ≤ m

set_option maxHeartbeats 1000000 in
theorem combine_plus (op : Int → Int → Int) (A : Option Addr) (c : Nat) (a : List Int) (n : Nat) (hn : a.length = n) (A' : Option Addr) (c' : Nat) (b : List Int) (hm : b.length = n) (w : World) (B B' : Nat) (hB : B ≤ w.heap.size) (hB' : B' ≤ w.heap.size) (ha : Ints w B A a) (hb : Ints w B' A' b)
    (hop : ∀ x y w1, x ∈ a → y ∈ b → Calls Try.prog 77 #[.int .i64 x, .int .i64 y] w1 fun e w' => e = .returned (.int .i64 (op x y)) ∧ w1 = w') :
    Calls Try.prog 76 #[.slice A n c, .slice A' n c', .func (.func 77) #[] #[]] w (OutE w (List.zipWith op a b) n 0) := by
  have hlen := ha.len
  rw [hn] at hlen
  have HZ : Hid ((List.zipWith op a b).length = n) := Lib.hid (by rw [List.length_zipWith]; omega)
  have HN := Lib.hid hn
  have HM := Lib.hid hm
  have HOP := Lib.hid hop
  clear hn hm hop
  go_enter Try.func76, Try.ntmps76
  go_wp2_with (at_make; refine make_ints rfl _ _ rfl w.heap.size n rfl rfl (by omega) (Nat.le_refl _) ?_; intro w1 hown1 hb1 hz1)
  have hz0 := hb1.size
  go_loopw [9, 20] (fun _ i wr => ∃ k : Nat, k ≤ n ∧ i = .int .i64 k ∧ wr.ownsRow w.heap.size 3 1 (.slice (some ⟨w.heap.size, 0, none⟩) n n) n ((partL (List.zipWith op a b) n k).map (.int .i64)) ∧ Below w.heap.size w wr) (fun _ i _ => n - (intOf i).toNat)
  case atStart => exact ⟨0, by omega, rfl, by rw [partL_zero]; exact hown1, hb1⟩
  case round =>
    obtain ⟨k, hk, rfl, hown, hbel⟩ := hrel
    by_cases hlt : k < n
    · obtain ⟨ad, x, rfl, hadb, hx, hcx⟩ := (ha.below (hbel.mono hB)).at_ (k := k) (by rw [HN.out]; exact hlt)
      obtain ⟨ad', y, rfl, hadb', hy, hcy⟩ := (hb.below (hbel.mono hB')).at_ (k := k) (by rw [HM.out]; exact hlt)
      have HX := Lib.hid (partL_set HZ.out (zip_at (op := op) hx hy))
      have HC := Lib.hid (fun w1 => HOP.out x y w1 (List.mem_of_getElem? hx) (List.mem_of_getElem? hy))
      have hst := (hown.stored k (.int .i64 (op x y))).1
      rw [← List.map_set, HX.out] at hst
      have HST := Lib.hid hst
      have hfz := hown.frozenAt k
      have hck := own_cells hown k hlt
      have hk0 : (0 : Int) ≤ (k : Int) := by omega
      have hkn : (k : Int) < (n : Int) := by omega
      have hsx : ∀ u, (wr.setCell ⟨w.heap.size, k, none⟩ u).cell? (ad.add k) = some (.int .i64 x) := fun u => (World.cell?_setCell_other _ _ _ _ (Ne.symm (far_ne (p := ⟨w.heap.size, k, none⟩) (by rw [block_of_add]; show _ < w.heap.size; omega)))).trans hcx
      have hsy : ∀ u, (wr.setCell ⟨w.heap.size, k, none⟩ u).cell? (ad'.add k) = some (.int .i64 y) := fun u => (World.cell?_setCell_other _ _ _ _ (Ne.symm (far_ne (p := ⟨w.heap.size, k, none⟩) (by rw [block_of_add]; show _ < w.heap.size; omega)))).trans hcy
      clear hx hy hst
      go_wp2
      go_region_held3 (fun w' => w'.cell? (ad.add k) = some (.int .i64 x) ∧ w'.cell? (ad'.add k) = some (.int .i64 y) ∧ w'.frozen? ⟨w.heap.size, k, none⟩ = false) (go_keep)
        ((go_at_call 77; refine (HC.out _).mono ?_; rintro e w' ⟨rfl, rfl⟩))
      go_wp2
      go_roundw
      case rel => exact ⟨k + 1, by omega, by go_num, HST.out, hbel.drew.setCell (p := ⟨w.heap.size, _, none⟩) (Nat.le_refl _) _⟩
      case measure => simp [intOf]; omega
    · have hkn : k = n := by omega
      subst hkn
      clear hlt
      rw [partL_full HZ.out] at hown
      go_wp2
      go_ret2
      exact ⟨_, _, rfl, hown, hbel⟩

theorem add_eq (A : Option Addr) (c : Nat) (a : List Int) (n : Nat) (hn : a.length = n) (A' : Option Addr) (c' : Nat) (b : List Int) (hm : b.length = n) (w : World) (B B' : Nat) (hB : B ≤ w.heap.size) (hB' : B' ≤ w.heap.size) (ha : Ints w B A a) (hb : Ints w B' A' b) (ia : InM 1073741824 a) (ib : InM 1073741824 b) :
    Calls Try.prog 59 #[.slice A n c, .slice A' n c'] w (OutE w (List.zipWith (fun x y => x + y) a b) n 0) := by
  have H := Lib.hid (combine_plus (fun x y => x + y) A c a n hn A' c' b hm w B B' hB hB' ha hb (fun x y w1 hx hy => plus_any x y (by have := ia x hx; have := ib y hy; omega) w1))
  clear hn hm ia ib
  go_enter Try.func59, Try.ntmps59
  go_wp2_with (go_at_call 76; refine H.out.mono ?_; rintro e w1 ⟨A1, c1, rfl, hown, hbel⟩)
  go_ret2
  exact ⟨_, _, rfl, hown, hbel⟩
theorem add_ne (A : Option Addr) (c : Nat) (n : Nat) (A' : Option Addr) (c' : Nat) (m : Nat) (h : ¬ n = m) (w : World) :
    Calls Try.prog 59 #[.slice A n c, .slice A' m c'] w fun e w' => e = .returned (.tuple #[.slice none 0 0, .int .i64 2]) ∧ w = w' := by
  have hd2 : ((n : Int) == (m : Int)) = false := by simp; omega
  have hd3 : ((n : Int) != (m : Int)) = true := by simp; omega
  clear h
  go_enter Try.func59, Try.ntmps59
  go_wp2
  go_ret2
  exact ⟨rfl, rfl⟩
end Go.Proofs.Ytceceomaheobhaa.lod

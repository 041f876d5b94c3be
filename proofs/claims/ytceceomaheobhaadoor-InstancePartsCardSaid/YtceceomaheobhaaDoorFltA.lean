/- Ranges; capacities. -/
import Derived.Test.YtceceomaheobhaaDoorTyp
namespace Go.Proofs.YtceceomaheobhaaDoor.flt
open Go.RowKit
open Go.Proofs.YtceceomaheobhaaDoor.lib
set_option linter.unusedVariables false

/-- n is from a to b. -/
def inB (n a b : Int) : Bool := decide (a ≤ n ∧ n ≤ b)
theorem within_any (n a b : Int) (w : World) : Calls Tryd.prog 49 #[.int .i64 n, .int .i64 a, .int .i64 b] w fun e w' => e = .returned (.bool (inB n a b)) ∧ w = w' := by
  have HR : Hid (inB n a b = decide (a ≤ n ∧ n ≤ b)) := Lib.hid rfl
  by_cases h : n < a
  · go_enter Tryd.func49, Tryd.ntmps49
    go_wp2
    go_ret
    exact ⟨ret_bool (by rw [HR.out]; rw [Bool.eq_iff_iff]; simp; omega), rfl⟩
  · go_enter Tryd.func49, Tryd.ntmps49
    go_wp2
    go_ret
    exact ⟨ret_bool (by rw [HR.out]; rw [Bool.eq_iff_iff]; simp; omega), rfl⟩

def capB (l : List Int) (m : Nat) : Bool := decide (1 ≤ l.length ∧ l.length ≤ 3 ∧ l.length = m) && l.all (fun x => inB x 0 1000)

theorem capF_any (x : Int) (w : World) : Calls Tryd.prog 80 #[.int .i64 x] w fun e w' => e = .returned (.bool (!inB x 0 1000)) ∧ w = w' := by
  go_enter Tryd.func80, Tryd.ntmps80
  go_wp2_with (go_at_call 49; refine (within_any _ _ _ _).mono ?_; rintro e w1 ⟨rfl, rfl⟩)
  go_ret
  exact ⟨rfl, rfl⟩

/-- An index that is no less than 0 just if there is one. -/
def IdxOut (b : Bool) (w : World) (e : Ending) (w' : World) : Prop := ∃ r : Int, e = .returned (.int .i64 r) ∧ decide (0 ≤ r) = b ∧ Below w.heap.size w w'
theorem any_at {α : Type} {p : α → Bool} {l : List α} {k : Nat} {x : α} (h : l[k]? = some x) : (l.drop k).any p = (p x || (l.drop (k + 1)).any p) := by rw [drop_at' h]; rfl
theorem any_end {α : Type} {p : α → Bool} {l : List α} {k : Nat} (h : l.length ≤ k) : (l.drop k).any p = false := by rw [List.drop_of_length_le h]; rfl

theorem idxInts_any (A : Option Addr) (c : Nat) (l : List Int) (w : World) (hL : Ints w w.heap.size A l) :
    Calls Tryd.prog 84 #[.slice A l.length c, .func (.func 80) #[] #[]] w (IdxOut (l.any (fun x => !inB x 0 1000)) w) := by
  obtain ⟨R, hR⟩ : ∃ R, l.any (fun x => !inB x 0 1000) = R := ⟨_, rfl⟩
  have HR : Hid ((l.drop 0).any (fun x => !inB x 0 1000) = R) := Lib.hid hR
  rw [hR]
  clear hR
  have hlen := hL.len
  go_enter Tryd.func84, Tryd.ntmps84
  go_wp2
  go_loop [5, 8] (fun _ i => ∃ k : Nat, k ≤ l.length ∧ i = .int .i64 k ∧ Hid ((l.drop k).any (fun x => !inB x 0 1000) = R)) (fun _ i => l.length - (intOf i).toNat)
  case atStart => exact ⟨0, by omega, rfl, HR⟩
  case round =>
    obtain ⟨k, hk, rfl, hr⟩ := hrel
    by_cases hlt : k < l.length
    · obtain ⟨ad, x, rfl, hadb, hx, hcell⟩ := hL.at_ hlt
      have hst := Lib.hid (any_at (p := fun x => !inB x 0 1000) hx)
      have hk0 : (0 : Int) ≤ (k : Int) := by omega
      have hkn : (k : Int) < (l.length : Int) := by omega
      clear hx
      cases hb : inB x 0 1000
      · have HT : Hid (R = true) := Lib.hid (by rw [← hr.out, hst.out, hb]; rfl)
        go_wp2_with (go_at_call 80; refine (capF_any _ _).mono ?_; rintro e w1 ⟨rfl, rfl⟩)
        go_ret
        exact ⟨k, rfl, by rw [HT.out]; simp, Below.refl _ _⟩
      · have HT : Hid ((l.drop (k + 1)).any (fun x => !inB x 0 1000) = R) := Lib.hid (by rw [← hr.out, hst.out, hb]; rfl)
        go_wp2_with (go_at_call 80; refine (capF_any _ _).mono ?_; rintro e w1 ⟨rfl, rfl⟩)
        go_round
        case rel => exact ⟨k + 1, by omega, by go_num, HT⟩
        case measure => simp [intOf]; omega
    · have HT : Hid (R = false) := Lib.hid (by rw [← hr.out, any_end (by omega)])
      go_wp2
      go_ret
      exact ⟨-1, rfl, by rw [HT.out]; simp, Below.refl _ _⟩

theorem hasInts_any (A : Option Addr) (c : Nat) (l : List Int) (w : World) (hL : Ints w w.heap.size A l) :
    Calls Tryd.prog 79 #[.slice A l.length c, .func (.func 80) #[] #[]] w fun e w' => e = .returned (.bool (l.any (fun x => !inB x 0 1000))) ∧ Below w.heap.size w w' := by
  go_enter Tryd.func79, Tryd.ntmps79
  go_wp2_with fail
  refine (idxInts_any A c l w hL).mono ?_
  rintro e w1 ⟨r, rfl, hr, hb⟩
  have HR := Lib.hid hr
  clear hr
  go_wp2
  go_ret
  exact ⟨ret_bool HR.out, hb⟩
end Go.Proofs.YtceceomaheobhaaDoor.flt

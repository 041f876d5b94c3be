/- slices.Index of numbers. Portable. -/
import Derived.Test.YtceceomaheobhaaDoorRd
namespace Go.Proofs.YtceceomaheobhaaDoor.idx
open Go.RowKit
open Go.Proofs.YtceceomaheobhaaDoor.lib Go.Proofs.YtceceomaheobhaaDoor.rd
set_option linter.unusedVariables false
set_option linter.unusedSimpArgs false

/-- The place of a number in a list, from k on. -/
def idxGo (n : Int) : List Int → Int → Int
  | [], _ => -1
  | x :: xs, k => if n = x then k else idxGo n xs (k + 1)
def idxI (l : List Int) (n : Int) : Int := idxGo n l 0
theorem idx_yes {l : List Int} {n : Int} {k : Nat} {x : Int} (h : l[k]? = some x) (hx : n = x) : idxGo n (l.drop k) k = k := by rw [drop_at h, idxGo, if_pos hx]
theorem idx_no {l : List Int} {n : Int} {k : Nat} {x : Int} (h : l[k]? = some x) (hx : ¬ n = x) : idxGo n (l.drop k) k = idxGo n (l.drop (k + 1)) ((k + 1 : Nat) : Int) := by rw [drop_at h, idxGo, if_neg hx]; rfl
theorem idx_end {l : List Int} {n : Int} {k : Nat} (h : l.length ≤ k) (z : Int) : idxGo n (l.drop k) z = -1 := by rw [List.drop_of_length_le h]; rfl
set_option maxHeartbeats 1000000 in
theorem index_any (A : Option Addr) (c : Nat) (l : List Int) (n : Int) (w : World) (B : Nat) (hl : Ints w B A l) :
    Calls Tryd.prog 55 #[.slice A l.length c, .int .i64 n] w fun e w' => e = .returned (.int .i64 (idxI l n)) ∧ w = w' := by
  have hlen := hl.len
  have HR : Hid (idxI l n = idxGo n (l.drop 0) ((0 : Nat) : Int)) := Lib.hid rfl
  obtain ⟨R, hR⟩ : ∃ R, idxI l n = R := ⟨_, rfl⟩
  rw [hR] at HR ⊢
  clear hR
  go_enter Tryd.func55, Tryd.ntmps55
  go_wp2
  go_loop [5, 8] (fun _ i => ∃ k : Nat, k ≤ l.length ∧ i = .int .i64 k ∧ Hid (R = idxGo n (l.drop k) (k : Int))) (fun _ i => l.length - (intOf i).toNat)
  case atStart => exact ⟨0, by omega, rfl, HR⟩
  case round =>
    obtain ⟨k, hk, rfl, hr⟩ := hrel
    by_cases hlt : k < l.length
    · obtain ⟨ad, x, rfl, hadb, hx, hcx⟩ := hl.at_ hlt
      have hk0 : (0 : Int) ≤ (k : Int) := by omega
      have hkn : (k : Int) < (l.length : Int) := by omega
      have HY : Hid (n = x → R = k) := Lib.hid fun h => by rw [hr.out]; exact idx_yes hx h
      have HN : Hid (¬ n = x → R = idxGo n (l.drop (k + 1)) ((k + 1 : Nat) : Int)) := Lib.hid fun h => by rw [hr.out]; exact idx_no hx h
      clear hx
      cases hq : (n == x)
      · have HZ := Lib.hid (HN.out (by intro e; subst e; simp at hq))
        go_wp2
        go_round
        case rel => exact ⟨k + 1, by omega, by go_num, HZ⟩
        case measure => simp [intOf]; omega
      · have HZ := Lib.hid (HY.out (by simpa using hq))
        go_wp2
        go_ret
        exact ⟨ret_int HZ.out.symm, rfl⟩
    · have HZ : Hid (R = -1) := Lib.hid (by rw [hr.out, idx_end (by omega)])
      go_wp2
      go_ret
      exact ⟨ret_int HZ.out.symm, rfl⟩
end Go.Proofs.YtceceomaheobhaaDoor.idx

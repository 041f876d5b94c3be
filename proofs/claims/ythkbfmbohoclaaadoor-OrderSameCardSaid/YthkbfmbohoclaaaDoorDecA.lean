/- Numbers below 20, written. -/
import Derived.Test.YthkbfmbohoclaaaDoorLib
import Derived.Laws.IdiomStrings
namespace Go.Proofs.YthkbfmbohoclaaaDoor.txt
open Go.RowKit
open Go.Proofs.YthkbfmbohoclaaaDoor.lib
set_option linter.unusedVariables false

/-- A number below 20, written. -/
def decS (n : Nat) : ByteArray := if n < 10 then ⟨#[(48 + n).toUInt8]⟩ else ⟨#[(48 + n / 10).toUInt8, (48 + n % 10).toUInt8]⟩

theorem ret_str {a b : ByteArray} (h : a = b) : Ending.returned (.string a) = .returned (.string b) := by rw [h]
theorem tab1 {n : Nat} (h : n < 10) : (⟨#[48, 49, 50, 51, 52, 53, 54, 55, 56, 57, 97, 98, 99, 100, 101, 102, 103, 104, 105, 106, 107, 108, 109, 110, 111, 112, 113, 114, 115, 116, 117, 118, 119, 120, 121, 122]⟩ : ByteArray).extract n (n + 1) = decS n := by
  have hc : n = 0 ∨ n = 1 ∨ n = 2 ∨ n = 3 ∨ n = 4 ∨ n = 5 ∨ n = 6 ∨ n = 7 ∨ n = 8 ∨ n = 9 := by omega
  clear h
  rcases hc with rfl | rfl | rfl | rfl | rfl | rfl | rfl | rfl | rfl | rfl <;> exact of_decide_eq_true (by kernel_rfl)
set_option maxRecDepth 100000 in
theorem tab2 {n : Nat} (h0 : ¬ n < 10) (h : n < 20) : (⟨#[48, 48, 48, 49, 48, 50, 48, 51, 48, 52, 48, 53, 48, 54, 48, 55, 48, 56, 48, 57, 49, 48, 49, 49, 49, 50, 49, 51, 49, 52, 49, 53, 49, 54, 49, 55, 49, 56, 49, 57, 50, 48, 50, 49, 50, 50, 50, 51, 50, 52, 50, 53, 50, 54, 50, 55, 50, 56, 50, 57, 51, 48, 51, 49, 51, 50, 51, 51, 51, 52, 51, 53, 51, 54, 51, 55, 51, 56, 51, 57, 52, 48, 52, 49, 52, 50, 52, 51, 52, 52, 52, 53, 52, 54, 52, 55, 52, 56, 52, 57, 53, 48, 53, 49, 53, 50, 53, 51, 53, 52, 53, 53, 53, 54, 53, 55, 53, 56, 53, 57, 54, 48, 54, 49, 54, 50, 54, 51, 54, 52, 54, 53, 54, 54, 54, 55, 54, 56, 54, 57, 55, 48, 55, 49, 55, 50, 55, 51, 55, 52, 55, 53, 55, 54, 55, 55, 55, 56, 55, 57, 56, 48, 56, 49, 56, 50, 56, 51, 56, 52, 56, 53, 56, 54, 56, 55, 56, 56, 56, 57, 57, 48, 57, 49, 57, 50, 57, 51, 57, 52, 57, 53, 57, 54, 57, 55, 57, 56, 57, 57]⟩ : ByteArray).extract (n * 2) (n * 2 + 2) = decS n := by
  have hc : n = 10 ∨ n = 11 ∨ n = 12 ∨ n = 13 ∨ n = 14 ∨ n = 15 ∨ n = 16 ∨ n = 17 ∨ n = 18 ∨ n = 19 := by omega
  clear h h0
  rcases hc with rfl | rfl | rfl | rfl | rfl | rfl | rfl | rfl | rfl | rfl <;> exact of_decide_eq_true (by kernel_rfl)
set_option maxRecDepth 100000 in
theorem small_any (n : Nat) (hn : n < 20) (w : World) : Calls Tryd.prog 83 #[.int .i64 n] w fun e w' => e = .returned (.string (decS n)) ∧ w = w' := by
  have hn' : (n : Int) < 20 := by omega
  have hn0 : (0 : Int) ≤ n := by omega
  by_cases h : n < 10
  · have h' : (n : Int) < 10 := by omega
    go_enter Tryd.func83, Tryd.ntmps83
    go_wp2
    go_ret
    exact ⟨ret_str (tab1 h), rfl⟩
  · have h' : ¬ (n : Int) < 10 := by omega
    go_enter Tryd.func83, Tryd.ntmps83
    go_wp2
    go_ret
    exact ⟨ret_str (tab2 h hn), rfl⟩
def agn : Value → Nat
  | .bool true => 1
  | _ => 0
theorem conv_one (w : World) (z : Int) (b : UInt8) (hb : (b.toNat : Int) = z) : (convert 81 9 (.slice (some ⟨w.heap.size, 0, none⟩) 1 1)).run Tryd.prog (w.alloc (.cells #[.int .u8 z] 5)) = .ok (.string ⟨#[b]⟩) (w.alloc (.cells #[.int .u8 z] 5)) := by
  refine run_convert_bytes_back (P := Tryd.prog) _ 81 9 5 ⟨w.heap.size, 0, none⟩ 1 [b] Tryd.underlying81 Tryd.underlying5 Tryd.underlying9 ?_
  intro j hj
  obtain rfl : j = 0 := by simpa using hj
  have hc := (cell_one_new w (.int .u8 z) 5)
  simp only [List.getElem_cons_zero]
  rw [hb]
  simpa using hc 0 (.int .u8 z) rfl
theorem byte_of {b : UInt8} {n : Nat} (h : (b.toNat : Int) = 48 + (n : Int)) (hn : n < 20) : b = (48 + n).toUInt8 := by
  apply UInt8.toNat_inj.1
  rw [Nat.toUInt8_eq, UInt8.toNat_ofNat']
  omega
theorem dec1 {n : Nat} {b : UInt8} (hn : n < 10) (h : (b.toNat : Int) = 48 + (n : Int) % 10) : decS n = ⟨#[b]⟩ ++ ⟨#[]⟩ := by
  have e := byte_of (n := n) (b := b) (by omega) (by omega)
  unfold decS
  rw [if_pos hn, e]
  rfl
theorem dec2 {n : Nat} {b c : UInt8} (h0 : ¬ n < 10) (hn : n < 20) (h : (b.toNat : Int) = 48 + (n : Int) % 10) (hc : (c.toNat : Int) = 48 + ((n / 10 : Nat) : Int) % 10) : decS n = ⟨#[c]⟩ ++ (⟨#[b]⟩ ++ ⟨#[]⟩) := by
  have e := byte_of (n := n % 10) (b := b) (by omega) (by omega)
  have e2 := byte_of (n := n / 10) (b := c) (by omega) (by omega)
  unfold decS
  rw [if_neg h0, e, e2]
  rfl
theorem byte_ex (m : Nat) : ∃ b : UInt8, (b.toNat : Int) = 48 + (m : Int) % 10 := ⟨(48 + m % 10).toUInt8, by rw [Nat.toUInt8_eq, UInt8.toNat_ofNat']; omega⟩
set_option maxRecDepth 100000 in
theorem rdec_any (n : Nat) (hn : n < 20) (w : World) : Calls Tryd.prog 40 #[.int .i64 n] w fun e w' => e = .returned (.string (decS n)) ∧ Below w.heap.size w w' := by
  have hn' : (n : Int) < 20 := by omega
  have hn0 : (0 : Int) ≤ n := by omega
  go_enter Tryd.func40, Tryd.ntmps40
  go_wp2
  go_loopw [3, 4, 5, 6] (fun s l g _ wr => Below w.heap.size w wr ∧ ∃ m : Nat, l = .int .i64 m ∧ m < 20 ∧ ((g = .bool true ∧ Hid (m = n) ∧ s = .string ⟨#[]⟩) ∨ (g = .bool true ∧ ∃ b : UInt8, Hid (m = n / 10 ∧ 10 ≤ n ∧ (b.toNat : Int) = 48 + (n : Int) % 10) ∧ s = .string (⟨#[b]⟩ ++ ⟨#[]⟩)) ∨ (g = .bool false ∧ m = 0 ∧ s = .string (decS n)))) (fun _ l g _ _ => 2 * (intOf l).toNat + agn g)
  case atStart => exact ⟨Below.refl _ _, n, rfl, by omega, .inl ⟨rfl, Lib.hid rfl, rfl⟩⟩
  case round =>
    obtain ⟨hb, m, rfl, hm, hc⟩ := hrel
    obtain ⟨b, hbz⟩ := byte_ex m
    have kc := conv_one wr (48 + (m : Int) % 10) b hbz
    have HB := Lib.hid hbz
    have hneg : ¬ ((m : Int) % 10 < 0) := by omega
    have hbw := hb.size
    have hn2 : (0 : Int) ≤ (m : Int) / 10 := by omega
    clear hbz
    rcases hc with ⟨rfl, hmn, rfl⟩ | ⟨rfl, b0, hmn, rfl⟩ | ⟨rfl, rfl, rfl⟩
    · by_cases h10 : m < 10
      · have hz : ((m : Int) / 10) = 0 := by omega
        have hd : Hid (decS n = ⟨#[b]⟩ ++ ⟨#[]⟩) := Lib.hid (dec1 (by have := hmn.out; omega) (by have := HB.out; have := hmn.out; omega))
        go_wp2
        go_roundw
        case rel => exact ⟨hb.alloc hbw _, 0, by go_num, by omega, .inr (.inr ⟨rfl, rfl, by rw [hd.out]⟩)⟩
        case measure => simp [intOf, agn]
      · have hd : Hid (m / 10 = n / 10 ∧ 10 ≤ n ∧ (b.toNat : Int) = 48 + (n : Int) % 10) := Lib.hid (by have := hmn.out; have := HB.out; refine ⟨by omega, by omega, by omega⟩)
        have hz : ((m : Int) / 10) = 1 := by omega
        have hz2 : m / 10 = 1 := by omega
        go_wp2
        go_roundw
        case rel => exact ⟨hb.alloc hbw _, 1, by go_num, by omega, .inr (.inl ⟨rfl, b, by rw [hz2] at hd; exact hd, rfl⟩)⟩
        case measure => simp [intOf, agn]; omega
    · have hm2 : m < 10 := by have := hmn.out.1; omega
      have hz : ((m : Int) / 10) = 0 := by omega
      have hd : Hid (decS n = ⟨#[b]⟩ ++ (⟨#[b0]⟩ ++ ⟨#[]⟩)) := Lib.hid (dec2 (by have := hmn.out.2.1; omega) hn hmn.out.2.2 (by have := HB.out; have := hmn.out.1; rw [← hmn.out.1]; exact HB.out))
      go_wp2
      go_roundw
      case rel => exact ⟨hb.alloc hbw _, 0, by go_num, by omega, .inr (.inr ⟨rfl, rfl, by rw [hd.out]⟩)⟩
      case measure => simp [intOf, agn]
    · clear kc hneg
      go_wp2
      go_ret
      exact ⟨rfl, hb⟩
end Go.Proofs.YthkbfmbohoclaaaDoor.txt

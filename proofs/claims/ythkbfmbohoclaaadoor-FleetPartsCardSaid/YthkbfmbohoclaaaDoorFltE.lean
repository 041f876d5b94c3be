/- The reference's known; dimensions; totals. -/
import Derived.Test.YthkbfmbohoclaaaDoorFltB
namespace Go.Proofs.YthkbfmbohoclaaaDoor.flt
open Go.RowKit
open Go.Proofs.YthkbfmbohoclaaaDoor.lib Go.Proofs.YthkbfmbohoclaaaDoor.rd Go.Proofs.YthkbfmbohoclaaaDoor.typ
set_option linter.unusedVariables false

theorem take_any {α : Type} {p : α → Bool} {l : List α} {k : Nat} {x : α} (h : l[k]? = some x) : (l.take (k + 1)).any p = ((l.take k).any p || p x) := by
  obtain ⟨h1, h2⟩ := List.getElem?_eq_some_iff.1 h
  rw [List.take_succ_eq_append_getElem h1, List.any_append, h2]
  simp

set_option maxHeartbeats 1000000 in
theorem known_any (A : Option Addr) (c : Nat) (l : List Ty) (i : Nat) (hi : i ≤ l.length) (nm : ByteArray) (w : World) (B : Nat) (hL : RowAt rTy w B A l) :
    Calls Tryd.prog 58 #[.slice A l.length c, .int .i64 i, .string nm] w fun e w' => e = .returned (.bool ((l.take i).any (fun x => sameS x.name nm))) ∧ w = w' := by
  obtain ⟨R, hR⟩ : ∃ R, (l.take i).any (fun x => sameS x.name nm) = R := ⟨_, rfl⟩
  have HR : Hid ((l.take i).any (fun x => sameS x.name nm) = R) := Lib.hid hR
  rw [hR]
  clear hR
  have hlen := hL.len
  go_enter Tryd.func58, Tryd.ntmps58
  go_wp2
  go_loop [7] (fun j => ∃ k : Nat, k ≤ i ∧ j = .int .i64 k ∧ Hid ((l.take k).any (fun x => sameS x.name nm) = false)) (fun j => i - (intOf j).toNat)
  case atStart => exact ⟨0, by omega, rfl, Lib.hid (by simp)⟩
  case round =>
    obtain ⟨k, hk, rfl, hr⟩ := hrel
    by_cases hlt : k < i
    · obtain ⟨x, hx⟩ : ∃ x, l[k]? = some x := ⟨_, List.getElem?_eq_getElem (by omega)⟩
      obtain ⟨ad, C0, c0, rfl, hadb, ⟨m0, _⟩, _, _⟩ := row_Ty hL hx
      have hst := Lib.hid (take_any (p := fun x : Ty => sameS x.name nm) hx)
      have hk0 : (0 : Int) ≤ (k : Int) := by omega
      have hkn : (k : Int) < (l.length : Int) := by omega
      have hE : Hid (sameS x.name nm = (x.name.toList == nm.toList)) := Lib.hid rfl
      cases hs : x.name.toList == nm.toList
      · have HT : Hid ((l.take (k + 1)).any (fun x => sameS x.name nm) = false) := Lib.hid (by rw [hst.out, hr.out, hE.out, hs]; rfl)
        clear hx
        go_wp2
        go_round
        case rel => exact ⟨k + 1, by omega, by go_num, HT⟩
        case measure => simp [intOf]; omega
      · have HT : Hid (R = true) := Lib.hid (by
          rw [← HR.out, List.any_eq_true]
          refine ⟨x, ?_, by show sameS x.name nm = true; rw [hE.out, hs]⟩
          rw [List.mem_take_iff_getElem]
          obtain ⟨h1, h2⟩ := List.getElem?_eq_some_iff.1 hx
          exact ⟨k, by omega, h2⟩)
        clear hx
        go_wp2
        go_ret
        exact ⟨ret_bool HT.out.symm, rfl⟩
    · have hki : k = i := by omega
      subst hki
      have HT : Hid (R = false) := Lib.hid (by rw [← HR.out, hr.out])
      clear hlt
      go_wp2
      go_ret
      exact ⟨ret_bool HT.out.symm, rfl⟩

/-- The number of dimensions. -/
def dimsN (l : List Ty) : Nat := match l with | [] => 0 | t :: _ => t.cap.length
theorem dims_any (A : Option Addr) (c : Nat) (l : List Ty) (w : World) (B : Nat) (hL : RowAt rTy w B A l) :
    Calls Tryd.prog 20 #[.slice A l.length c] w fun e w' => e = .returned (.int .i64 (dimsN l)) ∧ w = w' := by
  have hlen := hL.len
  rcases l with _ | ⟨t, l⟩
  · go_enter Tryd.func20, Tryd.ntmps20
    go_wp2
    go_ret
    exact ⟨rfl, rfl⟩
  · obtain ⟨ad, C0, c0, rfl, hadb, ⟨m0, m1, m2, m3, m4, _⟩, _, _⟩ := row_Ty hL (i := 0) rfl
    have hz : ad.add (0 * 14) = ad := by simp [Addr.add]
    rw [hz] at m4
    obtain ⟨n, hn⟩ : ∃ n, (t :: l).length = n := ⟨_, rfl⟩
    have hpos : 0 < n := by rw [← hn]; simp
    have hne : ((n : Int) == 0) = false := by simp; omega
    rw [hn]
    clear hz hn hL hlen m0 m1 m2 m3
    show Calls _ _ _ _ fun e w' => e = .returned (.int .i64 (t.cap.length : Nat)) ∧ w = w'
    go_enter Tryd.func20, Tryd.ntmps20
    go_wp2
    go_ret
    exact ⟨rfl, rfl⟩
theorem rdims_any (A : Option Addr) (c : Nat) (l : List Ty) (w : World) (B : Nat) (hL : RowAt rTy w B A l) :
    Calls Tryd.prog 21 #[.slice A l.length c] w fun e w' => e = .returned (.int .i64 (dimsN l)) ∧ w = w' := by
  have hlen := hL.len
  rcases l with _ | ⟨t, l⟩
  · go_enter Tryd.func21, Tryd.ntmps21
    go_wp2
    go_ret
    exact ⟨rfl, rfl⟩
  · obtain ⟨ad, C0, c0, rfl, hadb, ⟨m0, m1, m2, m3, m4, _⟩, _, _⟩ := row_Ty hL (i := 0) rfl
    have hz : ad.add (0 * 14) = ad := by simp [Addr.add]
    rw [hz] at m4
    obtain ⟨n, hn⟩ : ∃ n, (t :: l).length = n := ⟨_, rfl⟩
    have hpos : 0 < n := by rw [← hn]; simp
    have hne : ((n : Int) == 0) = false := by simp; omega
    rw [hn]
    clear hz hn hL hlen m0 m1 m2 m3
    show Calls _ _ _ _ fun e w' => e = .returned (.int .i64 (t.cap.length : Nat)) ∧ w = w'
    go_enter Tryd.func21, Tryd.ntmps21
    go_wp2
    go_ret
    exact ⟨rfl, rfl⟩
end Go.Proofs.YthkbfmbohoclaaaDoor.flt

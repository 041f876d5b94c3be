/- The reference's known; dimensions; totals. -/
import Derived.Test.YtceceomaheobhaaDoorFltB
namespace Go.Proofs.YtceceomaheobhaaDoor.flt
open Go.RowKit
open Go.Proofs.YtceceomaheobhaaDoor.lib Go.Proofs.YtceceomaheobhaaDoor.rd Go.Proofs.YtceceomaheobhaaDoor.typ
set_option linter.unusedVariables false

theorem take_any {α : Type} {p : α → Bool} {l : List α} {k : Nat} {x : α} (h : l[k]? = some x) : (l.take (k + 1)).any p = ((l.take k).any p || p x) := by
  obtain ⟨h1, h2⟩ := List.getElem?_eq_some_iff.1 h
  rw [List.take_succ_eq_append_getElem h1, List.any_append, h2]
  simp

def dimsN (l : List Ty) : Nat := match l with | [] => 0 | t :: _ => t.cap.length
theorem dims_any (A : Option Addr) (c : Nat) (l : List Ty) (w : World) (B : Nat) (hL : RowAt rTy w B A l) :
    Calls Tryd.prog 37 #[.slice A l.length c] w fun e w' => e = .returned (.int .i64 (dimsN l)) ∧ w = w' := by
  have hlen := hL.len
  rcases l with _ | ⟨t, l⟩
  · go_enter Tryd.func37, Tryd.ntmps37
    go_wp2
    go_ret
    exact ⟨rfl, rfl⟩
  · obtain ⟨ad, C0, c0, rfl, hadb, ⟨m0, m1, m2, m3, m4, _⟩, _, _⟩ := row_Ty hL (i := 0) rfl
    have hz : ad.add (0 * 14) = ad := by simp [Addr.add]
    rw [hz] at m4
    obtain ⟨n, hn⟩ : ∃ n, (t :: l).length = n := ⟨_, rfl⟩
    have hpos : 0 < n := by rw [← hn]; simp
    have hne : ((n : Int) == 0) = false := by simp; omega
    rw [hn]
    clear hz hn hL hlen m0 m1 m2 m3
    show Calls _ _ _ _ fun e w' => e = .returned (.int .i64 (t.cap.length : Nat)) ∧ w = w'
    go_enter Tryd.func37, Tryd.ntmps37
    go_wp2
    go_ret
    exact ⟨rfl, rfl⟩
end Go.Proofs.YtceceomaheobhaaDoor.flt

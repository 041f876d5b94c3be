/- Orders: few; within; there. -/
import Derived.Test.YthkbfmbohoclaaaDoorOrdT
import Derived.Test.YthkbfmbohoclaaaDoorSetA
import Derived.Deep.QuietTactic
namespace Go.Proofs.YthkbfmbohoclaaaDoor.ord
open Go.RowKit
open Go.Proofs.YthkbfmbohoclaaaDoor.lib Go.Proofs.YthkbfmbohoclaaaDoor.rd Go.Proofs.YthkbfmbohoclaaaDoor.typ
set_option linter.unusedVariables false

def smallO (o : Ord) : Prop := o.load.length ≤ 6 ∧ o.name.size ≤ 40 ∧ ∀ x ∈ o.load, -1048576 ≤ x ∧ x ≤ 1048576
def FewO (l : List Ord) : Prop := l.length ≤ 14 ∧ ∀ o ∈ l, smallO o
def FewOut (l : List Ord) (w : World) (e : Ending) (w' : World) : Prop := ∃ b : Bool, e = .returned (.bool b) ∧ (b = true → FewO l) ∧ w = w'
def smallTo (l : List Ord) (k : Nat) : Prop := ∀ (j : Nat) o, j < k → l[j]? = some o → smallO o
def okTo (l : List Int) (k : Nat) : Prop := ∀ (j : Nat) x, j < k → l[j]? = some x → -1048576 ≤ x ∧ x ≤ 1048576
theorem smallTo_step {l : List Ord} {k : Nat} {o : Ord} (h : smallTo l k) (ho : l[k]? = some o) (hs : smallO o) : smallTo l (k + 1) := by
  intro j x hj hx
  rcases Nat.lt_or_ge j k with h1 | h1
  · exact h j x h1 hx
  · obtain rfl : j = k := by omega
    rw [ho] at hx
    cases hx
    exact hs
theorem okTo_step {l : List Int} {k : Nat} {x : Int} (h : okTo l k) (ho : l[k]? = some x) (h1 : -1048576 ≤ x) (h2 : x ≤ 1048576) : okTo l (k + 1) := by
  intro j y hj hy
  rcases Nat.lt_or_ge j k with h3 | h3
  · exact h j y h3 hy
  · obtain rfl : j = k := by omega
    rw [ho] at hy
    cases hy
    exact ⟨h1, h2⟩
theorem okTo_all {l : List Int} (h : okTo l l.length) : ∀ x ∈ l, -1048576 ≤ x ∧ x ≤ 1048576 := fun x hx => by
  obtain ⟨j, hj, rfl⟩ := List.getElem_of_mem hx
  exact h j _ hj (List.getElem?_eq_getElem hj)
theorem smallTo_all {l : List Ord} (h : smallTo l l.length) : ∀ x ∈ l, smallO x := fun x hx => by
  obtain ⟨j, hj, rfl⟩ := List.getElem_of_mem hx
  exact h j _ hj (List.getElem?_eq_getElem hj)

set_option maxHeartbeats 2000000 in
theorem few_any (A : Option Addr) (c : Nat) (l : List Ord) (w : World) (B : Nat) (hL : RowAt rOrd w B A l) :
    Calls Tryd.prog 24 #[.slice A l.length c] w (FewOut l w) := by
  have hlen := hL.len
  obtain ⟨n, hn⟩ : ∃ n, l.length = n := ⟨_, rfl⟩
  have HF : Hid (FewOut l w (.returned (.bool false)) w) := Lib.hid ⟨false, rfl, by simp, rfl⟩
  have HO : Hid (n ≤ 14 → smallTo l n → FewOut l w (.returned (.bool true)) w) := Lib.hid fun h1 h2 => ⟨true, rfl, fun _ => ⟨by rw [hn]; exact h1, smallTo_all (by rw [hn]; exact h2)⟩, rfl⟩
  rw [hn] at hlen ⊢
  have HN := Lib.hid hn
  clear hn
  by_cases h14 : n ≤ 14
  · have h14' : ¬ (14 : Int) < (n : Int) := by omega
    go_enter Tryd.func24, Tryd.ntmps24
    go_wp2
    go_loop [3, 4] (fun i _ => ∃ k : Nat, k ≤ n ∧ i = .int .i64 k ∧ Hid (smallTo l k)) (fun i _ => n - (intOf i).toNat)
    case atStart => exact ⟨0, by omega, rfl, Lib.hid (fun j o hj => absurd hj (by omega))⟩
    case round =>
      obtain ⟨k, hk, rfl, hr⟩ := hrel
      by_cases hlt : k < n
      · obtain ⟨t, ht⟩ : ∃ t, l[k]? = some t := ⟨_, List.getElem?_eq_getElem (by rw [HN.out]; exact hlt)⟩
        obtain ⟨ad, C0, c0, rfl, hadb, ⟨m0, m1, _⟩, hI, hf⟩ := row_Ord hL ht
        have hk0 : (0 : Int) ≤ (k : Int) := by omega
        have hkn : (k : Int) < (n : Int) := by omega
        have hnl := hf.1
        have hIl := hI.len
        have HS : Hid (smallO t → smallTo l (k + 1)) := Lib.hid fun h => smallTo_step hr.out ht h
        clear ht
        by_cases hc : 6 < t.load.length
        · have hc' : (6 : Int) < (t.load.length : Int) := by omega
          clear hc
          go_wp2
          go_ret
          exact HF.out
        · have hc' : ¬ (6 : Int) < (t.load.length : Int) := by omega
          by_cases hd : 40 < t.name.size
          · have hd' : (40 : Int) < (t.name.size : Int) := by omega
            clear hc hd
            go_wp2
            go_ret
            exact HF.out
          · have hd' : ¬ (40 : Int) < (t.name.size : Int) := by omega
            have HC : Hid (t.load.length ≤ 6 ∧ t.name.size ≤ 40) := Lib.hid ⟨by omega, by omega⟩
            clear hc hd
            go_wp2
            go_loop [4] (fun j => ∃ q : Nat, q ≤ t.load.length ∧ j = .int .i64 q ∧ Hid (okTo t.load q)) (fun j => t.load.length - (intOf j).toNat)
            case atStart => exact ⟨0, by omega, rfl, Lib.hid (fun j o hj => absurd hj (by omega))⟩
            case round =>
              obtain ⟨q, hq, rfl, hr2⟩ := hrel
              by_cases hqt : q < t.load.length
              · obtain ⟨ad2, x, rfl, hadb2, hx, hcx⟩ := hI.at_ hqt
                have hq0 : (0 : Int) ≤ (q : Int) := by omega
                have hqn : (q : Int) < (t.load.length : Int) := by omega
                have HX : Hid (-1048576 ≤ x → x ≤ 1048576 → okTo t.load (q + 1)) := Lib.hid fun h1 h2 => okTo_step hr2.out hx h1 h2
                clear hx
                by_cases hx1 : x < -1048576
                · go_wp2
                  go_ret
                  exact HF.out
                · by_cases hx2 : 1048576 < x
                  · go_wp2
                    go_ret
                    exact HF.out
                  · go_wp2
                    go_round
                    case rel => exact ⟨q + 1, by omega, by go_num, Lib.hid (HX.out (by omega) (by omega))⟩
                    case measure => simp [intOf]; omega
              · have hqe : q = t.load.length := by omega
                subst hqe
                go_wp2
                go_round
                case rel => exact ⟨k + 1, by omega, by go_num, Lib.hid (HS.out ⟨HC.out.1, HC.out.2, okTo_all hr2.out⟩)⟩
                case measure => simp [intOf]; omega
      · have hkn : k = n := by omega
        subst hkn
        go_wp2
        go_ret
        exact HO.out h14 hr.out
  · have h14' : (14 : Int) < (n : Int) := by omega
    go_enter Tryd.func24, Tryd.ntmps24
    go_wp2
    go_ret
    exact HF.out
end Go.Proofs.YthkbfmbohoclaaaDoor.ord

/- rules: the violations of a list of pairs. -/
import Derived.Test.YtceceomaheobhaaRulA
import Derived.Test.YtceceomaheobhaaBase
import Derived.Deep.DeepCutAuto
namespace Go.Proofs.Ytceceomaheobhaa.rul
open Go.RowKit
open Go.Proofs.Ytceceomaheobhaa.lib Go.Proofs.Ytceceomaheobhaa.rd Go.Proofs.Ytceceomaheobhaa.typ Go.Proofs.Ytceceomaheobhaa.app Go.Proofs.Ytceceomaheobhaa.flts Go.Proofs.Ytceceomaheobhaa.eqg Go.Proofs.Ytceceomaheobhaa.txt Go.Proofs.Ytceceomaheobhaa.note
set_option linter.unusedVariables false
set_option linter.unusedSimpArgs false

def atS (word : ByteArray) (i : Nat) : ByteArray := word ++ ⟨#[32]⟩ ++ decS i
def badB (orders : Int) (p : Int × Int) : Bool := !rightB p.1 orders || (!rightB p.2 orders || p.1 == p.2)
def pairP (orders : Int) (word : ByteArray) (same : Int × Int → Int × Int → Bool) (l : List (Int × Int)) (i : Nat) (p : Int × Int) : List Flt :=
  if badB orders p = true then [⟨2, atS word i⟩] else if (l.take i).any (same p) = true then [⟨6, atS word i⟩] else []
def pairAt (orders : Int) (word : ByteArray) (same : Int × Int → Int × Int → Bool) (l : List (Int × Int)) (i : Nat) : List Flt := match l[i]? with
  | some p => pairP orders word same l i p
  | none => []
/-- The violations of the pairs below j. -/
def pairsTo (orders : Int) (word : ByteArray) (same : Int × Int → Int × Int → Bool) (l : List (Int × Int)) : Nat → List Flt
  | 0 => if l.length ≤ 16 then [] else [⟨4, word⟩]
  | j + 1 => pairsTo orders word same l j ++ pairAt orders word same l j
theorem pairP_len (orders : Int) (word : ByteArray) (same : Int × Int → Int × Int → Bool) (l : List (Int × Int)) (i : Nat) (p : Int × Int) : (pairP orders word same l i p).length ≤ 1 := by
  unfold pairP
  split
  · simp
  · split <;> simp
theorem pairsTo_len (orders : Int) (word : ByteArray) (same : Int × Int → Int × Int → Bool) (l : List (Int × Int)) : ∀ j, (pairsTo orders word same l j).length ≤ 1 + j
  | 0 => by unfold pairsTo; split <;> simp
  | j + 1 => by
    have ih := pairsTo_len orders word same l j
    have h : (pairAt orders word same l j).length ≤ 1 := by
      unfold pairAt
      split
      · exact pairP_len _ _ _ _ _ _
      · exact Nat.zero_le _
    rw [pairsTo, List.length_append]
    omega
theorem pairsTo_succ {orders : Int} {word : ByteArray} {same : Int × Int → Int × Int → Bool} {l : List (Int × Int)} {j : Nat} {p : Int × Int} (h : l[j]? = some p) : pairsTo orders word same l (j + 1) = pairsTo orders word same l j ++ pairP orders word same l j p := by
  rw [pairsTo]
  unfold pairAt
  rw [h]

theorem take_anyP {α : Type} {p : α → Bool} {l : List α} {k : Nat} {x : α} (h : l[k]? = some x) : (l.take (k + 1)).any p = ((l.take k).any p || p x) := by
  obtain ⟨h1, h2⟩ := List.getElem?_eq_some_iff.1 h
  rw [List.take_succ_eq_append_getElem h1, h2, List.any_append]
  simp
theorem take_any_true {α : Type} {p : α → Bool} {l : List α} {k j : Nat} {b : Bool} (h : (l.take (k + 1)).any p = (b || true)) (hj : k + 1 ≤ j) : (l.take j).any p = true := by
  rw [Bool.or_true, List.any_eq_true] at h
  obtain ⟨x, hx, hp⟩ := h
  refine List.any_eq_true.2 ⟨x, ?_, hp⟩
  obtain ⟨n, hn⟩ := List.mem_iff_getElem?.1 hx
  rw [List.getElem?_take] at hn
  split at hn
  · exact List.mem_iff_getElem?.2 ⟨n, by rw [List.getElem?_take, if_pos (by omega)]; exact hn⟩
  · cases hn

end Go.Proofs.Ytceceomaheobhaa.rul

/- network.Check: the violations of a network. -/
import Derived.Test.YtceceomaheobhaaNetC
import Derived.Test.YtceceomaheobhaaBase
namespace Go.Proofs.Ytceceomaheobhaa.net
open Go.RowKit
open Go.Proofs.Ytceceomaheobhaa.lib Go.Proofs.Ytceceomaheobhaa.rd Go.Proofs.Ytceceomaheobhaa.typ Go.Proofs.Ytceceomaheobhaa.app Go.Proofs.Ytceceomaheobhaa.note Go.Proofs.Ytceceomaheobhaa.mrk Go.Proofs.Ytceceomaheobhaa.trv Go.Proofs.Ytceceomaheobhaa.flts Go.Proofs.Ytceceomaheobhaa.txt Go.Proofs.Ytceceomaheobhaa.eqg
set_option linter.unusedVariables false
set_option linter.unusedSimpArgs false

def plcS (i : Nat) : ByteArray := ⟨#[112, 108, 97, 99, 101, 32]⟩ ++ decS i
def arcS (i : Nat) : ByteArray := ⟨#[97, 114, 99, 32]⟩ ++ decS i
def plP (l : List ByteArray) (i : Nat) (s : ByteArray) : List Flt := if nameB s = true then (if hasB (l.take i) s = true then [⟨6, plcS i⟩] else []) else [⟨5, plcS i⟩]
def plAt (l : List ByteArray) (i : Nat) : List Flt := match l[i]? with
  | some s => plP l i s
  | none => []
/-- The violations of the places below j. -/
def plTo (l : List ByteArray) : Nat → List Flt
  | 0 => if 24 < l.length then [⟨4, ⟨#[112, 108, 97, 99, 101, 115]⟩⟩] else []
  | j + 1 => plTo l j ++ plAt l j
theorem plP_len (l : List ByteArray) (i : Nat) (s : ByteArray) : (plP l i s).length ≤ 1 := by
  unfold plP
  split
  · split <;> simp
  · simp
theorem plTo_len (l : List ByteArray) : ∀ j, (plTo l j).length ≤ 1 + j
  | 0 => by unfold plTo; split <;> simp
  | j + 1 => by
    have ih := plTo_len l j
    have h : (plAt l j).length ≤ 1 := by
      unfold plAt
      split
      · exact plP_len _ _ _
      · exact Nat.zero_le _
    rw [plTo, List.length_append]
    omega
theorem plTo_succ {l : List ByteArray} {j : Nat} {s : ByteArray} (h : l[j]? = some s) : plTo l (j + 1) = plTo l j ++ plP l j s := by
  rw [plTo]
  unfold plAt
  rw [h]
theorem take_snoc' {α : Type} {l : List α} {k : Nat} {x : α} (h : l[k]? = some x) : l.take (k + 1) = l.take k ++ [x] := by
  obtain ⟨h1, h2⟩ := List.getElem?_eq_some_iff.1 h
  rw [List.take_succ_eq_append_getElem h1, h2]
def arFs (P : Int) (l : List Arc) (i : Nat) (x : Arc) : List Flt := (arcE P ((l.take i).map wayK) x).map fun e => ⟨e, arcS i⟩
def arAt (P : Int) (l : List Arc) (i : Nat) : List Flt := match l[i]? with
  | some x => arFs P l i x
  | none => []
/-- The violations of the places and of the arcs below j. -/
def netTo (n : Net) : Nat → List Flt
  | 0 => plTo n.places n.places.length ++ (if 1024 < n.arcs.length then [⟨4, ⟨#[97, 114, 99, 115]⟩⟩] else [])
  | j + 1 => netTo n j ++ arAt n.places.length n.arcs j
theorem netTo_succ {n : Net} {j : Nat} {x : Arc} (h : n.arcs[j]? = some x) : netTo n (j + 1) = netTo n j ++ arFs n.places.length n.arcs j x := by
  rw [netTo]
  unfold arAt
  rw [h]
theorem pushIf_le (xs : List Int) (r : Bool) (u : Int) (k : Nat) (h : xs.length ≤ k) : (pushIf xs r u).length ≤ k + 1 := Nat.le_trans (pushIf_len _ _ _) (Nat.add_le_add_right h 1)
theorem tv_le (l : List Pt) (h : l.length ≤ 100) : (tvTo l l.length).length ≤ 201 := by have := tvTo_len l l.length; omega
theorem sl_le (l : List Pt) (h : l.length ≤ 1000) : (slTo l l.length).length ≤ 1001 := by have := slTo_len l l.length; omega
theorem arcE_len (P : Int) (ks : List (Int × Int × Int)) (x : Arc) (h1 : x.travel.length ≤ 100) (h2 : x.slow.length ≤ 1000) : (arcE P ks x).length ≤ 1205 := by
  unfold arcE
  rw [List.length_append, List.length_append, List.length_map]
  have := pushIf_le _ (!hasB ks (wayK x)) 6 2 (pushIf_le _ (!arcBad x) 2 1 (pushIf_le [] (arcOk P x) 11 0 (Nat.le_refl _)))
  have := tv_le x.travel h1
  have := sl_le x.slow h2
  omega

theorem netTo_len (n : Net) (hs : ∀ a ∈ n.arcs, a.travel.length ≤ 100 ∧ a.slow.length ≤ 1000) : ∀ j, (netTo n j).length ≤ 2 + n.places.length + 1205 * j
  | 0 => by
    have := plTo_len n.places n.places.length
    unfold netTo
    rw [List.length_append]
    split <;> simp <;> omega
  | j + 1 => by
    have ih := netTo_len n hs j
    have h : (arAt n.places.length n.arcs j).length ≤ 1205 := by
      unfold arAt
      split
      · rename_i a ha
        obtain ⟨h1, h2⟩ := hs a (List.mem_of_getElem? ha)
        unfold arFs
        rw [List.length_map]
        exact arcE_len _ _ _ h1 h2
      · exact Nat.zero_le _
    rw [netTo, List.length_append]
    omega
/-- Where a row of numbers lies: not beyond the heap, whatever its length. -/
theorem row_place' {w : World} {base c : Nat} {e : TypeId} {A : Option Addr} {l : List Int} (P : Nat) (hP : P < w.heap.size) (h : w.ownsRow base e 1 (.slice A l.length c) l.length (l.map (.int .i64))) :
    ∃ g, g < w.heap.size ∧ (g = P ∨ base ≤ g) ∧ (0 < l.length → A = some ⟨g, 0, none⟩) ∧ ∀ q, q < l.length → w.cell? ⟨g, q, none⟩ = some (.int .i64 (l[q]?.getD 0)) := by
  obtain ⟨g, h1, h2, h3⟩ := row_place h
  by_cases h0 : 0 < l.length
  · exact ⟨g, (h2 h0).2, .inr h1, fun _ => (h2 h0).1, h3⟩
  · exact ⟨P, hP, .inl rfl, fun hh => absurd hh h0, fun q hq => absurd hq (by omega)⟩

end Go.Proofs.Ytceceomaheobhaa.net

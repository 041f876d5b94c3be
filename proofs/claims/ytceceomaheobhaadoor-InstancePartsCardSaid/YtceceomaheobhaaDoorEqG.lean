/- Equal lists, whatever their elements; rows of texts and of pairs. Portable. -/
import Derived.Test.YtceceomaheobhaaDoorRd
namespace Go.Proofs.YtceceomaheobhaaDoor.eqg
open Go.RowKit
open Go.Proofs.YtceceomaheobhaaDoor.lib Go.Proofs.YtceceomaheobhaaDoor.rd
set_option linter.unusedVariables false

section
variable {X : Type}
def eqGo (p : X → X → Bool) : List X → List X → Bool
  | x :: xs, y :: ys => p x y && eqGo p xs ys
  | _, _ => true
def eqL (p : X → X → Bool) (a b : List X) : Bool := decide (a.length = b.length) && eqGo p a b
theorem eqGo_step {p : X → X → Bool} {a b : List X} {k : Nat} {x y : X} (hx : a[k]? = some x) (hy : b[k]? = some y) : eqGo p (a.drop k) (b.drop k) = (p x y && eqGo p (a.drop (k + 1)) (b.drop (k + 1))) := by
  rw [drop_at' hx, drop_at' hy]
  rfl
theorem eqGo_nil {p : X → X → Bool} {b : List X} : eqGo p [] b = true := by cases b <;> rfl
theorem eqGo_end {p : X → X → Bool} {a b : List X} {k : Nat} (h : a.length ≤ k) : eqGo p (a.drop k) (b.drop k) = true := by
  rw [List.drop_of_length_le h]
  exact eqGo_nil
theorem eqL_no {p : X → X → Bool} {a b : List X} (h : a.length ≠ b.length) : eqL p a b = false := by unfold eqL; rw [decide_eq_false h]; rfl
theorem eqL_go {p : X → X → Bool} {a b : List X} (h : a.length = b.length) : eqL p a b = eqGo p (a.drop 0) (b.drop 0) := by unfold eqL; rw [decide_eq_true h]; rfl
theorem eqGo_comm {p : X → X → Bool} (h : ∀ x y, p x y = p y x) : ∀ a b : List X, eqGo p a b = eqGo p b a
  | [], b => by rw [eqGo_nil]; cases b <;> rfl
  | x :: xs, [] => rfl
  | x :: xs, y :: ys => by simp only [eqGo, h x y, eqGo_comm h xs ys]
theorem eqL_comm {p : X → X → Bool} (h : ∀ x y, p x y = p y x) (a b : List X) : eqL p a b = eqL p b a := by
  unfold eqL
  rw [eqGo_comm h a b]
  congr 1
  rw [Bool.eq_iff_iff, decide_eq_true_eq, decide_eq_true_eq]
  exact eq_comm
theorem eqGo_self {p : X → X → Bool} (h : ∀ x, p x x = true) : ∀ a : List X, eqGo p a a = true
  | [] => rfl
  | x :: xs => by simp only [eqGo, h x, eqGo_self h xs, Bool.and_self]
theorem eqL_self {p : X → X → Bool} (h : ∀ x, p x x = true) (a : List X) : eqL p a a = true := by
  unfold eqL
  rw [eqGo_self h]
  simp
end
def twoEq (x y : Int × Int) : Bool := x.1 == y.1 && x.2 == y.2
theorem int_comm (a b : Int) : (a == b) = (b == a) := by rw [Bool.eq_iff_iff, beq_iff_eq, beq_iff_eq]; exact eq_comm
theorem twoEq_comm (x y : Int × Int) : twoEq x y = twoEq y x := by unfold twoEq; rw [int_comm x.1, int_comm x.2]
theorem twoEq_self (x : Int × Int) : twoEq x x = true := by unfold twoEq; simp

theorem row_Str {w : World} {B : Nat} {A : Option Addr} {l : List ByteArray} (h : RowAt rStr w B A l) {i : Nat} {t : ByteArray} (hi : l[i]? = some t) : ∃ ad : Addr, A = some ad ∧ ad.block < B ∧ w.cell? (ad.add i) = some (.string t) ∧ t.size ≤ 140737488351232 := by
  obtain ⟨ad, cs, hA, hb, ⟨rfl, hs⟩, hc⟩ := h.2 i t hi
  have := hc 0 _ rfl
  rw [show i * rStr.size + 0 = i by simp [rStr]] at this
  exact ⟨ad, hA, hb, this, hs⟩
theorem row_Two {w : World} {B : Nat} {A : Option Addr} {l : List (Int × Int)} (h : RowAt (rPair rInt rInt) w B A l) {i : Nat} {t : Int × Int} (hi : l[i]? = some t) :
    ∃ ad : Addr, A = some ad ∧ ad.block < B ∧ (w.cell? (ad.add (i * 2)) = some (.int .i64 t.1) ∧ w.cell? ⟨(ad.add (i * 2)).block, (ad.add (i * 2)).off + 1, none⟩ = some (.int .i64 t.2)) ∧ (-9223372036854775808 ≤ t.1 ∧ t.1 ≤ 9223372036854775807) ∧ (-9223372036854775808 ≤ t.2 ∧ t.2 ≤ 9223372036854775807) := by
  obtain ⟨ad, cs, hA, hb, ⟨_, _, rfl, ⟨rfl, h1⟩, ⟨rfl, h2⟩⟩, hc⟩ := h.2 i t hi
  refine ⟨ad, hA, hb, ⟨hc 0 _ rfl, ?_⟩, h1, h2⟩
  rw [← add_split]
  exact hc 1 _ rfl
end Go.Proofs.YtceceomaheobhaaDoor.eqg

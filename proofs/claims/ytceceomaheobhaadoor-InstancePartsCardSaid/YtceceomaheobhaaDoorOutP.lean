/- A row of violations that grows beside blocks that stay. Portable. -/
import Derived.Test.YtceceomaheobhaaDoorFlts
import Derived.Test.YtceceomaheobhaaDoorMrk
namespace Go.Proofs.YtceceomaheobhaaDoor.flts
open Go.RowKit
open Go.Proofs.YtceceomaheobhaaDoor.lib Go.Proofs.YtceceomaheobhaaDoor.rd Go.Proofs.YtceceomaheobhaaDoor.typ Go.Proofs.YtceceomaheobhaaDoor.app Go.Proofs.YtceceomaheobhaaDoor.mrk
set_option linter.unusedVariables false

theorem cell_heap {w w' : World} {q o : Nat} {v : Option Value} (e : w'.heap[q]? = w.heap[q]?) (h : w.cell? ⟨q, o, none⟩ = v) : w'.cell? ⟨q, o, none⟩ = v := by
  rw [← h]
  unfold World.cell?
  simp only [e]
theorem marks_heap {X : Type} [DecidableEq X] {k t : TypeId} {E : KeyEnc X k t} {w w' : World} {b n : Nat} {l : List X} (h : Marks E w b n l) (e : w'.heap[b]? = w.heap[b]?) : Marks E w' b n l := by
  obtain ⟨D, ⟨es, clock, hbl, h0⟩, h2⟩ := h
  exact ⟨D, ⟨es, clock, e.trans hbl, h0⟩, h2⟩
/-- No row lies in a map's block. -/
theorem own_marks {X : Type} [DecidableEq X] {k t : TypeId} {E : KeyEnc X k t} {w : World} {b m : Nat} {l : List X} {base : Nat} {e : TypeId} {size n : Nat} {v : Value} {xs : List Value} (h : w.ownsRow base e size v n xs) (hm : Marks E w b m l) : v.ownBlock ≠ some b := by
  intro hv
  rcases h.2 with ⟨rfl, _⟩ | ⟨g, cap, cur, rfl, _, hg, _⟩
  · cases hv
  · obtain ⟨D, ⟨es, clock, hbl, _⟩, _⟩ := hm
    simp [Value.ownBlock] at hv
    subst hv
    rw [hg] at hbl
    cases hbl
/-- The row fs lies at (A, c), none of the blocks of prot. -/
structure OutP (w : World) (base : Nat) (prot : List Nat) (A : Option Addr) (c : Nat) (fs : List Flt) : Prop where
  own : w.ownsRow base 54 2 (.slice A fs.length c) fs.length (fcs fs)
  ne : ∀ q ∈ prot, (Value.slice A fs.length c).ownBlock ≠ some q
  lt : ∀ q ∈ prot, q < w.heap.size
theorem OutP.below {w w' : World} {base : Nat} {prot : List Nat} {A : Option Addr} {c : Nat} {fs : List Flt} (h : OutP w base prot A c fs) (hb : Below w.heap.size w w') : OutP w' base prot A c fs := ⟨own_below h.own hb, h.ne, fun q hq => Nat.lt_of_lt_of_le (h.lt q hq) hb.size⟩
theorem OutP.less {w : World} {base : Nat} {prot prot' : List Nat} {A : Option Addr} {c : Nat} {fs : List Flt} (h : OutP w base prot A c fs) (hp : ∀ q ∈ prot', q ∈ prot) : OutP w base prot' A c fs := ⟨h.own, fun q hq => h.ne q (hp q hq), fun q hq => h.lt q (hp q hq)⟩
/-- One more block to stay, newer than the row. -/
theorem OutP.more {w w' : World} {base : Nat} {prot : List Nat} {A : Option Addr} {c : Nat} {fs : List Flt} (h : OutP w base prot A c fs) (hb : Below w.heap.size w w') {q : Nat} (h1 : w.heap.size ≤ q) (h2 : q < w'.heap.size) : OutP w' base (q :: prot) A c fs := by
  have h' := h.below hb
  refine ⟨h'.own, fun p hp => ?_, fun p hp => ?_⟩
  · rcases List.mem_cons.1 hp with rfl | hp
    · intro e
      have := (World.ownsRow.lt h.own _ e).2
      omega
    · exact h'.ne p hp
  · rcases List.mem_cons.1 hp with rfl | hp
    · exact h2
    · exact h'.lt p hp
/-- A block of prot is written (a map's store). -/
theorem OutP.kept {w w' : World} {base : Nat} {prot : List Nat} {A : Option Addr} {c : Nat} {fs : List Flt} (h : OutP w base prot A c fs) {b : Nat} (hb : b ∈ prot) (hg : w.grownBy w' (some b)) : OutP w' base prot A c fs :=
  ⟨own_grown h.own hg (.inr (h.ne b hb)), h.ne, fun q hq => Nat.lt_of_lt_of_le (h.lt q hq) hg.size⟩
/-- What an append of one violation leaves. -/
theorem OutP.push {w w1 w' : World} {base : Nat} {prot : List Nat} {A : Option Addr} {c : Nat} {fs : List Flt} (h : OutP w base prot A c fs) (hb1 : Below w.heap.size w w1) {f : Flt} {g' c' : Nat}
    (hown : w'.ownsRow base 54 2 (.slice (some ⟨g', 0, none⟩) (fs.length + 1) c') (fs.length + 1) (fcs fs ++ [.int .i64 f.err, .string f.at_])) (hg : w1.grownBy w' (Value.slice A fs.length c).ownBlock)
    (hd : (Value.slice A fs.length c).ownBlock = some g' ∨ w1.heap.size ≤ g') : OutP w' base prot (some ⟨g', 0, none⟩) c' (fs ++ [f]) ∧ ∀ q ∈ prot, w'.heap[q]? = w.heap[q]? := by
  have s1 := hb1.size
  refine ⟨⟨?_, fun q hq => ?_, fun q hq => ?_⟩, fun q hq => ?_⟩
  · rw [fcs_snoc, List.length_append]
    exact hown
  · intro e
    have e' : some g' = some q := e
    rcases hd with hd | hd
    · exact h.ne q hq (hd.trans e')
    · have := h.lt q hq
      injection e' with e'
      omega
  · have := h.lt q hq
    have := hg.size
    omega
  · have hlt := h.lt q hq
    exact (hg.block q (by omega) (fun e => h.ne q hq e.symm)).trans (hb1.block q hlt)
end Go.Proofs.YtceceomaheobhaaDoor.flts

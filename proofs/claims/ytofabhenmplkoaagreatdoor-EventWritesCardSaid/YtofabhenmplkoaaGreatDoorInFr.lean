/- An instance in a call's own blocks and in old ones: it stays where other blocks turn. -/
import Derived.Test.YtofabhenmplkoaaGreatDoorZ4
import Derived.Test.YtofabhenmplkoaaGreatDoorGenE
namespace Go.Proofs.YtofabhenmplkoaaGreatDoor.ins
open Go.RowKit
open Go.Proofs.YtofabhenmplkoaaGreatDoor.lib Go.Proofs.YtofabhenmplkoaaGreatDoor.rd Go.Proofs.YtofabhenmplkoaaGreatDoor.typ
set_option linter.unusedVariables false

/-- The rows lie in blocks below B, or from B1 on: in every later world where these blocks are the same the instance reads as it does. -/
def InFr (w : World) (B B1 : Nat) (Y : Ins) (Q : InP) : Prop := ∀ w', w.heap.size ≤ w'.heap.size → (∀ b, b < w.heap.size → (b < B ∨ B1 ≤ b) → w'.heap[b]? = w.heap[b]?) → InAt w' w'.heap.size Y Q
section
variable {w w' : World} {B B1 B' B1' : Nat} {Y : Ins} {Q : InP}
theorem InFr.here (h : InFr w B B1 Y Q) : InAt w w.heap.size Y Q := h w (Nat.le_refl _) (fun _ _ _ => rfl)
theorem InFr.weak (h : InFr w B B1 Y Q) (hB : B ≤ B') (h1 : B1' ≤ B1) : InFr w B' B1' Y Q := fun w' hs hk => h w' hs (fun b hb hp => hk b hb (by rcases hp with hp | hp <;> omega))
theorem InFr.keep (h : InFr w B B1 Y Q) (hs : w.heap.size ≤ w'.heap.size) (hk : ∀ b, b < w.heap.size → (b < B ∨ B1 ≤ b) → w'.heap[b]? = w.heap[b]?) : InFr w' B B1 Y Q := fun w'' hs' hk' => h w'' (Nat.le_trans hs hs') (fun b hb hp => (hk' b (Nat.lt_of_lt_of_le hb hs) hp).trans (hk b hb hp))
theorem InFr.below (h : InFr w B B1 Y Q) (hb : Below w.heap.size w w') : InFr w' B B1 Y Q := h.keep hb.size (fun b hl _ => hb.block b hl)
theorem InFr.nil : InFr w B B1 nilI nilP := fun w' _ _ => nil_at w'
theorem InAt.blocks {x : Ins} {P : InP} (h : InAt w B x P) (hk : ∀ b, b < B → w'.heap[b]? = w.heap[b]?) : InAt w' B x P := by
  have hc : ∀ p : Addr, p.block < B → w'.cell? p = w.cell? p := fun p hp => World.cell?_of_block (hk _ hp)
  exact ⟨RowAt.keep hc h.places, RowAt.keep hc h.arcs, RowAt.keep hc h.types, RowAt.keep hc h.orders, RowAt.keep hc h.apart, RowAt.keep hc h.before, h.capT, h.capO, h.capA, h.capB⟩
theorem CellsOf.blocks {X : Type} {r : Rd X} {l : List X} {CS : List Value} (h : CellsOf r w B l CS) (hk : ∀ b, b < B → w'.heap[b]? = w.heap[b]?) : CellsOf r w' B l CS :=
  ⟨h.1, fun i x hi => by obtain ⟨cs, h1, h2⟩ := h.2 i x hi; exact ⟨cs, r.keep (fun p hp => World.cell?_of_block (hk _ hp)) h1, h2⟩⟩
theorem Ints.blocks {A : Option Addr} {l : List Int} (h : Ints w B A l) (hk : ∀ b, b < B → w'.heap[b]? = w.heap[b]?) : Ints w' B A l := by
  refine ⟨⟨h.1.1, fun h0 => ?_⟩, h.2⟩
  obtain ⟨ad, h1, h2, h3⟩ := h.1.2 h0
  exact ⟨ad, h1, h2, fun j u hu => (World.cell?_of_block (by rw [block_of_add]; exact hk _ h2)).trans (h3 j u hu)⟩
end
end Go.Proofs.YtofabhenmplkoaaGreatDoor.ins

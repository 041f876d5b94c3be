/- instance.Check, walked. -/
import Derived.Test.YtceceomaheobhaaInsI
namespace Go.Proofs.Ytceceomaheobhaa.ins
open Go.RowKit
open Go.Proofs.Ytceceomaheobhaa.lib Go.Proofs.Ytceceomaheobhaa.rd Go.Proofs.Ytceceomaheobhaa.typ Go.Proofs.Ytceceomaheobhaa.app Go.Proofs.Ytceceomaheobhaa.flts Go.Proofs.Ytceceomaheobhaa.note Go.Proofs.Ytceceomaheobhaa.txt Go.Proofs.Ytceceomaheobhaa.und Go.Proofs.Ytceceomaheobhaa.cat Go.Proofs.Ytceceomaheobhaa.rul Go.Proofs.Ytceceomaheobhaa.net
set_option linter.unusedVariables false
set_option linter.unusedSimpArgs false

/-- What Check is proved for. -/
structure Lim (x : Ins) : Prop where
  places : x.net.places.length ≤ 100
  arcs : x.net.arcs.length ≤ 10000
  points : ∀ a ∈ x.net.arcs, a.travel.length ≤ 100 ∧ a.slow.length ≤ 1000
  few : ∀ (j : Nat) a, x.net.arcs[j]? = some a → arcE x.net.places.length ((x.net.arcs.take j).map wayK) a ≠ [] → j < 100
  net : (insN x).length ≤ 200000
  types : x.types.length ≤ 20
  orders : x.orders.length ≤ 20
  apart : x.apart.length ≤ 24
  before : x.before.length ≤ 24
theorem undL_len (word : ByteArray) (fs : List Flt) : (undL word fs).length = fs.length := by unfold undL; rw [List.length_map]
theorem reads_flts {w w' : World} {base c : Nat} {A : Option Addr} {fs : List Flt} (h : Fown w base A c fs) (hb : Below w.heap.size w w') : Reads w' w.heap.size 2 A fs.length (fcs fs) := (Reads.of_own h).below hb

/-- Four rows, in a block written out. -/
theorem four_rows (w : World) {a b c d : List Flt} {A B C D : Option Addr} (ha : Reads w w.heap.size 2 A a.length (fcs a)) (hb : Reads w w.heap.size 2 B b.length (fcs b)) (hc : Reads w w.heap.size 2 C c.length (fcs c)) (hd : Reads w w.heap.size 2 D d.length (fcs d)) (ca cb cc cd : Nat) (t : TypeId) :
    FRows (w.alloc (.cells #[.slice A a.length ca, .slice B b.length cb, .slice C c.length cc, .slice D d.length cd] t)) (w.heap.size + 1) (some ⟨w.heap.size, 0, none⟩) [a, b, c, d] := fun i fs hi => by
  have hn := fun j u hu => World.news_of_block (w := w.alloc (.cells #[.slice A a.length ca, .slice B b.length cb, .slice C c.length cc, .slice D d.length cd] t)) (B := w.heap.size) (heap_alloc_new w _) j u hu
  have hk : ∀ {X : Option Addr} {x : List Flt}, Reads w w.heap.size 2 X x.length (fcs x) → Reads (w.alloc (.cells #[.slice A a.length ca, .slice B b.length cb, .slice C c.length cc, .slice D d.length cd] t)) (w.heap.size + 1) 2 X x.length (fcs x) := fun h => (h.alloc (Nat.le_refl _) _).more (by omega)
  rcases i with _ | _ | _ | _ | i
  · simp at hi
    subst hi
    exact ⟨_, A, ca, rfl, Nat.lt_succ_self _, hn 0 _ rfl, hk ha⟩
  · simp at hi
    subst hi
    exact ⟨_, B, cb, rfl, Nat.lt_succ_self _, hn 1 _ rfl, hk hb⟩
  · simp at hi
    subst hi
    exact ⟨_, C, cc, rfl, Nat.lt_succ_self _, hn 2 _ rfl, hk hc⟩
  · simp at hi
    subst hi
    exact ⟨_, D, cd, rfl, Nat.lt_succ_self _, hn 3 _ rfl, hk hd⟩
  · simp at hi
theorem keepF {w w' : World} {base c : Nat} {A : Option Addr} {fs : List Flt} (h : Fown w base A c fs) (hb : Below w.heap.size w w') : Fown w' base A c fs := own_below h hb
theorem rowF {w : World} {base c : Nat} {A : Option Addr} {fs : List Flt} (h : Fown w base A c fs) : Reads w w.heap.size 2 A fs.length (fcs fs) := Reads.of_own h
end Go.Proofs.Ytceceomaheobhaa.ins

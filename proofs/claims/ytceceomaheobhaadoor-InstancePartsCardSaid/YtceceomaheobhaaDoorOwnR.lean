/- What a call owns, read as a row. -/
import Derived.Test.YtceceomaheobhaaDoorRd
namespace Go.Proofs.YtceceomaheobhaaDoor.rd
open Go.RowKit
open Go.Proofs.YtceceomaheobhaaDoor.lib
set_option linter.unusedVariables false

theorem flat_at {α β : Type} {g : α → List β} {s : Nat} (hg : ∀ x, (g x).length = s) : ∀ (l : List α) (i : Nat) (x : α), l[i]? = some x → ∀ j, j < s → (l.flatMap g)[i * s + j]? = (g x)[j]?
  | [], i, x, h, j, hj => by simp at h
  | y :: l, 0, x, h, j, hj => by
    simp at h
    subst h
    rw [Nat.zero_mul, Nat.zero_add, List.flatMap_cons, List.getElem?_append_left (by rw [hg]; exact hj)]
  | y :: l, i + 1, x, h, j, hj => by
    rw [List.getElem?_cons_succ] at h
    rw [List.flatMap_cons, List.getElem?_append_right (by rw [hg, Nat.succ_mul]; omega), hg, show (i + 1) * s + j - s = i * s + j by rw [Nat.succ_mul]; omega]
    exact flat_at hg l i x h j hj
theorem rowAt_own {X : Type} {r : Rd X} {w : World} {base c : Nat} {e : TypeId} {A : Option Addr} {l : List X} {cells : X → List Value} (hg : ∀ x, (cells x).length = r.size) (h : w.ownsRow base e r.size (.slice A l.length c) l.length (l.flatMap cells))
    (hr : ∀ x ∈ l, r.at_ w w.heap.size (cells x) x) (hl : l.length ≤ 17592186043904) (hz : 0 < r.size) : RowAt r w w.heap.size A l := by
  refine ⟨hl, fun i x hi => ?_⟩
  rcases h.2 with ⟨h1, h2⟩ | ⟨g, cap, cur, h1, h2, h3, h4⟩
  · have := (List.getElem?_eq_some_iff.1 hi).1
    omega
  · injection h1 with h1 _ _
    subst h1
    refine ⟨⟨g, 0, none⟩, cells x, rfl, (Array.getElem?_eq_some_iff.1 h3).1, hr x (List.mem_of_getElem? hi), fun j u hu => ?_⟩
    have hj : j < r.size := by rw [← hg x]; exact (List.getElem?_eq_some_iff.1 hu).1
    have hfl := flat_at hg l i x hi j hj
    rw [hu] at hfl
    exact h.cells (g := g) rfl _ _ hfl
theorem two_new (w : World) (a b : Value) (t : TypeId) (j : Nat) (u : Value) (h : [a, b][j]? = some u) : (w.alloc (.cells #[a, b] t)).cell? ((⟨w.heap.size, 0, none⟩ : Addr).add j) = some u :=
  World.news_of_block (w := w.alloc (.cells #[a, b] t)) (B := w.heap.size) (heap_alloc_new w _) j u (by simpa using h)
theorem one_new (w : World) (a : Value) (t : TypeId) (j : Nat) (u : Value) (h : [a][j]? = some u) : (w.alloc (.cells #[a] t)).cell? ((⟨w.heap.size, 0, none⟩ : Addr).add j) = some u :=
  World.news_of_block (w := w.alloc (.cells #[a] t)) (B := w.heap.size) (heap_alloc_new w _) j u (by simpa using h)
/-- One element, written out in a block of its own. -/
theorem row_one {X : Type} {r : Rd X} {w : World} {cs : List Value} {x : X} {t : TypeId} (h : r.at_ (w.alloc (.cells cs.toArray t)) (w.heap.size + 1) cs x) : RowAt r (w.alloc (.cells cs.toArray t)) (w.heap.size + 1) (some ⟨w.heap.size, 0, none⟩) [x] := by
  refine ⟨by simp, fun i y hi => ?_⟩
  rcases i with _ | i
  · simp at hi
    subst hi
    refine ⟨_, cs, rfl, Nat.lt_succ_self _, h, fun j u hu => ?_⟩
    rw [Nat.zero_mul, Nat.zero_add]
    exact World.news_of_block (w := w.alloc (.cells cs.toArray t)) (B := w.heap.size) (heap_alloc_new w _) j u (by simpa using hu)
  · simp at hi
/-- Two elements, written out in a block of their own. -/
theorem row_two {X : Type} {r : Rd X} {w : World} {cs cs' : List Value} {x x' : X} {t : TypeId} (h : r.at_ (w.alloc (.cells (cs ++ cs').toArray t)) (w.heap.size + 1) cs x) (h' : r.at_ (w.alloc (.cells (cs ++ cs').toArray t)) (w.heap.size + 1) cs' x') :
    RowAt r (w.alloc (.cells (cs ++ cs').toArray t)) (w.heap.size + 1) (some ⟨w.heap.size, 0, none⟩) [x, x'] := by
  have hl := r.len h
  have hl' := r.len h'
  have hnew := fun j u hu => World.news_of_block (w := w.alloc (.cells (cs ++ cs').toArray t)) (B := w.heap.size) (heap_alloc_new w _) j u hu
  refine ⟨by simp, fun i y hi => ?_⟩
  rcases i with _ | _ | i
  · simp at hi
    subst hi
    refine ⟨_, cs, rfl, Nat.lt_succ_self _, h, fun j u hu => ?_⟩
    rw [Nat.zero_mul, Nat.zero_add]
    exact hnew j u (by rw [List.getElem?_append_left (List.getElem?_eq_some_iff.1 hu).1]; exact hu)
  · simp at hi
    subst hi
    refine ⟨_, cs', rfl, Nat.lt_succ_self _, h', fun j u hu => ?_⟩
    rw [Nat.zero_add, Nat.one_mul]
    exact hnew (r.size + j) u (by rw [List.getElem?_append_right (by omega), hl, Nat.add_sub_cancel_left]; exact hu)
  · simp at hi
end Go.Proofs.YtceceomaheobhaaDoor.rd

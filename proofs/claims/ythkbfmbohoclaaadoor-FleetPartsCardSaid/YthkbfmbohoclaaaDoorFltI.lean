/- Two lists of violations that are the same; few. -/
import Derived.Test.YthkbfmbohoclaaaDoorFltG
import Derived.Deep.QuietTactic
import Derived.BigQuiet
namespace Go.Proofs.YthkbfmbohoclaaaDoor.flt
open Go.RowKit
open Go.Proofs.YthkbfmbohoclaaaDoor.lib Go.Proofs.YthkbfmbohoclaaaDoor.rd Go.Proofs.YthkbfmbohoclaaaDoor.typ Go.Proofs.YthkbfmbohoclaaaDoor.txt Go.Proofs.YthkbfmbohoclaaaDoor.app
set_option linter.unusedVariables false

theorem flat_at {α β : Type} {g : α → List β} {s : Nat} (hg : ∀ x, (g x).length = s) : ∀ (l : List α) (i : Nat) (x : α), l[i]? = some x → ∀ j, j < s → (l.flatMap g)[i * s + j]? = (g x)[j]?
  | [], i, x, h, j, hj => by simp at h
  | y :: l, 0, x, h, j, hj => by
    simp at h
    subst h
    rw [Nat.zero_mul, Nat.zero_add, List.flatMap_cons, List.getElem?_append_left (by rw [hg]; exact hj)]
  | y :: l, i + 1, x, h, j, hj => by
    rw [List.getElem?_cons_succ] at h
    rw [List.flatMap_cons, List.getElem?_append_right (by rw [hg, Nat.succ_mul]; omega), hg, show (i + 1) * s + j - s = i * s + j by rw [Nat.succ_mul]; omega]
    exact flat_at hg l i x h j hj
/-- What the call owns can be read. -/
theorem rowAt_own {X : Type} {r : Rd X} {w : World} {base c : Nat} {e : TypeId} {A : Option Addr} {l : List X} {cells : X → List Value} (hg : ∀ x, (cells x).length = r.size) (h : w.ownsRow base e r.size (.slice A l.length c) l.length (l.flatMap cells))
    (hr : ∀ x ∈ l, r.at_ w w.heap.size (cells x) x) (hl : l.length ≤ 17592186043904) (hz : 0 < r.size) : RowAt r w w.heap.size A l := by
  refine ⟨hl, fun i x hi => ?_⟩
  rcases h.2 with ⟨h1, h2⟩ | ⟨g, cap, cur, h1, h2, h3, h4⟩
  · have := (List.getElem?_eq_some_iff.1 hi).1
    omega
  · injection h1 with h1 _ _
    subst h1
    refine ⟨⟨g, 0, none⟩, cells x, rfl, (Array.getElem?_eq_some_iff.1 h3).1, hr x (List.mem_of_getElem? hi), fun j u hu => ?_⟩
    have hj : j < r.size := by rw [← hg x]; exact (List.getElem?_eq_some_iff.1 hu).1
    have hfl := flat_at hg l i x hi j hj
    rw [hu] at hfl
    exact h.cells (g := g) rfl _ _ hfl
theorem flts_row {w : World} {base c : Nat} {A : Option Addr} {fs : List Flt} (h : Fown w base A c fs) (hf : ∀ f ∈ fs, FltFits f) (hl : fs.length ≤ 17592186043904) : RowAt rFlt w w.heap.size A fs :=
  rowAt_own (cells := fun f => [.int .i64 f.err, .string f.at_]) (fun _ => rfl) h (fun f hf' => rFlt_mk (hf f hf')) hl (by decide)

set_option maxHeartbeats 1000000 in
theorem faults_any (A : Option Addr) (c : Nat) (A' : Option Addr) (c' : Nat) (l : List Flt) (n : Nat) (hn : l.length = n) (w : World) (B B' : Nat) (hB : B ≤ w.heap.size) (hB' : B' ≤ w.heap.size) (ha : RowAt rFlt w B A l) (hb : RowAt rFlt w B' A' l) :
    Calls Tryd.prog 12 #[.slice A n c, .slice A' n c'] w fun e w' => e = .returned (.bool true) ∧ Below w.heap.size w w' := by
  have hlen := ha.len
  rw [hn] at hlen
  have HN := Lib.hid hn
  clear hn
  go_enter Tryd.func12, Tryd.ntmps12
  go_wp2
  go_loopw [5] (fun i wr => ∃ k : Nat, k ≤ n ∧ i = .int .i64 k ∧ Below w.heap.size w wr) (fun i _ => n - (intOf i).toNat)
  case atStart => exact ⟨0, by omega, rfl, Below.refl _ _⟩
  case round =>
    obtain ⟨k, hk, rfl, hbel⟩ := hrel
    by_cases hlt : k < n
    · obtain ⟨x, hx⟩ : ∃ x, l[k]? = some x := ⟨_, List.getElem?_eq_getElem (by rw [HN.out]; exact hlt)⟩
      obtain ⟨ad, rfl, hadb, ⟨m0, m1⟩, _⟩ := row_Flt (ha.below (hbel.mono hB)) hx
      obtain ⟨ad', rfl, hadb', ⟨k0, k1⟩, _⟩ := row_Flt (hb.below (hbel.mono hB')) hx
      have hk0 : (0 : Int) ≤ (k : Int) := by omega
      have hkn : (k : Int) < (n : Int) := by omega
      clear hx
      go_wp2
      go_quiet (fail)
      go_wp2
      go_roundw
      case rel => exact ⟨k + 1, by omega, by go_num, bel_drewN hbel _⟩
      case measure => simp [intOf]; omega
    · have hkn : k = n := by omega
      subst hkn
      go_wp2
      go_ret
      exact ⟨rfl, hbel⟩
end Go.Proofs.YthkbfmbohoclaaaDoor.flt

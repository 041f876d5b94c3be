/- van; few. -/
import Derived.Test.YthkbfmbohoclaaaDoorFltI
namespace Go.Proofs.YthkbfmbohoclaaaDoor.flt
open Go.RowKit
open Go.Proofs.YthkbfmbohoclaaaDoor.lib Go.Proofs.YthkbfmbohoclaaaDoor.rd Go.Proofs.YthkbfmbohoclaaaDoor.typ Go.Proofs.YthkbfmbohoclaaaDoor.txt Go.Proofs.YthkbfmbohoclaaaDoor.app
set_option linter.unusedVariables false

/-- The type that the examples ask. -/
def vanT : Ty := ⟨⟨#[118, 97, 110]⟩, 0, 0, 0, [5], 5, 0, 0, 100, 50, 0, 0, 0, 0⟩
def VanOut (w : World) (e : Ending) (w' : World) : Prop := ∃ g, e = .returned (.agg #[.string ⟨#[118, 97, 110]⟩, .int .i64 0, .int .i64 0, .int .i64 0, .slice (some ⟨g, 0, none⟩) 1 1, .int .i64 5, .int .i64 0, .int .i64 0, .int .i64 100, .int .i64 50, .int .i64 0, .int .i64 0, .int .i64 0, .int .i64 0]) ∧ Ints w' w'.heap.size (some ⟨g, 0, none⟩) [5] ∧ Below w.heap.size w w' ∧ w.heap.size < w'.heap.size
theorem van_any (w : World) : Calls Tryd.prog 41 #[] w (VanOut w) := by
  go_enter Tryd.func41, Tryd.ntmps41
  go_wp2
  refine bodyPost_ret (v := .agg #[.string ⟨#[118, 97, 110]⟩, .int .i64 0, .int .i64 0, .int .i64 0, .slice (some ⟨w.heap.size + 1, 0, none⟩) 1 1, .int .i64 5, .int .i64 0, .int .i64 0, .int .i64 100, .int .i64 50, .int .i64 0, .int .i64 0, .int .i64 0, .int .i64 0]) (by simp [results, Tryd.results41, go_sem]) rfl ?_
  refine ⟨_, rfl, ?_, ((Below.refl _ _).alloc (Nat.le_refl _) _).alloc (by simp) _, by simp; omega⟩
  have h := Ints.lit (w.alloc (.cells #[.string ⟨#[118, 97, 110]⟩, .int .i64 0, .int .i64 0, .int .i64 0, .slice (some ⟨w.heap.size + 1, 0, none⟩) 1 1, .int .i64 5, .int .i64 0, .int .i64 0, .int .i64 100, .int .i64 50, .int .i64 0, .int .i64 0, .int .i64 0, .int .i64 0] 35)) [5] (by decide)
  simpa using h
theorem van_fits : TyFits vanT := by unfold TyFits vanT; decide
/-- One element, written out in a block of its own. -/
theorem row_one {X : Type} {r : Rd X} {w : World} {cs : List Value} {x : X} {t : TypeId} (h : r.at_ (w.alloc (.cells cs.toArray t)) (w.heap.size + 1) cs x) : RowAt r (w.alloc (.cells cs.toArray t)) (w.heap.size + 1) (some ⟨w.heap.size, 0, none⟩) [x] := by
  refine ⟨by simp, fun i y hi => ?_⟩
  rcases i with _ | i
  · simp at hi
    subst hi
    refine ⟨_, cs, rfl, Nat.lt_succ_self _, h, fun j u hu => ?_⟩
    rw [Nat.zero_mul, Nat.zero_add]
    exact World.news_of_block (w := w.alloc (.cells cs.toArray t)) (B := w.heap.size) (heap_alloc_new w _) j u (by simpa using hu)
  · simp at hi

/-- Are there few types? -/
def FewOut (l : List Ty) (w : World) (e : Ending) (w' : World) : Prop := ∃ b : Bool, e = .returned (.bool b) ∧ (b = true → l.length ≤ 10) ∧ w = w'
set_option maxHeartbeats 1000000 in
theorem few_any (A : Option Addr) (c : Nat) (l : List Ty) (w : World) (B : Nat) (hL : RowAt rTy w B A l) :
    Calls Tryd.prog 11 #[.slice A l.length c] w (FewOut l w) := by
  have hlen := hL.len
  obtain ⟨n, hn⟩ : ∃ n, l.length = n := ⟨_, rfl⟩
  have HO : Hid (∀ b : Bool, (b = true → n ≤ 10) → FewOut l w (.returned (.bool b)) w) := Lib.hid fun b hb => ⟨b, rfl, by rw [hn]; exact hb, rfl⟩
  rw [hn] at hlen ⊢
  have HN := Lib.hid hn
  clear hn
  go_enter Tryd.func11, Tryd.ntmps11
  go_wp2
  go_loop [3] (fun i => ∃ k : Nat, k ≤ n ∧ i = .int .i64 k ∧ k ≤ 11) (fun i => n - (intOf i).toNat)
  case atStart => exact ⟨0, by omega, rfl, by omega⟩
  case round =>
    obtain ⟨k, hk, rfl, hk11⟩ := hrel
    by_cases hlt : k < n
    · by_cases h11 : k < 11
      · obtain ⟨t, ht⟩ : ∃ t, l[k]? = some t := ⟨_, List.getElem?_eq_getElem (by rw [HN.out]; exact hlt)⟩
        obtain ⟨ad, C0, c0, rfl, hadb, ⟨m0, _, _, _, m4, _⟩, _, hf⟩ := row_Ty hL ht
        have hk0 : (0 : Int) ≤ (k : Int) := by omega
        have hkn : (k : Int) < (n : Int) := by omega
        have hk11' : (k : Int) < 11 := by omega
        clear ht
        by_cases hc : 6 < t.cap.length
        · have hc' : (6 : Int) < (t.cap.length : Int) := by omega
          clear hc
          go_wp2
          go_ret
          exact HO.out false (by simp)
        · have hc' : ¬ (6 : Int) < (t.cap.length : Int) := by omega
          by_cases hd : 40 < t.name.size
          · have hd' : (40 : Int) < (t.name.size : Int) := by omega
            clear hc hd
            go_wp2
            go_ret
            exact HO.out false (by simp)
          · have hd' : ¬ (40 : Int) < (t.name.size : Int) := by omega
            clear hc hd
            go_wp2
            go_round
            case rel => exact ⟨k + 1, by omega, by go_num, by omega⟩
            case measure => simp [intOf]; omega
      · have hn10 : ¬ ((n : Int) ≤ 10) := by omega
        have hk11' : ¬ (k : Int) < 11 := by omega
        have hkn : (k : Int) < (n : Int) := by omega
        go_wp2
        go_ret
        exact HO.out _ (by first | (simp; done) | (simp; omega))
    · have hkn : k = n := by omega
      subst hkn
      go_wp2
      all_goals go_ret
      all_goals exact HO.out _ (by first | (simp; done) | (simp; omega))
end Go.Proofs.YthkbfmbohoclaaaDoor.flt

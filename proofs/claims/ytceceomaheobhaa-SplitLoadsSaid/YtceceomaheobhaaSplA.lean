/- split.portion, split.Loads. -/
import Derived.Test.YtceceomaheobhaaBase
import Derived.Test.YtceceomaheobhaaSplP
import Derived.Deep.DeepCutAuto
import Derived.Deep.RegionWith
import Derived.Deep.RegionHeld3
namespace Go.Proofs.Ytceceomaheobhaa.spl
open Go.RowKit
open Go.Proofs.Ytceceomaheobhaa.lib Go.Proofs.Ytceceomaheobhaa.rd Go.Proofs.Ytceceomaheobhaa.app Go.Proofs.Ytceceomaheobhaa.els Go.Proofs.Ytceceomaheobhaa.loads
set_option linter.unusedVariables false
set_option linter.unusedSimpArgs false

theorem portion_any (q n k : Int) (h0 : 0 ≤ q) (hq9 : q ≤ 9223372036854775807) (hq : q / n ≤ 9223372036854775806) (hn : 1 ≤ n) (hn4 : n ≤ 4) (hk : 0 ≤ k) (hk4 : k ≤ 4) (w : World) :
    Calls Try.prog 23 #[.int .i64 q, .int .i64 n, .int .i64 k] w fun e w' => e = .returned (.int .i64 (porI q n k)) ∧ w = w' := by
  have h1 : 0 ≤ q / n := Int.ediv_nonneg h0 (by omega)
  have h2 : q / n ≤ q := Int.ediv_le_self _ h0
  have h3 : 0 ≤ q % n := Int.emod_nonneg _ (by omega)
  have h4 : q % n < n := Int.emod_lt_of_pos _ (by omega)
  go_enter Try.func23, Try.ntmps23
  go_wp2
  all_goals go_ret
  · exact ⟨by unfold porI; rw [if_pos (by assumption)]; rfl, rfl⟩
  · exact ⟨by unfold porI; rw [if_neg (by omega), Int.add_zero]; rfl, rfl⟩
theorem ints_elem : ElemOf 23 22 (.slice none 0 0) 1 24 := ⟨Try.underlying23, by kernel_rfl, rfl, by decide, by decide⟩
theorem push_els {X : Type} {f : X → El} {w w' : World} {v : Value} {g' : Nat} {Q : Nat → Prop} {cs : List Value} {xs : List X} {x : X} {A : Option Addr} (c : Nat) (hE : ElsIn f w (fun b => some b ≠ v.ownBlock ∧ Q b) cs xs) (hI : IntsOff w (fun b => some b ≠ v.ownBlock ∧ Q b) A (f x).nums) (hg : w.grownBy w' v.ownBlock) (hg' : v.ownBlock = some g' ∨ w.heap.size ≤ g') :
    ElsIn f w' (fun b => some b ≠ some g' ∧ Q b) (cs ++ (f x).cells A c) (xs ++ [x]) := by
  have hk : ∀ b, b < w.heap.size → (some b ≠ v.ownBlock ∧ Q b) → (some b ≠ some g' ∧ Q b) := fun b hb hp => ⟨fun e => by
    injection e with e
    subst e
    rcases hg' with h | h
    · exact hp.1 h.symm
    · omega, hp.2⟩
  exact .snoc c (hE.stay (Stays.grown hg) (fun b _ hp => hp.1) hk) (hI.stay (Stays.grown hg) (fun b _ hp => hp.1) hk)
/-- What Loads hands back. -/
def LoadsOut (w : World) (r : Option (List (List Int))) (e : Ending) (w' : World) : Prop :=
  (∃ ll A c cs, r = some ll ∧ e = .returned (.tuple #[.slice A ll.length c, .int .i64 0]) ∧ w'.ownsRow w.heap.size 22 1 (.slice A ll.length c) ll.length cs ∧ ElsIn elL w' (fun b => w.heap.size ≤ b) cs ll ∧ Below w.heap.size w w') ∨ (r = none ∧ e = .returned (.tuple #[.slice none 0 0, .int .i64 2]) ∧ Below w.heap.size w w')
theorem loads_bad (A : Option Addr) (c : Nat) (l : List Int) (n : Int) (w : World) (h : Ints w w.heap.size A l) (hb : n < 1 ∨ 4 < n ∨ okLd l = false) :
    Calls Try.prog 8 #[.slice A l.length c, .int .i64 n] w (LoadsOut w none) := by
  have hlen := h.len
  have HI := Lib.hid h
  by_cases h1 : n < 1
  · go_enter Try.func8, Try.ntmps8
    go_wp2
    go_ret2
    exact .inr ⟨rfl, rfl, Below.refl _ _⟩
  by_cases h4 : 4 < n
  · go_enter Try.func8, Try.ntmps8
    go_wp2
    go_ret2
    exact .inr ⟨rfl, rfl, Below.refl _ _⟩
  by_cases h3 : 3 < l.length
  · have h3' : (3 : Int) < (l.length : Int) := by omega
    go_enter Try.func8, Try.ntmps8
    go_wp2
    go_ret2
    exact .inr ⟨rfl, rfl, Below.refl _ _⟩
  have hr : rightB l l.length = false := by
    rcases hb with hb | hb | hb
    · omega
    · omega
    · unfold okLd at hb
      rw [decide_eq_true (by omega), Bool.true_and] at hb
      exact hb
  have h3' : ¬ (3 : Int) < (l.length : Int) := by omega
  clear hb h
  go_enter Try.func8, Try.ntmps8
  go_wp2_with (go_at_call 22; refine (right_any A c l l.length _ _ HI.out).mono ?_; rintro e w' ⟨rfl, rfl⟩)
  go_ret2
  exact .inr ⟨rfl, rfl, Below.refl _ _⟩
set_option maxHeartbeats 2000000 in
theorem loads_good (A : Option Addr) (c : Nat) (l : List Int) (n : Nat) (w : World) (h : Ints w w.heap.size A l) (h1 : 1 ≤ n) (h4 : n ≤ 4) (hok : okLd l = true) :
    Calls Try.prog 8 #[.slice A l.length c, .int .i64 n] w (LoadsOut w (some (partsL l n))) := by
  have HI := Lib.hid h
  have HK := Lib.hid (fun x hx => okLd_at hok (x := x) hx)
  have h3 := okLd_len hok
  have hr : rightB l l.length = true := by
    unfold okLd at hok
    rw [decide_eq_true (by omega), Bool.true_and] at hok
    exact hok
  obtain ⟨m, hm⟩ : ∃ m, l.length = m := ⟨_, rfl⟩
  rw [hm] at h3 hr ⊢
  have HM := Lib.hid hm
  have hn1 : (1 : Int) ≤ (n : Int) := by omega
  have hn4 : (n : Int) ≤ 4 := by omega
  have h3' : (m : Int) ≤ 3 := by omega
  clear h hok hm
  go_enter Try.func8, Try.ntmps8
  go_wp2_with (go_at_call 22; rw [← HM.out]; refine (right_any A c l l.length _ _ HI.out).mono ?_; rw [HM.out]; rintro e w' ⟨rfl, rfl⟩)
  go_loopw [6, 7, 8, 9, 10, 30] (fun v _ _ _ _ i wr => ∃ (j : Nat) (B : Option Addr) (cB : Nat) (cs : List Value), j ≤ n ∧ i = .int .i64 j ∧ v = .slice B j cB ∧ ElsIn elL wr (fun b => some b ≠ (Value.slice B j cB).ownBlock ∧ w.heap.size ≤ b) cs (partsTo l n j) ∧ wr.ownsRow w.heap.size 22 1 (.slice B j cB) j cs ∧ Below w.heap.size w wr) (fun _ _ _ _ _ i _ => n - (intOf i).toNat)
  case atStart => exact ⟨0, none, 0, [], by omega, rfl, rfl, .nil, World.ownsRow_nil _ _ _ _, Below.refl _ _⟩
  case round =>
    obtain ⟨j, B, cB, cs, hj, rfl, rfl, hE, hown, hbel⟩ := hrel
    by_cases hlt : j < n
    · have hj0 : (0 : Int) ≤ (j : Int) := by omega
      have hj4 : (j : Int) ≤ 4 := by omega
      have hjn : (j : Int) < (n : Int) := by omega
      rename World => wo
      have HE := Lib.hid (And.intro hE (And.intro hown hbel))
      clear hE hown hbel
      have HZ : Hid ((ptL l n j).length = m) := Lib.hid (by rw [ptL_len, HM.out])
      have hzo := HE.out.2.2.size
      obtain ⟨S, hS⟩ : ∃ S, wo.heap.size = S := ⟨_, rfl⟩
      rw [hS] at hzo
      go_upto_region 8 with (at_make; refine make_ints rfl _ _ rfl wo.heap.size m rfl rfl (by omega) (Nat.le_refl _) ?_; rw [hS]; intro w1 hown1 hb1 hz1)
      have hb1' : Below S wo w1 := by rw [← hS]; rw [← hS] at hb1; exact hb1
      clear hb1
      go_wp2_with fail
      go_loopw [9, 10, 38] (fun _ _ i wr => ∃ k : Nat, k ≤ m ∧ i = .int .i64 k ∧ wr.ownsRow S 3 1 (.slice (some ⟨S, 0, none⟩) m m) m ((partL (ptL l n j) m k).map (.int .i64)) ∧ Below S wo wr) (fun _ _ i _ => m - (intOf i).toNat)
      case atStart => exact ⟨0, by omega, rfl, by rw [partL_zero]; exact hown1, hb1'⟩
      case round =>
        obtain ⟨k, hk, rfl, hown, hbel⟩ := hrel
        by_cases hlk : k < m
        · obtain ⟨ad, x, rfl, hadb, hx, hcx⟩ := (HI.out.below (HE.out.2.2.trans (hbel.mono hzo))).at_ (k := k) (by rw [HM.out]; exact hlk)
          obtain ⟨x0, x1⟩ := HK.out x (List.mem_of_getElem? hx)
          have HX := Lib.hid (partL_set HZ.out (ptL_at hx n j))
          have hst := (hown.stored k (.int .i64 (porI x n j))).1
          rw [← List.map_set, HX.out] at hst
          have HST := Lib.hid hst
          have hfz := hown.frozenAt k
          have hck := own_cells hown k hlk
          have hk0 : (0 : Int) ≤ (k : Int) := by omega
          have hkn : (k : Int) < (m : Int) := by omega
          clear hx hst
          go_wp2_with (go_at_call 23; refine (portion_any x n j x0 (by omega) (Int.le_trans (Int.ediv_le_self _ x0) (by omega)) hn1 hn4 hj0 hj4 _).mono ?_; rintro e w' ⟨rfl, rfl⟩)
          exact ⟨⟨k + 1, by omega, by go_num, HST.out, hbel.setCell (p := ⟨S, _, none⟩) (Nat.le_refl _) _⟩, by simp [intOf]; omega⟩
        · have hkm : k = m := by omega
          subst hkm
          clear hlk hk
          rw [partL_full HZ.out] at hown
          have hvS : ∀ q, (Value.slice B j cB).ownBlock = some q → q < S := fun q hq => by rw [← hS]; exact (HE.out.2.1.lt q hq).2
          have hbelo : Below wo.heap.size wo wr := by rw [hS]; exact hbel
          have hzr := hbel.size
          have hE3 : ElsIn elL wr (fun b => some b ≠ (Value.slice B j cB).ownBlock ∧ w.heap.size ≤ b) cs (partsTo l n j) := HE.out.1.stay (row := none) (Stays.below hbelo) (fun b _ _ e => by cases e) (fun b _ h => h)
          have hI3 : IntsOff wr (fun b => some b ≠ (Value.slice B j cB).ownBlock ∧ w.heap.size ≤ b) (some ⟨S, 0, none⟩) (ptL l n j) := by
            refine IntsOff.own (c := k) (base := S) (e := 3) ?_ (by rw [HZ.out]; omega) (fun b hb => ⟨fun e => ?_, by omega⟩)
            · rw [HZ.out]; exact hown
            · have := hvS b e.symm
              omega
          have bA : Below wr.heap.size wr (wr.alloc (.cells #[.slice (some ⟨S, 0, none⟩) k k] 22)) := (Below.refl _ _).alloc (Nat.le_refl _) _
          have H4 := Lib.hid (And.intro (hE3.stay (row := none) (Stays.below bA) (fun b _ _ e => by cases e) (fun b _ h => h)) (hI3.stay (row := none) (Stays.below bA) (fun b _ _ e => by cases e) (fun b _ h => h)))
          have HO4 : Hid ((wr.alloc (.cells #[.slice (some ⟨S, 0, none⟩) k k] 22)).ownsRow w.heap.size 22 1 (.slice B j cB) j cs) := Lib.hid (own_below (own_below HE.out.2.1 hbelo) bA)
          have HB4 : Hid (Below w.heap.size w (wr.alloc (.cells #[.slice (some ⟨S, 0, none⟩) k k] 22))) := Lib.hid ((HE.out.2.2.trans (hbel.mono hzo)).trans (bA.mono (by omega)))
          have HS4 : Hid (w.heap.size ≤ (wr.alloc (.cells #[.slice (some ⟨S, 0, none⟩) k k] 22)).heap.size) := Lib.hid HB4.out.size
          clear hown hbel hE3 hI3 hbelo bA
          go_wp2_with (at_builtin; go_loud (refine wpList_app ints_elem _ _ rfl w.heap.size B j cB cs rfl HO4.out ⟨wr.heap.size, 0, none⟩ 1 [.slice (some ⟨S, 0, none⟩) k k] rfl rfl (cell_one_new _ _ _) (fun u hu => by rw [List.mem_singleton] at hu; rw [hu]; rfl) (by omega) HS4.out rfl ?_); intro g5 c5 w5 hown5 hg5 hx5; have HK5 := Lib.hid (And.intro hown5 (And.intro hg5 hx5)); clear hown5 hg5 hx5)
          have hP := push_els (f := elL) (x := ptL l n j) k H4.out.1 H4.out.2 HK5.out.2.1 HK5.out.2.2
          rw [show (elL (ptL l n j)).cells (some ⟨S, 0, none⟩) k = [Value.slice (some ⟨S, 0, none⟩) k k] by unfold El.cells elL; rw [HZ.out]; rfl, ← partsTo_succ] at hP
          exact ⟨⟨j + 1, some ⟨g5, 0, none⟩, c5, _, by omega, by go_num, rfl, hP, HK5.out.1, HB4.out.grown HK5.out.2.1 HS4.out (fun q e => own_base HO4.out q e)⟩, by simp [intOf]; omega⟩
    · have hjn : j = n := by omega
      subst hjn
      clear hlt
      go_wp2
      go_ret2
      refine .inl ⟨partsL l j, B, cB, cs, rfl, by rw [partsL_len]; rfl, by rw [partsL_len]; exact hown, ?_, hbel⟩
      exact hE.stay (row := none) (Stays.below (Below.refl _ _)) (fun b _ _ e => by cases e) (fun b _ h => h.2)
theorem loads_any (A : Option Addr) (c : Nat) (l : List Int) (n : Int) (w : World) (h : Ints w w.heap.size A l) :
    Calls Try.prog 8 #[.slice A l.length c, .int .i64 n] w (LoadsOut w (loadsF l n)) := by
  by_cases hb : n < 1 ∨ 4 < n
  · rw [loadsF_num hb]
    exact loads_bad A c l n w h (by omega)
  cases ho : okLd l
  · rw [loadsF_bad ho]
    exact loads_bad A c l n w h (.inr (.inr ho))
  · obtain ⟨k, rfl⟩ := Int.eq_ofNat_of_zero_le (show 0 ≤ n by omega)
    rw [loadsF_some (by omega) (by omega) ho]
    exact loads_good A c l k w h (by omega) (by omega) ho
end Go.Proofs.Ytceceomaheobhaa.spl

/- Joined texts: SplP SplA SplB SplC SplD SplE. -/
import Derived.Test.YtceceomaheobhaaGreatDoorBase
import Derived.Deep.DeepCutAuto
import Derived.Deep.RegionWith
import Derived.Deep.RegionHeld3
import Derived.Test.YtceceomaheobhaaGreatDoorZ4
import Derived.Test.YtceceomaheobhaaGreatDoorZ3
import Derived.Test.YtceceomaheobhaaGreatDoorZ1
/- Plain functions of split loads. -/
namespace Go.Proofs.YtceceomaheobhaaGreatDoor.spl
open Go.Proofs.YtceceomaheobhaaGreatDoor.loads
set_option linter.unusedVariables false

/-- The part k (from 0 on) of n parts of q. -/
def porI (q n k : Int) : Int := q / n + (if k < q % n then 1 else 0)
theorem porI_bd {q n k : Int} (h0 : 0 ≤ q) (h1 : 1 ≤ n) : 0 ≤ porI q n k ∧ porI q n k ≤ q + 1 := by
  have a : 0 ≤ q / n := Int.ediv_nonneg h0 (by omega)
  have b : q / n ≤ q := Int.ediv_le_self _ h0
  unfold porI
  split <;> omega
/-- How many of k, k + n, .. are at most q. -/
def cntI (q n k : Int) : Int := if k ≤ q then (q - k) / n + 1 else 0
theorem cnt_step {q n k : Int} (hn : 1 ≤ n) (h : k ≤ q) : cntI q n k = 1 + cntI q n (k + n) := by
  unfold cntI
  rw [if_pos h]
  have e : q - k = (q - (k + n)) + n * 1 := by omega
  split
  · rw [e, Int.add_mul_ediv_left _ _ (by omega)]
    omega
  · rw [Int.ediv_eq_zero_of_lt (by omega) (by omega)]
    rfl
theorem cnt_end {q n k : Int} (h : ¬ k ≤ q) : cntI q n k = 0 := by unfold cntI; rw [if_neg h]
theorem cnt_por {q : Int} {n k : Nat} (h0 : 0 ≤ q) (hn : 1 ≤ n) (hn4 : n ≤ 4) (hk : k < n) : cntI q n ((k : Int) + 1) = porI q n k := by
  unfold cntI porI
  have : n = 1 ∨ n = 2 ∨ n = 3 ∨ n = 4 := by omega
  rcases this with rfl | rfl | rfl | rfl
  all_goals (split <;> split <;> omega)
def ptL (l : List Int) (n k : Int) : List Int := l.map fun q => porI q n k
theorem ptL_len (l : List Int) (n k : Int) : (ptL l n k).length = l.length := by unfold ptL; rw [List.length_map]
theorem ptL_at {l : List Int} {i : Nat} {x : Int} (h : l[i]? = some x) (n k : Int) : (ptL l n k)[i]? = some (porI x n k) := by
  unfold ptL
  rw [List.getElem?_map, h]
  rfl
/-- The first j of the n parts. -/
def partsTo (l : List Int) (n j : Nat) : List (List Int) := (List.range j).map fun k : Nat => ptL l n k
def partsL (l : List Int) (n : Nat) : List (List Int) := partsTo l n n
theorem partsTo_len (l : List Int) (n j : Nat) : (partsTo l n j).length = j := by unfold partsTo; simp
theorem partsTo_zero (l : List Int) (n : Nat) : partsTo l n 0 = [] := rfl
theorem partsTo_succ (l : List Int) (n j : Nat) : partsTo l n (j + 1) = partsTo l n j ++ [ptL l n j] := by
  unfold partsTo
  rw [List.range_succ, List.map_append]
  rfl
theorem partsL_len (l : List Int) (n : Nat) : (partsL l n).length = n := partsTo_len l n n
theorem partsL_at (l : List Int) {n k : Nat} (h : k < n) : (partsL l n)[k]? = some (ptL l n k) := by
  unfold partsL partsTo
  rw [List.getElem?_map, List.getElem?_range h]
  rfl
/-- A right load: at most three numbers from 0 to 1000. -/
def okLd (l : List Int) : Bool := decide (l.length ≤ 3) && rightB l l.length
theorem okLd_at {l : List Int} (h : okLd l = true) {x : Int} (hx : x ∈ l) : 0 ≤ x ∧ x ≤ 1000 := by
  unfold okLd rightB at h
  simp only [Bool.and_eq_true, List.all_eq_true, decide_eq_true_eq] at h
  exact h.2.1 x hx
theorem okLd_len {l : List Int} (h : okLd l = true) : l.length ≤ 3 := by
  unfold okLd at h
  simp only [Bool.and_eq_true, decide_eq_true_eq] at h
  exact h.1
/-- What Loads answers. -/
def loadsF (l : List Int) (n : Int) : Option (List (List Int)) := if (1 ≤ n ∧ n ≤ 4) ∧ okLd l = true then some (partsL l n.toNat) else none
theorem loadsF_some {l : List Int} {n : Nat} (h1 : 1 ≤ n) (h4 : n ≤ 4) (hl : okLd l = true) : loadsF l n = some (partsL l n) := by
  unfold loadsF
  rw [if_pos ⟨by omega, hl⟩, Int.toNat_natCast]
theorem loadsF_num {l : List Int} {n : Int} (h : n < 1 ∨ 4 < n) : loadsF l n = none := by
  unfold loadsF
  rw [if_neg (by omega)]
theorem loadsF_bad {l : List Int} {n : Int} (h : okLd l = false) : loadsF l n = none := by
  unfold loadsF
  rw [if_neg (by rw [h]; simp)]
/-- The sum of the parts of one number. -/
theorem por_sum {q : Int} {n : Nat} (h0 : 0 ≤ q) (hn : 1 ≤ n) (hn4 : n ≤ 4) : ((List.range n).map fun k : Nat => porI q n k).sum = q := by
  unfold porI
  have : n = 1 ∨ n = 2 ∨ n = 3 ∨ n = 4 := by omega
  rcases this with rfl | rfl | rfl | rfl
  all_goals
    simp only [List.range_succ, List.range_zero, List.nil_append, List.cons_append, List.map_cons, List.map_nil, List.sum_cons, List.sum_nil]
    repeat' split
    all_goals omega
end Go.Proofs.YtceceomaheobhaaGreatDoor.spl

/- split.portion, split.Loads. -/
namespace Go.Proofs.YtceceomaheobhaaGreatDoor.spl
open Go.RowKit
open Go.Proofs.YtceceomaheobhaaGreatDoor.lib Go.Proofs.YtceceomaheobhaaGreatDoor.rd Go.Proofs.YtceceomaheobhaaGreatDoor.app Go.Proofs.YtceceomaheobhaaGreatDoor.els Go.Proofs.YtceceomaheobhaaGreatDoor.loads
set_option linter.unusedVariables false
set_option linter.unusedSimpArgs false

theorem portion_any (q n k : Int) (h0 : 0 ≤ q) (hq9 : q ≤ 9223372036854775807) (hq : q / n ≤ 9223372036854775806) (hn : 1 ≤ n) (hn4 : n ≤ 4) (hk : 0 ≤ k) (hk4 : k ≤ 4) (w : World) :
    Calls Tryz.prog 81 #[.int .i64 q, .int .i64 n, .int .i64 k] w fun e w' => e = .returned (.int .i64 (porI q n k)) ∧ w = w' := by
  have h1 : 0 ≤ q / n := Int.ediv_nonneg h0 (by omega)
  have h2 : q / n ≤ q := Int.ediv_le_self _ h0
  have h3 : 0 ≤ q % n := Int.emod_nonneg _ (by omega)
  have h4 : q % n < n := Int.emod_lt_of_pos _ (by omega)
  go_enter Tryz.func81, Tryz.ntmps81
  go_wp2
  all_goals go_ret
  · exact ⟨by unfold porI; rw [if_pos (by assumption)]; rfl, rfl⟩
  · exact ⟨by unfold porI; rw [if_neg (by omega), Int.add_zero]; rfl, rfl⟩
theorem ints_elem : ElemOf 69 38 (.slice none 0 0) 1 24 := ⟨Tryz.underlying69, by kernel_rfl, rfl, by decide, by decide⟩
theorem push_els {X : Type} {f : X → El} {w w' : World} {v : Value} {g' : Nat} {Q : Nat → Prop} {cs : List Value} {xs : List X} {x : X} {A : Option Addr} (c : Nat) (hE : ElsIn f w (fun b => some b ≠ v.ownBlock ∧ Q b) cs xs) (hI : IntsOff w (fun b => some b ≠ v.ownBlock ∧ Q b) A (f x).nums) (hg : w.grownBy w' v.ownBlock) (hg' : v.ownBlock = some g' ∨ w.heap.size ≤ g') :
    ElsIn f w' (fun b => some b ≠ some g' ∧ Q b) (cs ++ (f x).cells A c) (xs ++ [x]) := by
  have hk : ∀ b, b < w.heap.size → (some b ≠ v.ownBlock ∧ Q b) → (some b ≠ some g' ∧ Q b) := fun b hb hp => ⟨fun e => by
    injection e with e
    subst e
    rcases hg' with h | h
    · exact hp.1 h.symm
    · omega, hp.2⟩
  exact .snoc c (hE.stay (Stays.grown hg) (fun b _ hp => hp.1) hk) (hI.stay (Stays.grown hg) (fun b _ hp => hp.1) hk)
/-- What Loads hands back. -/
def LoadsOut (w : World) (r : Option (List (List Int))) (e : Ending) (w' : World) : Prop :=
  (∃ ll A c cs, r = some ll ∧ e = .returned (.tuple #[.slice A ll.length c, .int .i64 0]) ∧ w'.ownsRow w.heap.size 38 1 (.slice A ll.length c) ll.length cs ∧ ElsIn elL w' (fun b => w.heap.size ≤ b) cs ll ∧ Below w.heap.size w w') ∨ (r = none ∧ e = .returned (.tuple #[.slice none 0 0, .int .i64 2]) ∧ Below w.heap.size w w')
theorem loads_bad (A : Option Addr) (c : Nat) (l : List Int) (n : Int) (w : World) (h : Ints w w.heap.size A l) (hb : n < 1 ∨ 4 < n ∨ okLd l = false) :
    Calls Tryz.prog 40 #[.slice A l.length c, .int .i64 n] w (LoadsOut w none) := by
  have hlen := h.len
  have HI := Lib.hid h
  by_cases h1 : n < 1
  · go_enter Tryz.func40, Tryz.ntmps40
    go_wp2
    go_ret2
    exact .inr ⟨rfl, rfl, Below.refl _ _⟩
  by_cases h4 : 4 < n
  · go_enter Tryz.func40, Tryz.ntmps40
    go_wp2
    go_ret2
    exact .inr ⟨rfl, rfl, Below.refl _ _⟩
  by_cases h3 : 3 < l.length
  · have h3' : (3 : Int) < (l.length : Int) := by omega
    go_enter Tryz.func40, Tryz.ntmps40
    go_wp2
    go_ret2
    exact .inr ⟨rfl, rfl, Below.refl _ _⟩
  have hr : rightB l l.length = false := by
    rcases hb with hb | hb | hb
    · omega
    · omega
    · unfold okLd at hb
      rw [decide_eq_true (by omega), Bool.true_and] at hb
      exact hb
  have h3' : ¬ (3 : Int) < (l.length : Int) := by omega
  clear hb h
  go_enter Tryz.func40, Tryz.ntmps40
  go_wp2_with (go_at_call 80; refine (right_any A c l l.length _ _ HI.out).mono ?_; rintro e w' ⟨rfl, rfl⟩)
  go_ret2
  exact .inr ⟨rfl, rfl, Below.refl _ _⟩
set_option maxHeartbeats 2000000 in
theorem loads_good (A : Option Addr) (c : Nat) (l : List Int) (n : Nat) (w : World) (h : Ints w w.heap.size A l) (h1 : 1 ≤ n) (h4 : n ≤ 4) (hok : okLd l = true) :
    Calls Tryz.prog 40 #[.slice A l.length c, .int .i64 n] w (LoadsOut w (some (partsL l n))) := by
  have HI := Lib.hid h
  have HK := Lib.hid (fun x hx => okLd_at hok (x := x) hx)
  have h3 := okLd_len hok
  have hr : rightB l l.length = true := by
    unfold okLd at hok
    rw [decide_eq_true (by omega), Bool.true_and] at hok
    exact hok
  obtain ⟨m, hm⟩ : ∃ m, l.length = m := ⟨_, rfl⟩
  rw [hm] at h3 hr ⊢
  have HM := Lib.hid hm
  have hn1 : (1 : Int) ≤ (n : Int) := by omega
  have hn4 : (n : Int) ≤ 4 := by omega
  have h3' : (m : Int) ≤ 3 := by omega
  clear h hok hm
  go_enter Tryz.func40, Tryz.ntmps40
  go_wp2_with (go_at_call 80; rw [← HM.out]; refine (right_any A c l l.length _ _ HI.out).mono ?_; rw [HM.out]; rintro e w' ⟨rfl, rfl⟩)
  go_loopw [6, 7, 8, 9, 10, 30] (fun v _ _ _ _ i wr => ∃ (j : Nat) (B : Option Addr) (cB : Nat) (cs : List Value), j ≤ n ∧ i = .int .i64 j ∧ v = .slice B j cB ∧ ElsIn elL wr (fun b => some b ≠ (Value.slice B j cB).ownBlock ∧ w.heap.size ≤ b) cs (partsTo l n j) ∧ wr.ownsRow w.heap.size 38 1 (.slice B j cB) j cs ∧ Below w.heap.size w wr) (fun _ _ _ _ _ i _ => n - (intOf i).toNat)
  case atStart => exact ⟨0, none, 0, [], by omega, rfl, rfl, .nil, World.ownsRow_nil _ _ _ _, Below.refl _ _⟩
  case round =>
    obtain ⟨j, B, cB, cs, hj, rfl, rfl, hE, hown, hbel⟩ := hrel
    by_cases hlt : j < n
    · have hj0 : (0 : Int) ≤ (j : Int) := by omega
      have hj4 : (j : Int) ≤ 4 := by omega
      have hjn : (j : Int) < (n : Int) := by omega
      rename World => wo
      have HE := Lib.hid (And.intro hE (And.intro hown hbel))
      clear hE hown hbel
      have HZ : Hid ((ptL l n j).length = m) := Lib.hid (by rw [ptL_len, HM.out])
      have hzo := HE.out.2.2.size
      obtain ⟨S, hS⟩ : ∃ S, wo.heap.size = S := ⟨_, rfl⟩
      rw [hS] at hzo
      go_upto_region 8 with (at_make; refine make_ints rfl _ _ rfl wo.heap.size m rfl rfl (by omega) (Nat.le_refl _) ?_; rw [hS]; intro w1 hown1 hb1 hz1)
      have hb1' : Below S wo w1 := by rw [← hS]; rw [← hS] at hb1; exact hb1
      clear hb1
      go_wp2_with fail
      go_loopw [9, 10, 38] (fun _ _ i wr => ∃ k : Nat, k ≤ m ∧ i = .int .i64 k ∧ wr.ownsRow S 3 1 (.slice (some ⟨S, 0, none⟩) m m) m ((partL (ptL l n j) m k).map (.int .i64)) ∧ Below S wo wr) (fun _ _ i _ => m - (intOf i).toNat)
      case atStart => exact ⟨0, by omega, rfl, by rw [partL_zero]; exact hown1, hb1'⟩
      case round =>
        obtain ⟨k, hk, rfl, hown, hbel⟩ := hrel
        by_cases hlk : k < m
        · obtain ⟨ad, x, rfl, hadb, hx, hcx⟩ := (HI.out.below (HE.out.2.2.trans (hbel.mono hzo))).at_ (k := k) (by rw [HM.out]; exact hlk)
          obtain ⟨x0, x1⟩ := HK.out x (List.mem_of_getElem? hx)
          have HX := Lib.hid (partL_set HZ.out (ptL_at hx n j))
          have hst := (hown.stored k (.int .i64 (porI x n j))).1
          rw [← List.map_set, HX.out] at hst
          have HST := Lib.hid hst
          have hfz := hown.frozenAt k
          have hck := own_cells hown k hlk
          have hk0 : (0 : Int) ≤ (k : Int) := by omega
          have hkn : (k : Int) < (m : Int) := by omega
          clear hx hst
          go_wp2_with (go_at_call 81; refine (portion_any x n j x0 (by omega) (Int.le_trans (Int.ediv_le_self _ x0) (by omega)) hn1 hn4 hj0 hj4 _).mono ?_; rintro e w' ⟨rfl, rfl⟩)
          exact ⟨⟨k + 1, by omega, by go_num, HST.out, hbel.setCell (p := ⟨S, _, none⟩) (Nat.le_refl _) _⟩, by simp [intOf]; omega⟩
        · have hkm : k = m := by omega
          subst hkm
          clear hlk hk
          rw [partL_full HZ.out] at hown
          have hvS : ∀ q, (Value.slice B j cB).ownBlock = some q → q < S := fun q hq => by rw [← hS]; exact (HE.out.2.1.lt q hq).2
          have hbelo : Below wo.heap.size wo wr := by rw [hS]; exact hbel
          have hzr := hbel.size
          have hE3 : ElsIn elL wr (fun b => some b ≠ (Value.slice B j cB).ownBlock ∧ w.heap.size ≤ b) cs (partsTo l n j) := HE.out.1.stay (row := none) (Stays.below hbelo) (fun b _ _ e => by cases e) (fun b _ h => h)
          have hI3 : IntsOff wr (fun b => some b ≠ (Value.slice B j cB).ownBlock ∧ w.heap.size ≤ b) (some ⟨S, 0, none⟩) (ptL l n j) := by
            refine IntsOff.own (c := k) (base := S) (e := 3) ?_ (by rw [HZ.out]; omega) (fun b hb => ⟨fun e => ?_, by omega⟩)
            · rw [HZ.out]; exact hown
            · have := hvS b e.symm
              omega
          have bA : Below wr.heap.size wr (wr.alloc (.cells #[.slice (some ⟨S, 0, none⟩) k k] 38)) := (Below.refl _ _).alloc (Nat.le_refl _) _
          have H4 := Lib.hid (And.intro (hE3.stay (row := none) (Stays.below bA) (fun b _ _ e => by cases e) (fun b _ h => h)) (hI3.stay (row := none) (Stays.below bA) (fun b _ _ e => by cases e) (fun b _ h => h)))
          have HO4 : Hid ((wr.alloc (.cells #[.slice (some ⟨S, 0, none⟩) k k] 38)).ownsRow w.heap.size 38 1 (.slice B j cB) j cs) := Lib.hid (own_below (own_below HE.out.2.1 hbelo) bA)
          have HB4 : Hid (Below w.heap.size w (wr.alloc (.cells #[.slice (some ⟨S, 0, none⟩) k k] 38))) := Lib.hid ((HE.out.2.2.trans (hbel.mono hzo)).trans (bA.mono (by omega)))
          have HS4 : Hid (w.heap.size ≤ (wr.alloc (.cells #[.slice (some ⟨S, 0, none⟩) k k] 38)).heap.size) := Lib.hid HB4.out.size
          clear hown hbel hE3 hI3 hbelo bA
          go_wp2_with (at_builtin; go_loud (refine wpList_app ints_elem _ _ rfl w.heap.size B j cB cs rfl HO4.out ⟨wr.heap.size, 0, none⟩ 1 [.slice (some ⟨S, 0, none⟩) k k] rfl rfl (cell_one_new _ _ _) (fun u hu => by rw [List.mem_singleton] at hu; rw [hu]; rfl) (by omega) HS4.out rfl ?_); intro g5 c5 w5 hown5 hg5 hx5; have HK5 := Lib.hid (And.intro hown5 (And.intro hg5 hx5)); clear hown5 hg5 hx5)
          have hP := push_els (f := elL) (x := ptL l n j) k H4.out.1 H4.out.2 HK5.out.2.1 HK5.out.2.2
          rw [show (elL (ptL l n j)).cells (some ⟨S, 0, none⟩) k = [Value.slice (some ⟨S, 0, none⟩) k k] by unfold El.cells elL; rw [HZ.out]; rfl, ← partsTo_succ] at hP
          exact ⟨⟨j + 1, some ⟨g5, 0, none⟩, c5, _, by omega, by go_num, rfl, hP, HK5.out.1, HB4.out.grown HK5.out.2.1 HS4.out (fun q e => own_base HO4.out q e)⟩, by simp [intOf]; omega⟩
    · have hjn : j = n := by omega
      subst hjn
      clear hlt
      go_wp2
      go_ret2
      refine .inl ⟨partsL l j, B, cB, cs, rfl, by rw [partsL_len]; rfl, by rw [partsL_len]; exact hown, ?_, hbel⟩
      exact hE.stay (row := none) (Stays.below (Below.refl _ _)) (fun b _ _ e => by cases e) (fun b _ h => h.2)
theorem loads_any (A : Option Addr) (c : Nat) (l : List Int) (n : Int) (w : World) (h : Ints w w.heap.size A l) :
    Calls Tryz.prog 40 #[.slice A l.length c, .int .i64 n] w (LoadsOut w (loadsF l n)) := by
  by_cases hb : n < 1 ∨ 4 < n
  · rw [loadsF_num hb]
    exact loads_bad A c l n w h (by omega)
  cases ho : okLd l
  · rw [loadsF_bad ho]
    exact loads_bad A c l n w h (.inr (.inr ho))
  · obtain ⟨k, rfl⟩ := Int.eq_ofNat_of_zero_le (show 0 ≤ n by omega)
    rw [loadsF_some (by omega) (by omega) ho]
    exact loads_good A c l k w h (by omega) (by omega) ho
end Go.Proofs.YtceceomaheobhaaGreatDoor.spl

/- split.named. -/
namespace Go.Proofs.YtceceomaheobhaaGreatDoor.spl
open Go.RowKit
open Go.Proofs.YtceceomaheobhaaGreatDoor.lib Go.Proofs.YtceceomaheobhaaGreatDoor.rd Go.Proofs.YtceceomaheobhaaGreatDoor.typ Go.Proofs.YtceceomaheobhaaGreatDoor.note
set_option linter.unusedVariables false
set_option linter.unusedSimpArgs false

theorem sameN_any (x : Ord) (C : Option Addr) (c : Nat) (bt : Nat) (nm : ByteArray) (w : World) (hbt : bt < w.heap.size) (hc : w.cell? ⟨bt, 0, none⟩ = some (.string nm)) :
    Calls Tryz.prog 87 #[.agg #[.string x.name, .slice C x.load.length c, .int .i64 x.pick.place, .int .i64 x.pick.opn, .int .i64 x.pick.close, .int .i64 x.pick.service, .int .i64 x.drop.place, .int .i64 x.drop.opn, .int .i64 x.drop.close, .int .i64 x.drop.service, .int .i64 x.skills, .int .i64 x.penalty, .int .i64 x.split, .int .i64 x.last, .int .i64 x.now, .bool x.off], .pointer (some ⟨bt, 0, none⟩)] w fun e w' => e = .returned (.bool (sameS x.name nm)) ∧ Below w.heap.size w w' := by
  go_enter Tryz.func87, Tryz.ntmps87
  go_wp2
  go_ret
  exact ⟨rfl, (Below.refl _ _).alloc (Nat.le_refl _) _⟩
set_option maxHeartbeats 1000000 in
theorem idxOrds_any (A : Option Addr) (c : Nat) (l : List Ord) (n : Nat) (hn : l.length = n) (bt : Nat) (nm : ByteArray) (w : World) (B : Nat) (hB : B ≤ w.heap.size) (hL : RowAt rOrd w B A l) (hbt : bt < w.heap.size) (hc : w.cell? ⟨bt, 0, none⟩ = some (.string nm)) :
    Calls Tryz.prog 120 #[.slice A n c, .func (.func 87) #[] #[.pointer (some ⟨bt, 0, none⟩)]] w (IdxOut (l.any (fun x => sameS x.name nm)) w) := by
  obtain ⟨R, hR⟩ : ∃ R, l.any (fun x => sameS x.name nm) = R := ⟨_, rfl⟩
  have HR : Hid ((l.drop 0).any (fun x => sameS x.name nm) = R) := Lib.hid hR
  rw [hR]
  clear hR
  have hlen := hL.len
  rw [hn] at hlen
  have HN := Lib.hid hn
  clear hn
  go_enter Tryz.func120, Tryz.ntmps120
  go_wp2
  go_loopw [5, 8] (fun _ i wr => ∃ k : Nat, k ≤ n ∧ i = .int .i64 k ∧ Hid ((l.drop k).any (fun x => sameS x.name nm) = R) ∧ Below w.heap.size w wr) (fun _ i _ => n - (intOf i).toNat)
  case atStart => exact ⟨0, by omega, rfl, HR, Below.refl _ _⟩
  case round =>
    obtain ⟨k, hk, rfl, hr, hb⟩ := hrel
    have hz := hb.size
    by_cases hlt : k < n
    · obtain ⟨x, hx⟩ : ∃ x, l[k]? = some x := ⟨_, List.getElem?_eq_getElem (by rw [HN.out]; exact hlt)⟩
      obtain ⟨ad, C0, c0, rfl, hadb, ⟨m0, m1, m2, m3, m4, m5, m6, m7, m8, m9, m10, m11, m12, m13, m14, m15⟩, _, _⟩ := row_Ord (hL.below (hb.mono hB)) hx
      have hst := Lib.hid (any_at (p := fun x : Ord => sameS x.name nm) hx)
      have hk0 : (0 : Int) ≤ (k : Int) := by omega
      have hkn : (k : Int) < (n : Int) := by omega
      have hc' : wr.cell? ⟨bt, 0, none⟩ = some (.string nm) := (hb.cell (p := ⟨bt, 0, none⟩) hbt).trans hc
      clear hx
      cases hs : sameS x.name nm
      · have HT : Hid ((l.drop (k + 1)).any (fun x => sameS x.name nm) = R) := Lib.hid (by have h := hst.out; rw [hr.out, hs] at h; exact h.symm)
        go_wp2_with (go_at_call 87; refine (sameN_any x C0 c0 bt nm _ (by omega) hc').mono ?_; rintro e w1 ⟨rfl, hb1⟩)
        go_roundw
        case rel => exact ⟨k + 1, by omega, by go_num, HT, hb.trans (hb1.mono hz)⟩
        case measure => simp [intOf]; omega
      · have HT : Hid (R = true) := Lib.hid (by rw [← hr.out, hst.out, hs]; rfl)
        go_wp2_with (go_at_call 87; refine (sameN_any x C0 c0 bt nm _ (by omega) hc').mono ?_; rintro e w1 ⟨rfl, hb1⟩)
        go_ret
        exact ⟨k, rfl, by rw [HT.out]; simp, hb.trans (hb1.mono hz)⟩
    · have HT : Hid (R = false) := Lib.hid (by rw [← hr.out, any_end (by rw [HN.out]; omega)])
      go_wp2
      go_ret
      exact ⟨-1, rfl, by rw [HT.out]; simp, hb⟩

theorem hasOrds_any (A : Option Addr) (c : Nat) (l : List Ord) (n : Nat) (hn : l.length = n) (bt : Nat) (nm : ByteArray) (w : World) (B : Nat) (hB : B ≤ w.heap.size) (hL : RowAt rOrd w B A l) (hbt : bt < w.heap.size) (hc : w.cell? ⟨bt, 0, none⟩ = some (.string nm)) :
    Calls Tryz.prog 88 #[.slice A n c, .func (.func 87) #[] #[.pointer (some ⟨bt, 0, none⟩)]] w fun e w' => e = .returned (.bool (l.any (fun x => sameS x.name nm))) ∧ Below w.heap.size w w' := by
  go_enter Tryz.func88, Tryz.ntmps88
  go_wp2_with fail
  refine (idxOrds_any A c l n hn bt nm w B hB hL hbt hc).mono ?_
  rintro e w1 ⟨r, rfl, hr, hb⟩
  have HR := Lib.hid hr
  clear hr
  go_wp2
  go_ret
  exact ⟨ret_bool HR.out, hb⟩

/-- The error of a part's name. -/
def namedE (os ahead : List Ord) (nm : ByteArray) : Int := if 16 < nm.size then 5 else if (ahead.any fun x => sameS x.name nm) || (os.any fun x => sameS x.name nm) then 6 else 0
theorem named_any (u0 u1 u2 u4 u5 : Value) (os ahead : List Ord) (A A' : Option Addr) (c c' : Nat) (nm : ByteArray) (w : World) (h : RowAt rOrd w w.heap.size A os) (h' : RowAt rOrd w w.heap.size A' ahead) :
    Calls Tryz.prog 46 #[.agg #[u0, u1, u2, .slice A os.length c, u4, u5], .slice A' ahead.length c', .string nm] w fun e w' => e = .returned (.int .i64 (namedE os ahead nm)) ∧ Below w.heap.size w w' := by
  obtain ⟨R1, hR1⟩ : ∃ R, (ahead.any fun x => sameS x.name nm) = R := ⟨_, rfl⟩
  obtain ⟨R2, hR2⟩ : ∃ R, (os.any fun x => sameS x.name nm) = R := ⟨_, rfl⟩
  have HE : Hid (namedE os ahead nm = if 16 < nm.size then 5 else if R1 || R2 then 6 else 0) := Lib.hid (by unfold namedE; rw [hR1, hR2])
  have HR := Lib.hid (And.intro hR1 hR2)
  have H1 := Lib.hid h
  have H2 := Lib.hid h'
  obtain ⟨n, hn⟩ : ∃ n, os.length = n := ⟨_, rfl⟩
  obtain ⟨m, hm⟩ : ∃ n, ahead.length = n := ⟨_, rfl⟩
  rw [hn, hm]
  have HN := Lib.hid (And.intro hn hm)
  clear hR1 hR2 h h' hn hm
  obtain ⟨W0, hW0⟩ : ∃ W0, (w.alloc (.cells #[u0, u1, u2, .slice A n c, u4, u5] 30)).alloc (.cells #[.string nm] 9) = W0 := ⟨_, rfl⟩
  have hB0 : Below w.heap.size w W0 := by rw [← hW0]; exact ((Below.refl _ _).alloc (Nat.le_refl _) _).alloc (by simp) _
  have z0 := hB0.size
  have hs0 : w.heap.size + 1 < W0.heap.size := by rw [← hW0]; simp
  have hc : W0.cell? ⟨w.heap.size + 1, 0, none⟩ = some (.string nm) := by
    rw [← hW0]
    have h := World.alloc_heap_new (w.alloc (.cells #[u0, u1, u2, .slice A n c, u4, u5] 30)) (.cells #[.string nm] 9)
    rw [show (w.alloc (.cells #[u0, u1, u2, .slice A n c, u4, u5] 30)).heap.size = w.heap.size + 1 by simp] at h
    unfold World.cell?
    rw [h]
    rfl
  have h3 : W0.cell? ⟨w.heap.size, 3, none⟩ = some (.slice A n c) := by
    rw [← hW0]
    have h := World.alloc_heap_new w (.cells #[u0, u1, u2, .slice A n c, u4, u5] 30)
    have h2 := (Below.heap_alloc (w.alloc (.cells #[u0, u1, u2, .slice A n c, u4, u5] 30)) (.cells #[.string nm] 9) w.heap.size (by simp)).trans h
    unfold World.cell?
    rw [h2]
    rfl
  have HW0 := Lib.hid hW0
  clear hW0
  go_enter Tryz.func46, Tryz.ntmps46
  go_wp2_with fail
  · have h16 : 16 < nm.size := by omega
    go_ret
    exact ⟨by rw [HE.out, if_pos h16]; rfl, ((Below.refl _ _).alloc (Nat.le_refl _) _).alloc (by simp) _⟩
  have h16 : ¬ 16 < nm.size := by omega
  have HE2 : Hid (namedE os ahead nm = if R1 || R2 then 6 else 0) := Lib.hid (by rw [HE.out, if_neg h16])
  rw [HW0.out]
  refine (hasOrds_any A' c' ahead m HN.out.2 (w.heap.size + 1) nm W0 w.heap.size z0 (H2.out.below hB0) hs0 hc).mono ?_
  rw [HR.out.1]
  rintro e w1 ⟨rfl, b1⟩
  have h31 : w1.cell? ⟨w.heap.size, 3, none⟩ = some (.slice A n c) := (b1.cell (p := ⟨w.heap.size, 3, none⟩) (by show w.heap.size < _; omega)).trans h3
  have hc1 : w1.cell? ⟨w.heap.size + 1, 0, none⟩ = some (.string nm) := (b1.cell (p := ⟨w.heap.size + 1, 0, none⟩) hs0).trans hc
  have HB1 := Lib.hid (hB0.trans (b1.mono z0))
  have z1 := b1.size
  clear hc h3
  cases R1
  · go_wp2_with fail
    refine (hasOrds_any A c os n HN.out.1 (w.heap.size + 1) nm w1 w.heap.size (by omega) (H1.out.below HB1.out) (by omega) hc1).mono ?_
    rw [HR.out.2]
    rintro e w2 ⟨rfl, b2⟩
    cases R2
    all_goals
      go_wp2_with fail
      go_ret
      exact ⟨by rw [HE2.out]; rfl, HB1.out.trans (b2.mono (by omega))⟩
  · go_wp2_with fail
    go_ret
    exact ⟨by rw [HE2.out]; rfl, HB1.out⟩
end Go.Proofs.YtceceomaheobhaaGreatDoor.spl

/- split.parts. -/
namespace Go.Proofs.YtceceomaheobhaaGreatDoor.spl
open Go.RowKit
open Go.Proofs.YtceceomaheobhaaGreatDoor.lib Go.Proofs.YtceceomaheobhaaGreatDoor.rd Go.Proofs.YtceceomaheobhaaGreatDoor.app Go.Proofs.YtceceomaheobhaaGreatDoor.els Go.Proofs.YtceceomaheobhaaGreatDoor.loads Go.Proofs.YtceceomaheobhaaGreatDoor.typ Go.Proofs.YtceceomaheobhaaGreatDoor.big Go.Proofs.YtceceomaheobhaaGreatDoor.ins Go.Proofs.YtceceomaheobhaaGreatDoor.ord Go.Proofs.YtceceomaheobhaaGreatDoor.flts
set_option linter.unusedVariables false
set_option linter.unusedSimpArgs false

/-- The part k (from 0 on) of an order. -/
def pieceO (o : Ord) (k : Nat) : Ord := ⟨o.name ++ (⟨#[95]⟩ ++ ⟨#[UInt8.ofNat (49 + k)]⟩), ptL o.load o.split k, o.pick, o.drop, o.skills, if 0 ≤ o.penalty then porI o.penalty o.split k else o.penalty, 1, o.last, o.now, o.off⟩
def piecesTo (o : Ord) (j : Nat) : List Ord := (List.range j).map (pieceO o)
theorem piecesTo_len (o : Ord) (j : Nat) : (piecesTo o j).length = j := by unfold piecesTo; simp
theorem piecesTo_succ (o : Ord) (j : Nat) : piecesTo o (j + 1) = piecesTo o j ++ [pieceO o j] := by
  unfold piecesTo
  rw [List.range_succ, List.map_append]
  rfl
/-- A cell of a row of the call's own, read later. -/
theorem own_at {w w' : World} {base : Nat} {e : TypeId} {A : Option Addr} {n c j : Nat} {cs : List Value} {v : Value} (h : w.ownsRow base e 1 (.slice A n c) n cs) (hj : j < n) (hv : cs[j * 1 + 0]? = some v) (hb : Below w.heap.size w w') : ∃ ad, A = some ad ∧ ad.block < w.heap.size ∧ w'.cell? (ad.add j) = some v := by
  rw [Nat.mul_one, Nat.add_zero] at hv
  rcases h.2 with ⟨h5, h6⟩ | ⟨g, cap, cur, h5, h6, h7, h8⟩
  · omega
  · injection h5 with h5 _ _
    subst h5
    have hg := (Array.getElem?_eq_some_iff.1 h7).1
    refine ⟨⟨g, 0, none⟩, rfl, hg, ?_⟩
    exact (hb.cell (by rw [block_of_add]; exact hg)).trans (h.cells (g := g) rfl _ _ hv)
theorem pieces_fits {o : Ord} (hf : OrdFits o) (hnm : o.name.size ≤ 1000000) {n : Nat} (hn : o.split = n) (h2 : 2 ≤ n) (h4 : n ≤ 4) {j : Nat} {q : Ord} (hq : q ∈ piecesTo o j) : OrdFits q := by
  obtain ⟨k, hk, rfl⟩ := List.mem_map.1 hq
  obtain ⟨f1, f2, f3, f4, f5, f6, f7, f8⟩ := hf
  refine ⟨?_, f2, f3, f4, ?_, show (-9223372036854775808 : Int) ≤ 1 ∧ (1 : Int) ≤ 9223372036854775807 by decide, f7, f8⟩
  · show (o.name ++ (⟨#[95]⟩ ++ ⟨#[UInt8.ofNat (49 + k)]⟩)).size ≤ _
    rw [ByteArray.size_append, ByteArray.size_append]
    have e1 : (⟨#[95]⟩ : ByteArray).size = 1 := rfl
    have e2 : (⟨#[UInt8.ofNat (49 + k)]⟩ : ByteArray).size = 1 := rfl
    omega
  · show -9223372036854775808 ≤ (if 0 ≤ o.penalty then porI o.penalty o.split k else o.penalty) ∧ (if 0 ≤ o.penalty then porI o.penalty o.split k else o.penalty) ≤ 9223372036854775807
    split
    · rename_i h0
      rw [hn]
      unfold porI
      have : n = 2 ∨ n = 3 ∨ n = 4 := by omega
      rcases this with rfl | rfl | rfl
      all_goals split <;> omega
    · exact f5
/-- What parts answers. -/
def partsF (o : Ord) : Option (List Ord) := if o.split ≤ 1 then some [o] else match loadsF o.load o.split with
  | some _ => some (piecesTo o o.split.toNat)
  | none => none
/-- The row is the call's own; the loads lie in blocks of its own or below B. -/
def PartsOut (w : World) (B : Nat) (r : Option (List Ord)) (e : Ending) (w' : World) : Prop :=
  (∃ os A c cs, r = some os ∧ e = .returned (.tuple #[.slice A os.length c, .int .i64 0]) ∧ w'.ownsRow w.heap.size 42 16 (.slice A os.length c) os.length cs ∧ ElsIn ordEl w' (fun b => b < B ∨ w.heap.size ≤ b) cs os ∧ (∀ q ∈ os, OrdFits q) ∧ Below w.heap.size w w') ∨ (r = none ∧ e = .returned (.tuple #[.slice none 0 0, .int .i64 2]) ∧ Below w.heap.size w w')
theorem parts_one (o : Ord) (C : Option Addr) (cc : Nat) (w : World) (BL : Nat) (hBL : BL ≤ w.heap.size) (h : Ints w BL C o.load) (hf : OrdFits o) (h1 : o.split ≤ 1) :
    Calls Tryz.prog 45 #[.agg #[.string o.name, .slice C o.load.length cc, .int .i64 o.pick.place, .int .i64 o.pick.opn, .int .i64 o.pick.close, .int .i64 o.pick.service, .int .i64 o.drop.place, .int .i64 o.drop.opn, .int .i64 o.drop.close, .int .i64 o.drop.service, .int .i64 o.skills, .int .i64 o.penalty, .int .i64 o.split, .int .i64 o.last, .int .i64 o.now, .bool o.off]] w (PartsOut w BL (some [o])) := by
  obtain ⟨W0, hW0⟩ : ∃ W0, w.alloc (.cells (OrdCells o C cc).toArray 42) = W0 := ⟨_, rfl⟩
  have hB0 : Below w.heap.size w W0 := by rw [← hW0]; exact (Below.refl _ _).alloc (Nat.le_refl _) _
  have z0 := hB0.size
  have b0 : OrBlk W0 w.heap.size o C cc := by rw [← hW0]; exact World.alloc_heap_new w _
  have HX := Lib.hid (orBlk_at b0)
  have x12 : W0.cell? ⟨w.heap.size, 12, none⟩ = some (.int .i64 o.split) := HX.out 12 _ rfl
  have HI := Lib.hid (And.intro (h.below (hB0.mono hBL)) hf)
  have hW1 : w.alloc (.cells #[.string o.name, .slice C o.load.length cc, .int .i64 o.pick.place, .int .i64 o.pick.opn, .int .i64 o.pick.close, .int .i64 o.pick.service, .int .i64 o.drop.place, .int .i64 o.drop.opn, .int .i64 o.drop.close, .int .i64 o.drop.service, .int .i64 o.skills, .int .i64 o.penalty, .int .i64 o.split, .int .i64 o.last, .int .i64 o.now, .bool o.off] 42) = W0 := hW0
  have HW0 := Lib.hid hW1
  clear hW0 hW1 h hf b0
  go_enter Tryz.func45, Tryz.ntmps45
  go_upto_region 1 with fail
  rw [HW0.out]
  go_wp2_with (first
    | ((with_reducible refine wpList_loadG stOrd' _ rfl ⟨w.heap.size, 0, none⟩ (OrdCells o C cc) ?_ ?_ ?_ ?_ ?_); exact rfl; exact rfl; exact HX.out; exact rfl)
    | ((with_reducible refine wpList_bsliceL ord_elem rfl 1 [(0, .tmp 13)] rfl [(0, .agg (OrdCells o C cc).toArray)] (OrdCells o C cc) ordZs ?_ (by decide) (by decide) ord_zs (ord_fill1 o C cc) ?_); exact rfl))
  go_ret2
  have bA : Below W0.heap.size W0 (W0.alloc (.cells (OrdCells o C cc).toArray 42)) := (Below.refl _ _).alloc (Nat.le_refl _) _
  have hown : (W0.alloc (.cells (OrdCells o C cc).toArray 42)).ownsRow w.heap.size 42 16 (.slice (some ⟨W0.heap.size, 0, none⟩) 1 1) 1 (OrdCells o C cc) :=
    ⟨rfl, .inr ⟨W0.heap.size, 1, (OrdCells o C cc).toArray, rfl, z0, World.alloc_heap_new W0 _, Nat.le_refl _, by decide, rfl, by simp; rfl⟩⟩
  have hI : IntsOff (W0.alloc (.cells (OrdCells o C cc).toArray 42)) (fun b => b < BL ∨ w.heap.size ≤ b) C (ordEl o).nums := IntsOff.low (HI.out.1.below (bA.mono (by omega))) (by have := bA.size; omega) (fun b hb => .inl hb)
  exact .inl ⟨[o], some ⟨W0.heap.size, 0, none⟩, 1, [] ++ (ordEl o).cells C cc, rfl, rfl, hown, ElsIn.snoc cc .nil hI, fun q hq => by rw [List.mem_singleton] at hq; rw [hq]; exact HI.out.2, hB0.trans (bA.mono z0)⟩
theorem orBlk_set {w : World} {k : Nat} {o o' : Ord} {C C' : Option Addr} {c c' : Nat} (h : OrBlk w k o C c) (i : Nat) (u : Value) (he : (OrdCells o C c).set i u = OrdCells o' C' c') : OrBlk (w.setCell ⟨k, i, none⟩ u) k o' C' c' := by
  have h1 := heap_setCell_same w k i (OrdCells o C c).toArray 42 u h
  unfold OrBlk
  rw [← he]
  simpa using h1
theorem parts_bad (o : Ord) (C : Option Addr) (cc : Nat) (w : World) (BL : Nat) (hBL : BL ≤ w.heap.size) (h : Ints w BL C o.load) (hf : OrdFits o) (h1 : ¬ o.split ≤ 1) (hl : loadsF o.load o.split = none) :
    Calls Tryz.prog 45 #[.agg #[.string o.name, .slice C o.load.length cc, .int .i64 o.pick.place, .int .i64 o.pick.opn, .int .i64 o.pick.close, .int .i64 o.pick.service, .int .i64 o.drop.place, .int .i64 o.drop.opn, .int .i64 o.drop.close, .int .i64 o.drop.service, .int .i64 o.skills, .int .i64 o.penalty, .int .i64 o.split, .int .i64 o.last, .int .i64 o.now, .bool o.off]] w (PartsOut w BL none) := by
  obtain ⟨W0, hW0⟩ : ∃ W0, w.alloc (.cells (OrdCells o C cc).toArray 42) = W0 := ⟨_, rfl⟩
  have hB0 : Below w.heap.size w W0 := by rw [← hW0]; exact (Below.refl _ _).alloc (Nat.le_refl _) _
  have z0 := hB0.size
  have hs0 : w.heap.size < W0.heap.size := by rw [← hW0]; simp
  have b0 : OrBlk W0 w.heap.size o C cc := by rw [← hW0]; exact World.alloc_heap_new w _
  have HX := Lib.hid (fun w' (h : Below W0.heap.size W0 w') => orBlk_at ((h.block _ hs0).trans b0))
  have x12 : W0.cell? ⟨w.heap.size, 12, none⟩ = some (.int .i64 o.split) := HX.out _ (Below.refl _ _) 12 _ rfl
  have x1 : W0.cell? ⟨w.heap.size, 1, none⟩ = some (.slice C o.load.length cc) := HX.out _ (Below.refl _ _) 1 _ rfl
  have HI := Lib.hid (And.intro ((h.below (hB0.mono hBL)).more (Nat.le_trans hBL z0)) hf)
  have hW1 : w.alloc (.cells #[.string o.name, .slice C o.load.length cc, .int .i64 o.pick.place, .int .i64 o.pick.opn, .int .i64 o.pick.close, .int .i64 o.pick.service, .int .i64 o.drop.place, .int .i64 o.drop.opn, .int .i64 o.drop.close, .int .i64 o.drop.service, .int .i64 o.skills, .int .i64 o.penalty, .int .i64 o.split, .int .i64 o.last, .int .i64 o.now, .bool o.off] 42) = W0 := hW0
  have HW0 := Lib.hid hW1
  clear hW0 hW1 h hf b0
  have HL := Lib.hid hl
  clear hl
  go_enter Tryz.func45, Tryz.ntmps45
  go_upto_region 1 with fail
  rw [HW0.out]
  go_wp2_with fail
  refine (loads_any C cc o.load o.split _ HI.out.1).mono ?_
  rw [HL.out]
  rintro e w1 (⟨ll, A, c, cs, h, -⟩ | ⟨-, rfl, b1⟩)
  · cases h
  go_wp2_with fail
  go_ret2
  exact .inr ⟨rfl, rfl, hB0.trans (b1.mono z0)⟩
set_option maxRecDepth 100000 in
set_option maxHeartbeats 4000000 in
theorem parts_many (o : Ord) (C : Option Addr) (cc : Nat) (n : Nat) (hn : o.split = n) (w : World) (BL : Nat) (hBL : BL ≤ w.heap.size) (h : Ints w BL C o.load) (hf : OrdFits o) (h1 : 2 ≤ n) (h4 : n ≤ 4) (hl : okLd o.load = true) (hnm : o.name.size ≤ 1000000) :
    Calls Tryz.prog 45 #[.agg #[.string o.name, .slice C o.load.length cc, .int .i64 o.pick.place, .int .i64 o.pick.opn, .int .i64 o.pick.close, .int .i64 o.pick.service, .int .i64 o.drop.place, .int .i64 o.drop.opn, .int .i64 o.drop.close, .int .i64 o.drop.service, .int .i64 o.skills, .int .i64 o.penalty, .int .i64 o.split, .int .i64 o.last, .int .i64 o.now, .bool o.off]] w (PartsOut w BL (some (piecesTo o n))) := by
  obtain ⟨W0, hW0⟩ : ∃ W0, w.alloc (.cells (OrdCells o C cc).toArray 42) = W0 := ⟨_, rfl⟩
  have hB0 : Below w.heap.size w W0 := by rw [← hW0]; exact (Below.refl _ _).alloc (Nat.le_refl _) _
  have z0 := hB0.size
  have hs0 : w.heap.size < W0.heap.size := by rw [← hW0]; simp
  have b0 : OrBlk W0 w.heap.size o C cc := by rw [← hW0]; exact World.alloc_heap_new w _
  have HX := Lib.hid (fun w' (h : Below W0.heap.size W0 w') => orBlk_at ((h.block _ hs0).trans b0))
  have x12 : W0.cell? ⟨w.heap.size, 12, none⟩ = some (.int .i64 o.split) := HX.out _ (Below.refl _ _) 12 _ rfl
  have x1 : W0.cell? ⟨w.heap.size, 1, none⟩ = some (.slice C o.load.length cc) := HX.out _ (Below.refl _ _) 1 _ rfl
  have HI := Lib.hid (And.intro ((h.below (hB0.mono hBL)).more (Nat.le_trans hBL z0)) hf)
  have hW1 : w.alloc (.cells #[.string o.name, .slice C o.load.length cc, .int .i64 o.pick.place, .int .i64 o.pick.opn, .int .i64 o.pick.close, .int .i64 o.pick.service, .int .i64 o.drop.place, .int .i64 o.drop.opn, .int .i64 o.drop.close, .int .i64 o.drop.service, .int .i64 o.skills, .int .i64 o.penalty, .int .i64 o.split, .int .i64 o.last, .int .i64 o.now, .bool o.off] 42) = W0 := hW0
  have HW0 := Lib.hid hW1
  clear hW0 hW1 h hf b0
  rw [hn] at x12 HW0 ⊢
  have HL : Hid (loadsF o.load n = some (partsL o.load n)) := Lib.hid (loadsF_some (by omega) h4 hl)
  have hn1 : ¬ (n : Int) ≤ 1 := by omega
  have HN := Lib.hid hn
  clear hn hl
  go_enter Tryz.func45, Tryz.ntmps45
  go_upto_region 1 with fail
  rw [HW0.out]
  clear HW0
  go_wp2_with fail
  refine (loads_any C cc o.load n _ HI.out.1).mono ?_
  rw [HL.out]
  rintro e w1 (⟨ll, A1, c1, cs1, h, rfl, hown1, hE1, b1⟩ | ⟨h, -, -⟩)
  rotate_left
  · cases h
  injection h with h
  subst h
  rw [partsL_len] at hown1 ⊢
  have hR : Rows2 w1 w1.heap.size A1 (partsL o.load n) := hE1.rows2 (c := c1) (by rw [partsL_len]; exact hown1) (by rw [partsL_len]; omega)
  have HR := Lib.hid hR
  have HX1 := Lib.hid (And.intro (hE1.at_ (s := 1) (fun x A c => rfl)).2 hown1)
  clear hR hown1 hE1
  go_wp2_with fail
  have z1 := b1.size
  go_loopw [6, 7, 8, 9, 28] (fun v _ _ _ i wr => ∃ (j : Nat) (B : Option Addr) (cB : Nat) (cs : List Value), j ≤ n ∧ i = .int .i64 j ∧ v = .slice B j cB ∧ ElsIn ordEl wr (fun b => W0.heap.size ≤ b ∧ b < w1.heap.size) cs (piecesTo o j) ∧ wr.ownsRow w1.heap.size 42 16 (.slice B j cB) j cs ∧ Below w1.heap.size w1 wr) (fun _ _ _ _ i _ => n - (intOf i).toNat)
  case atStart => exact ⟨0, none, 0, [], by omega, rfl, rfl, .nil, World.ownsRow_nil _ _ _ _, Below.refl _ _⟩
  case round =>
    obtain ⟨j, B, cB, cs, hj, rfl, rfl, hE, hown, hbel⟩ := hrel
    by_cases hlt : j < n
    · have hj0 : (0 : Int) ≤ (j : Int) := by omega
      have hj4 : (j : Int) ≤ 4 := by omega
      have hjn : (j : Int) < (n : Int) := by omega
      have hzo := hbel.size
      have B0 : Below W0.heap.size W0 wr := b1.trans (hbel.mono z1)
      have HP := Lib.hid (HX.out _ B0)
      obtain ⟨Ai, ci, hio, hcell⟩ := HX1.out.1 j _ (partsL_at o.load hlt)
      obtain ⟨ad, rfl, hadb, hcx0⟩ := own_at HX1.out.2 (show j < n by omega) (hcell 0 _ rfl) hbel
      have hIl : IntsOff wr (fun b => W0.heap.size ≤ b ∧ b < w1.heap.size) Ai (ptL o.load n j) := (hio.weak (fun b hb hp => ⟨hp, hb⟩)).stay (row := none) (Stays.below hbel) (fun b _ _ e => by cases e) (fun b _ h => h)
      have hcx : wr.cell? (ad.add j) = some (.slice Ai (ptL o.load n j).length ci) := hcx0
      clear hcx0 hcell hio
      obtain ⟨m, hm⟩ : ∃ m, (ptL o.load n j).length = m := ⟨_, rfl⟩
      rw [hm] at hcx
      have HE := Lib.hid (And.intro hE (And.intro hown (And.intro hIl hm)))
      clear hE hown hIl hm
      go_upto_region 10 with fail
      go_upto_region 11 with (first
        | ((with_reducible refine wpList_loadG stOrd' _ rfl ⟨w.heap.size, 0, none⟩ (OrdCells o C cc) ?_ ?_ ?_ ?_ ?_); exact rfl; exact rfl; exact HP.out; exact rfl)
        | ((with_reducible refine wpList_storeL stOrd' rfl _ _ rfl wr.heap.size ordZs (OrdCells o C cc) ?_ ?_ ?_ ?_ ?_ (ordCells_one _ _ _) ?_); exact rfl; exact rfl; exact World.alloc_heap_new wr _; exact rfl; exact rfl; intro w2 k1 k2 k3 k4; have K := Lib.hid (And.intro k1 (And.intro k2 (And.intro k3 k4))); clear k1 k2 k3 k4))
      (try simp only [Act.put, List.getElem_toArray, List.getElem_cons_succ, List.getElem_cons_zero, List.setIfInBounds_toArray, List.set_cons_zero, List.set_cons_succ])
      obtain ⟨k1, k2, k3, k4⟩ := K.out
      have b2 : Below wr.heap.size wr w2 := ((Below.refl _ _).alloc (Nat.le_refl _) _).trans k4
      have zz2 : wr.heap.size < w2.heap.size := (Array.getElem?_eq_some_iff.1 k1).1
      obtain ⟨p, hp⟩ : ∃ p, wr.heap.size = p := ⟨_, rfl⟩
      rw [hp] at k1 zz2 hzo ⊢
      have HO2 : Hid (OrBlk w2 p o C cc) := Lib.hid k1
      have HB2 : Hid (Below p wr w2) := Lib.hid (by rw [← hp]; exact b2)
      have p0 : w2.cell? ⟨p, 0, none⟩ = some (.string o.name) := orBlk_at HO2.out 0 _ rfl
      have pf : ∀ i, w2.frozen? ⟨p, i, none⟩ = false := fun i => by simp [World.frozen?, show w2.heap[p]? = _ from k1]
      have B2 : Below W0.heap.size W0 w2 := B0.trans (HB2.out.mono (by omega))
      clear k1 k2 k3 k4 b2 K
      have hj3 : j = 0 ∨ j = 1 ∨ j = 2 ∨ j = 3 := by omega
      go_cut [] (fun wx => OrBlk wx p ⟨(pieceO o j).name, o.load, o.pick, o.drop, o.skills, o.penalty, o.split, o.last, o.now, o.off⟩ C cc ∧ Below p wr wx)
      case first => as_aux_lemma =>
        clear HE HR HP HX HI HL hcx
        have e0 : ((⟨#[95]⟩ : ByteArray) ++ Utf8.encode 49).size = 2 := by decide +kernel
        have e1 : ((⟨#[95]⟩ : ByteArray) ++ Utf8.encode 50).size = 2 := by decide +kernel
        have e2 : ((⟨#[95]⟩ : ByteArray) ++ Utf8.encode 51).size = 2 := by decide +kernel
        have e3 : ((⟨#[95]⟩ : ByteArray) ++ Utf8.encode 52).size = 2 := by decide +kernel
        rcases hj3 with rfl | rfl | rfl | rfl
        all_goals
          go_wp2
          go_meet
          exact ⟨orBlk_set HO2.out 0 _ rfl, HB2.out.setCell (p := ⟨p, 0, none⟩) (Nat.le_refl _) _⟩
      clear p0 pf B2 HO2 HB2 hj3
      obtain ⟨ho3, hb3⟩ := hcut
      have pf3 : ∀ i, wc.frozen? ⟨p, i, none⟩ = false := fun i => by simp [World.frozen?, show wc.heap[p]? = _ from ho3]
      have HO3 := Lib.hid ho3
      have HB3 := Lib.hid hb3
      clear ho3 hb3
      go_upto_region 12 with fail
      go_cut [] (fun wx => OrBlk wx p ⟨(pieceO o j).name, ptL o.load n j, o.pick, o.drop, o.skills, o.penalty, o.split, o.last, o.now, o.off⟩ Ai ci ∧ Below p wr wx)
      case first => as_aux_lemma =>
        have q1 : wc.cell? ⟨p, 1, none⟩ = some (.slice C o.load.length cc) := orBlk_at HO3.out 1 _ rfl
        go_wp2
        go_meet
        refine ⟨orBlk_set HO3.out 1 _ ?_, HB3.out.setCell (p := ⟨p, 1, none⟩) (Nat.le_refl _) _⟩
        rw [← HE.out.2.2.2]
        rfl
      clear pf3 HO3 HB3
      obtain ⟨ho4, hb4⟩ := hcut
      have pf4 : ∀ i, wc.frozen? ⟨p, i, none⟩ = false := fun i => by simp [World.frozen?, show wc.heap[p]? = _ from ho4]
      have HO4 := Lib.hid ho4
      have HB4 := Lib.hid hb4
      clear ho4 hb4
      go_upto_region 13 with fail
      go_cut [] (fun wx => OrBlk wx p ⟨(pieceO o j).name, ptL o.load n j, o.pick, o.drop, o.skills, o.penalty, 1, o.last, o.now, o.off⟩ Ai ci ∧ Below p wr wx)
      case first => as_aux_lemma =>
        have q1 : wc.cell? ⟨p, 12, none⟩ = some (.int .i64 o.split) := orBlk_at HO4.out 12 _ rfl
        go_wp2
        go_meet
        exact ⟨orBlk_set HO4.out 12 _ rfl, HB4.out.setCell (p := ⟨p, 12, none⟩) (Nat.le_refl _) _⟩
      clear pf4 HO4 HB4
      obtain ⟨ho5, hb5⟩ := hcut
      have pf5 : ∀ i, wc.frozen? ⟨p, i, none⟩ = false := fun i => by simp [World.frozen?, show wc.heap[p]? = _ from ho5]
      have HO5 := Lib.hid ho5
      have HB5 := Lib.hid hb5
      clear ho5 hb5
      go_upto_region 14 with fail
      have x11 : wc.cell? ⟨w.heap.size, 11, none⟩ = some (.int .i64 o.penalty) := HX.out _ (B0.trans (HB5.out.mono (by omega))) 11 _ rfl
      have x12b : wc.cell? ⟨w.heap.size, 12, none⟩ = some (.int .i64 n) := by rw [← HN.out]; exact HX.out _ (B0.trans (HB5.out.mono (by omega))) 12 _ rfl
      have q11 : wc.cell? ⟨p, 11, none⟩ = some (.int .i64 o.penalty) := orBlk_at HO5.out 11 _ rfl
      have hpo := HI.out.2.2.2.2.2.1
      have hdv : 0 ≤ o.penalty → o.penalty / (n : Int) ≤ 9223372036854775806 := fun hp0 => by
        have : n = 2 ∨ n = 3 ∨ n = 4 := by omega
        rcases this with rfl | rfl | rfl <;> omega
      have HDV := Lib.hid hdv
      clear hdv
      go_cut [48] (fun v wx => v = .bool (decide (0 ≤ o.penalty)) ∧ wc = wx)
      case first => as_aux_lemma =>
        go_wp2
        go_meet
        exact ⟨rfl, rfl⟩
      obtain ⟨hv48, hwx⟩ := hcut
      subst hv48
      subst hwx
      go_upto_if 48 with fail
      go_cut [] (fun wx => OrBlk wx p (pieceO o j) Ai ci ∧ Below p wr wx)
      case first => as_aux_lemma =>
        by_cases hp0 : 0 ≤ o.penalty
        · go_wp2_with (go_at_call 81; refine (portion_any o.penalty n j hp0 hpo.2 (HDV.out hp0) (by omega) (by omega) hj0 hj4 _).mono ?_; rintro e w' ⟨rfl, rfl⟩)
          go_meet
          refine ⟨orBlk_set HO5.out 11 _ ?_, HB5.out.setCell (p := ⟨p, 11, none⟩) (Nat.le_refl _) _⟩
          unfold pieceO
          rw [if_pos hp0, HN.out]
          rfl
        · go_wp2
          go_meet
          refine ⟨?_, HB5.out⟩
          have h := HO5.out
          unfold pieceO at h ⊢
          rw [if_neg (by omega), HN.out]
          exact h
      clear pf5 HO5 HB5 x11 q11 HDV x12b
      obtain ⟨ho6, hb6⟩ := hcut
      have zz6 : p < wc.heap.size := (Array.getElem?_eq_some_iff.1 ho6).1
      have HO6 := Lib.hid (orBlk_at ho6)
      have hb6' : Below w1.heap.size wr wc := hb6.mono hzo
      have hlo : (pieceO o j).load = ptL o.load n j := by show ptL o.load o.split j = _; rw [HN.out]
      have bA : Below wc.heap.size wc (wc.alloc (.cells (OrdCells (pieceO o j) Ai ci).toArray 42)) := (Below.refl _ _).alloc (Nat.le_refl _) _
      have bC : Below wr.heap.size wr (wc.alloc (.cells (OrdCells (pieceO o j) Ai ci).toArray 42)) := by
        rw [hp]
        exact hb6.trans (bA.mono (by omega))
      have hI7 : IntsOff (wc.alloc (.cells (OrdCells (pieceO o j) Ai ci).toArray 42)) (fun b => W0.heap.size ≤ b ∧ b < w1.heap.size) Ai (ordEl (pieceO o j)).nums := by
        show IntsOff _ _ _ (pieceO o j).load
        rw [hlo]
        exact HE.out.2.2.1.stay (row := none) (Stays.below bC) (fun b _ _ e => by cases e) (fun b _ h => h)
      have H7 := Lib.hid (And.intro (HE.out.1.stay (row := none) (Stays.below bC) (fun b _ _ e => by cases e) (fun b _ h => h)) hI7)
      have HO7 : Hid ((wc.alloc (.cells (OrdCells (pieceO o j) Ai ci).toArray 42)).ownsRow w1.heap.size 42 16 (.slice B j cB) j cs) := Lib.hid (own_below HE.out.2.1 bC)
      have HB7 : Hid (Below w1.heap.size w1 (wc.alloc (.cells (OrdCells (pieceO o j) Ai ci).toArray 42))) := Lib.hid (hbel.trans (bC.mono (by omega)))
      have HS7 : Hid (w1.heap.size ≤ (wc.alloc (.cells (OrdCells (pieceO o j) Ai ci).toArray 42)).heap.size) := Lib.hid HB7.out.size
      clear ho6 hb6 hb6' bA bC hI7 HR
      go_wp2_with (first
        | ((with_reducible refine wpList_loadG stOrd' _ rfl ⟨p, 0, none⟩ (OrdCells (pieceO o j) Ai ci) ?_ ?_ ?_ ?_ ?_); exact rfl; exact rfl; exact HO6.out; exact rfl)
        | ((with_reducible refine wpList_bsliceL ord_elem rfl 1 [(0, .tmp 57)] rfl [(0, .agg (OrdCells (pieceO o j) Ai ci).toArray)] (OrdCells (pieceO o j) Ai ci) ordZs ?_ (by decide) (by decide) ord_zs (ord_fill1 (pieceO o j) Ai ci) ?_); exact rfl)
        | (at_builtin; go_loud (refine wpList_app ord_elem _ _ rfl w1.heap.size B j cB cs rfl HO7.out ⟨wc.heap.size, 0, none⟩ 1 (OrdCells (pieceO o j) Ai ci) rfl rfl (ord_new wc (pieceO o j) Ai ci) (ordCells_one (pieceO o j) Ai ci) (by omega) HS7.out rfl ?_); intro g5 c5 w5 hown5 hg5 hx5; have HK5 := Lib.hid (And.intro hown5 (And.intro hg5 hx5)); clear hown5 hg5 hx5))
      have hst : ∀ b, b < (wc.alloc (.cells (OrdCells (pieceO o j) Ai ci).toArray 42)).heap.size → (W0.heap.size ≤ b ∧ b < w1.heap.size) → some b ≠ (Value.slice B j cB).ownBlock := fun b _ hp e => by
        have := (World.ownsRow.lt HO7.out b e.symm).1
        omega
      have hP := ElsIn.snoc (f := ordEl) ci (H7.out.1.stay (Stays.grown HK5.out.2.1) hst (fun b _ hp => hp)) (H7.out.2.stay (Stays.grown HK5.out.2.1) hst (fun b _ hp => hp))
      rw [← piecesTo_succ] at hP
      exact ⟨⟨j + 1, some ⟨g5, 0, none⟩, c5, _, by omega, by go_num, rfl, hP, HK5.out.1, HB7.out.grown HK5.out.2.1 HS7.out (fun q e => own_base HO7.out q e)⟩, by simp [intOf]; omega⟩
    · have hjn : j = n := by omega
      subst hjn
      clear hlt
      go_wp2
      go_ret2
      have zz1 : w.heap.size ≤ w1.heap.size := by omega
      refine .inl ⟨piecesTo o j, B, cB, cs, rfl, by rw [piecesTo_len]; rfl, by rw [piecesTo_len]; exact own_less hown zz1, ?_, fun q hq => pieces_fits HI.out.2 hnm HN.out h1 h4 hq, (hB0.trans (b1.mono z0)).trans (hbel.mono zz1)⟩
      exact hE.stay (row := none) (Stays.below (Below.refl _ _)) (fun b _ _ e => by cases e) (fun b _ h => .inr (by omega))
theorem loadsF_eq {l : List Int} {n : Int} (h1 : 1 ≤ n) (h4 : n ≤ 4) (hl : okLd l = true) : ∃ ll, loadsF l n = some ll := ⟨_, by unfold loadsF; rw [if_pos ⟨⟨h1, h4⟩, hl⟩]⟩
theorem parts_any (o : Ord) (C : Option Addr) (cc : Nat) (w : World) (BL : Nat) (hBL : BL ≤ w.heap.size) (h : Ints w BL C o.load) (hf : OrdFits o) (hnm : o.name.size ≤ 1000000) :
    Calls Tryz.prog 45 #[.agg #[.string o.name, .slice C o.load.length cc, .int .i64 o.pick.place, .int .i64 o.pick.opn, .int .i64 o.pick.close, .int .i64 o.pick.service, .int .i64 o.drop.place, .int .i64 o.drop.opn, .int .i64 o.drop.close, .int .i64 o.drop.service, .int .i64 o.skills, .int .i64 o.penalty, .int .i64 o.split, .int .i64 o.last, .int .i64 o.now, .bool o.off]] w (PartsOut w BL (partsF o)) := by
  by_cases h1 : o.split ≤ 1
  · have e : partsF o = some [o] := by unfold partsF; rw [if_pos h1]
    rw [e]
    exact parts_one o C cc w BL hBL h hf h1
  by_cases h4 : o.split ≤ 4 ∧ okLd o.load = true
  · obtain ⟨n, hn⟩ := Int.eq_ofNat_of_zero_le (show 0 ≤ o.split by omega)
    obtain ⟨ll, hl⟩ := loadsF_eq (l := o.load) (n := o.split) (by omega) h4.1 h4.2
    have e : partsF o = some (piecesTo o n) := by unfold partsF; rw [if_neg h1, hl, hn]; rfl
    rw [e]
    exact parts_many o C cc n hn w BL hBL h hf (by omega) (by omega) h4.2 hnm
  · have hl : loadsF o.load o.split = none := by
      unfold loadsF
      rw [if_neg (fun h => h4 ⟨h.1.2, h.2⟩)]
    have e : partsF o = none := by unfold partsF; rw [if_neg h1, hl]
    rw [e]
    exact parts_bad o C cc w BL hBL h hf h1 hl
end Go.Proofs.YtceceomaheobhaaGreatDoor.spl

/- split.spread. -/
namespace Go.Proofs.YtceceomaheobhaaGreatDoor.spl
open Go.RowKit
open Go.Proofs.YtceceomaheobhaaGreatDoor.lib Go.Proofs.YtceceomaheobhaaGreatDoor.rd Go.Proofs.YtceceomaheobhaaGreatDoor.app Go.Proofs.YtceceomaheobhaaGreatDoor.typ Go.Proofs.YtceceomaheobhaaGreatDoor.eqg Go.Proofs.YtceceomaheobhaaGreatDoor.ren
set_option linter.unusedVariables false
set_option linter.unusedSimpArgs false

def sprAt (p : Int × Int) (a : Nat) (x : Int) (b : Nat) (y : Int) : List (Int × Int) := if x = p.1 ∧ y = p.2 then [((a : Int), (b : Int))] else []
/-- The pairs of one origin with the first b ones. -/
def sprB (p : Int × Int) (a : Nat) (x : Int) (l : List Int) : Nat → List (Int × Int)
  | 0 => []
  | b + 1 => sprB p a x l b ++ (match l[b]? with | some y => sprAt p a x b y | none => [])
def sprA (p : Int × Int) (l : List Int) : Nat → List (Int × Int)
  | 0 => []
  | a + 1 => sprA p l a ++ (match l[a]? with | some x => sprB p a x l l.length | none => [])
def sprP (ps : List (Int × Int)) (l : List Int) : Nat → List (Int × Int)
  | 0 => []
  | k + 1 => sprP ps l k ++ (match ps[k]? with | some p => sprA p l l.length | none => [])
theorem sprB_succ {p : Int × Int} {a : Nat} {x : Int} {l : List Int} {b : Nat} {y : Int} (h : l[b]? = some y) : sprB p a x l (b + 1) = sprB p a x l b ++ sprAt p a x b y := by rw [sprB, h]
theorem sprA_succ {p : Int × Int} {l : List Int} {a : Nat} {x : Int} (h : l[a]? = some x) : sprA p l (a + 1) = sprA p l a ++ sprB p a x l l.length := by rw [sprA, h]
theorem sprP_succ {ps : List (Int × Int)} {l : List Int} {k : Nat} {p : Int × Int} (h : ps[k]? = some p) : sprP ps l (k + 1) = sprP ps l k ++ sprA p l l.length := by rw [sprP, h]
theorem sprB_len (p : Int × Int) (a : Nat) (x : Int) (l : List Int) : ∀ b, (sprB p a x l b).length ≤ b
  | 0 => by simp [sprB]
  | b + 1 => by
    have ih := sprB_len p a x l b
    rw [sprB, List.length_append]
    have : (match l[b]? with | some y => sprAt p a x b y | none => []).length ≤ 1 := by
      split
      · unfold sprAt; split <;> simp
      · simp
    omega
theorem sprA_len (p : Int × Int) (l : List Int) (hl : l.length ≤ 100) : ∀ a, (sprA p l a).length ≤ a * 100
  | 0 => by simp [sprA]
  | a + 1 => by
    have ih := sprA_len p l hl a
    rw [sprA, List.length_append]
    have : (match l[a]? with | some x => sprB p a x l l.length | none => []).length ≤ 100 := by
      split
      · have := sprB_len p a ‹Int› l l.length; omega
      · simp
    omega
theorem sprP_len (ps : List (Int × Int)) (l : List Int) (hl : l.length ≤ 100) : ∀ k, (sprP ps l k).length ≤ k * 10000
  | 0 => by simp [sprP]
  | k + 1 => by
    have ih := sprP_len ps l hl k
    rw [sprP, List.length_append]
    have : (match ps[k]? with | some p => sprA p l l.length | none => []).length ≤ 10000 := by
      split
      · have := sprA_len ‹Int × Int› l hl l.length; omega
      · simp
    omega
/-- Where spread stands: the pairs u in a row of its own, the pair x in its box b. -/
structure SprSt (w : World) (b : Nat) (x : Int × Int) (u : List (Int × Int)) (A : Option Addr) (c : Nat) (wr : World) : Prop where
  own : wr.ownsRow w.heap.size 88 2 (.slice A u.length c) u.length (tcs u)
  ne : (Value.slice A u.length c).ownBlock ≠ some b
  box : wr.heap[b]? = some (.cells #[.int .i64 x.1, .int .i64 x.2] 88)
  bel : Below w.heap.size w wr
theorem SprSt.cells {w : World} {b : Nat} {x : Int × Int} {u : List (Int × Int)} {A : Option Addr} {c : Nat} {wr : World} (h : SprSt w b x u A c wr) : wr.cell? ⟨b, 0, none⟩ = some (.int .i64 x.1) ∧ wr.cell? ⟨b, 1, none⟩ = some (.int .i64 x.2) := by
  have e := h.box
  constructor
  all_goals
    unfold World.cell?
    rw [e]
    rfl
theorem SprSt.push {w : World} {b : Nat} {x y : Int × Int} {u : List (Int × Int)} {A : Option Addr} {c g c' : Nat} {wr w' : World} {cs : Array Value} {t : TypeId} (h : SprSt w b x u A c wr)
    (hown : w'.ownsRow w.heap.size 88 2 (.slice (some ⟨g, 0, none⟩) (u.length + 1) c') (u.length + 1) (tcs u ++ [.int .i64 y.1, .int .i64 y.2]))
    (hg : (wr.alloc (.cells cs t)).grownBy w' (Value.slice A u.length c).ownBlock) (hd : (Value.slice A u.length c).ownBlock = some g ∨ (wr.alloc (.cells cs t)).heap.size ≤ g) : SprSt w b x (u ++ [y]) (some ⟨g, 0, none⟩) c' w' := by
  have hlt : b < wr.heap.size := (Array.getElem?_eq_some_iff.1 h.box).1
  have e1 : (wr.alloc (.cells cs t)).heap.size = wr.heap.size + 1 := by simp
  refine ⟨?_, ?_, ?_, ?_⟩
  · rw [List.length_append, tcs_snoc]
    exact hown
  · show some g ≠ some b
    intro e
    injection e with e
    subst e
    rcases hd with hd | hd
    · exact h.ne hd
    · omega
  · exact (hg.block b (by omega) (fun e => h.ne e.symm)).trans ((Below.heap_alloc _ _ _ hlt).trans h.box)
  · exact (h.bel.alloc h.bel.size _).grown hg (by have := h.bel.size; omega) (fun q e => (World.ownsRow.lt h.own q e).1)
/-- What spread hands back. -/
def SpreadOut (w : World) (u : List (Int × Int)) (e : Ending) (w' : World) : Prop :=
  (u.length ≤ 16 ∧ ∃ A c, e = .returned (.tuple #[.slice A u.length c, .int .i64 0]) ∧ w'.ownsRow w.heap.size 88 2 (.slice A u.length c) u.length (tcs u) ∧ Below w.heap.size w w') ∨ (16 < u.length ∧ e = .returned (.tuple #[.slice none 0 0, .int .i64 4]) ∧ Below w.heap.size w w')
set_option maxRecDepth 20000 in
set_option maxHeartbeats 4000000 in
theorem spread_any (A : Option Addr) (c : Nat) (ps : List (Int × Int)) (A' : Option Addr) (c' : Nat) (l : List Int) (w : World) (hL : RowAt (rPair rInt rInt) w w.heap.size A ps) (hO : Ints w w.heap.size A' l) (hps : ps.length ≤ 10000) (hl : l.length ≤ 100) :
    Calls Tryz.prog 47 #[.slice A ps.length c, .slice A' l.length c'] w (SpreadOut w (sprP ps l ps.length)) := by
  obtain ⟨n, hn⟩ : ∃ n, ps.length = n := ⟨_, rfl⟩
  obtain ⟨m, hm⟩ : ∃ n, l.length = n := ⟨_, rfl⟩
  have HN := Lib.hid (And.intro hn hm)
  have HLEN : Hid (∀ k p a b x, k ≤ n → a ≤ m → b ≤ m → (sprP ps l k ++ (sprA p l a ++ sprB p a x l b)).length ≤ 200000000) := Lib.hid fun k p a b x hk ha hb => by
    have h1 := sprP_len ps l hl k
    have h2 := sprA_len p l hl a
    have h3 := sprB_len p a x l b
    rw [List.length_append, List.length_append]
    omega
  have HEND : Hid (∀ k, k ≤ n → (sprP ps l k).length ≤ 200000000) := Lib.hid fun k hk => by
    have h1 := sprP_len ps l hl k
    omega
  rw [hn, hm]
  rw [hn] at hps
  rw [hm] at hl
  have HI := Lib.hid (And.intro hL hO)
  clear hn hm hL hO
  go_enter Tryz.func47, Tryz.ntmps47
  go_wp2
  go_loopw [6, 8, 9, 10, 11, 12, 15] (fun v _ _ _ _ _ i wr => ∃ (k : Nat) (u : List (Int × Int)) (A2 : Option Addr) (c2 : Nat), k ≤ n ∧ i = .int .i64 k ∧ Hid (u = sprP ps l k) ∧ v = .slice A2 u.length c2 ∧ wr.ownsRow w.heap.size 88 2 (.slice A2 u.length c2) u.length (tcs u) ∧ Below w.heap.size w wr) (fun _ _ _ _ _ _ i _ => n - (intOf i).toNat)
  case atStart => exact ⟨0, [], none, 0, by omega, rfl, Lib.hid rfl, rfl, World.ownsRow_nil _ _ _ _, Below.refl _ _⟩
  case round =>
    obtain ⟨k, u, A2, c2, hk, rfl, hu, rfl, hown, hb⟩ := hrel
    have hz := hb.size
    by_cases hlt : k < n
    · obtain ⟨p, hp⟩ : ∃ p, ps[k]? = some p := ⟨_, List.getElem?_eq_getElem (by rw [HN.out.1]; exact hlt)⟩
      obtain ⟨ad, rfl, hadb, ⟨m0, m1⟩, _⟩ := row_Two (HI.out.1.below hb) hp
      have hk0 : (0 : Int) ≤ (k : Int) := by omega
      have hkn : (k : Int) < (n : Int) := by omega
      have HT : Hid (sprP ps l (k + 1) = sprP ps l k ++ sprA p l m) := Lib.hid (by rw [sprP_succ hp, HN.out.2])
      have hst : SprSt w wr.heap.size p u A2 c2 (wr.alloc (.cells #[.int .i64 p.1, .int .i64 p.2] 88)) := ⟨hown.alloc _, fun e => by have := (World.ownsRow.lt hown _ e).2; omega, World.alloc_heap_new wr _, hb.alloc hz _⟩
      have HS := Lib.hid hst
      clear hst hown hp
      go_upto_region 5 with fail
      obtain ⟨W1, hW1⟩ : ∃ W1, wr.alloc (.cells #[.int .i64 p.1, .int .i64 p.2] 88) = W1 := ⟨_, rfl⟩
      obtain ⟨bx, hbx⟩ : ∃ bx, wr.heap.size = bx := ⟨_, rfl⟩
      rw [hW1, hbx] at HS
      rw [hW1, hbx]
      rw [hbx] at hz
      clear hW1 m0 m1 hb hbx
      go_wp2_with fail
      go_loopw [6, 9, 10, 11, 12, 21] (fun v _ _ _ _ i wr => ∃ (a : Nat) (u2 : List (Int × Int)) (A3 : Option Addr) (c3 : Nat), a ≤ m ∧ i = .int .i64 a ∧ Hid (u2 = u ++ sprA p l a) ∧ v = .slice A3 u2.length c3 ∧ Hid (SprSt w bx p u2 A3 c3 wr)) (fun _ _ _ _ _ i _ => m - (intOf i).toNat)
      case atStart => exact ⟨0, u, A2, c2, by omega, rfl, Lib.hid (by rw [sprA, List.append_nil]), rfl, HS⟩
      case round =>
        obtain ⟨a, u2, A3, c3, ha, rfl, hu2, rfl, HS2⟩ := hrel
        by_cases hla : a < m
        · obtain ⟨ad1, x, rfl, hadb1, hx, hcx⟩ := (HI.out.2.below HS2.out.bel).at_ (k := a) (by rw [HN.out.2]; exact hla)
          have ha0 : (0 : Int) ≤ (a : Int) := by omega
          have ham : (a : Int) < (m : Int) := by omega
          have HT2 : Hid (sprA p l (a + 1) = sprA p l a ++ sprB p a x l m) := Lib.hid (by rw [sprA_succ hx, HN.out.2])
          clear hx
          go_upto_region 8 with fail
          clear hcx
          go_wp2_with fail
          go_loopw [6, 11, 12, 28] (fun v _ _ i wr => ∃ (b : Nat) (u3 : List (Int × Int)) (A4 : Option Addr) (c4 : Nat), b ≤ m ∧ i = .int .i64 b ∧ Hid (u3 = u2 ++ sprB p a x l b) ∧ v = .slice A4 u3.length c4 ∧ Hid (SprSt w bx p u3 A4 c4 wr)) (fun _ _ _ i _ => m - (intOf i).toNat)
          case atStart => exact ⟨0, u2, A3, c3, by omega, rfl, Lib.hid (by rw [sprB, List.append_nil]), rfl, HS2⟩
          case round =>
            obtain ⟨b, u3, A4, c4, hb, rfl, hu3, rfl, HS3⟩ := hrel
            by_cases hlb : b < m
            · obtain ⟨ad2, y, hA2, hadb2, hy, hcy⟩ := (HI.out.2.below HS3.out.bel).at_ (k := b) (by rw [HN.out.2]; exact hlb)
              obtain rfl := Option.some.inj hA2
              have hb0 : (0 : Int) ≤ (b : Int) := by omega
              have hbm : (b : Int) < (m : Int) := by omega
              have HT3 : Hid (sprB p a x l (b + 1) = sprB p a x l b ++ sprAt p a x b y) := Lib.hid (sprB_succ hy)
              obtain ⟨k0, k1⟩ := HS3.out.cells
              have hlen : u3.length ≤ 200000000 := by
                rw [hu3.out, hu2.out, hu.out, List.append_assoc]
                exact HLEN.out k p a b x (by omega) (by omega) (by omega)
              have hz3 := HS3.out.bel.size
              clear hy hA2
              by_cases h1 : x = p.1 ∧ y = p.2
              · have HE : Hid (sprB p a x l (b + 1) = sprB p a x l b ++ [((a : Int), (b : Int))]) := Lib.hid (by rw [HT3.out]; unfold sprAt; rw [if_pos h1])
                obtain ⟨h1, h2⟩ := h1
                rw [← h1] at k0
                rw [← h2] at k1
                clear h1 h2
                go_wp2_with (at_builtin; go_loud (refine wpList_app two_elem _ _ rfl w.heap.size A4 u3.length c4 (tcs u3) rfl (HS3.out.own.alloc _) ⟨wr.heap.size, 0, none⟩ 1 [.int .i64 a, .int .i64 b] rfl rfl (two_new _ _ _ _) (by simp [Value.oneCell']) (by omega) (by simp; omega) rfl ?_); intro g5 c5 w5 hown5 hg5 hx5; have HK5 := Lib.hid (HS3.out.push (y := ((a : Int), (b : Int))) hown5 hg5 hx5); clear hown5 hg5 hx5)
                refine ⟨⟨b + 1, u3 ++ [((a : Int), (b : Int))], some ⟨g5, 0, none⟩, c5, by omega, by go_num, Lib.hid (by rw [HE.out, hu3.out, List.append_assoc]), by rw [List.length_append]; rfl, HK5⟩, by simp [intOf]; omega⟩
              · have HE : Hid (sprB p a x l (b + 1) = sprB p a x l b) := Lib.hid (by rw [HT3.out]; unfold sprAt; rw [if_neg h1, List.append_nil])
                have hfin : ∃ b' u' A' c', b' ≤ m ∧ Value.int .i64 ((b : Int) + 1) = .int .i64 b' ∧ Hid (u' = u2 ++ sprB p a x l b') ∧ Value.slice A4 u3.length c4 = .slice A' (List.length u') c' ∧ Hid (SprSt w bx p u' A' c' wr) := ⟨b + 1, u3, A4, c4, by omega, by go_num, Lib.hid (by rw [HE.out, hu3.out]), rfl, HS3⟩
                have HF := Lib.hid hfin
                clear hfin HE HT3
                by_cases h2 : x = p.1
                · have h3 : ¬ y = p.2 := fun h => h1 ⟨h2, h⟩
                  rw [← h2] at k0
                  clear h1 h2
                  go_wp2
                  exact ⟨HF.out, by simp [intOf]; omega⟩
                · clear h1
                  go_wp2
                  exact ⟨HF.out, by simp [intOf]; omega⟩
            · have hbm : b = m := by omega
              subst hbm
              clear hlb
              go_wp2
              refine ⟨⟨a + 1, u3, A4, c4, by omega, by go_num, Lib.hid (by rw [HT2.out, hu3.out, hu2.out, List.append_assoc]), rfl, HS3⟩, by simp [intOf]; omega⟩
        · have ham : a = m := by omega
          subst ham
          clear hla
          go_wp2
          refine ⟨⟨k + 1, u2, A3, c3, by omega, by go_num, Lib.hid (by rw [HT.out, hu2.out, hu.out]), rfl, HS2.out.own, HS2.out.bel⟩, by simp [intOf]; omega⟩
    · have hkn : k = n := by omega
      subst hkn
      clear hlt
      have hul := HEND.out k (by omega)
      rw [← hu.out] at hul
      by_cases h16 : 16 < u.length
      · have h16' : (16 : Int) < (u.length : Int) := by omega
        go_wp2
        go_ret2
        rw [show sprP ps l k = u from hu.out.symm]
        exact .inr ⟨h16, rfl, hb⟩
      · have h16' : ¬ (16 : Int) < (u.length : Int) := by omega
        go_wp2
        go_ret2
        rw [show sprP ps l k = u from hu.out.symm]
        exact .inl ⟨by omega, A2, c2, rfl, hown, hb⟩
end Go.Proofs.YtceceomaheobhaaGreatDoor.spl

/- split.Expand: what it computes, and where it stands. -/
namespace Go.Proofs.YtceceomaheobhaaGreatDoor.spl
open Go.RowKit
open Go.Proofs.YtceceomaheobhaaGreatDoor.lib Go.Proofs.YtceceomaheobhaaGreatDoor.rd Go.Proofs.YtceceomaheobhaaGreatDoor.app Go.Proofs.YtceceomaheobhaaGreatDoor.els Go.Proofs.YtceceomaheobhaaGreatDoor.loads Go.Proofs.YtceceomaheobhaaGreatDoor.typ Go.Proofs.YtceceomaheobhaaGreatDoor.big Go.Proofs.YtceceomaheobhaaGreatDoor.ins Go.Proofs.YtceceomaheobhaaGreatDoor.ord Go.Proofs.YtceceomaheobhaaGreatDoor.flts
set_option linter.unusedVariables false
set_option linter.unusedSimpArgs false

/-- The parts ps of order i appended: the orders so far, their origins; or the error of a name. -/
def expPs (os : List Ord) (i : Int) (sp : Bool) : List Ord → List Ord → List Int → Except Int (List Ord × List Int)
  | [], out, org => .ok (out, org)
  | p :: ps, out, org => if sp = true ∧ namedE os out p.name ≠ 0 then .error (namedE os out p.name) else expPs os i sp ps (out ++ [p]) (org ++ [i])
def expOs (os : List Ord) : List Ord → Nat → List Ord → List Int → Except Int (List Ord × List Int)
  | [], i, out, org => .ok (out, org)
  | o :: rest, i, out, org => match partsF o with
    | none => .error 2
    | some ps => match expPs os i (decide (1 < o.split)) ps out org with
      | .error e => .error e
      | .ok (out', org') => expOs os rest (i + 1) out' org'
/-- What follows one order's parts. -/
def expThen (os rest : List Ord) (i : Nat) : Except Int (List Ord × List Int) → Except Int (List Ord × List Int)
  | .error e => .error e
  | .ok (out, org) => expOs os rest i out org
theorem expOs_cons {os rest : List Ord} {o : Ord} {i : Nat} {out : List Ord} {org : List Int} {ps : List Ord} (h : partsF o = some ps) : expOs os (o :: rest) i out org = expThen os rest (i + 1) (expPs os i (decide (1 < o.split)) ps out org) := by
  obtain ⟨r, hr⟩ : ∃ r, expPs os i (decide (1 < o.split)) ps out org = r := ⟨_, rfl⟩
  rw [expOs, h, hr]
  simp only [hr]
  cases r <;> rfl
theorem expPs_bad {os : List Ord} {i : Int} {p : Ord} {ps out : List Ord} {org : List Int} (h : namedE os out p.name ≠ 0) : expPs os i true (p :: ps) out org = .error (namedE os out p.name) := by rw [expPs, if_pos ⟨rfl, h⟩]
theorem expPs_good {os : List Ord} {i : Int} {p : Ord} {ps out : List Ord} {org : List Int} (h : namedE os out p.name = 0) : expPs os i true (p :: ps) out org = expPs os i true ps (out ++ [p]) (org ++ [i]) := by rw [expPs, if_neg (fun h' => h'.2 h)]
theorem expPs_one {os : List Ord} {i : Int} {p : Ord} {ps out : List Ord} {org : List Int} : expPs os i false (p :: ps) out org = expPs os i false ps (out ++ [p]) (org ++ [i]) := by rw [expPs, if_neg (fun h' => by cases h'.1)]
def maxOne (a : Int) : Int := if 1 < a then a else 1
def totalO (os : List Ord) : Int := (os.map fun o => maxOne o.split).sum
def expFin (x : Ins) : Except Int (List Ord × List Int) → Except Int (Ins × List Int)
  | .error e => .error e
  | .ok (out, org) => if 16 < (sprP x.apart org x.apart.length).length ∨ 16 < (sprP x.before org x.before.length).length then .error 4
    else .ok (⟨x.net, x.types, out, sprP x.apart org x.apart.length, sprP x.before org x.before.length⟩, org)
/-- What Expand answers. -/
def expF (x : Ins) : Except Int (Ins × List Int) := if 10 < totalO x.orders then .error 4 else expFin x (expOs x.orders x.orders 0 [] [])
def ExpOut (w : World) (r : Except Int (Ins × List Int)) (e : Ending) (w' : World) : Prop := match r with
  | .error k => e = .returned (.tuple #[InV nilI nilP, .slice none 0 0, .int .i64 k]) ∧ Below w.heap.size w w'
  | .ok (y, org) => ∃ P A c, e = .returned (.tuple #[InV y P, .slice A org.length c, .int .i64 0]) ∧ InAt w' w'.heap.size y P ∧ Ints w' w'.heap.size A org ∧ Below w.heap.size w w'

/-! What stays. -/
theorem IntsOff.keep {w w' : World} {P P' : Nat → Prop} {A : Option Addr} {l : List Int} (h : IntsOff w P A l) (hs : w.heap.size ≤ w'.heap.size) (hk : ∀ b, b < w.heap.size → P b → P' b ∧ w'.heap[b]? = w.heap[b]?) : IntsOff w' P' A l := by
  obtain ⟨h1, h2⟩ := h
  rcases Nat.eq_zero_or_pos l.length with h0 | h0
  · have : l = [] := List.eq_nil_of_length_eq_zero h0
    subst this
    exact ⟨⟨⟨rfl, fun h => absurd h (by decide)⟩, by simp⟩, fun h => absurd h (by decide)⟩
  · obtain ⟨ad, hA, hp⟩ := h2 h0
    obtain ⟨⟨hlen, hrd⟩, hl⟩ := h1
    obtain ⟨ad', hA', hb, hc⟩ := hrd h0
    obtain rfl : ad = ad' := Option.some.inj (hA.symm.trans hA')
    obtain ⟨k1, k2⟩ := hk _ hb hp
    refine ⟨⟨⟨hlen, fun _ => ⟨ad, hA, Nat.lt_of_lt_of_le hb hs, fun j u hu => ?_⟩⟩, hl⟩, fun _ => ⟨ad, hA, k1⟩⟩
    exact (World.cell?_of_block (by rw [block_of_add]; exact k2)).trans (hc j u hu)
theorem ElsIn.keep {X : Type} {f : X → El} {w w' : World} {P P' : Nat → Prop} {cs : List Value} {xs : List X} (h : ElsIn f w P cs xs) (hs : w.heap.size ≤ w'.heap.size) (hk : ∀ b, b < w.heap.size → P b → P' b ∧ w'.heap[b]? = w.heap[b]?) : ElsIn f w' P' cs xs := by
  induction h with
  | nil => exact .nil
  | snoc c _ hi ih => exact .snoc c ih (IntsOff.keep hi hs hk)
/-- The parts that are still to be read. -/
def PsAt (w : World) (Q : Nat → Prop) (A : Option Addr) (ps : List Ord) : Prop := ∀ (k : Nat) p, ps[k]? = some p → ∃ ad Ai ci, A = some ad ∧ Q ad.block ∧ ad.block < w.heap.size ∧ CellsAt w (ad.add (k * 16)) (OrdCells p Ai ci) ∧ IntsOff w Q Ai p.load
theorem PsAt.keep {w w' : World} {Q Q' : Nat → Prop} {A : Option Addr} {ps : List Ord} (h : PsAt w Q A ps) (hs : w.heap.size ≤ w'.heap.size) (hk : ∀ b, b < w.heap.size → Q b → Q' b ∧ w'.heap[b]? = w.heap[b]?) : PsAt w' Q' A ps := fun k p hp => by
  obtain ⟨ad, Ai, ci, h1, h2, h3, h4, h5⟩ := h k p hp
  obtain ⟨k1, k2⟩ := hk _ h3 h2
  exact ⟨ad, Ai, ci, h1, k1, Nat.lt_of_lt_of_le h3 hs, h4.heap (by rw [block_of_add]; exact k2), IntsOff.keep h5 hs hk⟩
theorem PsAt.of_own {w : World} {base c : Nat} {A : Option Addr} {P Q : Nat → Prop} {cs : List Value} {ps : List Ord} (hown : w.ownsRow base 42 16 (.slice A ps.length c) ps.length cs) (hE : ElsIn ordEl w P cs ps) (hPQ : ∀ b, b < w.heap.size → P b → Q b) (hQ : ∀ b, base ≤ b → Q b) : PsAt w Q A ps := fun k p hp => by
  obtain ⟨_, h2⟩ := hE.at_ (s := 16) (fun x A c => rfl)
  obtain ⟨Ai, ci, h3, h4⟩ := h2 k p hp
  have hk := (List.getElem?_eq_some_iff.1 hp).1
  rcases hown.2 with ⟨h5, h6⟩ | ⟨g, cap, cur, h5, h6, h7, h8⟩
  · omega
  · injection h5 with h5 _ _
    subst h5
    refine ⟨⟨g, 0, none⟩, Ai, ci, rfl, hQ g h6, (Array.getElem?_eq_some_iff.1 h7).1, fun j u hu => ?_, h3.weak hPQ⟩
    have := hown.cells (g := g) rfl _ _ (h4 j u hu)
    rw [add_of_add]
    exact this
/-- The blocks that Expand does not write. -/
def ExpQ (H R : Nat) (v1 v2 : Value) (b : Nat) : Prop := b ≠ H ∧ some b ≠ v1.ownBlock ∧ some b ≠ v2.ownBlock ∧ b ≠ R
theorem ExpQ.keep {H R : Nat} {v1 v2 : Value} {w w' : World} (hb : Below w.heap.size w w') : ∀ b, b < w.heap.size → ExpQ H R v1 v2 b → ExpQ H R v1 v2 b ∧ w'.heap[b]? = w.heap[b]? := fun b h hq => ⟨hq, hb.block b h⟩
/-- A struct in a box of its own. -/
def BxAt (w : World) (Q : Nat → Prop) (p : Nat) (o : Ord) (C : Option Addr) (c : Nat) : Prop := Q p ∧ OrBlk w p o C c
theorem BxAt.keep {w w' : World} {Q Q' : Nat → Prop} {p : Nat} {o : Ord} {C : Option Addr} {c : Nat} (h : BxAt w Q p o C c) (hk : ∀ b, b < w.heap.size → Q b → Q' b ∧ w'.heap[b]? = w.heap[b]?) : BxAt w' Q' p o C c := by
  obtain ⟨k1, k2⟩ := hk p (Array.getElem?_eq_some_iff.1 h.2).1 h.1
  exact ⟨k1, k2.trans h.2⟩
/-- Where Expand stands. -/
structure ExpSt (H R : Nat) (w : World) (bx : List Value) (ns : List Int) (os : List Ord) (wr : World) (B1 : Option Addr) (d1 : Nat) (B2 : Option Addr) (d2 : Nat) (cs : List Value) : Prop where
  own1 : wr.ownsRow (H + 1) 3 1 (.slice B1 ns.length d1) ns.length (ns.map (.int .i64))
  own2 : wr.ownsRow (H + 1) 42 16 (.slice B2 os.length d2) os.length cs
  els : ElsIn ordEl wr (ExpQ H R (.slice B1 ns.length d1) (.slice B2 os.length d2)) cs os
  box : SixAt wr H bx
  bel : Below H w wr
  sz : H + 1 ≤ wr.heap.size
section
variable {H R : Nat} {w : World} {bx : List Value} {ns : List Int} {os : List Ord} {wr wx : World} {B1 : Option Addr} {d1 : Nat} {B2 : Option Addr} {d2 : Nat} {cs : List Value}
theorem ExpSt.below (h : ExpSt H R w bx ns os wr B1 d1 B2 d2 cs) (hb : Below wr.heap.size wr wx) : ExpSt H R w bx ns os wx B1 d1 B2 d2 cs := by
  have := h.sz
  exact ⟨own_below h.own1 hb, own_below h.own2 hb, h.els.stay (row := none) (Stays.below hb) (fun b _ _ e => by cases e) (fun b _ hp => hp), h.box.below hb, h.bel.trans (hb.mono (by omega)), Nat.le_trans h.sz hb.size⟩
theorem ExpSt.push1 (h : ExpSt H R w bx ns os wr B1 d1 B2 d2 cs) {k : Int} {g c : Nat}
    (hown : wx.ownsRow (H + 1) 3 1 (.slice (some ⟨g, 0, none⟩) (ns.length + 1) c) (ns.length + 1) (ns.map (.int .i64) ++ [.int .i64 k])) (hg : wr.grownBy wx (Value.slice B1 ns.length d1).ownBlock) (hd : (Value.slice B1 ns.length d1).ownBlock = some g ∨ wr.heap.size ≤ g) :
    ExpSt H R w bx (ns ++ [k]) os wx (some ⟨g, 0, none⟩) c B2 d2 cs ∧ ∀ b, b < wr.heap.size → ExpQ H R (.slice B1 ns.length d1) (.slice B2 os.length d2) b → ExpQ H R (.slice (some ⟨g, 0, none⟩) (ns ++ [k]).length c) (.slice B2 os.length d2) b ∧ wx.heap[b]? = wr.heap[b]? := by
  have hb := fun q e => (World.ownsRow.lt h.own1 q e).1
  have hs := h.sz
  have hk : ∀ b, b < wr.heap.size → ExpQ H R (.slice B1 ns.length d1) (.slice B2 os.length d2) b → ExpQ H R (.slice (some ⟨g, 0, none⟩) (ns ++ [k]).length c) (.slice B2 os.length d2) b ∧ wx.heap[b]? = wr.heap[b]? := fun b hb hq => by
    refine ⟨⟨hq.1, fun e => ?_, hq.2.2⟩, hg.block b hb hq.2.1⟩
    have e : b = g := by injection e
    subst e
    rcases hd with hd | hd
    · exact hq.2.1 hd.symm
    · omega
  refine ⟨⟨by rw [List.length_append, List.map_append]; exact hown, own_grown h.own2 hg (own_ne_type h.own2 h.own1 ord_int), ElsIn.keep h.els hg.size hk, h.box.keep (hg.block H (by omega) (fun e => ?_)), h.bel.grown hg (by omega) (fun q e => ?_), Nat.le_trans hs hg.size⟩, hk⟩
  · have := hb _ e.symm; omega
  · have := hb _ e; omega
theorem ExpSt.push2 (h : ExpSt H R w bx ns os wr B1 d1 B2 d2 cs) {o : Ord} {C : Option Addr} {c0 g c : Nat} (hI : IntsOff wr (ExpQ H R (.slice B1 ns.length d1) (.slice B2 os.length d2)) C o.load)
    (hown : wx.ownsRow (H + 1) 42 16 (.slice (some ⟨g, 0, none⟩) (os.length + 1) c) (os.length + 1) (cs ++ OrdCells o C c0)) (hg : wr.grownBy wx (Value.slice B2 os.length d2).ownBlock) (hd : (Value.slice B2 os.length d2).ownBlock = some g ∨ wr.heap.size ≤ g) :
    ExpSt H R w bx ns (os ++ [o]) wx B1 d1 (some ⟨g, 0, none⟩) c (cs ++ OrdCells o C c0) ∧ ∀ b, b < wr.heap.size → ExpQ H R (.slice B1 ns.length d1) (.slice B2 os.length d2) b → ExpQ H R (.slice B1 ns.length d1) (.slice (some ⟨g, 0, none⟩) (os ++ [o]).length c) b ∧ wx.heap[b]? = wr.heap[b]? := by
  have hb := fun q e => (World.ownsRow.lt h.own2 q e).1
  have hs := h.sz
  have hk : ∀ b, b < wr.heap.size → ExpQ H R (.slice B1 ns.length d1) (.slice B2 os.length d2) b → ExpQ H R (.slice B1 ns.length d1) (.slice (some ⟨g, 0, none⟩) (os ++ [o]).length c) b ∧ wx.heap[b]? = wr.heap[b]? := fun b hb hq => by
    refine ⟨⟨hq.1, hq.2.1, fun e => ?_, hq.2.2.2⟩, hg.block b hb hq.2.2.1⟩
    have e : b = g := by injection e
    subst e
    rcases hd with hd | hd
    · exact hq.2.2.1 hd.symm
    · omega
  refine ⟨⟨own_grown h.own1 hg (own_ne_type h.own1 h.own2 (Ne.symm ord_int)), by rw [List.length_append]; exact hown, ElsIn.snoc c0 (ElsIn.keep h.els hg.size hk) (IntsOff.keep hI hg.size hk), h.box.keep (hg.block H (by omega) (fun e => ?_)), h.bel.grown hg (by omega) (fun q e => ?_), Nat.le_trans hs hg.size⟩, hk⟩
  · have := hb _ e.symm; omega
  · have := hb _ e; omega
theorem ExpSt.store (h : ExpSt H R w bx ns os wr B1 d1 B2 d2 cs) (i : Nat) (u : Value) : ExpSt H R w (bx.set i u) ns os (wr.setCell ⟨H, i, none⟩ u) B1 d1 B2 d2 cs ∧ ∀ b, b < wr.heap.size → ExpQ H R (.slice B1 ns.length d1) (.slice B2 os.length d2) b → ExpQ H R (.slice B1 ns.length d1) (.slice B2 os.length d2) b ∧ (wr.setCell ⟨H, i, none⟩ u).heap[b]? = wr.heap[b]? := by
  have hs := h.sz
  have hg := grownBy_set wr H i u
  have hk : ∀ b, b < wr.heap.size → ExpQ H R (.slice B1 ns.length d1) (.slice B2 os.length d2) b → ExpQ H R (.slice B1 ns.length d1) (.slice B2 os.length d2) b ∧ (wr.setCell ⟨H, i, none⟩ u).heap[b]? = wr.heap[b]? := fun b hb hq => ⟨hq, hg.block b hb (fun e => hq.1 (by injection e))⟩
  exact ⟨⟨ownsRow_setCell_below h.own1 (by show H < _; omega) u, ownsRow_setCell_below h.own2 (by show H < _; omega) u, ElsIn.keep h.els hg.size hk, h.box.set i u, h.bel.setCell (p := ⟨H, i, none⟩) (Nat.le_refl _) u, Nat.le_trans hs hg.size⟩, hk⟩
theorem ExpSt.orders (h : ExpSt H R w bx ns os wr B1 d1 B2 d2 cs) (hl : os.length ≤ 1000) (hf : ∀ o ∈ os, OrdFits o) : RowAt rOrd wr wr.heap.size B2 os :=
  h.els.row (r := rOrd) (fun o A c => rfl) h.own2 (fun o ho A c hi => rOrd_mk hi (hf o ho)) (by omega)
end
end Go.Proofs.YtceceomaheobhaaGreatDoor.spl

/- The reference's rules of an order. -/
import Derived.Test.YthefooacfcagbaaGreatDoorR11A
import Derived.Test.YthefooacfcagbaaGreatDoorC1
import Derived.Test.YthefooacfcagbaaGreatDoorBase
import Derived.Deep.DeepCutAuto
import Derived.Deep.QuietTactic
import Derived.BigQuiet
import Derived.Deep.CutBlock
import Derived.Outline
namespace Go.Proofs.YthefooacfcagbaaGreatDoor.rord
open Go.RowKit
open lib rd typ note txt ord big
set_option linter.unusedVariables false
set_option linter.unusedSimpArgs false
theorem stOrdR : StructOf 66 16 := ⟨⟨_, Tryz.underlying66⟩, by kernel_rfl⟩
theorem own_drewN {w : World} {base : Nat} {e : TypeId} {size n : Nat} {v : Value} {xs : List Value} (h : w.ownsRow base e size v n xs) (k : Nat) : (w.drewN k).ownsRow base e size v n xs := app.own_below h (bel_drewN (Below.refl _ _) k)
def ordZ : List Value := [.string ⟨#[]⟩, .slice none 0 0, .int .i64 0, .int .i64 0, .int .i64 0, .int .i64 0, .int .i64 0, .int .i64 0, .int .i64 0, .int .i64 0, .int .i64 0, .int .i64 0, .int .i64 0, .int .i64 0, .int .i64 0, .bool false]
theorem ordCells_ones (o : Ord) (C : Option Addr) (c : Nat) : ∀ u ∈ OrdCells o C c, u.oneCell' = true := fun u hu => by
 simp only [OrdCells, List.mem_cons, List.not_mem_nil, or_false] at hu
 rcases hu with rfl | rfl | rfl | rfl | rfl | rfl | rfl | rfl | rfl | rfl | rfl | rfl | rfl | rfl | rfl | rfl <;> rfl
theorem num_cases (o : Ord) (types : Int) (b : Bool) (hb : b = ((o.pick.place != -1) && (o.drop.place != -1))) :
  (numB o types = false ∧ inB o.penalty (-1) 1000000 = false) ∨ (numB o types = false ∧ inB o.penalty (-1) 1000000 = true ∧ inB o.split 1 4 = false) ∨ (numB o types = false ∧ inB o.penalty (-1) 1000000 = true ∧ inB o.split 1 4 = true ∧ 1 < o.split ∧ b = true) ∨
  (inB o.penalty (-1) 1000000 = true ∧ inB o.split 1 4 = true ∧ (¬ 1 < o.split ∨ (1 < o.split ∧ b = false)) ∧ ((numB o types = false ∧ o.last < -1) ∨ (numB o types = false ∧ ¬ o.last < -1 ∧ types ≤ o.last) ∨ (numB o types = false ∧ ¬ o.last < -1 ∧ ¬ types ≤ o.last ∧ o.now < -1) ∨ (numB o types = (!decide (types ≤ o.now)) ∧ ¬ o.last < -1 ∧ ¬ types ≤ o.last ∧ ¬ o.now < -1))) := by
 unfold numB
 cases h1 : inB o.penalty (-1) 1000000
 ·exact .inl ⟨rfl, rfl⟩
 right
 cases h2 : inB o.split 1 4
 ·exact .inl ⟨rfl, rfl, rfl⟩
 right
 obtain ⟨s1, s2⟩ := inB_bd h2
 have hsp : (o.split == 1 || o.pick.place == -1 || o.drop.place == -1) = !(decide (1 < o.split) && b) := by
  rw [hb, Bool.eq_iff_iff]
  simp
  omega
 rw [hsp]
 by_cases h3 : 1 < o.split ∧ b = true
 ·exact .inl ⟨by simp [h3.1, h3.2], rfl, rfl, h3.1, h3.2⟩
 right
 have e3 : (!(decide (1 < o.split) && b)) = true := by
  cases b
  ·simp
  ·simp at h3 ⊢; omega
 rw [e3]
 refine ⟨rfl, rfl, ?_, ?_⟩
 ·by_cases h4 : 1 < o.split
  ·exact .inr ⟨h4, by cases b <;> simp_all⟩
  ·exact .inl h4
 ·by_cases h4 : o.last < -1
  ·exact .inl ⟨by simp; omega, h4⟩
  right
  by_cases h5 : types ≤ o.last
  ·exact .inl ⟨by simp; omega, h4, h5⟩
  right
  by_cases h6 : o.now < -1
  ·exact .inl ⟨by simp; omega, h4, h5, h6⟩
  right
  refine ⟨?_, h4, h5, h6⟩
  rw [Bool.eq_iff_iff]
  simp
  omega
set_option maxRecDepth 100000 in
set_option maxHeartbeats 8000000 in
theorem rrules_any (n : Nat) (dims types : Int) (A : Option Addr) (c : Nat) (l : List Ord) (i : Nat) (t : Ord) (w : World) (hL : RowAt rOrd w w.heap.size A l) (hi : l[i]? = some t) (hn : n ≤ 17592186043904) :
  Calls Tryz.prog 94 #[.int .i64 n, .int .i64 dims, .int .i64 types, .slice A l.length c, .int .i64 i] w (ErrsOut w (errsO ((n : Int) - 1) dims types l i t)) := by
 obtain ⟨ad, cs, hA, hadb, hat, hcx⟩ := hL.elem hi
 obtain ⟨C, cc, rfl, hIC, hfit⟩ := rOrd_at hat
 subst hA
 have hcx' : CellsAt w (ad.add (i * 16)) (OrdCells t C cc) := hcx
 have HCX := Lib.hid hcx'
 clear hcx hcx' hat
 have hil : i < l.length := (List.getElem?_eq_some_iff.1 hi).1
 obtain ⟨m, hm⟩ : ∃ m, l.length = m := ⟨_, rfl⟩
 have hlen := hL.len
 rw [hm] at hlen hil ⊢
 have hadb' : (ad.add (i * 16)).block < w.heap.size := by rw [block_of_add]; exact hadb
 have HN := Lib.hid hm
 have HLI := Lib.hid hi
 have hi0 : (0 : Int) ≤ (i : Int) := by omega
 have hin : (i : Int) < (m : Int) := by omega
 have hnp : (n : Int) ≤ 17592186043904 := by omega
 clear hi hm
 obtain ⟨q1, hq1⟩ : ∃ q, nameB t.name = q := ⟨_, rfl⟩
 obtain ⟨q2, hq2⟩ : ∃ q, (!((l.take i).any (fun x => sameS x.name t.name))) = q := ⟨_, rfl⟩
 obtain ⟨q3, hq3⟩ : ∃ q, loads.rightB t.load dims = q := ⟨_, rfl⟩
 obtain ⟨q4, hq4⟩ : ∃ q, (inB t.pick.place (-1) ((n : Int) - 1) && inB t.drop.place (-1) ((n : Int) - 1)) = q := ⟨_, rfl⟩
 obtain ⟨q5, hq5⟩ : ∃ q, ((t.pick.place != -1) || (t.drop.place != -1)) = q := ⟨_, rfl⟩
 obtain ⟨q6, hq6⟩ : ∃ q, winB t = q := ⟨_, rfl⟩
 obtain ⟨q7, hq7⟩ : ∃ q, inB t.skills 0 1073741823 = q := ⟨_, rfl⟩
 obtain ⟨q8, hq8⟩ : ∃ q, numB t types = q := ⟨_, rfl⟩
 obtain ⟨x1, hx1⟩ : ∃ x, pushIf [] q1 5 = x := ⟨_, rfl⟩
 have l1 : x1.length ≤ 1 := by have h := pushIf_len ([]) (q1) 5; rw [hx1] at h; (try simp at h); omega
 have HX1 := Lib.hid hx1
 clear hx1
 obtain ⟨x2, hx2⟩ : ∃ x, pushIf x1 q2 6 = x := ⟨_, rfl⟩
 have l2 : x2.length ≤ 2 := by have h := pushIf_len (x1) (q2) 6; rw [hx2] at h; (try simp at h); omega
 have HX2 := Lib.hid hx2
 clear hx2
 obtain ⟨x3, hx3⟩ : ∃ x, pushIf x2 q3 17 = x := ⟨_, rfl⟩
 have l3 : x3.length ≤ 3 := by have h := pushIf_len (x2) (q3) 17; rw [hx3] at h; (try simp at h); omega
 have HX3 := Lib.hid hx3
 clear hx3
 obtain ⟨x4, hx4⟩ : ∃ x, pushIf x3 q4 11 = x := ⟨_, rfl⟩
 have l4 : x4.length ≤ 4 := by have h := pushIf_len (x3) (q4) 11; rw [hx4] at h; (try simp at h); omega
 have HX4 := Lib.hid hx4
 clear hx4
 obtain ⟨x5, hx5⟩ : ∃ x, pushIf x4 q5 19 = x := ⟨_, rfl⟩
 have l5 : x5.length ≤ 5 := by have h := pushIf_len (x4) (q5) 19; rw [hx5] at h; (try simp at h); omega
 have HX5 := Lib.hid hx5
 clear hx5
 obtain ⟨x6, hx6⟩ : ∃ x, pushIf x5 q6 14 = x := ⟨_, rfl⟩
 have l6 : x6.length ≤ 6 := by have h := pushIf_len (x5) (q6) 14; rw [hx6] at h; (try simp at h); omega
 have HX6 := Lib.hid hx6
 clear hx6
 obtain ⟨x7, hx7⟩ : ∃ x, pushIf x6 q7 18 = x := ⟨_, rfl⟩
 have l7 : x7.length ≤ 7 := by have h := pushIf_len (x6) (q7) 18; rw [hx7] at h; (try simp at h); omega
 have HX7 := Lib.hid hx7
 clear hx7
 obtain ⟨x8, hx8⟩ : ∃ x, pushIf x7 q8 2 = x := ⟨_, rfl⟩
 have l8 : x8.length ≤ 8 := by have h := pushIf_len (x7) (q8) 2; rw [hx8] at h; (try simp at h); omega
 have HX8 := Lib.hid hx8
 clear hx8
 have HRES : Hid (errsO ((n : Int) - 1) dims types l i t = x8) := Lib.hid (by
  rw [← HX8.out, ← HX7.out, ← HX6.out, ← HX5.out, ← HX4.out, ← HX3.out, ← HX2.out, ← HX1.out, ← hq1, ← hq2, ← hq3, ← hq4, ← hq5, ← hq6, ← hq7, ← hq8]
  rfl)
 have HQ1 := Lib.hid hq1
 have HQ2 := Lib.hid hq2
 have HQ3 := Lib.hid hq3
 have HQ4 := Lib.hid hq4
 have HQ5 := Lib.hid hq5
 have HQ6 := Lib.hid hq6
 have HQ7 := Lib.hid hq7
 have HQ8 := Lib.hid hq8
 clear hq1 hq2 hq3 hq4 hq5 hq6 hq7 hq8
 go_enter Tryz.func94, Tryz.ntmps94
 go_upto_region 3 with (first
  | ((with_reducible refine wpList_loadG stOrdR _ rfl (ad.add (i * 16)) (OrdCells t C cc) ?_ ?_ ?_ ?_ ?_); exact rfl; exact rfl; exact HCX.out; exact rfl)
  | ((with_reducible refine wpList_storeL stOrdR rfl _ _ rfl w.heap.size ordZ (OrdCells t C cc) ?_ ?_ ?_ ?_ ?_ (ordCells_ones t C cc) ?_); exact rfl; exact rfl; exact World.alloc_heap_new w _; exact rfl; exact rfl; intro W1 k1 k2 k3 k4; have K := lib.h4 k1 k2 k3 k4; clear k1 k2 k3 k4))
 (try simp only [lib.hly])
 obtain ⟨k1, -, k3, k4⟩ := K.out
 have hB0 : Below w.heap.size w W1 := ((Below.refl _ _).alloc (Nat.le_refl _) _).trans k4
 have z0 := hB0.size
 have hs0 : w.heap.size < W1.heap.size := by rw [k3]; simp
 have hblk : Hid (∀ w', Below W1.heap.size W1 w' → OrBlk w' w.heap.size t C cc) := Lib.hid fun w' h => by
  have h0 : OrBlk W1 w.heap.size t C cc := k1
  exact (h.block _ hs0).trans h0
 have HR : Hid (∀ w', Below W1.heap.size W1 w' → RowAt rOrd w' w.heap.size (some ad) l ∧ Ints w' w.heap.size C t.load) := Lib.hid fun w' h => by
  have hb := hB0.trans (h.mono z0)
  exact ⟨hL.below hb, hIC.below hb⟩
 have hfit1 := hfit.1
 have HFIT := Lib.hid hfit
 have B1 : Below W1.heap.size W1 W1 := Below.refl _ _
 clear hL hIC hfit k1 k3 k4
 go_cut [22] (fun v wx => v = .bool (!q1) ∧ W1 = wx)
 case first => as_aux_lemma =>
  obtain ⟨m0, m1, m2, m3, m4, m5, m6, m7, m8, m9, m10, m11, m12, m13, m14, m15⟩ := ((hblk.out _ (B1)).cells : _)
  go_wp2_with (go_at_call 133; refine (rname_any _ hfit1 _).mono ?_; rintro e w1 ⟨rfl, rfl⟩)
  go_meet
  exact ⟨by rw [HQ1.out], rfl⟩
 obtain ⟨h22, hwc⟩ := hcut
 subst h22
 subst hwc
 have HO : Hid (W1.ownsRow W1.heap.size 33 1 (.slice none ([] : List Int).length 0) ([] : List Int).length (([] : List Int).map (.int .i64))) := Lib.hid (World.ownsRow_nil _ _ _ _)
 obtain ⟨A', hA'⟩ : ∃ A' : Option Addr, none = A' := ⟨_, rfl⟩
 obtain ⟨d', hd'⟩ : ∃ d' : Nat, 0 = d' := ⟨_, rfl⟩
 subst hA'
 subst hd'
 go_upto_if 22 with fail
 go_cut [11] (fun v wx => ∃ A' d, v = .slice A' (x1).length d ∧ (wx).ownsRow W1.heap.size 33 1 (.slice A' (x1).length d) (x1).length ((x1).map (.int .i64)) ∧ Below W1.heap.size W1 wx)
 case first => as_aux_lemma =>
  cases q1
  ·have HE : Hid (x1 = [] ++ [5]) := Lib.hid (by rw [← HX1.out]; rfl)
   go_wp2_with (at_builtin; refine push_errno rfl _ _ rfl W1.heap.size _ 0 [] rfl HO.out 5 rfl (by omega) (by omega) ?_; intro A9 c9 w9 hown9 hb9 hz9)
   go_meet
   exact ⟨A9, c9, by rw [HE.out]; rfl, by rw [HE.out]; exact hown9, hb9⟩
  ·have HE : Hid (x1 = []) := Lib.hid (by rw [← HX1.out]; rfl)
   go_wp2
   go_meet
   exact ⟨none, 0, by rw [HE.out]; rfl, by rw [HE.out]; exact HO.out, B1⟩
 clear HO
 obtain ⟨A', d', h11, hown, hB⟩ := hcut
 subst h11
 have HO := Lib.hid hown
 have hz := hB.size
 clear hown
 go_upto_block 0 with fail
 go_cut [11] (fun v wx => ∃ A' d, v = .slice A' (x2).length d ∧ (wx).ownsRow W1.heap.size 33 1 (.slice A' (x2).length d) (x2).length ((x2).map (.int .i64)) ∧ Below W1.heap.size W1 wx)
 case first => as_aux_lemma =>
  obtain ⟨P, hP⟩ : ∃ P : List Ord → Bool, (fun l => l.any (fun x => sameS x.name t.name)) = P := ⟨_, rfl⟩
  have HP0 : Hid (P (l.take 0) = false) := Lib.hid (by rw [← hP]; simp)
  have HPS : Hid (∀ (k : Nat) y, l[k]? = some y → P (l.take (k + 1)) = (P (l.take k) || (y.name.toList == t.name.toList))) := Lib.hid fun k y hy => by
   obtain ⟨h1, h2⟩ := List.getElem?_eq_some_iff.1 hy
   rw [← hP]
   show (l.take (k + 1)).any _ = ((l.take k).any _ || _)
   rw [List.take_succ_eq_append_getElem h1, h2, List.any_append]
   simp [sameS]
  have HPM : Hid (∀ k, k ≤ i → P (l.take k) = true → P (l.take i) = true) := Lib.hid fun k hk h => by
   rw [← hP] at h ⊢
   simp only [List.any_eq_true] at h ⊢
   obtain ⟨x, hx, hpx⟩ := h
   refine ⟨x, ?_, hpx⟩
   obtain ⟨a, ha⟩ := List.mem_iff_getElem?.1 hx
   rw [List.getElem?_take] at ha
   split at ha
   ·exact List.mem_iff_getElem?.2 ⟨a, by rw [List.getElem?_take, if_pos (by omega)]; exact ha⟩
   ·cases ha
  have HQP : Hid (q2 = !P (l.take i)) := Lib.hid (by rw [← HQ2.out, ← hP])
  clear hP
  go_upto_region 6 with fail
  go_loopw [11, 13] (fun v iv wr => ∃ (k : Nat), k ≤ i ∧ iv = .int .i64 k ∧ v = .slice A' x1.length d' ∧ Hid (P (l.take k) = false) ∧ Hid (wr.ownsRow W1.heap.size 33 1 (.slice A' x1.length d') x1.length (x1.map (.int .i64))) ∧ Below W1.heap.size W1 wr) (fun _ iv _ => i - (intOf iv).toNat)
  case atStart => exact ⟨0, by omega, rfl, rfl, HP0, HO, hB⟩
  case round =>
   obtain ⟨k, hk, rfl, rfl, hp, HO2, hb⟩ := hrel
   have hz2 := hb.size
   obtain ⟨m0, m1, m2, m3, m4, m5, m6, m7, m8, m9, m10, m11, m12, m13, m14, m15⟩ := ((hblk.out _ (hb)).cells : _)
   by_cases hki : k < i
   ·obtain ⟨y, hy⟩ : ∃ y, l[k]? = some y := ⟨_, List.getElem?_eq_getElem (by rw [HN.out]; omega)⟩
    obtain ⟨ad2, E0, f0, hadeq, hadb2, ⟨n0, -⟩, -, -⟩ := row_Ord (HR.out _ hb).1 hy
    obtain rfl : ad = ad2 := Option.some.inj hadeq
    have hk0 : (0 : Int) ≤ (k : Int) := by omega
    have hk1 : (k : Int) < (m : Int) := by omega
    have hk2 : (k : Int) < (i : Int) := by omega
    have HST := Lib.hid (HPS.out k y hy)
    clear hy hadeq m1 m2 m3 m4 m5 m6 m7 m8 m9 m10 m11 m12 m13 m14 m15
    cases hq : (y.name.toList == t.name.toList)
    ·have HF : Hid (P (l.take (k + 1)) = false) := Lib.hid (by rw [HST.out, hp.out, hq]; rfl)
     go_wp2
     go_quiet (fail)
     go_wp2
     go_roundw
     case rel => exact ⟨k + 1, by omega, by go_num, rfl, HF, Lib.hid (own_drewN HO2.out _), bel_drewN hb _⟩
     case measure => simp [intOf]; omega
    ·have HE : Hid (x2 = x1 ++ [6]) := Lib.hid (by
      have h1 : P (l.take (k + 1)) = true := by rw [HST.out, hp.out, hq]; rfl
      have h2 := HPM.out (k + 1) (by omega) h1
      rw [← HX2.out, HQP.out, h2]
      rfl)
     go_wp2
     go_quiet (fail)
     go_wp2_with (at_builtin; refine push_errno rfl _ _ rfl W1.heap.size _ x1.length x1 rfl (own_drewN HO2.out _) 6 rfl (by omega) (by first | omega | (simp; omega)) ?_; intro A9 c9 w9 hown9 hb9 hz9)
     go_meet
     exact ⟨A9, c9, by rw [HE.out, List.length_append]; rfl, by rw [HE.out, List.length_append]; exact hown9, (bel_drewN hb _).trans hb9⟩
   ·have hki2 : i = k := by omega
    subst hki2
    have HE : Hid (x2 = x1) := Lib.hid (by rw [← HX2.out, HQP.out, hp.out]; rfl)
    clear hki
    go_wp2
    go_meet
    exact ⟨A', d', by rw [HE.out], by rw [HE.out]; exact HO2.out, hb⟩
 clear HO hB hz
 obtain ⟨A', d', h11, hown, hB⟩ := hcut
 subst h11
 have HO := Lib.hid hown
 have hz := hB.size
 clear hown
 go_upto_region 10 with fail
 go_cut [46] (fun v wx => v = .bool (!q3) ∧ wc = wx)
 case first => as_aux_lemma =>
  obtain ⟨m0, m1, m2, m3, m4, m5, m6, m7, m8, m9, m10, m11, m12, m13, m14, m15⟩ := ((hblk.out _ (hB)).cells : _)
  have hIC := (HR.out _ hB).2
  go_wp2_with (go_at_call 138; refine (loads.right6_any _ _ _ _ _ _ hIC).mono ?_; rintro e w1 ⟨rfl, rfl⟩)
  go_meet
  exact ⟨by rw [HQ3.out], rfl⟩
 obtain ⟨h46, hwc⟩ := hcut
 subst h46
 subst hwc
 go_upto_if 46 with fail
 go_cut [11] (fun v wx => ∃ A' d, v = .slice A' (x3).length d ∧ (wx).ownsRow W1.heap.size 33 1 (.slice A' (x3).length d) (x3).length ((x3).map (.int .i64)) ∧ Below W1.heap.size W1 wx)
 case first => as_aux_lemma =>
  cases q3
  ·have HE : Hid (x3 = x2 ++ [17]) := Lib.hid (by rw [← HX3.out]; rfl)
   have hle : (x2).length ≤ 20 := by omega
   go_wp2_with (at_builtin; refine push_errno rfl _ _ rfl W1.heap.size _ (x2).length (x2) rfl HO.out 17 rfl (by omega) (by omega) ?_; intro A9 c9 w9 hown9 hb9 hz9)
   go_meet
   exact ⟨A9, c9, by rw [HE.out, List.length_append]; rfl, by rw [HE.out, List.length_append]; exact hown9, Below.trans hB (hb9.mono (Nat.le_refl _))⟩
  ·have HE : Hid (x3 = x2) := Lib.hid (by rw [← HX3.out]; rfl)
   go_wp2
   go_meet
   exact ⟨A', d', by rw [HE.out], by rw [HE.out]; exact HO.out, hB⟩
 clear HO
 obtain ⟨A', d', h11, hown, hB⟩ := hcut
 subst h11
 have HO := Lib.hid hown
 have hz := hB.size
 clear hown
 go_upto_region 12 with fail
 go_cut [65] (fun v wx => v = .bool (!q4) ∧ wc = wx)
 case first => as_aux_lemma =>
  obtain ⟨m0, m1, m2, m3, m4, m5, m6, m7, m8, m9, m10, m11, m12, m13, m14, m15⟩ := ((hblk.out _ (hB)).cells : _)
  cases hq : inB t.pick.place (-1) ((n : Int) - 1)
  ·have HE : Hid (q4 = false) := Lib.hid (by rw [← HQ4.out, hq]; rfl)
   go_wp2_with (go_at_call 139; refine (rin_any _ _ _ _).mono ?_; rintro e we ⟨rfl, rfl⟩)
   go_meet
   exact ⟨by rw [HE.out]; rfl, rfl⟩
  ·have HE : Hid (q4 = inB t.drop.place (-1) ((n : Int) - 1)) := Lib.hid (by rw [← HQ4.out, hq]; rfl)
   go_wp2_with (go_at_call 139; refine (rin_any _ _ _ _).mono ?_; rintro e we ⟨rfl, rfl⟩)
   go_meet
   exact ⟨by rw [HE.out], rfl⟩
 obtain ⟨h65, hwc⟩ := hcut
 subst h65
 subst hwc
 go_upto_if 65 with fail
 go_cut [11] (fun v wx => ∃ A' d, v = .slice A' (x4).length d ∧ (wx).ownsRow W1.heap.size 33 1 (.slice A' (x4).length d) (x4).length ((x4).map (.int .i64)) ∧ Below W1.heap.size W1 wx)
 case first => as_aux_lemma =>
  cases q4
  ·have HE : Hid (x4 = x3 ++ [11]) := Lib.hid (by rw [← HX4.out]; rfl)
   have hle : (x3).length ≤ 20 := by omega
   go_wp2_with (at_builtin; refine push_errno rfl _ _ rfl W1.heap.size _ (x3).length (x3) rfl HO.out 11 rfl (by omega) (by omega) ?_; intro A9 c9 w9 hown9 hb9 hz9)
   go_meet
   exact ⟨A9, c9, by rw [HE.out, List.length_append]; rfl, by rw [HE.out, List.length_append]; exact hown9, Below.trans hB (hb9.mono (Nat.le_refl _))⟩
  ·have HE : Hid (x4 = x3) := Lib.hid (by rw [← HX4.out]; rfl)
   go_wp2
   go_meet
   exact ⟨A', d', by rw [HE.out], by rw [HE.out]; exact HO.out, hB⟩
 clear HO
 obtain ⟨A', d', h11, hown, hB⟩ := hcut
 subst h11
 have HO := Lib.hid hown
 have hz := hB.size
 clear hown
 go_upto_region 14 with fail
 go_cut [78] (fun v wx => v = .bool (!q5) ∧ wc = wx)
 case first => as_aux_lemma =>
  obtain ⟨m0, m1, m2, m3, m4, m5, m6, m7, m8, m9, m10, m11, m12, m13, m14, m15⟩ := ((hblk.out _ (hB)).cells : _)
  have hq5 := HQ5.out
  by_cases hq : t.pick.place = -1
  ·by_cases hr : t.drop.place = -1
   ·have HE : Hid (q5 = false) := Lib.hid (by rw [← HQ5.out, hq, hr]; rfl)
    clear hq5
    go_wp2
    go_meet
    exact ⟨by rw [HE.out]; rfl, rfl⟩
   ·have HE : Hid (q5 = true) := Lib.hid (by rw [← HQ5.out]; simp [hr])
    have e1 : (t.drop.place == -1) = false := by simp [hr]
    clear hq5 hr
    go_wp2
    go_meet
    exact ⟨by rw [HE.out]; rfl, rfl⟩
  ·have HE : Hid (q5 = true) := Lib.hid (by rw [← HQ5.out]; simp [hq])
   have e1 : (t.pick.place == -1) = false := by simp [hq]
   clear hq5 hq
   go_wp2
   go_meet
   exact ⟨by rw [HE.out]; rfl, rfl⟩
 obtain ⟨h78, hwc⟩ := hcut
 subst h78
 subst hwc
 go_upto_if 78 with fail
 go_cut [11] (fun v wx => ∃ A' d, v = .slice A' (x5).length d ∧ (wx).ownsRow W1.heap.size 33 1 (.slice A' (x5).length d) (x5).length ((x5).map (.int .i64)) ∧ Below W1.heap.size W1 wx)
 case first => as_aux_lemma =>
  cases q5
  ·have HE : Hid (x5 = x4 ++ [19]) := Lib.hid (by rw [← HX5.out]; rfl)
   have hle : (x4).length ≤ 20 := by omega
   go_wp2_with (at_builtin; refine push_errno rfl _ _ rfl W1.heap.size _ (x4).length (x4) rfl HO.out 19 rfl (by omega) (by omega) ?_; intro A9 c9 w9 hown9 hb9 hz9)
   go_meet
   exact ⟨A9, c9, by rw [HE.out, List.length_append]; rfl, by rw [HE.out, List.length_append]; exact hown9, Below.trans hB (hb9.mono (Nat.le_refl _))⟩
  ·have HE : Hid (x5 = x4) := Lib.hid (by rw [← HX5.out]; rfl)
   go_wp2
   go_meet
   exact ⟨A', d', by rw [HE.out], by rw [HE.out]; exact HO.out, hB⟩
 clear HO
 obtain ⟨A', d', h11, hown, hB⟩ := hcut
 subst h11
 have HO := Lib.hid hown
 have hz := hB.size
 clear hown
 go_upto_region 16 with fail
 go_cut [91] (fun v wx => v = .bool (!q6) ∧ wx.ownsRow W1.heap.size 33 1 (.slice A' x5.length d') x5.length (x5.map (.int .i64)) ∧ Below W1.heap.size W1 wx)
 case first => as_aux_lemma =>
  obtain ⟨m0, m1, m2, m3, m4, m5, m6, m7, m8, m9, m10, m11, m12, m13, m14, m15⟩ := ((hblk.out _ (hB)).cells : _)
  obtain ⟨a1, ha1⟩ : ∃ z, win.chk t.pick.place t.pick.opn t.pick.close t.pick.service = z := ⟨_, rfl⟩
  obtain ⟨a2, ha2⟩ : ∃ z, win.chk t.drop.place t.drop.opn t.drop.close t.drop.service = z := ⟨_, rfl⟩
  have HE : Hid (q6 = ((a1 == 0) && (a2 == 0))) := Lib.hid (by rw [← HQ6.out, ← ha1, ← ha2]; rfl)
  have C1 : Hid (∀ w', Calls Tryz.prog 140 #[.agg #[.int .i64 t.pick.place, .int .i64 t.pick.opn, .int .i64 t.pick.close, .int .i64 t.pick.service]] w' fun e w'' => e = .returned (.int .i64 a1) ∧ Below w'.heap.size w' w'') := Lib.hid fun w' => by rw [← ha1]; exact win.rcheck_any _ _ _ _ w'
  have C2 : Hid (∀ w', Calls Tryz.prog 140 #[.agg #[.int .i64 t.drop.place, .int .i64 t.drop.opn, .int .i64 t.drop.close, .int .i64 t.drop.service]] w' fun e w'' => e = .returned (.int .i64 a2) ∧ Below w'.heap.size w' w'') := Lib.hid fun w' => by rw [← ha2]; exact win.rcheck_any _ _ _ _ w'
  clear ha1 ha2
  go_wp2_with fail
  refine (C1.out _).mono ?_
  rintro e w2 ⟨rfl, hb2⟩
  have hB2 : Below W1.heap.size W1 w2 := hB.trans (hb2.mono hz)
  have hz2 := hB2.size
  have HO2 := Lib.hid (app.own_below HO.out hb2)
  clear m0 m1 m2 m3 m4 m5 m6 m7 m8 m9 m10 m11 m12 m13 m14 m15
  obtain ⟨m0, m1, m2, m3, m4, m5, m6, m7, m8, m9, m10, m11, m12, m13, m14, m15⟩ := ((hblk.out _ (hB2)).cells : _)
  by_cases h1 : a1 = 0
  ·have HE2 : Hid (q6 = (a2 == 0)) := Lib.hid (by rw [HE.out, h1]; rfl)
   subst h1
   go_wp2_with fail
   refine (C2.out _).mono ?_
   rintro e w3 ⟨rfl, hb3⟩
   have hB3 : Below W1.heap.size W1 w3 := hB2.trans (hb3.mono hz2)
   have HO3 := Lib.hid (app.own_below HO2.out hb3)
   by_cases h2 : a2 = 0
   ·have HE3 : Hid (q6 = true) := Lib.hid (by rw [HE2.out, h2]; rfl)
    subst h2
    go_wp2
    go_meet
    exact ⟨by rw [HE3.out]; rfl, HO3.out, hB3⟩
   ·have HE3 : Hid (q6 = false) := Lib.hid (by rw [HE2.out]; simp [h2])
    have e1 : (a2 == 0) = false := by simp [h2]
    have e2 : (a2 != 0) = true := by simp [h2]
    clear h2
    go_wp2
    go_meet
    exact ⟨by rw [HE3.out]; rfl, HO3.out, hB3⟩
  ·have HE3 : Hid (q6 = false) := Lib.hid (by rw [HE.out]; simp [h1])
   have e1 : (a1 == 0) = false := by simp [h1]
   have e2 : (a1 != 0) = true := by simp [h1]
   clear h1
   go_wp2
   go_meet
   exact ⟨by rw [HE3.out]; rfl, HO2.out, hB2⟩
 clear HO hB hz
 obtain ⟨h91, hown, hB⟩ := hcut
 subst h91
 have HO := Lib.hid hown
 have hz := hB.size
 clear hown
 go_upto_if 91 with fail
 go_cut [11] (fun v wx => ∃ A' d, v = .slice A' (x6).length d ∧ (wx).ownsRow W1.heap.size 33 1 (.slice A' (x6).length d) (x6).length ((x6).map (.int .i64)) ∧ Below W1.heap.size W1 wx)
 case first => as_aux_lemma =>
  cases q6
  ·have HE : Hid (x6 = x5 ++ [14]) := Lib.hid (by rw [← HX6.out]; rfl)
   have hle : (x5).length ≤ 20 := by omega
   go_wp2_with (at_builtin; refine push_errno rfl _ _ rfl W1.heap.size _ (x5).length (x5) rfl HO.out 14 rfl (by omega) (by omega) ?_; intro A9 c9 w9 hown9 hb9 hz9)
   go_meet
   exact ⟨A9, c9, by rw [HE.out, List.length_append]; rfl, by rw [HE.out, List.length_append]; exact hown9, Below.trans hB (hb9.mono (Nat.le_refl _))⟩
  ·have HE : Hid (x6 = x5) := Lib.hid (by rw [← HX6.out]; rfl)
   go_wp2
   go_meet
   exact ⟨A', d', by rw [HE.out], by rw [HE.out]; exact HO.out, hB⟩
 clear HO
 obtain ⟨A', d', h11, hown, hB⟩ := hcut
 subst h11
 have HO := Lib.hid hown
 have hz := hB.size
 clear hown
 go_upto_region 18 with fail
 go_cut [98] (fun v wx => v = .bool (!q7) ∧ wc = wx)
 case first => as_aux_lemma =>
  obtain ⟨m0, m1, m2, m3, m4, m5, m6, m7, m8, m9, m10, m11, m12, m13, m14, m15⟩ := ((hblk.out _ (hB)).cells : _)
  go_wp2_with (go_at_call 139; refine (rin_any _ _ _ _).mono ?_; rintro e we ⟨rfl, rfl⟩)
  go_meet
  exact ⟨by rw [HQ7.out], rfl⟩
 obtain ⟨h98, hwc⟩ := hcut
 subst h98
 subst hwc
 go_upto_if 98 with fail
 go_cut [11] (fun v wx => ∃ A' d, v = .slice A' (x7).length d ∧ (wx).ownsRow W1.heap.size 33 1 (.slice A' (x7).length d) (x7).length ((x7).map (.int .i64)) ∧ Below W1.heap.size W1 wx)
 case first => as_aux_lemma =>
  cases q7
  ·have HE : Hid (x7 = x6 ++ [18]) := Lib.hid (by rw [← HX7.out]; rfl)
   have hle : (x6).length ≤ 20 := by omega
   go_wp2_with (at_builtin; refine push_errno rfl _ _ rfl W1.heap.size _ (x6).length (x6) rfl HO.out 18 rfl (by omega) (by omega) ?_; intro A9 c9 w9 hown9 hb9 hz9)
   go_meet
   exact ⟨A9, c9, by rw [HE.out, List.length_append]; rfl, by rw [HE.out, List.length_append]; exact hown9, Below.trans hB (hb9.mono (Nat.le_refl _))⟩
  ·have HE : Hid (x7 = x6) := Lib.hid (by rw [← HX7.out]; rfl)
   go_wp2
   go_meet
   exact ⟨A', d', by rw [HE.out], by rw [HE.out]; exact HO.out, hB⟩
 clear HO
 obtain ⟨A', d', h11, hown, hB⟩ := hcut
 subst h11
 have HO := Lib.hid hown
 have hz := hB.size
 clear hown
 go_upto_region 20 with fail
 obtain ⟨b, hb⟩ : ∃ b, ((t.pick.place != -1) && (t.drop.place != -1)) = b := ⟨_, rfl⟩
 have hnc := num_cases t types b hb.symm
 have HBB := Lib.hid hb
 rw [HQ8.out] at hnc
 have HNC := Lib.hid hnc
 clear hb hnc
 go_cut [14] (fun v wx => v = .bool b ∧ wc = wx)
 case first => as_aux_lemma =>
  obtain ⟨m0, m1, m2, m3, m4, m5, m6, m7, m8, m9, m10, m11, m12, m13, m14, m15⟩ := ((hblk.out _ (hB)).cells : _)
  by_cases hq : t.pick.place = -1
  ·have HE : Hid (b = false) := Lib.hid (by rw [← HBB.out, hq]; rfl)
   go_wp2
   go_meet
   exact ⟨by rw [HE.out], rfl⟩
  ·have HE : Hid (b = (t.drop.place != -1)) := Lib.hid (by rw [← HBB.out]; simp [hq])
   have e1 : (t.pick.place == -1) = false := by simp [hq]
   have e2 : (t.pick.place != -1) = true := by simp [hq]
   clear hq
   go_wp2
   go_meet
   exact ⟨by rw [HE.out], rfl⟩
 obtain ⟨h14, hwc⟩ := hcut
 subst h14
 subst hwc
 go_upto_region 21 with fail
 go_cut [151] (fun v wx => v = .bool (!q8) ∧ wc = wx)
 case first => as_aux_lemma =>
  obtain ⟨m0, m1, m2, m3, m4, m5, m6, m7, m8, m9, m10, m11, m12, m13, m14, m15⟩ := ((hblk.out _ (hB)).cells : _)
  rcases HNC.out with ⟨e, g⟩ | ⟨e, g, g2⟩ | ⟨e, g, g2, g3, g4⟩ | ⟨g, g2, g3, ⟨e, g4⟩ | ⟨e, g4, g5⟩ | ⟨e, g4, g5, g6⟩ | ⟨e, g4, g5, g6⟩⟩
  ·have H := Lib.hid e
   clear e
   go_wp2_with (go_at_call 139; refine (rin_any _ _ _ _).mono ?_; rintro e we ⟨rfl, rfl⟩)
   go_meet
   exact ⟨by rw [H.out]; rfl, rfl⟩
  ·have H := Lib.hid e
   clear e
   go_wp2_with (go_at_call 139; refine (rin_any _ _ _ _).mono ?_; rintro e we ⟨rfl, rfl⟩)
   go_meet
   exact ⟨by rw [H.out]; rfl, rfl⟩
  ·have H := Lib.hid e
   subst g4
   clear e
   go_wp2_with (go_at_call 139; refine (rin_any _ _ _ _).mono ?_; rintro e we ⟨rfl, rfl⟩)
   go_meet
   exact ⟨by rw [H.out]; rfl, rfl⟩
  all_goals
   have H := Lib.hid e
   clear e
   rcases g3 with g3 | ⟨g3, g3'⟩
   ·go_wp2_with (go_at_call 139; refine (rin_any _ _ _ _).mono ?_; rintro e we ⟨rfl, rfl⟩)
    go_meet
    exact ⟨by rw [H.out]; first | rfl | (simp; done) | (simp; omega), rfl⟩
   ·subst g3'
    go_wp2_with (go_at_call 139; refine (rin_any _ _ _ _).mono ?_; rintro e we ⟨rfl, rfl⟩)
    go_meet
    exact ⟨by rw [H.out]; first | rfl | (simp; done) | (simp; omega), rfl⟩
 obtain ⟨h151, hwc⟩ := hcut
 subst h151
 subst hwc
 go_upto_if 151 with fail
 go_cut [11] (fun v wx => ∃ A' d, v = .slice A' (x8).length d ∧ (wx).ownsRow W1.heap.size 33 1 (.slice A' (x8).length d) (x8).length ((x8).map (.int .i64)) ∧ Below W1.heap.size W1 wx)
 case first => as_aux_lemma =>
  cases q8
  ·have HE : Hid (x8 = x7 ++ [2]) := Lib.hid (by rw [← HX8.out]; rfl)
   have hle : (x7).length ≤ 20 := by omega
   go_wp2_with (at_builtin; refine push_errno rfl _ _ rfl W1.heap.size _ (x7).length (x7) rfl HO.out 2 rfl (by omega) (by omega) ?_; intro A9 c9 w9 hown9 hb9 hz9)
   go_meet
   exact ⟨A9, c9, by rw [HE.out, List.length_append]; rfl, by rw [HE.out, List.length_append]; exact hown9, Below.trans hB (hb9.mono (Nat.le_refl _))⟩
  ·have HE : Hid (x8 = x7) := Lib.hid (by rw [← HX8.out]; rfl)
   go_wp2
   go_meet
   exact ⟨A', d', by rw [HE.out], by rw [HE.out]; exact HO.out, hB⟩
 clear HO
 obtain ⟨A', d', h11, hown, hB⟩ := hcut
 subst h11
 have HO := Lib.hid hown
 have hz := hB.size
 clear hown
 go_wp2
 go_ret
 rw [HRES.out]
 exact ⟨A', d', rfl, app.own_less HO.out z0, hB0.trans (hB.mono z0)⟩
end Go.Proofs.YthefooacfcagbaaGreatDoor.rord

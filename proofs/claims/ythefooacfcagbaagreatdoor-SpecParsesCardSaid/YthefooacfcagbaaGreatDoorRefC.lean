import Derived.Test.YthefooacfcagbaaGreatDoorBase
import Derived.Test.YthefooacfcagbaaGreatDoorC1
import Derived.Deep.DeepCutAuto
import Derived.Deep.QuietTactic
import Derived.BigQuiet
import Derived.Deep.CutBlock
import Derived.Outline
import Derived.Test.YthefooacfcagbaaGreatDoorRefA
/- Small functions of the references: ranges, right loads, windows. -/
namespace Go.Proofs.YthefooacfcagbaaGreatDoor.loads
open Go.RowKit
open lib
set_option linter.unusedVariables false
set_option linter.unusedSimpArgs false
theorem right6_any (A : Option Addr) (c : Nat) (l : List Int) (d : Int) (w : World) (B : Nat) (hl : Ints w B A l) :
  Calls Tryz.prog 138 #[.slice A l.length c, .int .i64 d] w fun e w' => e = .returned (.bool (rightB l d)) ∧ w = w' := by
 have hlen := hl.len
 by_cases hd : (l.length : Int) = d
 ·subst hd
  go_enter Tryz.func138, Tryz.ntmps138
  go_wp2
  go_loop [5] (fun i => ∃ k : Nat, k ≤ l.length ∧ i = .int .i64 k ∧ Hid ((l.all fun x => decide (0 ≤ x ∧ x ≤ 1000)) = ((l.drop k).all fun x => decide (0 ≤ x ∧ x ≤ 1000)))) (fun i => l.length - (intOf i).toNat)
  case atStart => exact ⟨0, by omega, rfl, Lib.hid rfl⟩
  case round =>
   obtain ⟨k, hk, rfl, hr⟩ := hrel
   by_cases hlt : k < l.length
   ·obtain ⟨ad, x, rfl, hadb, hx, hcx⟩ := hl.at_ hlt
    have HX := Lib.hid (all_take (p := fun x => decide (0 ≤ x ∧ x ≤ 1000)) hx)
    clear hx
    go_wp2
    ·go_ret
     exact ⟨ret_bool (by unfold rightB; rw [hr.out, HX.out, decide_eq_false (by omega)]; rfl), rfl⟩
    ·go_round
     case rel => exact ⟨k + 1, by omega, by go_num, Lib.hid (by rw [hr.out, HX.out, decide_eq_true (by omega)]; rfl)⟩
     case measure => simp [intOf]; omega
    ·go_ret
     exact ⟨ret_bool (by unfold rightB; rw [hr.out, HX.out, decide_eq_false (by omega)]; rfl), rfl⟩
   ·have hkn : k = l.length := by omega
    subst hkn
    clear hlt
    go_wp2
    go_ret
    exact ⟨ret_bool (by unfold rightB; rw [hr.out, List.drop_length]; simp), rfl⟩
 ·have hd2 : ((l.length : Int) == d) = false := by simp [hd]
  have hd3 : ((l.length : Int) != d) = true := by simp [hd]
  have HD : Hid (decide ((l.length : Int) = d) = false) := Lib.hid (by simp [hd])
  clear hd
  go_enter Tryz.func138, Tryz.ntmps138
  go_wp2
  go_ret
  exact ⟨ret_bool (by unfold rightB; rw [HD.out, Bool.and_false]), rfl⟩
end Go.Proofs.YthefooacfcagbaaGreatDoor.loads
namespace Go.Proofs.YthefooacfcagbaaGreatDoor.win
open Go.RowKit
set_option linter.unusedVariables false
set_option linter.unusedSimpArgs false
set_option maxHeartbeats 1000000 in
theorem rcheck_any (p o c v : Int) (w : World) : Calls Tryz.prog 140 #[stop p o c v] w fun e w' => e = .returned (.int .i64 (chk p o c v)) ∧ Below w.heap.size w w' := by
 go_enter Tryz.func140, Tryz.ntmps140
 go_wp2
 all_goals go_ret
 all_goals refine ⟨ret_int ?_, by repeat (first | exact Below.refl _ _ | refine Below.alloc ?_ (by simp) _ | refine Below.setCell ?_ (by simp) _)⟩
 all_goals unfold chk Good
 all_goals try simp only [beq_iff_eq, beq_eq_false_iff_ne, ne_eq] at *
 all_goals (split <;> first | rfl | omega)
end Go.Proofs.YthefooacfcagbaaGreatDoor.win
namespace Go.Proofs.YthefooacfcagbaaGreatDoor.rord
open Go.RowKit
open lib note
set_option linter.unusedVariables false
set_option linter.unusedSimpArgs false
theorem rin_any (a b c : Int) (w : World) : Calls Tryz.prog 139 #[.int .i64 a, .int .i64 b, .int .i64 c] w fun e w' => e = .returned (.bool (inB a b c)) ∧ w = w' := by
 by_cases h : b ≤ a
 all_goals
  go_enter Tryz.func139, Tryz.ntmps139
  go_wp2
  go_ret
  exact ⟨lib.ret_bool (by unfold inB; first | (simp [h]; done) | (simp; omega)), rfl⟩
end Go.Proofs.YthefooacfcagbaaGreatDoor.rord

/- The reference's rules of an order. -/
namespace Go.Proofs.YthefooacfcagbaaGreatDoor.rord
open Go.RowKit
open lib rd typ note txt ord big
set_option linter.unusedVariables false
set_option linter.unusedSimpArgs false
theorem stOrdR : StructOf 66 16 := ⟨⟨_, Tryz.underlying66⟩, by kernel_rfl⟩
theorem own_drewN {w : World} {base : Nat} {e : TypeId} {size n : Nat} {v : Value} {xs : List Value} (h : w.ownsRow base e size v n xs) (k : Nat) : (w.drewN k).ownsRow base e size v n xs := app.own_below h (bel_drewN (Below.refl _ _) k)
def ordZ : List Value := [.string ⟨#[]⟩, .slice none 0 0, .int .i64 0, .int .i64 0, .int .i64 0, .int .i64 0, .int .i64 0, .int .i64 0, .int .i64 0, .int .i64 0, .int .i64 0, .int .i64 0, .int .i64 0, .int .i64 0, .int .i64 0, .bool false]
theorem ordCells_ones (o : Ord) (C : Option Addr) (c : Nat) : ∀ u ∈ OrdCells o C c, u.oneCell' = true := fun u hu => by
 simp only [OrdCells, List.mem_cons, List.not_mem_nil, or_false] at hu
 rcases hu with rfl | rfl | rfl | rfl | rfl | rfl | rfl | rfl | rfl | rfl | rfl | rfl | rfl | rfl | rfl | rfl <;> rfl
theorem num_cases (o : Ord) (types : Int) (b : Bool) (hb : b = ((o.pick.place != -1) && (o.drop.place != -1))) :
  (numB o types = false ∧ inB o.penalty (-1) 1000000 = false) ∨ (numB o types = false ∧ inB o.penalty (-1) 1000000 = true ∧ inB o.split 1 4 = false) ∨ (numB o types = false ∧ inB o.penalty (-1) 1000000 = true ∧ inB o.split 1 4 = true ∧ 1 < o.split ∧ b = true) ∨
  (inB o.penalty (-1) 1000000 = true ∧ inB o.split 1 4 = true ∧ (¬ 1 < o.split ∨ (1 < o.split ∧ b = false)) ∧ ((numB o types = false ∧ o.last < -1) ∨ (numB o types = false ∧ ¬ o.last < -1 ∧ types ≤ o.last) ∨ (numB o types = false ∧ ¬ o.last < -1 ∧ ¬ types ≤ o.last ∧ o.now < -1) ∨ (numB o types = (!decide (types ≤ o.now)) ∧ ¬ o.last < -1 ∧ ¬ types ≤ o.last ∧ ¬ o.now < -1))) := by
 unfold numB
 cases h1 : inB o.penalty (-1) 1000000
 ·exact .inl ⟨rfl, rfl⟩
 right
 cases h2 : inB o.split 1 4
 ·exact .inl ⟨rfl, rfl, rfl⟩
 right
 obtain ⟨s1, s2⟩ := inB_bd h2
 have hsp : (o.split == 1 || o.pick.place == -1 || o.drop.place == -1) = !(decide (1 < o.split) && b) := by
  rw [hb, Bool.eq_iff_iff]
  simp
  omega
 rw [hsp]
 by_cases h3 : 1 < o.split ∧ b = true
 ·exact .inl ⟨by simp [h3.1, h3.2], rfl, rfl, h3.1, h3.2⟩
 right
 have e3 : (!(decide (1 < o.split) && b)) = true := by
  cases b
  ·simp
  ·simp at h3 ⊢; omega
 rw [e3]
 refine ⟨rfl, rfl, ?_, ?_⟩
 ·by_cases h4 : 1 < o.split
  ·exact .inr ⟨h4, by cases b <;> simp_all⟩
  ·exact .inl h4
 ·by_cases h4 : o.last < -1
  ·exact .inl ⟨by simp; omega, h4⟩
  right
  by_cases h5 : types ≤ o.last
  ·exact .inl ⟨by simp; omega, h4, h5⟩
  right
  by_cases h6 : o.now < -1
  ·exact .inl ⟨by simp; omega, h4, h5, h6⟩
  right
  refine ⟨?_, h4, h5, h6⟩
  rw [Bool.eq_iff_iff]
  simp
  omega
set_option maxRecDepth 100000 in
set_option maxHeartbeats 8000000 in
theorem rrules_any (n : Nat) (dims types : Int) (A : Option Addr) (c : Nat) (l : List Ord) (i : Nat) (t : Ord) (w : World) (hL : RowAt rOrd w w.heap.size A l) (hi : l[i]? = some t) (hn : n ≤ 17592186043904) :
  Calls Tryz.prog 94 #[.int .i64 n, .int .i64 dims, .int .i64 types, .slice A l.length c, .int .i64 i] w (ErrsOut w (errsO ((n : Int) - 1) dims types l i t)) := by
 obtain ⟨ad, cs, hA, hadb, hat, hcx⟩ := hL.elem hi
 obtain ⟨C, cc, rfl, hIC, hfit⟩ := rOrd_at hat
 subst hA
 have hcx' : CellsAt w (ad.add (i * 16)) (OrdCells t C cc) := hcx
 have HCX := Lib.hid hcx'
 clear hcx hcx' hat
 have hil : i < l.length := (List.getElem?_eq_some_iff.1 hi).1
 obtain ⟨m, hm⟩ : ∃ m, l.length = m := ⟨_, rfl⟩
 have hlen := hL.len
 rw [hm] at hlen hil ⊢
 have hadb' : (ad.add (i * 16)).block < w.heap.size := by rw [block_of_add]; exact hadb
 have HN := Lib.hid hm
 have HLI := Lib.hid hi
 have hi0 : (0 : Int) ≤ (i : Int) := by omega
 have hin : (i : Int) < (m : Int) := by omega
 have hnp : (n : Int) ≤ 17592186043904 := by omega
 clear hi hm
 obtain ⟨q1, hq1⟩ : ∃ q, nameB t.name = q := ⟨_, rfl⟩
 obtain ⟨q2, hq2⟩ : ∃ q, (!((l.take i).any (fun x => sameS x.name t.name))) = q := ⟨_, rfl⟩
 obtain ⟨q3, hq3⟩ : ∃ q, loads.rightB t.load dims = q := ⟨_, rfl⟩
 obtain ⟨q4, hq4⟩ : ∃ q, (inB t.pick.place (-1) ((n : Int) - 1) && inB t.drop.place (-1) ((n : Int) - 1)) = q := ⟨_, rfl⟩
 obtain ⟨q5, hq5⟩ : ∃ q, ((t.pick.place != -1) || (t.drop.place != -1)) = q := ⟨_, rfl⟩
 obtain ⟨q6, hq6⟩ : ∃ q, winB t = q := ⟨_, rfl⟩
 obtain ⟨q7, hq7⟩ : ∃ q, inB t.skills 0 1073741823 = q := ⟨_, rfl⟩
 obtain ⟨q8, hq8⟩ : ∃ q, numB t types = q := ⟨_, rfl⟩
 obtain ⟨x1, hx1⟩ : ∃ x, pushIf [] q1 5 = x := ⟨_, rfl⟩
 have l1 : x1.length ≤ 1 := by have h := pushIf_len ([]) (q1) 5; rw [hx1] at h; (try simp at h); omega
 have HX1 := Lib.hid hx1
 clear hx1
 obtain ⟨x2, hx2⟩ : ∃ x, pushIf x1 q2 6 = x := ⟨_, rfl⟩
 have l2 : x2.length ≤ 2 := by have h := pushIf_len (x1) (q2) 6; rw [hx2] at h; (try simp at h); omega
 have HX2 := Lib.hid hx2
 clear hx2
 obtain ⟨x3, hx3⟩ : ∃ x, pushIf x2 q3 17 = x := ⟨_, rfl⟩
 have l3 : x3.length ≤ 3 := by have h := pushIf_len (x2) (q3) 17; rw [hx3] at h; (try simp at h); omega
 have HX3 := Lib.hid hx3
 clear hx3
 obtain ⟨x4, hx4⟩ : ∃ x, pushIf x3 q4 11 = x := ⟨_, rfl⟩
 have l4 : x4.length ≤ 4 := by have h := pushIf_len (x3) (q4) 11; rw [hx4] at h; (try simp at h); omega
 have HX4 := Lib.hid hx4
 clear hx4
 obtain ⟨x5, hx5⟩ : ∃ x, pushIf x4 q5 19 = x := ⟨_, rfl⟩
 have l5 : x5.length ≤ 5 := by have h := pushIf_len (x4) (q5) 19; rw [hx5] at h; (try simp at h); omega
 have HX5 := Lib.hid hx5
 clear hx5
 obtain ⟨x6, hx6⟩ : ∃ x, pushIf x5 q6 14 = x := ⟨_, rfl⟩
 have l6 : x6.length ≤ 6 := by have h := pushIf_len (x5) (q6) 14; rw [hx6] at h; (try simp at h); omega
 have HX6 := Lib.hid hx6
 clear hx6
 obtain ⟨x7, hx7⟩ : ∃ x, pushIf x6 q7 18 = x := ⟨_, rfl⟩
 have l7 : x7.length ≤ 7 := by have h := pushIf_len (x6) (q7) 18; rw [hx7] at h; (try simp at h); omega
 have HX7 := Lib.hid hx7
 clear hx7
 obtain ⟨x8, hx8⟩ : ∃ x, pushIf x7 q8 2 = x := ⟨_, rfl⟩
 have l8 : x8.length ≤ 8 := by have h := pushIf_len (x7) (q8) 2; rw [hx8] at h; (try simp at h); omega
 have HX8 := Lib.hid hx8
 clear hx8
 have HRES : Hid (errsO ((n : Int) - 1) dims types l i t = x8) := Lib.hid (by
  rw [← HX8.out, ← HX7.out, ← HX6.out, ← HX5.out, ← HX4.out, ← HX3.out, ← HX2.out, ← HX1.out, ← hq1, ← hq2, ← hq3, ← hq4, ← hq5, ← hq6, ← hq7, ← hq8]
  rfl)
 have HQ1 := Lib.hid hq1
 have HQ2 := Lib.hid hq2
 have HQ3 := Lib.hid hq3
 have HQ4 := Lib.hid hq4
 have HQ5 := Lib.hid hq5
 have HQ6 := Lib.hid hq6
 have HQ7 := Lib.hid hq7
 have HQ8 := Lib.hid hq8
 clear hq1 hq2 hq3 hq4 hq5 hq6 hq7 hq8
 go_enter Tryz.func94, Tryz.ntmps94
 go_upto_region 3 with (first
  | ((with_reducible refine wpList_loadG stOrdR _ rfl (ad.add (i * 16)) (OrdCells t C cc) ?_ ?_ ?_ ?_ ?_); exact rfl; exact rfl; exact HCX.out; exact rfl)
  | ((with_reducible refine wpList_storeL stOrdR rfl _ _ rfl w.heap.size ordZ (OrdCells t C cc) ?_ ?_ ?_ ?_ ?_ (ordCells_ones t C cc) ?_); exact rfl; exact rfl; exact World.alloc_heap_new w _; exact rfl; exact rfl; intro W1 k1 k2 k3 k4; have K := lib.h4 k1 k2 k3 k4; clear k1 k2 k3 k4))
 (try simp only [lib.hly])
 obtain ⟨k1, -, k3, k4⟩ := K.out
 have hB0 : Below w.heap.size w W1 := ((Below.refl _ _).alloc (Nat.le_refl _) _).trans k4
 have z0 := hB0.size
 have hs0 : w.heap.size < W1.heap.size := by rw [k3]; simp
 have hblk : Hid (∀ w', Below W1.heap.size W1 w' → OrBlk w' w.heap.size t C cc) := Lib.hid fun w' h => by
  have h0 : OrBlk W1 w.heap.size t C cc := k1
  exact (h.block _ hs0).trans h0
 have HR : Hid (∀ w', Below W1.heap.size W1 w' → RowAt rOrd w' w.heap.size (some ad) l ∧ Ints w' w.heap.size C t.load) := Lib.hid fun w' h => by
  have hb := hB0.trans (h.mono z0)
  exact ⟨hL.below hb, hIC.below hb⟩
 have hfit1 := hfit.1
 have HFIT := Lib.hid hfit
 have B1 : Below W1.heap.size W1 W1 := Below.refl _ _
 clear hL hIC hfit k1 k3 k4
 go_cut [22] (fun v wx => v = .bool (!q1) ∧ W1 = wx)
 case first => as_aux_lemma =>
  obtain ⟨m0, m1, m2, m3, m4, m5, m6, m7, m8, m9, m10, m11, m12, m13, m14, m15⟩ := ((hblk.out _ (B1)).cells : _)
  go_wp2_with (go_at_call 133; refine (rname_any _ hfit1 _).mono ?_; rintro e w1 ⟨rfl, rfl⟩)
  go_meet
  exact ⟨by rw [HQ1.out], rfl⟩
 obtain ⟨h22, hwc⟩ := hcut
 subst h22
 subst hwc
 have HO : Hid (W1.ownsRow W1.heap.size 33 1 (.slice none ([] : List Int).length 0) ([] : List Int).length (([] : List Int).map (.int .i64))) := Lib.hid (World.ownsRow_nil _ _ _ _)
 obtain ⟨A', hA'⟩ : ∃ A' : Option Addr, none = A' := ⟨_, rfl⟩
 obtain ⟨d', hd'⟩ : ∃ d' : Nat, 0 = d' := ⟨_, rfl⟩
 subst hA'
 subst hd'
 go_upto_if 22 with fail
 go_cut [11] (fun v wx => ∃ A' d, v = .slice A' (x1).length d ∧ (wx).ownsRow W1.heap.size 33 1 (.slice A' (x1).length d) (x1).length ((x1).map (.int .i64)) ∧ Below W1.heap.size W1 wx)
 case first => as_aux_lemma =>
  cases q1
  ·have HE : Hid (x1 = [] ++ [5]) := Lib.hid (by rw [← HX1.out]; rfl)
   go_wp2_with (at_builtin; refine push_errno rfl _ _ rfl W1.heap.size _ 0 [] rfl HO.out 5 rfl (by omega) (by omega) ?_; intro A9 c9 w9 hown9 hb9 hz9)
   go_meet
   exact ⟨A9, c9, by rw [HE.out]; rfl, by rw [HE.out]; exact hown9, hb9⟩
  ·have HE : Hid (x1 = []) := Lib.hid (by rw [← HX1.out]; rfl)
   go_wp2
   go_meet
   exact ⟨none, 0, by rw [HE.out]; rfl, by rw [HE.out]; exact HO.out, B1⟩
 clear HO
 obtain ⟨A', d', h11, hown, hB⟩ := hcut
 subst h11
 have HO := Lib.hid hown
 have hz := hB.size
 clear hown
 go_upto_block 0 with fail
 go_cut [11] (fun v wx => ∃ A' d, v = .slice A' (x2).length d ∧ (wx).ownsRow W1.heap.size 33 1 (.slice A' (x2).length d) (x2).length ((x2).map (.int .i64)) ∧ Below W1.heap.size W1 wx)
 case first => as_aux_lemma =>
  obtain ⟨P, hP⟩ : ∃ P : List Ord → Bool, (fun l => l.any (fun x => sameS x.name t.name)) = P := ⟨_, rfl⟩
  have HP0 : Hid (P (l.take 0) = false) := Lib.hid (by rw [← hP]; simp)
  have HPS : Hid (∀ (k : Nat) y, l[k]? = some y → P (l.take (k + 1)) = (P (l.take k) || (y.name.toList == t.name.toList))) := Lib.hid fun k y hy => by
   obtain ⟨h1, h2⟩ := List.getElem?_eq_some_iff.1 hy
   rw [← hP]
   show (l.take (k + 1)).any _ = ((l.take k).any _ || _)
   rw [List.take_succ_eq_append_getElem h1, h2, List.any_append]
   simp [sameS]
  have HPM : Hid (∀ k, k ≤ i → P (l.take k) = true → P (l.take i) = true) := Lib.hid fun k hk h => by
   rw [← hP] at h ⊢
   simp only [List.any_eq_true] at h ⊢
   obtain ⟨x, hx, hpx⟩ := h
   refine ⟨x, ?_, hpx⟩
   obtain ⟨a, ha⟩ := List.mem_iff_getElem?.1 hx
   rw [List.getElem?_take] at ha
   split at ha
   ·exact List.mem_iff_getElem?.2 ⟨a, by rw [List.getElem?_take, if_pos (by omega)]; exact ha⟩
   ·cases ha
  have HQP : Hid (q2 = !P (l.take i)) := Lib.hid (by rw [← HQ2.out, ← hP])
  clear hP
  go_upto_region 6 with fail
  go_loopw [11, 13] (fun v iv wr => ∃ (k : Nat), k ≤ i ∧ iv = .int .i64 k ∧ v = .slice A' x1.length d' ∧ Hid (P (l.take k) = false) ∧ Hid (wr.ownsRow W1.heap.size 33 1 (.slice A' x1.length d') x1.length (x1.map (.int .i64))) ∧ Below W1.heap.size W1 wr) (fun _ iv _ => i - (intOf iv).toNat)
  case atStart => exact ⟨0, by omega, rfl, rfl, HP0, HO, hB⟩
  case round =>
   obtain ⟨k, hk, rfl, rfl, hp, HO2, hb⟩ := hrel
   have hz2 := hb.size
   obtain ⟨m0, m1, m2, m3, m4, m5, m6, m7, m8, m9, m10, m11, m12, m13, m14, m15⟩ := ((hblk.out _ (hb)).cells : _)
   by_cases hki : k < i
   ·obtain ⟨y, hy⟩ : ∃ y, l[k]? = some y := ⟨_, List.getElem?_eq_getElem (by rw [HN.out]; omega)⟩
    obtain ⟨ad2, E0, f0, hadeq, hadb2, ⟨n0, -⟩, -, -⟩ := row_Ord (HR.out _ hb).1 hy
    obtain rfl : ad = ad2 := Option.some.inj hadeq
    have hk0 : (0 : Int) ≤ (k : Int) := by omega
    have hk1 : (k : Int) < (m : Int) := by omega
    have hk2 : (k : Int) < (i : Int) := by omega
    have HST := Lib.hid (HPS.out k y hy)
    clear hy hadeq m1 m2 m3 m4 m5 m6 m7 m8 m9 m10 m11 m12 m13 m14 m15
    cases hq : (y.name.toList == t.name.toList)
    ·have HF : Hid (P (l.take (k + 1)) = false) := Lib.hid (by rw [HST.out, hp.out, hq]; rfl)
     go_wp2
     go_quiet (fail)
     go_wp2
     go_roundw
     case rel => exact ⟨k + 1, by omega, by go_num, rfl, HF, Lib.hid (own_drewN HO2.out _), bel_drewN hb _⟩
     case measure => simp [intOf]; omega
    ·have HE : Hid (x2 = x1 ++ [6]) := Lib.hid (by
      have h1 : P (l.take (k + 1)) = true := by rw [HST.out, hp.out, hq]; rfl
      have h2 := HPM.out (k + 1) (by omega) h1
      rw [← HX2.out, HQP.out, h2]
      rfl)
     go_wp2
     go_quiet (fail)
     go_wp2_with (at_builtin; refine push_errno rfl _ _ rfl W1.heap.size _ x1.length x1 rfl (own_drewN HO2.out _) 6 rfl (by omega) (by first | omega | (simp; omega)) ?_; intro A9 c9 w9 hown9 hb9 hz9)
     go_meet
     exact ⟨A9, c9, by rw [HE.out, List.length_append]; rfl, by rw [HE.out, List.length_append]; exact hown9, (bel_drewN hb _).trans hb9⟩
   ·have hki2 : i = k := by omega
    subst hki2
    have HE : Hid (x2 = x1) := Lib.hid (by rw [← HX2.out, HQP.out, hp.out]; rfl)
    clear hki
    go_wp2
    go_meet
    exact ⟨A', d', by rw [HE.out], by rw [HE.out]; exact HO2.out, hb⟩
 clear HO hB hz
 obtain ⟨A', d', h11, hown, hB⟩ := hcut
 subst h11
 have HO := Lib.hid hown
 have hz := hB.size
 clear hown
 go_upto_region 10 with fail
 go_cut [46] (fun v wx => v = .bool (!q3) ∧ wc = wx)
 case first => as_aux_lemma =>
  obtain ⟨m0, m1, m2, m3, m4, m5, m6, m7, m8, m9, m10, m11, m12, m13, m14, m15⟩ := ((hblk.out _ (hB)).cells : _)
  have hIC := (HR.out _ hB).2
  go_wp2_with (go_at_call 138; refine (loads.right6_any _ _ _ _ _ _ hIC).mono ?_; rintro e w1 ⟨rfl, rfl⟩)
  go_meet
  exact ⟨by rw [HQ3.out], rfl⟩
 obtain ⟨h46, hwc⟩ := hcut
 subst h46
 subst hwc
 go_upto_if 46 with fail
 go_cut [11] (fun v wx => ∃ A' d, v = .slice A' (x3).length d ∧ (wx).ownsRow W1.heap.size 33 1 (.slice A' (x3).length d) (x3).length ((x3).map (.int .i64)) ∧ Below W1.heap.size W1 wx)
 case first => as_aux_lemma =>
  cases q3
  ·have HE : Hid (x3 = x2 ++ [17]) := Lib.hid (by rw [← HX3.out]; rfl)
   have hle : (x2).length ≤ 20 := by omega
   go_wp2_with (at_builtin; refine push_errno rfl _ _ rfl W1.heap.size _ (x2).length (x2) rfl HO.out 17 rfl (by omega) (by omega) ?_; intro A9 c9 w9 hown9 hb9 hz9)
   go_meet
   exact ⟨A9, c9, by rw [HE.out, List.length_append]; rfl, by rw [HE.out, List.length_append]; exact hown9, Below.trans hB (hb9.mono (Nat.le_refl _))⟩
  ·have HE : Hid (x3 = x2) := Lib.hid (by rw [← HX3.out]; rfl)
   go_wp2
   go_meet
   exact ⟨A', d', by rw [HE.out], by rw [HE.out]; exact HO.out, hB⟩
 clear HO
 obtain ⟨A', d', h11, hown, hB⟩ := hcut
 subst h11
 have HO := Lib.hid hown
 have hz := hB.size
 clear hown
 go_upto_region 12 with fail
 go_cut [65] (fun v wx => v = .bool (!q4) ∧ wc = wx)
 case first => as_aux_lemma =>
  obtain ⟨m0, m1, m2, m3, m4, m5, m6, m7, m8, m9, m10, m11, m12, m13, m14, m15⟩ := ((hblk.out _ (hB)).cells : _)
  cases hq : inB t.pick.place (-1) ((n : Int) - 1)
  ·have HE : Hid (q4 = false) := Lib.hid (by rw [← HQ4.out, hq]; rfl)
   go_wp2_with (go_at_call 139; refine (rin_any _ _ _ _).mono ?_; rintro e we ⟨rfl, rfl⟩)
   go_meet
   exact ⟨by rw [HE.out]; rfl, rfl⟩
  ·have HE : Hid (q4 = inB t.drop.place (-1) ((n : Int) - 1)) := Lib.hid (by rw [← HQ4.out, hq]; rfl)
   go_wp2_with (go_at_call 139; refine (rin_any _ _ _ _).mono ?_; rintro e we ⟨rfl, rfl⟩)
   go_meet
   exact ⟨by rw [HE.out], rfl⟩
 obtain ⟨h65, hwc⟩ := hcut
 subst h65
 subst hwc
 go_upto_if 65 with fail
 go_cut [11] (fun v wx => ∃ A' d, v = .slice A' (x4).length d ∧ (wx).ownsRow W1.heap.size 33 1 (.slice A' (x4).length d) (x4).length ((x4).map (.int .i64)) ∧ Below W1.heap.size W1 wx)
 case first => as_aux_lemma =>
  cases q4
  ·have HE : Hid (x4 = x3 ++ [11]) := Lib.hid (by rw [← HX4.out]; rfl)
   have hle : (x3).length ≤ 20 := by omega
   go_wp2_with (at_builtin; refine push_errno rfl _ _ rfl W1.heap.size _ (x3).length (x3) rfl HO.out 11 rfl (by omega) (by omega) ?_; intro A9 c9 w9 hown9 hb9 hz9)
   go_meet
   exact ⟨A9, c9, by rw [HE.out, List.length_append]; rfl, by rw [HE.out, List.length_append]; exact hown9, Below.trans hB (hb9.mono (Nat.le_refl _))⟩
  ·have HE : Hid (x4 = x3) := Lib.hid (by rw [← HX4.out]; rfl)
   go_wp2
   go_meet
   exact ⟨A', d', by rw [HE.out], by rw [HE.out]; exact HO.out, hB⟩
 clear HO
 obtain ⟨A', d', h11, hown, hB⟩ := hcut
 subst h11
 have HO := Lib.hid hown
 have hz := hB.size
 clear hown
 go_upto_region 14 with fail
 go_cut [78] (fun v wx => v = .bool (!q5) ∧ wc = wx)
 case first => as_aux_lemma =>
  obtain ⟨m0, m1, m2, m3, m4, m5, m6, m7, m8, m9, m10, m11, m12, m13, m14, m15⟩ := ((hblk.out _ (hB)).cells : _)
  have hq5 := HQ5.out
  by_cases hq : t.pick.place = -1
  ·by_cases hr : t.drop.place = -1
   ·have HE : Hid (q5 = false) := Lib.hid (by rw [← HQ5.out, hq, hr]; rfl)
    clear hq5
    go_wp2
    go_meet
    exact ⟨by rw [HE.out]; rfl, rfl⟩
   ·have HE : Hid (q5 = true) := Lib.hid (by rw [← HQ5.out]; simp [hr])
    have e1 : (t.drop.place == -1) = false := by simp [hr]
    clear hq5 hr
    go_wp2
    go_meet
    exact ⟨by rw [HE.out]; rfl, rfl⟩
  ·have HE : Hid (q5 = true) := Lib.hid (by rw [← HQ5.out]; simp [hq])
   have e1 : (t.pick.place == -1) = false := by simp [hq]
   clear hq5 hq
   go_wp2
   go_meet
   exact ⟨by rw [HE.out]; rfl, rfl⟩
 obtain ⟨h78, hwc⟩ := hcut
 subst h78
 subst hwc
 go_upto_if 78 with fail
 go_cut [11] (fun v wx => ∃ A' d, v = .slice A' (x5).length d ∧ (wx).ownsRow W1.heap.size 33 1 (.slice A' (x5).length d) (x5).length ((x5).map (.int .i64)) ∧ Below W1.heap.size W1 wx)
 case first => as_aux_lemma =>
  cases q5
  ·have HE : Hid (x5 = x4 ++ [19]) := Lib.hid (by rw [← HX5.out]; rfl)
   have hle : (x4).length ≤ 20 := by omega
   go_wp2_with (at_builtin; refine push_errno rfl _ _ rfl W1.heap.size _ (x4).length (x4) rfl HO.out 19 rfl (by omega) (by omega) ?_; intro A9 c9 w9 hown9 hb9 hz9)
   go_meet
   exact ⟨A9, c9, by rw [HE.out, List.length_append]; rfl, by rw [HE.out, List.length_append]; exact hown9, Below.trans hB (hb9.mono (Nat.le_refl _))⟩
  ·have HE : Hid (x5 = x4) := Lib.hid (by rw [← HX5.out]; rfl)
   go_wp2
   go_meet
   exact ⟨A', d', by rw [HE.out], by rw [HE.out]; exact HO.out, hB⟩
 clear HO
 obtain ⟨A', d', h11, hown, hB⟩ := hcut
 subst h11
 have HO := Lib.hid hown
 have hz := hB.size
 clear hown
 go_upto_region 16 with fail
 go_cut [91] (fun v wx => v = .bool (!q6) ∧ wx.ownsRow W1.heap.size 33 1 (.slice A' x5.length d') x5.length (x5.map (.int .i64)) ∧ Below W1.heap.size W1 wx)
 case first => as_aux_lemma =>
  obtain ⟨m0, m1, m2, m3, m4, m5, m6, m7, m8, m9, m10, m11, m12, m13, m14, m15⟩ := ((hblk.out _ (hB)).cells : _)
  obtain ⟨a1, ha1⟩ : ∃ z, win.chk t.pick.place t.pick.opn t.pick.close t.pick.service = z := ⟨_, rfl⟩
  obtain ⟨a2, ha2⟩ : ∃ z, win.chk t.drop.place t.drop.opn t.drop.close t.drop.service = z := ⟨_, rfl⟩
  have HE : Hid (q6 = ((a1 == 0) && (a2 == 0))) := Lib.hid (by rw [← HQ6.out, ← ha1, ← ha2]; rfl)
  have C1 : Hid (∀ w', Calls Tryz.prog 140 #[.agg #[.int .i64 t.pick.place, .int .i64 t.pick.opn, .int .i64 t.pick.close, .int .i64 t.pick.service]] w' fun e w'' => e = .returned (.int .i64 a1) ∧ Below w'.heap.size w' w'') := Lib.hid fun w' => by rw [← ha1]; exact win.rcheck_any _ _ _ _ w'
  have C2 : Hid (∀ w', Calls Tryz.prog 140 #[.agg #[.int .i64 t.drop.place, .int .i64 t.drop.opn, .int .i64 t.drop.close, .int .i64 t.drop.service]] w' fun e w'' => e = .returned (.int .i64 a2) ∧ Below w'.heap.size w' w'') := Lib.hid fun w' => by rw [← ha2]; exact win.rcheck_any _ _ _ _ w'
  clear ha1 ha2
  go_wp2_with fail
  refine (C1.out _).mono ?_
  rintro e w2 ⟨rfl, hb2⟩
  have hB2 : Below W1.heap.size W1 w2 := hB.trans (hb2.mono hz)
  have hz2 := hB2.size
  have HO2 := Lib.hid (app.own_below HO.out hb2)
  clear m0 m1 m2 m3 m4 m5 m6 m7 m8 m9 m10 m11 m12 m13 m14 m15
  obtain ⟨m0, m1, m2, m3, m4, m5, m6, m7, m8, m9, m10, m11, m12, m13, m14, m15⟩ := ((hblk.out _ (hB2)).cells : _)
  by_cases h1 : a1 = 0
  ·have HE2 : Hid (q6 = (a2 == 0)) := Lib.hid (by rw [HE.out, h1]; rfl)
   subst h1
   go_wp2_with fail
   refine (C2.out _).mono ?_
   rintro e w3 ⟨rfl, hb3⟩
   have hB3 : Below W1.heap.size W1 w3 := hB2.trans (hb3.mono hz2)
   have HO3 := Lib.hid (app.own_below HO2.out hb3)
   by_cases h2 : a2 = 0
   ·have HE3 : Hid (q6 = true) := Lib.hid (by rw [HE2.out, h2]; rfl)
    subst h2
    go_wp2
    go_meet
    exact ⟨by rw [HE3.out]; rfl, HO3.out, hB3⟩
   ·have HE3 : Hid (q6 = false) := Lib.hid (by rw [HE2.out]; simp [h2])
    have e1 : (a2 == 0) = false := by simp [h2]
    have e2 : (a2 != 0) = true := by simp [h2]
    clear h2
    go_wp2
    go_meet
    exact ⟨by rw [HE3.out]; rfl, HO3.out, hB3⟩
  ·have HE3 : Hid (q6 = false) := Lib.hid (by rw [HE.out]; simp [h1])
   have e1 : (a1 == 0) = false := by simp [h1]
   have e2 : (a1 != 0) = true := by simp [h1]
   clear h1
   go_wp2
   go_meet
   exact ⟨by rw [HE3.out]; rfl, HO2.out, hB2⟩
 clear HO hB hz
 obtain ⟨h91, hown, hB⟩ := hcut
 subst h91
 have HO := Lib.hid hown
 have hz := hB.size
 clear hown
 go_upto_if 91 with fail
 go_cut [11] (fun v wx => ∃ A' d, v = .slice A' (x6).length d ∧ (wx).ownsRow W1.heap.size 33 1 (.slice A' (x6).length d) (x6).length ((x6).map (.int .i64)) ∧ Below W1.heap.size W1 wx)
 case first => as_aux_lemma =>
  cases q6
  ·have HE : Hid (x6 = x5 ++ [14]) := Lib.hid (by rw [← HX6.out]; rfl)
   have hle : (x5).length ≤ 20 := by omega
   go_wp2_with (at_builtin; refine push_errno rfl _ _ rfl W1.heap.size _ (x5).length (x5) rfl HO.out 14 rfl (by omega) (by omega) ?_; intro A9 c9 w9 hown9 hb9 hz9)
   go_meet
   exact ⟨A9, c9, by rw [HE.out, List.length_append]; rfl, by rw [HE.out, List.length_append]; exact hown9, Below.trans hB (hb9.mono (Nat.le_refl _))⟩
  ·have HE : Hid (x6 = x5) := Lib.hid (by rw [← HX6.out]; rfl)
   go_wp2
   go_meet
   exact ⟨A', d', by rw [HE.out], by rw [HE.out]; exact HO.out, hB⟩
 clear HO
 obtain ⟨A', d', h11, hown, hB⟩ := hcut
 subst h11
 have HO := Lib.hid hown
 have hz := hB.size
 clear hown
 go_upto_region 18 with fail
 go_cut [98] (fun v wx => v = .bool (!q7) ∧ wc = wx)
 case first => as_aux_lemma =>
  obtain ⟨m0, m1, m2, m3, m4, m5, m6, m7, m8, m9, m10, m11, m12, m13, m14, m15⟩ := ((hblk.out _ (hB)).cells : _)
  go_wp2_with (go_at_call 139; refine (rin_any _ _ _ _).mono ?_; rintro e we ⟨rfl, rfl⟩)
  go_meet
  exact ⟨by rw [HQ7.out], rfl⟩
 obtain ⟨h98, hwc⟩ := hcut
 subst h98
 subst hwc
 go_upto_if 98 with fail
 go_cut [11] (fun v wx => ∃ A' d, v = .slice A' (x7).length d ∧ (wx).ownsRow W1.heap.size 33 1 (.slice A' (x7).length d) (x7).length ((x7).map (.int .i64)) ∧ Below W1.heap.size W1 wx)
 case first => as_aux_lemma =>
  cases q7
  ·have HE : Hid (x7 = x6 ++ [18]) := Lib.hid (by rw [← HX7.out]; rfl)
   have hle : (x6).length ≤ 20 := by omega
   go_wp2_with (at_builtin; refine push_errno rfl _ _ rfl W1.heap.size _ (x6).length (x6) rfl HO.out 18 rfl (by omega) (by omega) ?_; intro A9 c9 w9 hown9 hb9 hz9)
   go_meet
   exact ⟨A9, c9, by rw [HE.out, List.length_append]; rfl, by rw [HE.out, List.length_append]; exact hown9, Below.trans hB (hb9.mono (Nat.le_refl _))⟩
  ·have HE : Hid (x7 = x6) := Lib.hid (by rw [← HX7.out]; rfl)
   go_wp2
   go_meet
   exact ⟨A', d', by rw [HE.out], by rw [HE.out]; exact HO.out, hB⟩
 clear HO
 obtain ⟨A', d', h11, hown, hB⟩ := hcut
 subst h11
 have HO := Lib.hid hown
 have hz := hB.size
 clear hown
 go_upto_region 20 with fail
 obtain ⟨b, hb⟩ : ∃ b, ((t.pick.place != -1) && (t.drop.place != -1)) = b := ⟨_, rfl⟩
 have hnc := num_cases t types b hb.symm
 have HBB := Lib.hid hb
 rw [HQ8.out] at hnc
 have HNC := Lib.hid hnc
 clear hb hnc
 go_cut [14] (fun v wx => v = .bool b ∧ wc = wx)
 case first => as_aux_lemma =>
  obtain ⟨m0, m1, m2, m3, m4, m5, m6, m7, m8, m9, m10, m11, m12, m13, m14, m15⟩ := ((hblk.out _ (hB)).cells : _)
  by_cases hq : t.pick.place = -1
  ·have HE : Hid (b = false) := Lib.hid (by rw [← HBB.out, hq]; rfl)
   go_wp2
   go_meet
   exact ⟨by rw [HE.out], rfl⟩
  ·have HE : Hid (b = (t.drop.place != -1)) := Lib.hid (by rw [← HBB.out]; simp [hq])
   have e1 : (t.pick.place == -1) = false := by simp [hq]
   have e2 : (t.pick.place != -1) = true := by simp [hq]
   clear hq
   go_wp2
   go_meet
   exact ⟨by rw [HE.out], rfl⟩
 obtain ⟨h14, hwc⟩ := hcut
 subst h14
 subst hwc
 go_upto_region 21 with fail
 go_cut [151] (fun v wx => v = .bool (!q8) ∧ wc = wx)
 case first => as_aux_lemma =>
  obtain ⟨m0, m1, m2, m3, m4, m5, m6, m7, m8, m9, m10, m11, m12, m13, m14, m15⟩ := ((hblk.out _ (hB)).cells : _)
  rcases HNC.out with ⟨e, g⟩ | ⟨e, g, g2⟩ | ⟨e, g, g2, g3, g4⟩ | ⟨g, g2, g3, ⟨e, g4⟩ | ⟨e, g4, g5⟩ | ⟨e, g4, g5, g6⟩ | ⟨e, g4, g5, g6⟩⟩
  ·have H := Lib.hid e
   clear e
   go_wp2_with (go_at_call 139; refine (rin_any _ _ _ _).mono ?_; rintro e we ⟨rfl, rfl⟩)
   go_meet
   exact ⟨by rw [H.out]; rfl, rfl⟩
  ·have H := Lib.hid e
   clear e
   go_wp2_with (go_at_call 139; refine (rin_any _ _ _ _).mono ?_; rintro e we ⟨rfl, rfl⟩)
   go_meet
   exact ⟨by rw [H.out]; rfl, rfl⟩
  ·have H := Lib.hid e
   subst g4
   clear e
   go_wp2_with (go_at_call 139; refine (rin_any _ _ _ _).mono ?_; rintro e we ⟨rfl, rfl⟩)
   go_meet
   exact ⟨by rw [H.out]; rfl, rfl⟩
  all_goals
   have H := Lib.hid e
   clear e
   rcases g3 with g3 | ⟨g3, g3'⟩
   ·go_wp2_with (go_at_call 139; refine (rin_any _ _ _ _).mono ?_; rintro e we ⟨rfl, rfl⟩)
    go_meet
    exact ⟨by rw [H.out]; first | rfl | (simp; done) | (simp; omega), rfl⟩
   ·subst g3'
    go_wp2_with (go_at_call 139; refine (rin_any _ _ _ _).mono ?_; rintro e we ⟨rfl, rfl⟩)
    go_meet
    exact ⟨by rw [H.out]; first | rfl | (simp; done) | (simp; omega), rfl⟩
 obtain ⟨h151, hwc⟩ := hcut
 subst h151
 subst hwc
 go_upto_if 151 with fail
 go_cut [11] (fun v wx => ∃ A' d, v = .slice A' (x8).length d ∧ (wx).ownsRow W1.heap.size 33 1 (.slice A' (x8).length d) (x8).length ((x8).map (.int .i64)) ∧ Below W1.heap.size W1 wx)
 case first => as_aux_lemma =>
  cases q8
  ·have HE : Hid (x8 = x7 ++ [2]) := Lib.hid (by rw [← HX8.out]; rfl)
   have hle : (x7).length ≤ 20 := by omega
   go_wp2_with (at_builtin; refine push_errno rfl _ _ rfl W1.heap.size _ (x7).length (x7) rfl HO.out 2 rfl (by omega) (by omega) ?_; intro A9 c9 w9 hown9 hb9 hz9)
   go_meet
   exact ⟨A9, c9, by rw [HE.out, List.length_append]; rfl, by rw [HE.out, List.length_append]; exact hown9, Below.trans hB (hb9.mono (Nat.le_refl _))⟩
  ·have HE : Hid (x8 = x7) := Lib.hid (by rw [← HX8.out]; rfl)
   go_wp2
   go_meet
   exact ⟨A', d', by rw [HE.out], by rw [HE.out]; exact HO.out, hB⟩
 clear HO
 obtain ⟨A', d', h11, hown, hB⟩ := hcut
 subst h11
 have HO := Lib.hid hown
 have hz := hB.size
 clear hown
 go_wp2
 go_ret
 rw [HRES.out]
 exact ⟨A', d', rfl, app.own_less HO.out z0, hB0.trans (hB.mono z0)⟩
end Go.Proofs.YthefooacfcagbaaGreatDoor.rord

/- The violations of orders: Check of the reference. -/
namespace Go.Proofs.YthefooacfcagbaaGreatDoor.rord
open Go.RowKit
open lib rd typ txt app flts ord note mrk
set_option linter.unusedVariables false
set_option linter.unusedSimpArgs false
set_option maxRecDepth 20000 in
set_option maxHeartbeats 4000000 in
theorem rocheck_any (n : Nat) (A0 : Option Addr) (d0 : Nat) (A1 : Option Addr) (n1 d1 : Nat) (dims types : Int) (A : Option Addr) (c : Nat) (l : List Ord) (w : World) (hL : RowAt rOrd w w.heap.size A l) (hl : l.length ≤ 10000000) (hn : n ≤ 17592186043904) :
  Calls Tryz.prog 55 #[.agg #[.slice A0 n d0, .slice A1 n1 d1], .int .i64 dims, .int .i64 types, .slice A l.length c] w (FltsOut w (ofltsTo ((n : Int) - 1) dims types l l.length)) := by
 obtain ⟨m, hm⟩ : ∃ m, l.length = m := ⟨_, rfl⟩
 have HM := Lib.hid hm
 obtain ⟨F, hF⟩ : ∃ F, ofltsTo ((n : Int) - 1) dims types l = F := ⟨_, rfl⟩
 have HF := Lib.hid hF
 have hFl : ∀ j, (F j).length ≤ 1 + 8 * j := fun j => by rw [← hF]; exact ofltsTo_len _ _ _ _ j
 have HF0 : Hid (F 0 = if m ≤ 10 then [] else [⟨4, ⟨#[]⟩⟩]) := Lib.hid (by rw [← hF, ← hm]; rfl)
 obtain ⟨W0, hW0⟩ : ∃ W0, w.alloc (.cells #[.slice A0 n d0, .slice A1 n1 d1] 25) = W0 := ⟨_, rfl⟩
 have hB0 : Below w.heap.size w W0 := by rw [← hW0]; exact (Below.refl _ _).alloc (Nat.le_refl _) _
 have z0 := hB0.size
 have hs0 : w.heap.size < W0.heap.size := by rw [← hW0]; simp
 have HS : Hid (∀ w', Below W0.heap.size W0 w' → w'.cell? ⟨w.heap.size, 0, none⟩ = some (.slice A0 n d0)) := Lib.hid fun w' h => by
  have hk := fun (o : Nat) => h.cell (p := ⟨w.heap.size, o, none⟩) hs0
  refine (hk _).trans ?_
  rw [← hW0]; simp
 have HC : Hid (∀ w' (i : Nat) t, Below W0.heap.size W0 w' → l[i]? = some t → Calls Tryz.prog 94 #[.int .i64 n, .int .i64 dims, .int .i64 types, .slice A m c, .int .i64 i] w' (ErrsOut w' (errsO ((n : Int) - 1) dims types l i t))) := Lib.hid fun w' i t h hi => by
  have hb := hB0.trans (h.mono z0)
  have h1 := rrules_any n dims types A c l i t w' ((hL.below hb).more hb.size) hi hn
  rw [hm] at h1
  exact h1
 have B0 : Below W0.heap.size W0 W0 := Below.refl _ _
 have HW0 := Lib.hid hW0
 rw [hm] at hl ⊢
 rw [hF]
 clear hm hF hW0 hL
 go_enter Tryz.func55, Tryz.ntmps55
 go_upto_region 2 with fail
 rw [HW0.out]
 go_cut [15] (fun v wx => v = .bool (decide (10 < m)) ∧ W0 = wx)
 case first => as_aux_lemma =>
  have hE : decide ((10 : Int) < (m : Int)) = decide (10 < m) := by rw [Bool.eq_iff_iff]; simp; omega
  have HE := Lib.hid hE
  clear hE
  go_wp2
  go_meet
  exact ⟨by rw [HE.out], rfl⟩
 obtain ⟨h15, hwc⟩ := hcut
 subst h15
 subst hwc
 go_upto_if 15 with fail
 go_cut [9] (fun v wx => ∃ A' c', v = .slice A' (F 0).length c' ∧ Fown wx W0.heap.size A' c' (F 0) ∧ Below W0.heap.size W0 wx)
 case first => as_aux_lemma =>
  cases hq : decide (10 < m)
  ·have hE : Hid (F 0 = []) := Lib.hid (by rw [HF0.out, if_pos (by have := of_decide_eq_false hq; omega)])
   clear hq
   go_wp2
   go_meet
   exact ⟨none, 0, by rw [hE.out]; rfl, by rw [hE.out]; exact Fown.nil _ _, B0⟩
  ·have hE : Hid (F 0 = [] ++ [⟨4, ⟨#[]⟩⟩]) := Lib.hid (by rw [HF0.out, if_neg (by have := of_decide_eq_true hq; omega)]; rfl)
   have HO := Lib.hid (Fown.nil W0 W0.heap.size)
   clear hq
   go_wp2_with (at_builtin; refine wpList_pushF rfl _ _ rfl W0.heap.size none ([]) 0 rfl HO.out (⟨4, ⟨#[]⟩⟩) (F 0) hE.out rfl (by first | omega | decide) (by omega) ?_; intro g3 c3 w3 hown3 hb3 hs3 hk3 hd3)
   go_meet
   exact ⟨_, _, rfl, hown3, hb3⟩
 obtain ⟨A', c', hv, hown, hB⟩ := hcut
 subst hv
 go_upto_region 5 with fail
 go_loopw [9, 10, 11, 12] (fun v k _ _ wr => ∃ (j : Nat) (A' : Option Addr) (c' : Nat), j ≤ m ∧ k = .int .i64 j ∧ v = .slice A' (F j).length c' ∧ Fown wr W0.heap.size A' c' (F j) ∧ Below W0.heap.size W0 wr) (fun _ k _ _ _ => m - (intOf k).toNat)
 case atStart => exact ⟨0, A', c', by omega, rfl, rfl, hown, hB⟩
 case round =>
  clear hown hB
  obtain ⟨j, A', c', hj, rfl, rfl, hown, hB⟩ := hrel
  have hz := hB.size
  by_cases hlt : j < m
  ·obtain ⟨t, ht⟩ : ∃ t, l[j]? = some t := ⟨_, List.getElem?_eq_getElem (by rw [HM.out]; exact hlt)⟩
   have herr := HC.out _ j t hB ht
   obtain ⟨E, hE⟩ : ∃ E, errsO ((n : Int) - 1) dims types l j t = E := ⟨_, rfl⟩
   have hE8 : E.length ≤ 8 := by rw [← hE]; exact errsO_len _ _ _ _ _ _
   have HFS : Hid (F (j + 1) = F j ++ mkF j E) := Lib.hid (by rw [← HF.out, ofltsTo_succ ht, hE])
   have hFj := hFl j
   rw [hE] at herr
   have HK := Lib.hid herr
   have hj0 : (0 : Int) ≤ (j : Int) := by omega
   have hjn : (j : Int) < (m : Int) := by omega
   have x0 := HS.out _ hB
   clear ht hE herr
   obtain ⟨U, hU⟩ : ∃ U : Nat → List Flt, (fun q => F j ++ mkF j (E.take q)) = U := ⟨_, rfl⟩
   have HU0 : Hid (U 0 = F j) := Lib.hid (by rw [← hU]; simp [mkF])
   have HUT : Hid (F (j + 1) = U E.length) := Lib.hid (by rw [← hU, HFS.out]; simp)
   have HUS : Hid (∀ (q : Nat) x, E[q]? = some x → U (q + 1) = U q ++ [⟨x, decS j⟩]) := Lib.hid fun q x hx => by
    rw [← hU]
    show F j ++ mkF j (E.take (q + 1)) = F j ++ mkF j (E.take q) ++ [⟨x, decS j⟩]
    rw [mkF_take hx, List.append_assoc]
   have hUl : ∀ q, (U q).length ≤ 9 + 8 * j := fun q => by
    rw [← hU]
    show (F j ++ mkF j (E.take q)).length ≤ _
    unfold mkF
    rw [List.length_append, List.length_map, List.length_take]
    omega
   clear hU HFS
   go_upto_region 8 with (go_at_call 94; refine HK.out.mono ?_; rintro e w1 ⟨Ae, ce, rfl, hownE, hb1⟩)
   obtain ⟨gE, hgE1, hgE2, hgE3⟩ := row_place hownE
   have s1 := hb1.size
   have hown1 : Fown w1 W0.heap.size A' c' (U 0) := by rw [HU0.out]; exact hown.below hb1
   have hne : (Value.slice A' (U 0).length c').ownBlock ≠ some gE := by
    intro e
    rw [HU0.out] at e
    have := (World.ownsRow.lt hown gE e).2
    omega
   have hB1 : Below W0.heap.size W0 w1 := hB.trans (hb1.mono hz)
   have z1 := hB1.size
   have HNE := Lib.hid hne
   have HG3 := Lib.hid hgE3
   have hv0 : (F j).length = (U 0).length := by rw [HU0.out]
   have HV0 := Lib.hid hv0
   clear hownE hne hgE3 hown x0 hv0
   go_upto_region 9 with fail
   go_loopw [9, 12] (fun v k wr2 => ∃ (q : Nat) (A2 : Option Addr) (c2 : Nat), q ≤ E.length ∧ k = .int .i64 q ∧ v = .slice A2 (U q).length c2 ∧ Fown wr2 W0.heap.size A2 c2 (U q) ∧ Hid ((Value.slice A2 (U q).length c2).ownBlock ≠ some gE) ∧ Hid (∀ q, q < E.length → wr2.cell? ⟨gE, q, none⟩ = some (.int .i64 (E[q]?.getD 0))) ∧ Below W0.heap.size W0 wr2 ∧ w1.heap.size ≤ wr2.heap.size) (fun _ k _ => E.length - (intOf k).toNat)
   case atStart => exact ⟨0, A', c', by omega, rfl, by rw [HV0.out], hown1, HNE, HG3, hB1, Nat.le_refl _⟩
   case round =>
    clear hown1 HNE HG3
    obtain ⟨q, A2, c2, hq, rfl, rfl, hown2, hne2, hcs2, hB2, hs2⟩ := hrel
    have hz2 := hB2.size
    by_cases hlq : q < E.length
    ·obtain ⟨rfl, hgw⟩ := hgE2 (by omega)
     obtain ⟨x, hx⟩ : ∃ x, E[q]? = some x := ⟨_, List.getElem?_eq_getElem hlq⟩
     have hcx : wr.cell? ⟨gE, q, none⟩ = some (.int .i64 x) := by have := hcs2.out q hlq; rw [hx] at this; exact this
     have hq0 : (0 : Int) ≤ (q : Int) := by omega
     have hqn : (q : Int) < (E.length : Int) := by omega
     have HT := Lib.hid (HUS.out q x hx)
     have hUq := hUl q
     clear hx hgE2
     have hgr : gE < wr.heap.size := by omega
     have hjd : j < 1000000000000000000 := by omega
     go_upto_region 11 with fail
     (refine wp_region_held_drew (S := (fun w' => w'.cell? ⟨gE, q, none⟩ = some (.int .i64 x))) (by kernel_rfl) ?_ (fun hHeld => ?_))
     ·exact hcx
     (refine lib.tk 0 rfl ?_; (try simp only [lib.hly]))
     (refine lib.tk 1 rfl ?_; (try simp only [lib.hly]))
     (refine lib.tk 2 rfl ?_; (try simp only [lib.hly]))
     (refine lib.tk 3 rfl ?_; (try simp only [lib.hly]))
     (refine lib.tk 4 rfl ?_; (try simp only [lib.hly]))
     (refine lib.tk 5 rfl ?_; (try simp only [lib.hly]))
     (refine lib.rk 6 rfl fun K hK => ?_; go_simp)
     go_at_call 18
     refine (rdec_any j hjd _).mono ?_
     rintro e w3 ⟨rfl, hb3d⟩
     have hb3 : Below wr.heap.size wr w3 := ((Below.refl _ _).drew).trans (hb3d.mono (by simp))
     have s3 := hb3.size
     have hcx3 : w3.cell? ⟨gE, q, none⟩ = some (.int .i64 x) := (hb3.cell (p := ⟨gE, q, none⟩) hgr).trans hcx
     (refine hK.out _ _ ?_ (fun hHeld => ?_))
     ·exact hcx3
     clear hK K
     (try simp only [lib.hly])
     (refine lib.tk 7 rfl ?_; (try simp only [lib.hly]))
     (refine lib.rk 8 rfl fun K hK => ?_; go_simp)
     have hcx4 : (w3.alloc (.cells #[.int .i64 x, .string (decS j)] 53)).cell? ⟨gE, q, none⟩ = some (.int .i64 x) := (World.cell?_alloc_lt w3 _ _ (show gE < w3.heap.size by omega)).trans hcx3
     (refine hK.out _ _ ?_ (fun hHeld => ?_))
     ·exact hcx4
     clear hK K
     (try simp only [lib.hly])
     (refine lib.rk 9 rfl fun K hK => ?_)
     refine step_app fault_elem _ _ rfl W0.heap.size A2 (U q).length c2 (fcs (U q)) rfl ((own_below hown2 hb3).alloc _) ⟨w3.heap.size, 0, none⟩ 1 [.int .i64 x, .string (decS j)] rfl rfl (two_new _ _ _ _) (by simp [Value.oneCell']) (by omega) (by simp; omega) rfl ?_
     intro g3 c3 w5 hown3 hg3 hd3
     (refine hK.out _ _ ?_ (fun hHeld => ?_))
     ·exact hg3.cell hcx4 (by intro e; exact hne2.out e.symm)
     clear hK K
     (try simp only [lib.hly])
     (refine lib.tk 10 rfl ?_; (try simp only [lib.hly]))
     (refine wpAnyH_done (by kernel_rfl) ?_ _)
     have hlen : (U (q + 1)).length = (U q).length + 1 := by rw [HT.out]; simp
     have HLEN := Lib.hid hlen
     have HO2 := Lib.hid hown2
     have hgs := hg3.size
     simp at hgs
     have HG := Lib.hid hg3
     have HO3 := Lib.hid hown3
     clear hlen hown2 hg3 hown3 hcx hcx3 hcx4
     go_wp2
     go_roundw
     case rel =>
      refine ⟨q + 1, some ⟨g3, 0, none⟩, c3, by omega, by go_num, by rw [HLEN.out], ?_, Lib.hid ?_, Lib.hid ?_, ?_, ?_⟩
      ·unfold Fown
       rw [HLEN.out, HT.out, fcs_snoc]
       exact HO3.out
      ·intro e
       have e' : some g3 = some gE := e
       rcases hd3 with h | h
       ·exact hne2.out (h.trans e')
       ·injection e' with e'
        simp at h
        omega
      ·intro q' hq'
       exact HG.out.cell ((World.cell?_alloc_lt w3 _ _ (show gE < w3.heap.size by omega)).trans ((hb3.cell (p := ⟨gE, q', none⟩) hgr).trans (hcs2.out q' hq'))) (by intro e; exact hne2.out e.symm)
      ·exact ((hB2.trans (hb3.mono hz2)).alloc (by omega) _).grown HG.out (by simp; omega) (fun q' e => (World.ownsRow.lt HO2.out _ e).1)
      ·omega
     case measure => simp [intOf]; omega
    ·have hqE : q = E.length := by omega
     subst hqE
     go_wp2
     go_roundw
     case rel => exact ⟨j + 1, A2, c2, by omega, by go_num, by rw [HUT.out], by rw [HUT.out]; exact hown2, hB2⟩
     case measure => simp [intOf]; omega
  ·have hjm : j = m := by omega
   subst hjm
   clear hlt
   go_wp2
   go_ret
   exact ⟨A', c', rfl, own_less hown z0, hB0.trans (hB.mono z0)⟩
end Go.Proofs.YthefooacfcagbaaGreatDoor.rord

import Derived.Test.YthefooacfcagbaaGreatDoorStrR
import Derived.Test.YthefooacfcagbaaGreatDoorSpcY
import Derived.Test.YthefooacfcagbaaGreatDoorSpcX
/- The reference's texts of stops and travel functions. -/
namespace Go.Proofs.YthefooacfcagbaaGreatDoor.spc
open Go.RowKit
open lib rd app els typ big gen
open txt (in64 By strV strV_of decW rdecW_any)
set_option linter.unusedVariables false
set_option linter.unusedSimpArgs false
theorem exec_ldi {ρ : Operand → Value} {o : Oper} {n : Nat} {ad : Addr} {w : World} {u : Value} (ho : o.op = .load 3 (.tmp n)) (hρ : ρ (.tmp n) = .pointer (some ad)) (hc : w.cell? ad = some u) :
  Sem.run Tryz.prog (execOp ρ o) w = .ok (.value u) w := by
 unfold execOp
 simp only [ho, hρ, Sem.run_bind]
 go_simp
theorem decW_list (n : Int) : (decW n).data.toList = Lib.itoa n := by unfold decW; simp
theorem drew_below {w w' : World} (h : Below w.drew.heap.size w.drew w') : Below w.heap.size w w' := ((Below.refl w.heap.size w).drew).trans h
theorem stop_bytes {p o c v : Int} (h : ¬ (p = -1 ∧ o = 0 ∧ c = 0 ∧ v = 0)) : ((((((decW p ++ ⟨#[58]⟩) ++ decW o) ++ ⟨#[58]⟩) ++ decW c) ++ ⟨#[58]⟩) ++ decW v : ByteArray) = ⟨(stopF ⟨p, o, c, v⟩).toArray⟩ := by
 apply bytes_inj
 unfold stopF
 rw [if_neg h]
 simp [decW_list, stpN, join2, Lib.join_one]
set_option maxRecDepth 20000 in
set_option maxHeartbeats 2000000 in
theorem rfstop_any (s : Stp) (w : World) (h64 : ∀ x ∈ stpN s, in64 x) :
  Calls Tryz.prog 15 #[.agg (StpCells s).toArray] w fun e w' => e = .returned (.string ⟨(stopF s).toArray⟩) ∧ Below w.heap.size w w' := by
 obtain ⟨p, o, c, v⟩ := s
 show Calls Tryz.prog 15 #[.agg #[.int .i64 p, .int .i64 o, .int .i64 c, .int .i64 v]] w _
 have z1 : in64 p := h64 p (by simp [stpN])
 have z2 : in64 o := h64 o (by simp [stpN])
 have z3 : in64 c := h64 c (by simp [stpN])
 have z4 : in64 v := h64 v (by simp [stpN])
 clear h64
 obtain ⟨r, hr⟩ : ∃ r, (⟨(stopF ⟨p, o, c, v⟩).toArray⟩ : ByteArray) = r := ⟨_, rfl⟩
 have HR := Lib.hid hr
 rw [hr]
 clear hr
 by_cases h0 : p = -1 ∧ o = 0 ∧ c = 0 ∧ v = 0
 ·have hr : r = ⟨#[46]⟩ := by
   rw [← HR.out]
   unfold stopF
   rw [if_pos h0]
  subst hr
  obtain ⟨rfl, rfl, rfl, rfl⟩ := h0
  go_enter Tryz.func15, Tryz.ntmps15
  go_wp2
  go_ret
  exact ⟨rfl, (Below.refl _ w).alloc (Nat.le_refl _) _⟩
 ·have HS := Lib.hid (stop_bytes h0)
  obtain ⟨W1, hW1⟩ : ∃ W1, w.alloc (.cells #[.int .i64 p, .int .i64 o, .int .i64 c, .int .i64 v] 41) = W1 := ⟨_, rfl⟩
  have b0 : Blk W1 w.heap.size 41 [.int .i64 p, .int .i64 o, .int .i64 c, .int .i64 v] := by
   rw [← hW1]
   exact Blk.new w _ _
  have HB1 : Hid (Below w.heap.size w W1) := Lib.hid (by rw [← hW1]; exact (Below.refl _ _).alloc (Nat.le_refl _) _)
  have HW1 := Lib.hid hW1
  have HC1 := Lib.hid b0
  have c0 := b0.cell (j := 0) rfl
  have c1 := b0.cell (j := 1) rfl
  have c2 := b0.cell (j := 2) rfl
  have c3 := b0.cell (j := 3) rfl
  have hcs : p ≠ -1 ∨ (p = -1 ∧ o ≠ 0) ∨ (p = -1 ∧ o = 0 ∧ c ≠ 0) ∨ (p = -1 ∧ o = 0 ∧ c = 0 ∧ v ≠ 0) := by
   by_cases e1 : p = -1
   ·by_cases e2 : o = 0
    ·by_cases e3 : c = 0
     ·exact .inr (.inr (.inr ⟨e1, e2, e3, fun e => h0 ⟨e1, e2, e3, e⟩⟩))
     ·exact .inr (.inr (.inl ⟨e1, e2, e3⟩))
    ·exact .inr (.inl ⟨e1, e2⟩)
   ·exact .inl e1
  clear h0
  clear hW1 b0
  go_enter Tryz.func15, Tryz.ntmps15
  go_upto_region 1 with fail
  rw [HW1.out]
  go_cut [5] (fun u wx => u = .bool false ∧ W1 = wx)
  case first =>
   clear HC1 HS HR
   rcases hcs with hq | ⟨rfl, hq⟩ | ⟨rfl, rfl, hq⟩ | ⟨rfl, rfl, rfl, hq⟩
   all_goals (
   have hqb := beq_eq_false_iff_ne.2 hq
   go_wp2
   go_meet
   exact ⟨rfl, rfl⟩)
  obtain ⟨hu, rfl⟩ := hcut
  subst hu
  clear hcs c0 c1 c2 c3
  have y1 := decW_size z1
  have y2 := decW_size z2
  have y3 := decW_size z3
  have y4 := decW_size z4
  have h58 : (⟨#[58]⟩ : ByteArray).size = 1 := rfl
  go_upto_region 3 with fail
  (refine wp_region_held_drew (S := (fun v' => Blk v' w.heap.size 41 [.int .i64 p, .int .i64 o, .int .i64 c, .int .i64 v])) (by kernel_rfl) ?_ (fun hHeld => ?_))
  ·exact HC1.out
  (refine lib.tk 0 ?_ rfl (by kernel_rfl) (fun _ _ _ h => h) ?_ (by assumption) ?_; rotate_left; (focus (intro w hSw; (try dsimp only at hSw); go_simp; all_goals with_reducible rfl)); (try simp only [lib.hly]))
  (refine lib.tk 1 _ rfl (by kernel_rfl) (fun _ _ _ h => h) (fun _ hSw => exec_ldi rfl rfl (hSw.cell (j := 0) rfl)) (by assumption) ?_; (try simp only [lib.hly]))
  (refine lib.tk 4 ?_ rfl (by kernel_rfl) (fun _ _ _ h => h) ?_ (by assumption) ?_; rotate_left; (focus (intro w hSw; (try dsimp only at hSw); go_simp; all_goals with_reducible rfl)); (try simp only [lib.hly]))
  (refine lib.tk 5 _ rfl (by kernel_rfl) (fun _ _ _ h => h) (fun _ hSw => exec_ldi rfl rfl (hSw.cell (j := 1) rfl)) (by assumption) ?_; (try simp only [lib.hly]))
  (refine lib.tk 9 ?_ rfl (by kernel_rfl) (fun _ _ _ h => h) ?_ (by assumption) ?_; rotate_left; (focus (intro w hSw; (try dsimp only at hSw); go_simp; all_goals with_reducible rfl)); (try simp only [lib.hly]))
  (refine lib.tk 10 _ rfl (by kernel_rfl) (fun _ _ _ h => h) (fun _ hSw => exec_ldi rfl rfl (hSw.cell (j := 2) rfl)) (by assumption) ?_; (try simp only [lib.hly]))
  (refine lib.tk 14 ?_ rfl (by kernel_rfl) (fun _ _ _ h => h) ?_ (by assumption) ?_; rotate_left; (focus (intro w hSw; (try dsimp only at hSw); go_simp; all_goals with_reducible rfl)); (try simp only [lib.hly]))
  (refine lib.tk 15 _ rfl (by kernel_rfl) (fun _ _ _ h => h) (fun _ hSw => exec_ldi rfl rfl (hSw.cell (j := 3) rfl)) (by assumption) ?_; (try simp only [lib.hly]))
  (refine wpAnyH_ready (rs := [2]) (by kernel_rfl) (by simp) ?_; refine AllReadyH.cons rfl (fun K hK => ?_) AllReadyH.nil)
  go_simp
  refine (rdecW_any _ z1 _).mono ?_
  rintro e v2 ⟨rfl, b2⟩
  have HC2 := Lib.hid (HC1.out.below (drew_below b2))
  have HB2 := Lib.hid (HB1.out.trans ((drew_below b2).mono HB1.out.size))
  clear b2
  refine hK.out _ _ (HC2.out) (fun hHeld => ?_)
  clear hK K
  (try simp only [lib.hly])
  (refine lib.tk 3 ?_ rfl (by kernel_rfl) (fun _ _ _ h => h) ?_ (by assumption) ?_; rotate_left; (focus (intro w hSw; (try dsimp only at hSw); go_simp; rw [if_neg]; (try with_reducible rfl); (all_goals (first | omega | (simp only [ByteArray.size_append]; omega))))); (try simp only [lib.hly]))
  (refine wpAnyH_ready (rs := [6]) (by kernel_rfl) (by simp) ?_; refine AllReadyH.cons rfl (fun K hK => ?_) AllReadyH.nil)
  go_simp
  refine (rdecW_any _ z2 _).mono ?_
  rintro e v3 ⟨rfl, b3⟩
  have HC3 := Lib.hid (HC2.out.below b3)
  have HB3 := Lib.hid (HB2.out.trans (b3.mono HB2.out.size))
  clear b3
  refine hK.out _ _ (HC3.out) (fun hHeld => ?_)
  clear hK K
  (try simp only [lib.hly])
  (refine lib.tk 7 ?_ rfl (by kernel_rfl) (fun _ _ _ h => h) ?_ (by assumption) ?_; rotate_left; (focus (intro w hSw; (try dsimp only at hSw); go_simp; rw [if_neg]; (try with_reducible rfl); (all_goals (first | omega | (simp only [ByteArray.size_append]; omega))))); (try simp only [lib.hly]))
  (refine lib.tk 8 ?_ rfl (by kernel_rfl) (fun _ _ _ h => h) ?_ (by assumption) ?_; rotate_left; (focus (intro w hSw; (try dsimp only at hSw); go_simp; rw [if_neg]; (try with_reducible rfl); (all_goals (first | omega | (simp only [ByteArray.size_append]; omega))))); (try simp only [lib.hly]))
  (refine wpAnyH_ready (rs := [11]) (by kernel_rfl) (by simp) ?_; refine AllReadyH.cons rfl (fun K hK => ?_) AllReadyH.nil)
  go_simp
  refine (rdecW_any _ z3 _).mono ?_
  rintro e v4 ⟨rfl, b4⟩
  have HC4 := Lib.hid (HC3.out.below b4)
  have HB4 := Lib.hid (HB3.out.trans (b4.mono HB3.out.size))
  clear b4
  refine hK.out _ _ (HC4.out) (fun hHeld => ?_)
  clear hK K
  (try simp only [lib.hly])
  (refine lib.tk 12 ?_ rfl (by kernel_rfl) (fun _ _ _ h => h) ?_ (by assumption) ?_; rotate_left; (focus (intro w hSw; (try dsimp only at hSw); go_simp; rw [if_neg]; (try with_reducible rfl); (all_goals (first | omega | (simp only [ByteArray.size_append]; omega))))); (try simp only [lib.hly]))
  (refine lib.tk 13 ?_ rfl (by kernel_rfl) (fun _ _ _ h => h) ?_ (by assumption) ?_; rotate_left; (focus (intro w hSw; (try dsimp only at hSw); go_simp; rw [if_neg]; (try with_reducible rfl); (all_goals (first | omega | (simp only [ByteArray.size_append]; omega))))); (try simp only [lib.hly]))
  (refine wpAnyH_ready (rs := [16]) (by kernel_rfl) (by simp) ?_; refine AllReadyH.cons rfl (fun K hK => ?_) AllReadyH.nil)
  go_simp
  refine (rdecW_any _ z4 _).mono ?_
  rintro e v5 ⟨rfl, b5⟩
  have HC5 := Lib.hid (HC4.out.below b5)
  have HB5 := Lib.hid (HB4.out.trans (b5.mono HB4.out.size))
  clear b5
  refine hK.out _ _ (HC5.out) (fun hHeld => ?_)
  clear hK K
  (try simp only [lib.hly])
  (refine lib.tk 17 ?_ rfl (by kernel_rfl) (fun _ _ _ h => h) ?_ (by assumption) ?_; rotate_left; (focus (intro w hSw; (try dsimp only at hSw); go_simp; rw [if_neg]; (try with_reducible rfl); (all_goals (first | omega | (simp only [ByteArray.size_append]; omega))))); (try simp only [lib.hly]))
  (refine lib.tk 18 ?_ rfl (by kernel_rfl) (fun _ _ _ h => h) ?_ (by assumption) ?_; rotate_left; (focus (intro w hSw; (try dsimp only at hSw); go_simp; all_goals with_reducible rfl)); (try simp only [lib.hly]))
  (refine wpAnyH_done (by kernel_rfl) ?_ _)
  go_wp2
  go_ret
  exact ⟨by rw [← HR.out, ← HS.out]; rfl, HB5.out⟩
theorem join_snoc {c : UInt8} (x : By) : ∀ {L : List By}, L ≠ [] → Lib.join (L ++ [x]) [c] = Lib.join L [c] ++ c :: x
 | [], h => absurd rfl h
 | [y], _ => by rw [List.cons_append, List.nil_append, join2, Lib.join_one, Lib.join_one]
 | y :: z :: L, _ => by
  have ih := join_snoc (c := c) x (L := z :: L) (by simp)
  rw [List.cons_append, List.cons_append, join2, join2]
  rw [List.cons_append] at ih
  rw [ih, List.append_assoc, List.cons_append]
theorem pt_bytes {Z : ByteArray} {p : Pt} : (((Z ++ decW p.t) ++ ⟨#[58]⟩) ++ decW p.a : ByteArray).data.toList = Z.data.toList ++ ptF p := by
 unfold ptF
 simp [decW_list]
def trvK (l : List Pt) (k : Nat) : By := Lib.join ((l.take k).map ptF) [44]
theorem trvK_zero (l : List Pt) : trvK l 0 = [] := by simp [trvK, Lib.join_nil]
theorem trvK_one {l : List Pt} {p : Pt} (h : l[0]? = some p) : trvK l 1 = ptF p := by
 unfold trvK
 rw [List.take_add_one, h]
 simp [Lib.join_one]
theorem trvK_step {l : List Pt} {k : Nat} {p : Pt} (h : l[k]? = some p) (hk : k ≠ 0) : trvK l (k + 1) = trvK l k ++ 44 :: ptF p := by
 unfold trvK
 rw [List.take_add_one, h, Option.toList_some, List.map_append, List.map_cons, List.map_nil]
 refine join_snoc _ fun e => ?_
 have h1 : ((l.take k).map ptF).length = 0 := by rw [e]; rfl
 have := (List.getElem?_eq_some_iff.1 h).1
 rw [List.length_map, List.length_take] at h1
 omega
theorem trvK_all {l : List Pt} (h : l ≠ []) : trvK l l.length = trvF l := by
 unfold trvK trvF
 rw [if_neg h, List.take_length]
set_option maxRecDepth 20000 in
set_option maxHeartbeats 2000000 in
theorem rftravel_any (l : List Pt) (A : Option Addr) (n c : Nat) (hn : n = l.length) (w : World) (hI : RowAt rPt w w.heap.size A l) (h64 : ∀ p ∈ l, in64 p.t ∧ in64 p.a) (hlen : n ≤ 100000) :
  Calls Tryz.prog 17 #[.slice A n c] w fun e w' => e = .returned (.string ⟨(trvF l).toArray⟩) ∧ Below w.heap.size w w' := by
 have HI := Lib.hid (fun w' (h' : Below w.heap.size w w') => hI.below h')
 have H64 := Lib.hid h64
 have HN := Lib.hid hn
 clear hI h64
 by_cases h0 : n = 0
 ·have hr : trvF l = [46] := by
   unfold trvF
   rw [if_pos (List.eq_nil_of_length_eq_zero (by omega))]
  rw [hr]
  subst h0
  clear hn hr
  go_enter Tryz.func17, Tryz.ntmps17
  go_wp2
  go_ret
  exact ⟨rfl, Below.refl _ _⟩
 have hn0 : ¬ (n : Int) = 0 := by omega
 have hn0b : ((n : Int) == 0) = false := by simpa using hn0
 have HL0 : Hid (l ≠ []) := Lib.hid (fun e => by rw [e] at hn; exact h0 hn)
 obtain ⟨r, hr⟩ : ∃ r, (⟨(trvF l).toArray⟩ : ByteArray) = r := ⟨_, rfl⟩
 have HR := Lib.hid hr
 rw [hr]
 clear hn hr h0
 go_enter Tryz.func17, Tryz.ntmps17
 go_upto_region 5 with fail
 go_loopw [3, 4] (fun sv iv wr => Below w.heap.size w wr ∧ ∃ (k : Nat) (Y : ByteArray), k ≤ n ∧ iv = .int .i64 k ∧ sv = .string Y ∧ Y.size ≤ 61 * k ∧ Hid (Y.data.toList = trvK l k)) (fun _ i _ => n - (intOf i).toNat)
 case atStart => exact ⟨Below.refl _ _, 0, ⟨#[]⟩, by omega, rfl, rfl, by decide, Lib.hid (by rw [trvK_zero])⟩
 case round =>
  obtain ⟨hb, k, Y, hk, rfl, rfl, hYs, hY⟩ := hrel
  have HBV := Lib.hid hb
  have hbz := hb.size
  clear hb
  by_cases hlt : k < n
  ·obtain ⟨p, hp⟩ : ∃ p, l[k]? = some p := ⟨_, List.getElem?_eq_getElem (by rw [← HN.out]; exact hlt)⟩
   obtain ⟨ad, hA, hadb, ⟨hc1, hc2⟩, hf⟩ := row_Pt (HI.out _ HBV.out) hp
   subst hA
   obtain ⟨z1, z2⟩ := H64.out _ (List.mem_of_getElem? hp)
   have HP := Lib.hid hp
   have HC1 := Lib.hid (And.intro hc1 hc2)
   have hk0 : (0 : Int) ≤ (k : Int) := by omega
   have hkn : (k : Int) < (n : Int) := by omega
   have hadz : ad.block < wr.heap.size := by omega
   have y1 := decW_size z1
   have y2 := decW_size z2
   have h58 : (⟨#[58]⟩ : ByteArray).size = 1 := rfl
   have h44 : (⟨#[44]⟩ : ByteArray).size = 1 := rfl
   clear hp hc1 hc2 hf
   by_cases h0 : k = 0
   ·have hkp : ¬ (0 : Int) < (k : Int) := by omega
    have H0 := Lib.hid h0
    clear h0
    go_upto_region 9 with fail
    (refine wp_region_held_drew (S := (fun v' => v'.cell? (ad.add (k * 2)) = some (.int .i64 p.t) ∧ v'.cell? ⟨(ad.add (k * 2)).block, (ad.add (k * 2)).off + 1, none⟩ = some (.int .i64 p.a))) (by kernel_rfl) ?_ (fun hHeld => ?_))
    ·exact HC1.out
    (refine lib.tk 0 ?_ rfl (by kernel_rfl) (fun _ _ _ h => h) ?_ (by assumption) ?_; rotate_left; (focus (intro w hSw; (try dsimp only at hSw); go_simp; all_goals with_reducible rfl)); (try simp only [lib.hly]))
    (refine lib.tk 1 ?_ rfl (by kernel_rfl) (fun _ _ _ h => h) ?_ (by assumption) ?_; rotate_left; (focus (intro w hSw; (try dsimp only at hSw); go_simp; all_goals with_reducible rfl)); (try simp only [lib.hly]))
    (refine lib.tk 2 ?_ rfl (by kernel_rfl) (fun _ _ _ h => h) ?_ (by assumption) ?_; rotate_left; (focus (intro w hSw; (try dsimp only at hSw); go_simp; all_goals with_reducible rfl)); (try simp only [lib.hly]))
    (refine lib.tk 3 ?_ rfl (by kernel_rfl) (fun _ _ _ h => h) ?_ (by assumption) ?_; rotate_left; (focus (intro w hSw; (try dsimp only at hSw); go_simp; all_goals with_reducible rfl)); (try simp only [lib.hly]))
    (refine lib.tk 4 ?_ rfl (by kernel_rfl) (fun _ _ _ h => h) ?_ (by assumption) ?_; rotate_left; (focus (intro w hSw; (try dsimp only at hSw); go_simp; all_goals with_reducible rfl)); (try simp only [lib.hly]))
    (refine lib.tk 5 ?_ rfl (by kernel_rfl) (fun _ _ _ h => h) ?_ (by assumption) ?_; rotate_left; (focus (intro w hSw; (try dsimp only at hSw); go_simp; all_goals with_reducible rfl)); (try simp only [lib.hly]))
    (refine lib.tk 9 ?_ rfl (by kernel_rfl) (fun _ _ _ h => h) ?_ (by assumption) ?_; rotate_left; (focus (intro w hSw; (try dsimp only at hSw); go_simp; all_goals with_reducible rfl)); (try simp only [lib.hly]))
    (refine lib.tk 10 ?_ rfl (by kernel_rfl) (fun _ _ _ h => h) ?_ (by assumption) ?_; rotate_left; (focus (intro w hSw; (try dsimp only at hSw); go_simp; all_goals with_reducible rfl)); (try simp only [lib.hly]))
    (refine lib.tk 11 ?_ rfl (by kernel_rfl) (fun _ _ _ h => h) ?_ (by assumption) ?_; rotate_left; (focus (intro w hSw; (try dsimp only at hSw); go_simp; all_goals with_reducible rfl)); (try simp only [lib.hly]))
    (refine lib.tk 12 ?_ rfl (by kernel_rfl) (fun _ _ _ h => h) ?_ (by assumption) ?_; rotate_left; (focus (intro w hSw; (try dsimp only at hSw); go_simp; all_goals with_reducible rfl)); (try simp only [lib.hly]))
    (refine lib.tk 13 ?_ rfl (by kernel_rfl) (fun _ _ _ h => h) ?_ (by assumption) ?_; rotate_left; (focus (intro w hSw; (try dsimp only at hSw); go_simp; all_goals with_reducible rfl)); (try simp only [lib.hly]))
    (refine wpAnyH_ready (rs := [6]) (by kernel_rfl) (by simp) ?_; refine AllReadyH.cons rfl (fun K hK => ?_) AllReadyH.nil)
    go_simp
    refine (rdecW_any _ z1 _).mono ?_
    rintro e v2 ⟨rfl, b2⟩
    have HC2 : Hid (v2.cell? (ad.add (k * 2)) = some (.int .i64 p.t) ∧ v2.cell? ⟨(ad.add (k * 2)).block, (ad.add (k * 2)).off + 1, none⟩ = some (.int .i64 p.a)) := Lib.hid ⟨((drew_below b2).cell (by rw [block_of_add]; exact hadz)).trans HC1.out.1, ((drew_below b2).cell (p := ⟨(ad.add (k * 2)).block, (ad.add (k * 2)).off + 1, none⟩) (by show (ad.add (k * 2)).block < _; rw [block_of_add]; exact hadz)).trans HC1.out.2⟩
    have HB2 := Lib.hid (HBV.out.trans ((drew_below b2).mono hbz))
    have hz2 := b2.size
    clear b2
    refine hK.out _ _ (HC2.out) (fun hHeld => ?_)
    clear hK K
    (try simp only [lib.hly])
    (refine lib.tk 7 ?_ rfl (by kernel_rfl) (fun _ _ _ h => h) ?_ (by assumption) ?_; rotate_left; (focus (intro w hSw; (try dsimp only at hSw); go_simp; rw [if_neg]; (try with_reducible rfl); (all_goals (first | omega | (simp only [ByteArray.size_append]; omega))))); (try simp only [lib.hly]))
    (refine lib.tk 8 ?_ rfl (by kernel_rfl) (fun _ _ _ h => h) ?_ (by assumption) ?_; rotate_left; (focus (intro w hSw; (try dsimp only at hSw); go_simp; rw [if_neg]; (try with_reducible rfl); (all_goals (first | omega | (simp only [ByteArray.size_append]; omega))))); (try simp only [lib.hly]))
    (refine wpAnyH_ready (rs := [14]) (by kernel_rfl) (by simp) ?_; refine AllReadyH.cons rfl (fun K hK => ?_) AllReadyH.nil)
    go_simp
    refine (rdecW_any _ z2 _).mono ?_
    rintro e v3 ⟨rfl, b3⟩
    have HC3 : Hid (v3.cell? (ad.add (k * 2)) = some (.int .i64 p.t) ∧ v3.cell? ⟨(ad.add (k * 2)).block, (ad.add (k * 2)).off + 1, none⟩ = some (.int .i64 p.a)) := Lib.hid ⟨(b3.cell (by rw [block_of_add]; exact Nat.lt_of_lt_of_le hadz hz2)).trans HC2.out.1, (b3.cell (p := ⟨(ad.add (k * 2)).block, (ad.add (k * 2)).off + 1, none⟩) (by show (ad.add (k * 2)).block < _; rw [block_of_add]; exact Nat.lt_of_lt_of_le hadz hz2)).trans HC2.out.2⟩
    have HB3 := Lib.hid (HB2.out.trans (b3.mono HB2.out.size))
    clear b3
    refine hK.out _ _ (HC3.out) (fun hHeld => ?_)
    clear hK K
    (try simp only [lib.hly])
    (refine lib.tk 15 ?_ rfl (by kernel_rfl) (fun _ _ _ h => h) ?_ (by assumption) ?_; rotate_left; (focus (intro w hSw; (try dsimp only at hSw); go_simp; rw [if_neg]; (try with_reducible rfl); (all_goals (first | omega | (simp only [ByteArray.size_append]; omega))))); (try simp only [lib.hly]))
    (refine lib.tk 16 ?_ rfl (by kernel_rfl) (fun _ _ _ h => h) ?_ (by assumption) ?_; rotate_left; (focus (intro w hSw; (try dsimp only at hSw); go_simp; all_goals with_reducible rfl)); (try simp only [lib.hly]))
    (refine wpAnyH_done (by kernel_rfl) ?_ _)
    go_wp2
    go_roundw
    case rel => exact ⟨HB3.out, k + 1, _, by omega, by go_num, rfl, by (simp only [ByteArray.size_append]; omega), Lib.hid (by have h0 := H0.out; rw [pt_bytes, hY.out]; subst h0; rw [trvK_zero, trvK_one HP.out]; rfl)⟩
    case measure => simp [intOf]; omega
   ·have hkp : (0 : Int) < (k : Int) := by omega
    have hov : ¬ 9223372036854775807 < Y.size + 1 := by omega
    go_upto_region 9 with fail
    (refine wp_region_held_drew (S := (fun v' => v'.cell? (ad.add (k * 2)) = some (.int .i64 p.t) ∧ v'.cell? ⟨(ad.add (k * 2)).block, (ad.add (k * 2)).off + 1, none⟩ = some (.int .i64 p.a))) (by kernel_rfl) ?_ (fun hHeld => ?_))
    ·exact HC1.out
    (refine lib.tk 0 ?_ rfl (by kernel_rfl) (fun _ _ _ h => h) ?_ (by assumption) ?_; rotate_left; (focus (intro w hSw; (try dsimp only at hSw); go_simp; all_goals with_reducible rfl)); (try simp only [lib.hly]))
    (refine lib.tk 1 ?_ rfl (by kernel_rfl) (fun _ _ _ h => h) ?_ (by assumption) ?_; rotate_left; (focus (intro w hSw; (try dsimp only at hSw); go_simp; all_goals with_reducible rfl)); (try simp only [lib.hly]))
    (refine lib.tk 2 ?_ rfl (by kernel_rfl) (fun _ _ _ h => h) ?_ (by assumption) ?_; rotate_left; (focus (intro w hSw; (try dsimp only at hSw); go_simp; all_goals with_reducible rfl)); (try simp only [lib.hly]))
    (refine lib.tk 3 ?_ rfl (by kernel_rfl) (fun _ _ _ h => h) ?_ (by assumption) ?_; rotate_left; (focus (intro w hSw; (try dsimp only at hSw); go_simp; all_goals with_reducible rfl)); (try simp only [lib.hly]))
    (refine lib.tk 4 ?_ rfl (by kernel_rfl) (fun _ _ _ h => h) ?_ (by assumption) ?_; rotate_left; (focus (intro w hSw; (try dsimp only at hSw); go_simp; all_goals with_reducible rfl)); (try simp only [lib.hly]))
    (refine lib.tk 5 ?_ rfl (by kernel_rfl) (fun _ _ _ h => h) ?_ (by assumption) ?_; rotate_left; (focus (intro w hSw; (try dsimp only at hSw); go_simp; all_goals with_reducible rfl)); (try simp only [lib.hly]))
    (refine lib.tk 9 ?_ rfl (by kernel_rfl) (fun _ _ _ h => h) ?_ (by assumption) ?_; rotate_left; (focus (intro w hSw; (try dsimp only at hSw); go_simp; all_goals with_reducible rfl)); (try simp only [lib.hly]))
    (refine lib.tk 10 ?_ rfl (by kernel_rfl) (fun _ _ _ h => h) ?_ (by assumption) ?_; rotate_left; (focus (intro w hSw; (try dsimp only at hSw); go_simp; all_goals with_reducible rfl)); (try simp only [lib.hly]))
    (refine lib.tk 11 ?_ rfl (by kernel_rfl) (fun _ _ _ h => h) ?_ (by assumption) ?_; rotate_left; (focus (intro w hSw; (try dsimp only at hSw); go_simp; all_goals with_reducible rfl)); (try simp only [lib.hly]))
    (refine lib.tk 12 ?_ rfl (by kernel_rfl) (fun _ _ _ h => h) ?_ (by assumption) ?_; rotate_left; (focus (intro w hSw; (try dsimp only at hSw); go_simp; all_goals with_reducible rfl)); (try simp only [lib.hly]))
    (refine lib.tk 13 ?_ rfl (by kernel_rfl) (fun _ _ _ h => h) ?_ (by assumption) ?_; rotate_left; (focus (intro w hSw; (try dsimp only at hSw); go_simp; all_goals with_reducible rfl)); (try simp only [lib.hly]))
    (refine wpAnyH_ready (rs := [6]) (by kernel_rfl) (by simp) ?_; refine AllReadyH.cons rfl (fun K hK => ?_) AllReadyH.nil)
    go_simp
    refine (rdecW_any _ z1 _).mono ?_
    rintro e v2 ⟨rfl, b2⟩
    have HC2 : Hid (v2.cell? (ad.add (k * 2)) = some (.int .i64 p.t) ∧ v2.cell? ⟨(ad.add (k * 2)).block, (ad.add (k * 2)).off + 1, none⟩ = some (.int .i64 p.a)) := Lib.hid ⟨((drew_below b2).cell (by rw [block_of_add]; exact hadz)).trans HC1.out.1, ((drew_below b2).cell (p := ⟨(ad.add (k * 2)).block, (ad.add (k * 2)).off + 1, none⟩) (by show (ad.add (k * 2)).block < _; rw [block_of_add]; exact hadz)).trans HC1.out.2⟩
    have HB2 := Lib.hid (HBV.out.trans ((drew_below b2).mono hbz))
    have hz2 := b2.size
    clear b2
    refine hK.out _ _ (HC2.out) (fun hHeld => ?_)
    clear hK K
    (try simp only [lib.hly])
    (refine lib.tk 7 ?_ rfl (by kernel_rfl) (fun _ _ _ h => h) ?_ (by assumption) ?_; rotate_left; (focus (intro w hSw; (try dsimp only at hSw); go_simp; rw [if_neg]; (try with_reducible rfl); (all_goals (first | omega | (simp only [ByteArray.size_append]; omega))))); (try simp only [lib.hly]))
    (refine lib.tk 8 ?_ rfl (by kernel_rfl) (fun _ _ _ h => h) ?_ (by assumption) ?_; rotate_left; (focus (intro w hSw; (try dsimp only at hSw); go_simp; rw [if_neg]; (try with_reducible rfl); (all_goals (first | omega | (simp only [ByteArray.size_append]; omega))))); (try simp only [lib.hly]))
    (refine wpAnyH_ready (rs := [14]) (by kernel_rfl) (by simp) ?_; refine AllReadyH.cons rfl (fun K hK => ?_) AllReadyH.nil)
    go_simp
    refine (rdecW_any _ z2 _).mono ?_
    rintro e v3 ⟨rfl, b3⟩
    have HC3 : Hid (v3.cell? (ad.add (k * 2)) = some (.int .i64 p.t) ∧ v3.cell? ⟨(ad.add (k * 2)).block, (ad.add (k * 2)).off + 1, none⟩ = some (.int .i64 p.a)) := Lib.hid ⟨(b3.cell (by rw [block_of_add]; exact Nat.lt_of_lt_of_le hadz hz2)).trans HC2.out.1, (b3.cell (p := ⟨(ad.add (k * 2)).block, (ad.add (k * 2)).off + 1, none⟩) (by show (ad.add (k * 2)).block < _; rw [block_of_add]; exact Nat.lt_of_lt_of_le hadz hz2)).trans HC2.out.2⟩
    have HB3 := Lib.hid (HB2.out.trans (b3.mono HB2.out.size))
    clear b3
    refine hK.out _ _ (HC3.out) (fun hHeld => ?_)
    clear hK K
    (try simp only [lib.hly])
    (refine lib.tk 15 ?_ rfl (by kernel_rfl) (fun _ _ _ h => h) ?_ (by assumption) ?_; rotate_left; (focus (intro w hSw; (try dsimp only at hSw); go_simp; rw [if_neg]; (try with_reducible rfl); (all_goals (first | omega | (simp only [ByteArray.size_append]; omega))))); (try simp only [lib.hly]))
    (refine lib.tk 16 ?_ rfl (by kernel_rfl) (fun _ _ _ h => h) ?_ (by assumption) ?_; rotate_left; (focus (intro w hSw; (try dsimp only at hSw); go_simp; all_goals with_reducible rfl)); (try simp only [lib.hly]))
    (refine wpAnyH_done (by kernel_rfl) ?_ _)
    go_wp2
    go_roundw
    case rel => exact ⟨HB3.out, k + 1, _, by omega, by go_num, rfl, by (simp only [ByteArray.size_append]; omega), Lib.hid (by rw [pt_bytes, trvK_step HP.out h0]; simp [hY.out])⟩
    case measure => simp [intOf]; omega
  ·have hkn : ¬ (k : Int) < (n : Int) := by omega
   have hke : k = n := by omega
   subst hke
   go_wp2
   go_ret
   refine ⟨?_, HBV.out⟩
   rw [← HR.out, ← trvK_all HL0.out, ← HN.out, ← hY.out]
   rfl
end Go.Proofs.YthefooacfcagbaaGreatDoor.spc

/- The reference's texts of lists. -/
namespace Go.Proofs.YthefooacfcagbaaGreatDoor.spc
open Go.RowKit
open lib rd app els typ big gen
open txt (in64 By strV strV_of decW rdecW_any)
set_option linter.unusedVariables false
set_option linter.unusedSimpArgs false
def lstK (l : List Int) (k : Nat) : By := Lib.join ((l.take k).map Lib.itoa) [44]
theorem lstK_one {l : List Int} {z : Int} (h : l[0]? = some z) : lstK l 1 = Lib.itoa z := by
 unfold lstK
 rw [List.take_add_one, h]
 simp [Lib.join_one]
theorem lstK_step {l : List Int} {k : Nat} {z : Int} (h : l[k]? = some z) (hk : k ≠ 0) : lstK l (k + 1) = lstK l k ++ 44 :: Lib.itoa z := by
 unfold lstK
 rw [List.take_add_one, h, Option.toList_some, List.map_append, List.map_cons, List.map_nil]
 refine join_snoc _ fun e => ?_
 have h1 : ((l.take k).map Lib.itoa).length = 0 := by rw [e]; rfl
 have := (List.getElem?_eq_some_iff.1 h).1
 rw [List.length_map, List.length_take] at h1
 omega
theorem lstK_all {l : List Int} (h : l ≠ []) : lstK l l.length = listF l := by
 unfold lstK listF
 rw [if_neg h, List.take_length]
set_option maxRecDepth 20000 in
set_option maxHeartbeats 2000000 in
theorem rflist_any (l : List Int) (A : Option Addr) (n c : Nat) (hn : n = l.length) (w : World) (hI : Ints w w.heap.size A l) (h64 : ∀ z ∈ l, in64 z) (hlen : n ≤ 100000) :
  Calls Tryz.prog 58 #[.slice A n c] w fun e w' => e = .returned (.string ⟨(listF l).toArray⟩) ∧ Below w.heap.size w w' := by
 have HI := Lib.hid (fun w' (h' : Below w.heap.size w w') => hI.below h')
 have H64 := Lib.hid h64
 have HN := Lib.hid hn
 clear hI h64
 by_cases h0 : n = 0
 ·have hr : listF l = [46] := by
   unfold listF
   rw [if_pos (List.eq_nil_of_length_eq_zero (by omega))]
  rw [hr]
  subst h0
  clear hn hr
  go_enter Tryz.func58, Tryz.ntmps58
  go_wp2
  go_ret
  exact ⟨rfl, Below.refl _ _⟩
 have hn0 : ¬ (n : Int) = 0 := by omega
 have hn0b : ((n : Int) == 0) = false := by simpa using hn0
 have HL0 : Hid (l ≠ []) := Lib.hid (fun e => by rw [e] at hn; exact h0 hn)
 obtain ⟨r, hr⟩ : ∃ r, (⟨(listF l).toArray⟩ : ByteArray) = r := ⟨_, rfl⟩
 have HR := Lib.hid hr
 rw [hr]
 obtain ⟨ad0, z0, hA, hadb, hz0, hc0⟩ := (HI.out _ (Below.refl _ _)).at_ (k := 0) (by rw [← hn]; omega)
 have hz64 := H64.out _ (List.mem_of_getElem? hz0)
 have HZ0 := Lib.hid hz0
 have hpos : (0 : Int) < (n : Int) := by omega
 have y0 := decW_size hz64
 have hc0' : w.cell? ad0 = some (.int .i64 z0) := by simpa [Addr.add] using hc0
 subst hA
 clear hn hr h0 hz0 hc0
 go_enter Tryz.func58, Tryz.ntmps58
 go_upto_region 5 with (go_at_call 18; refine (rdecW_any z0 hz64 _).mono ?_; rintro e w1 ⟨rfl, b1⟩)
 have HB1 := Lib.hid b1
 clear b1 hc0'
 go_loopw [3, 4] (fun sv iv wr => Below w.heap.size w wr ∧ ∃ (k : Nat) (Y : ByteArray), 1 ≤ k ∧ k ≤ n ∧ iv = .int .i64 k ∧ sv = .string Y ∧ Y.size ≤ 21 * k ∧ Hid (Y.data.toList = lstK l k)) (fun _ i _ => n - (intOf i).toNat)
 case atStart => exact ⟨HB1.out, 1, decW z0, by omega, by omega, rfl, rfl, by omega, Lib.hid (by rw [lstK_one HZ0.out, decW_list])⟩
 case round =>
  obtain ⟨hb, k, Y, hk1, hk, rfl, rfl, hYs, hY⟩ := hrel
  have HBV := Lib.hid hb
  have hbz := hb.size
  clear hb
  by_cases hlt : k < n
  ·obtain ⟨ad, z, hA, hadb', hz, hcz⟩ := (HI.out _ HBV.out).at_ (k := k) (by rw [← HN.out]; exact hlt)
   obtain rfl := Option.some.inj hA
   have hzz := H64.out _ (List.mem_of_getElem? hz)
   have HZ := Lib.hid hz
   have y1 := decW_size hzz
   have hk0 : (0 : Int) ≤ (k : Int) := by omega
   have hkn : (k : Int) < (n : Int) := by omega
   have h44 : (⟨#[44]⟩ : ByteArray).size = 1 := rfl
   have hov : ¬ 9223372036854775807 < Y.size + 1 := by omega
   have hov2 : ¬ 9223372036854775807 < Y.size + 1 + (decW z).size := by omega
   have HK1 := Lib.hid hk1
   clear hz hA
   go_wp2_with (go_at_call 18; refine (rdecW_any z hzz _).mono ?_; rintro e w2 ⟨rfl, b2⟩)
   go_roundw
   case rel => exact ⟨HBV.out.trans (b2.mono hbz), k + 1, _, by omega, by omega, by go_num, rfl, by (simp only [ByteArray.size_append]; omega), Lib.hid (by rw [lstK_step HZ.out (by have := HK1.out; omega)]; simp [decW_list, hY.out])⟩
   case measure => simp [intOf]; omega
  ·have hkn : ¬ (k : Int) < (n : Int) := by omega
   have hke : k = n := by omega
   subst hke
   go_wp2
   go_ret
   refine ⟨?_, HBV.out⟩
   rw [← HR.out, ← lstK_all HL0.out, ← HN.out, ← hY.out]
   rfl
def numsB (l : List Int) : By := (l.map fun z => 32 :: Lib.itoa z).flatten
theorem numsB_step {l : List Int} {k : Nat} {z : Int} (h : l[k]? = some z) : numsB (l.take (k + 1)) = numsB (l.take k) ++ 32 :: Lib.itoa z := by
 unfold numsB
 rw [List.take_add_one, h, Option.toList_some, List.map_append, List.flatten_append]
 simp
set_option maxRecDepth 20000 in
set_option maxHeartbeats 2000000 in
theorem rfnumbers_any (l : List Int) (A : Option Addr) (n c : Nat) (hn : n = l.length) (w : World) (hI : Ints w w.heap.size A l) (h64 : ∀ z ∈ l, in64 z) (hlen : n ≤ 100000) :
  Calls Tryz.prog 25 #[.slice A n c] w fun e w' => e = .returned (.string ⟨(numsB l).toArray⟩) ∧ Below w.heap.size w w' := by
 have HI := Lib.hid (fun w' (h' : Below w.heap.size w w') => hI.below h')
 have H64 := Lib.hid h64
 have HN := Lib.hid hn
 obtain ⟨r, hr⟩ : ∃ r, (⟨(numsB l).toArray⟩ : ByteArray) = r := ⟨_, rfl⟩
 have HR := Lib.hid hr
 rw [hr]
 clear hI h64 hn hr
 go_enter Tryz.func25, Tryz.ntmps25
 go_upto_region 3 with fail
 go_loopw [3, 4] (fun sv iv wr => Below w.heap.size w wr ∧ ∃ (k : Nat) (Y : ByteArray), k ≤ n ∧ iv = .int .i64 k ∧ sv = .string Y ∧ Y.size ≤ 21 * k ∧ Hid (Y.data.toList = numsB (l.take k))) (fun _ i _ => n - (intOf i).toNat)
 case atStart => exact ⟨Below.refl _ _, 0, ⟨#[]⟩, by omega, rfl, rfl, by decide, Lib.hid (by simp [numsB])⟩
 case round =>
  obtain ⟨hb, k, Y, hk, rfl, rfl, hYs, hY⟩ := hrel
  have HBV := Lib.hid hb
  have hbz := hb.size
  clear hb
  by_cases hlt : k < n
  ·obtain ⟨ad, z, hA, hadb', hz, hcz⟩ := (HI.out _ HBV.out).at_ (k := k) (by rw [← HN.out]; exact hlt)
   subst hA
   have hzz := H64.out _ (List.mem_of_getElem? hz)
   have HZ := Lib.hid hz
   have y1 := decW_size hzz
   have hk0 : (0 : Int) ≤ (k : Int) := by omega
   have hkn : (k : Int) < (n : Int) := by omega
   have h32 : (⟨#[32]⟩ : ByteArray).size = 1 := rfl
   have hov : ¬ 9223372036854775807 < Y.size + 1 := by omega
   have hov2 : ¬ 9223372036854775807 < Y.size + 1 + (decW z).size := by omega
   clear hz
   go_wp2_with (go_at_call 18; refine (rdecW_any z hzz _).mono ?_; rintro e w2 ⟨rfl, b2⟩)
   go_roundw
   case rel => exact ⟨HBV.out.trans (b2.mono hbz), k + 1, _, by omega, by go_num, rfl, by (simp only [ByteArray.size_append]; omega), Lib.hid (by rw [numsB_step HZ.out]; simp [decW_list, hY.out])⟩
   case measure => simp [intOf]; omega
  ·have hkn : ¬ (k : Int) < (n : Int) := by omega
   have hke : k = n := by omega
   subst hke
   go_wp2
   go_ret
   refine ⟨?_, HBV.out⟩
   have hall : l.take k = l := List.take_of_length_le (by rw [← HN.out]; exact Nat.le_refl _)
   have h := hY.out
   rw [hall] at h
   rw [← HR.out, ← h]
   rfl
end Go.Proofs.YthefooacfcagbaaGreatDoor.spc

import Derived.Test.YthefooacfcagbaaGreatDoorStrY
import Derived.Test.YthefooacfcagbaaGreatDoorSpcY
import Derived.Test.YthefooacfcagbaaGreatDoorSpcX
import Derived.Test.YthefooacfcagbaaGreatDoorStrX
import Derived.Test.YthefooacfcagbaaGreatDoorSpcZ
import Derived.Test.YthefooacfcagbaaGreatDoorOffX
/- The reference's texts of stops and travel functions. -/
namespace Go.Proofs.YthefooacfcagbaaGreatDoor.spc
open Go.RowKit
open lib rd app els typ big gen
open txt (in64 By strV strV_of decW rdecW_any)
set_option linter.unusedVariables false
set_option linter.unusedSimpArgs false
theorem exec_ldi {ρ : Operand → Value} {o : Oper} {n : Nat} {ad : Addr} {w : World} {u : Value} (ho : o.op = .load 3 (.tmp n)) (hρ : ρ (.tmp n) = .pointer (some ad)) (hc : w.cell? ad = some u) :
  Sem.run Tryz.prog (execOp ρ o) w = .ok (.value u) w := by
 unfold execOp
 simp only [ho, hρ, Sem.run_bind]
 go_simp
theorem decW_list (n : Int) : (decW n).data.toList = Lib.itoa n := by unfold decW; simp
theorem drew_below {w w' : World} (h : Below w.drew.heap.size w.drew w') : Below w.heap.size w w' := ((Below.refl w.heap.size w).drew).trans h
theorem stop_bytes {p o c v : Int} (h : ¬ (p = -1 ∧ o = 0 ∧ c = 0 ∧ v = 0)) : ((((((decW p ++ ⟨#[58]⟩) ++ decW o) ++ ⟨#[58]⟩) ++ decW c) ++ ⟨#[58]⟩) ++ decW v : ByteArray) = ⟨(stopF ⟨p, o, c, v⟩).toArray⟩ := by
 apply bytes_inj
 unfold stopF
 rw [if_neg h]
 simp [decW_list, stpN, join2, Lib.join_one]
set_option maxRecDepth 20000 in
set_option maxHeartbeats 2000000 in
theorem rfstop_any (s : Stp) (w : World) (h64 : ∀ x ∈ stpN s, in64 x) :
  Calls Tryz.prog 15 #[.agg (StpCells s).toArray] w fun e w' => e = .returned (.string ⟨(stopF s).toArray⟩) ∧ Below w.heap.size w w' := by
 obtain ⟨p, o, c, v⟩ := s
 show Calls Tryz.prog 15 #[.agg #[.int .i64 p, .int .i64 o, .int .i64 c, .int .i64 v]] w _
 have z1 : in64 p := h64 p (by simp [stpN])
 have z2 : in64 o := h64 o (by simp [stpN])
 have z3 : in64 c := h64 c (by simp [stpN])
 have z4 : in64 v := h64 v (by simp [stpN])
 clear h64
 obtain ⟨r, hr⟩ : ∃ r, (⟨(stopF ⟨p, o, c, v⟩).toArray⟩ : ByteArray) = r := ⟨_, rfl⟩
 have HR := Lib.hid hr
 rw [hr]
 clear hr
 by_cases h0 : p = -1 ∧ o = 0 ∧ c = 0 ∧ v = 0
 ·have hr : r = ⟨#[46]⟩ := by
   rw [← HR.out]
   unfold stopF
   rw [if_pos h0]
  subst hr
  obtain ⟨rfl, rfl, rfl, rfl⟩ := h0
  go_enter Tryz.func15, Tryz.ntmps15
  go_wp2
  go_ret
  exact ⟨rfl, (Below.refl _ w).alloc (Nat.le_refl _) _⟩
 ·have HS := Lib.hid (stop_bytes h0)
  obtain ⟨W1, hW1⟩ : ∃ W1, w.alloc (.cells #[.int .i64 p, .int .i64 o, .int .i64 c, .int .i64 v] 41) = W1 := ⟨_, rfl⟩
  have b0 : Blk W1 w.heap.size 41 [.int .i64 p, .int .i64 o, .int .i64 c, .int .i64 v] := by
   rw [← hW1]
   exact Blk.new w _ _
  have HB1 : Hid (Below w.heap.size w W1) := Lib.hid (by rw [← hW1]; exact (Below.refl _ _).alloc (Nat.le_refl _) _)
  have HW1 := Lib.hid hW1
  have HC1 := Lib.hid b0
  have c0 := b0.cell (j := 0) rfl
  have c1 := b0.cell (j := 1) rfl
  have c2 := b0.cell (j := 2) rfl
  have c3 := b0.cell (j := 3) rfl
  have hcs : p ≠ -1 ∨ (p = -1 ∧ o ≠ 0) ∨ (p = -1 ∧ o = 0 ∧ c ≠ 0) ∨ (p = -1 ∧ o = 0 ∧ c = 0 ∧ v ≠ 0) := by
   by_cases e1 : p = -1
   ·by_cases e2 : o = 0
    ·by_cases e3 : c = 0
     ·exact .inr (.inr (.inr ⟨e1, e2, e3, fun e => h0 ⟨e1, e2, e3, e⟩⟩))
     ·exact .inr (.inr (.inl ⟨e1, e2, e3⟩))
    ·exact .inr (.inl ⟨e1, e2⟩)
   ·exact .inl e1
  clear h0
  clear hW1 b0
  go_enter Tryz.func15, Tryz.ntmps15
  go_upto_region 1 with fail
  rw [HW1.out]
  go_cut [5] (fun u wx => u = .bool false ∧ W1 = wx)
  case first =>
   clear HC1 HS HR
   rcases hcs with hq | ⟨rfl, hq⟩ | ⟨rfl, rfl, hq⟩ | ⟨rfl, rfl, rfl, hq⟩
   all_goals (
   have hqb := beq_eq_false_iff_ne.2 hq
   go_wp2
   go_meet
   exact ⟨rfl, rfl⟩)
  obtain ⟨hu, rfl⟩ := hcut
  subst hu
  clear hcs c0 c1 c2 c3
  have y1 := decW_size z1
  have y2 := decW_size z2
  have y3 := decW_size z3
  have y4 := decW_size z4
  have h58 : (⟨#[58]⟩ : ByteArray).size = 1 := rfl
  go_upto_region 3 with fail
  (refine wp_region_held_drew (S := (fun v' => Blk v' w.heap.size 41 [.int .i64 p, .int .i64 o, .int .i64 c, .int .i64 v])) (by kernel_rfl) ?_ (fun hHeld => ?_))
  ·exact HC1.out
  (refine lib.tk 0 rfl ?_; (try simp only [lib.hly]))
  (refine lib.tk 1 rfl ?_ (fun _ hSw => exec_ldi rfl rfl (hSw.cell (j := 0) rfl)); (try simp only [lib.hly]))
  (refine lib.tk 4 rfl ?_; (try simp only [lib.hly]))
  (refine lib.tk 5 rfl ?_ (fun _ hSw => exec_ldi rfl rfl (hSw.cell (j := 1) rfl)); (try simp only [lib.hly]))
  (refine lib.tk 9 rfl ?_; (try simp only [lib.hly]))
  (refine lib.tk 10 rfl ?_ (fun _ hSw => exec_ldi rfl rfl (hSw.cell (j := 2) rfl)); (try simp only [lib.hly]))
  (refine lib.tk 14 rfl ?_; (try simp only [lib.hly]))
  (refine lib.tk 15 rfl ?_ (fun _ hSw => exec_ldi rfl rfl (hSw.cell (j := 3) rfl)); (try simp only [lib.hly]))
  (refine lib.rk 2 rfl fun K hK => ?_)
  go_simp
  refine (rdecW_any _ z1 _).mono ?_
  rintro e v2 ⟨rfl, b2⟩
  have HC2 := Lib.hid (HC1.out.below (drew_below b2))
  have HB2 := Lib.hid (HB1.out.trans ((drew_below b2).mono HB1.out.size))
  clear b2
  refine hK.out _ _ (HC2.out) (fun hHeld => ?_)
  clear hK K
  (try simp only [lib.hly])
  (refine lib.tk (v := ?_) 3 rfl ?_ ?_; rotate_left 2; (focus (intro w hSw; (try dsimp only at hSw); go_simp; rw [if_neg]; (try with_reducible rfl); (all_goals (first | omega | (simp only [ByteArray.size_append]; omega))))); (try simp only [lib.hly]))
  (refine lib.rk 6 rfl fun K hK => ?_)
  go_simp
  refine (rdecW_any _ z2 _).mono ?_
  rintro e v3 ⟨rfl, b3⟩
  have HC3 := Lib.hid (HC2.out.below b3)
  have HB3 := Lib.hid (HB2.out.trans (b3.mono HB2.out.size))
  clear b3
  refine hK.out _ _ (HC3.out) (fun hHeld => ?_)
  clear hK K
  (try simp only [lib.hly])
  (refine lib.tk (v := ?_) 7 rfl ?_ ?_; rotate_left 2; (focus (intro w hSw; (try dsimp only at hSw); go_simp; rw [if_neg]; (try with_reducible rfl); (all_goals (first | omega | (simp only [ByteArray.size_append]; omega))))); (try simp only [lib.hly]))
  (refine lib.tk (v := ?_) 8 rfl ?_ ?_; rotate_left 2; (focus (intro w hSw; (try dsimp only at hSw); go_simp; rw [if_neg]; (try with_reducible rfl); (all_goals (first | omega | (simp only [ByteArray.size_append]; omega))))); (try simp only [lib.hly]))
  (refine lib.rk 11 rfl fun K hK => ?_)
  go_simp
  refine (rdecW_any _ z3 _).mono ?_
  rintro e v4 ⟨rfl, b4⟩
  have HC4 := Lib.hid (HC3.out.below b4)
  have HB4 := Lib.hid (HB3.out.trans (b4.mono HB3.out.size))
  clear b4
  refine hK.out _ _ (HC4.out) (fun hHeld => ?_)
  clear hK K
  (try simp only [lib.hly])
  (refine lib.tk (v := ?_) 12 rfl ?_ ?_; rotate_left 2; (focus (intro w hSw; (try dsimp only at hSw); go_simp; rw [if_neg]; (try with_reducible rfl); (all_goals (first | omega | (simp only [ByteArray.size_append]; omega))))); (try simp only [lib.hly]))
  (refine lib.tk (v := ?_) 13 rfl ?_ ?_; rotate_left 2; (focus (intro w hSw; (try dsimp only at hSw); go_simp; rw [if_neg]; (try with_reducible rfl); (all_goals (first | omega | (simp only [ByteArray.size_append]; omega))))); (try simp only [lib.hly]))
  (refine lib.rk 16 rfl fun K hK => ?_)
  go_simp
  refine (rdecW_any _ z4 _).mono ?_
  rintro e v5 ⟨rfl, b5⟩
  have HC5 := Lib.hid (HC4.out.below b5)
  have HB5 := Lib.hid (HB4.out.trans (b5.mono HB4.out.size))
  clear b5
  refine hK.out _ _ (HC5.out) (fun hHeld => ?_)
  clear hK K
  (try simp only [lib.hly])
  (refine lib.tk (v := ?_) 17 rfl ?_ ?_; rotate_left 2; (focus (intro w hSw; (try dsimp only at hSw); go_simp; rw [if_neg]; (try with_reducible rfl); (all_goals (first | omega | (simp only [ByteArray.size_append]; omega))))); (try simp only [lib.hly]))
  (refine lib.tk 18 rfl ?_; (try simp only [lib.hly]))
  (refine wpAnyH_done (by kernel_rfl) ?_ _)
  go_wp2
  go_ret
  exact ⟨by rw [← HR.out, ← HS.out]; rfl, HB5.out⟩
end Go.Proofs.YthefooacfcagbaaGreatDoor.spc

/- The reference's parts of a text, and the numbers of words. -/
namespace Go.Proofs.YthefooacfcagbaaGreatDoor.spc
open Go.RowKit
open lib rd app els typ
open txt (in64 By strV strV_of elem_str push_one Strs numL rnumber_any num_dec dec_num at_data ext_data)
set_option linter.unusedVariables false
set_option linter.unusedSimpArgs false
def glue (cur : By) : List By → List By
 | [] => [cur]
 | p :: ps => (cur ++ p) :: ps
theorem glue_nil {L : List By} (h : L ≠ []) : glue [] L = L := by
 cases L with
 | nil => exact absurd rfl h
 | cons p ps => rfl
theorem glue_step {c x : UInt8} (h : x ≠ c) (cur r : By) : glue cur (splt c (x :: r)) = glue (cur ++ [x]) (splt c r) := by
 rw [splt, if_neg h]
 cases hs : splt c r with
 | nil => exact absurd hs (splt_ne c r)
 | cons p ps => simp [glue]
theorem glue_hit (c : UInt8) (cur r : By) : glue cur (splt c (c :: r)) = cur :: splt c r := by
 rw [splt, if_pos rfl]
 simp [glue]
def PSt (c : UInt8) (S : By) (L : List By) (f j : Nat) : Prop := (j ≤ S.length ∧ splt c S = L ++ glue ((S.drop f).take (j - f)) (splt c (S.drop j))) ∨ (j = S.length + 1 ∧ splt c S = L)
theorem PSt.start (c : UInt8) (S : By) : PSt c S [] 0 0 := .inl ⟨Nat.zero_le _, by rw [List.drop_zero, Nat.sub_zero, List.take_zero, glue_nil (splt_ne c S)]; rfl⟩
theorem drop_at' {S : By} {j : Nat} {x : UInt8} (h : S[j]? = some x) : S.drop j = x :: S.drop (j + 1) := by
 obtain ⟨h1, h2⟩ := List.getElem?_eq_some_iff.1 h
 rw [← List.getElem_cons_drop h1, h2]
theorem PSt.pass {c x : UInt8} {S : By} {L : List By} {f j : Nat} (h : PSt c S L f j) (hx : S[j]? = some x) (hne : x ≠ c) (hf : f ≤ j) : PSt c S L f (j + 1) := by
 have hj := (List.getElem?_eq_some_iff.1 hx).1
 rcases h with ⟨h1, h2⟩ | ⟨h1, h2⟩
 ·refine .inl ⟨hj, ?_⟩
  rw [h2, drop_at' hx, glue_step hne, show j + 1 - f = (j - f) + 1 by omega, List.take_add_one, List.getElem?_drop, show f + (j - f) = j by omega, hx]
  rfl
 ·omega
theorem PSt.hit {c : UInt8} {S : By} {L : List By} {f j : Nat} (h : PSt c S L f j) (hx : S[j]? = some c) : PSt c S (L ++ [(S.drop f).take (j - f)]) (j + 1) (j + 1) := by
 have hj := (List.getElem?_eq_some_iff.1 hx).1
 rcases h with ⟨h1, h2⟩ | ⟨h1, h2⟩
 ·refine .inl ⟨hj, ?_⟩
  rw [h2, drop_at' hx, glue_hit, Nat.sub_self, List.take_zero, glue_nil (splt_ne c _), List.append_assoc]
  rfl
 ·omega
theorem PSt.last {c : UInt8} {S : By} {L : List By} {f j : Nat} (h : PSt c S L f j) (hj : j = S.length) : PSt c S (L ++ [(S.drop f).take (j - f)]) (j + 1) (j + 1) := by
 rcases h with ⟨h1, h2⟩ | ⟨h1, h2⟩
 ·refine .inr ⟨by omega, ?_⟩
  rw [h2, show S.drop j = [] from List.drop_of_length_le (by omega), splt]
  simp [glue]
 ·omega
theorem PSt.done {c : UInt8} {S : By} {L : List By} {f j : Nat} (h : PSt c S L f j) (hj : j = S.length + 1) : splt c S = L := by
 rcases h with ⟨h1, h2⟩ | ⟨h1, h2⟩
 ·omega
 ·exact h2
def PtOut (L : List By) (w : World) (e : Ending) (w' : World) : Prop := ∃ (A : Option Addr) (n d : Nat), n = L.length ∧ e = .returned (.slice A n d) ∧ w'.ownsRow w.heap.size 9 1 (.slice A n d) n (L.map strV) ∧ Below w.heap.size w w'
set_option maxRecDepth 20000 in
set_option maxHeartbeats 2000000 in
theorem rparts_any (s : ByteArray) (c : UInt8) (hm : s.size ≤ 1000000) (w : World) :
  Calls Tryz.prog 35 #[.string s, .int .u8 (c.toNat : Int)] w (PtOut (splt c s.data.toList) w) := by
 obtain ⟨S, hS⟩ : ∃ S, s.data.toList = S := ⟨_, rfl⟩
 have HS := Lib.hid hS
 have HLen : Hid (S.length = s.size) := Lib.hid (by rw [← hS]; simp)
 have H0 : Hid (PSt c S [] 0 0) := Lib.hid (PSt.start c S)
 rw [hS]
 clear hS
 go_enter Tryz.func35, Tryz.ntmps35
 go_upto_region 4 with fail
 go_loopw [5, 6, 7] (fun o fv i wr => Below w.heap.size w wr ∧ ∃ (j f : Nat) (L : List By) (A : Option Addr) (n d : Nat), f ≤ j ∧ j ≤ s.size + 1 ∧ fv = .int .i64 f ∧ i = .int .i64 j ∧ o = .slice A n d ∧ Hid (n = L.length) ∧ n ≤ j ∧ Hid (PSt c S L f j) ∧ Hid (wr.ownsRow w.heap.size 9 1 (.slice A n d) n (L.map strV))) (fun _ _ i _ => s.size + 1 - (intOf i).toNat)
 case atStart => exact ⟨Below.refl _ _, 0, 0, [], none, 0, 0, by omega, by omega, rfl, rfl, rfl, Lib.hid rfl, by omega, H0, Lib.hid (World.ownsRow_nil _ _ _ _)⟩
 case round =>
  obtain ⟨hb, j, f, L, A, n, d, hfj, hj, rfl, rfl, rfl, hn, hnj, HP, hrow⟩ := hrel
  clear H0
  have hbz := hb.size
  have hrow2 := hrow.out
  have HB := Lib.hid hb
  clear hrow hb
  have hf0 : (0 : Int) ≤ (f : Int) := by omega
  have hfj' : (f : Int) ≤ (j : Int) := by omega
  by_cases h1 : j = s.size + 1
  ·have hle : ¬ (j : Int) ≤ (s.size : Int) := by omega
   have HE : Hid (splt c S = L) := Lib.hid (HP.out.done (by rw [HLen.out]; exact h1))
   have HN := hn
   clear h1 hfj' hfj hj
   go_wp2
   go_ret
   exact ⟨A, n, d, by rw [HE.out]; exact HN.out, rfl, by rw [HE.out]; exact hrow2, HB.out⟩
  have hle : (j : Int) ≤ (s.size : Int) := by omega
  by_cases h2 : j = s.size
  ·have h2i : ((j : Int) == (s.size : Int)) = true := beq_iff_eq.2 (by omega)
   have HP2 := Lib.hid (HP.out.last (by rw [HLen.out]; exact h2))
   have HX := Lib.hid (ext_data s f j)
   clear h1 h2 HP
   go_wp2_with (at_builtin; refine push_one elem_str rfl _ _ rfl w.heap.size _ n (L.map strV) rfl hrow2 _ rfl rfl (by omega) (by omega) ?_; intro g' c' w3 hown3 hb4)
   go_roundw
   case rel =>
    skip
    refine ⟨HB.out.trans hb4, j + 1, j + 1, L ++ [(S.drop f).take (j - f)], some ⟨g', 0, none⟩, n + 1, c', by omega, by omega, by go_num, by go_num, rfl, Lib.hid (by rw [hn.out]; simp), by omega, HP2, Lib.hid ?_⟩
    have ee := strV_of (s.extract f j)
    rw [HX.out, HS.out] at ee
    rw [List.map_append]
    show w3.ownsRow _ _ 1 _ (n + 1) (L.map strV ++ [strV ((S.drop f).take (j - f))])
    rw [← ee]
    exact hown3
   case measure => simp [intOf]; omega
  have h2i : ((j : Int) == (s.size : Int)) = false := beq_eq_false_iff_ne.2 (by omega)
  have hjs : j < s.size := by omega
  obtain ⟨x, hx⟩ : ∃ x, s[j] = x := ⟨_, rfl⟩
  have HXX : Hid (S[j]? = some x) := Lib.hid (by rw [← HS.out, at_data s j hjs, hx])
  have hj0 : (0 : Int) ≤ (j : Int) := by omega
  have hjsi : (j : Int) < (s.size : Int) := by omega
  by_cases hxc : x = c
  ·have hxb : ((x.toNat : Int) == (c.toNat : Int)) = true := by rw [hxc]; exact beq_iff_eq.2 rfl
   have HP2 := Lib.hid (HP.out.hit (by rw [HXX.out, hxc]))
   have HX := Lib.hid (ext_data s f j)
   clear h1 h2 HP hxc
   go_wp2_with (at_builtin; refine push_one elem_str rfl _ _ rfl w.heap.size _ n (L.map strV) rfl hrow2 _ rfl rfl (by omega) (by omega) ?_; intro g' c' w3 hown3 hb4)
   go_roundw
   case rel =>
    skip
    refine ⟨HB.out.trans hb4, j + 1, j + 1, L ++ [(S.drop f).take (j - f)], some ⟨g', 0, none⟩, n + 1, c', by omega, by omega, by go_num, by go_num, rfl, Lib.hid (by rw [hn.out]; simp), by omega, HP2, Lib.hid ?_⟩
    have ee := strV_of (s.extract f j)
    rw [HX.out, HS.out] at ee
    rw [List.map_append]
    show w3.ownsRow _ _ 1 _ (n + 1) (L.map strV ++ [strV ((S.drop f).take (j - f))])
    rw [← ee]
    exact hown3
   case measure => simp [intOf]; omega
  ·have hxb : ((x.toNat : Int) == (c.toNat : Int)) = false := beq_eq_false_iff_ne.2 (fun e => hxc (UInt8.toNat_inj.1 (by omega)))
   have HP2 := Lib.hid (HP.out.pass HXX.out hxc hfj)
   clear h1 h2 HP hxc
   go_wp2
   go_roundw
   case rel => exact ⟨HB.out, j + 1, f, L, A, n, d, by omega, by omega, rfl, by go_num, rfl, hn, by omega, HP2, Lib.hid hrow2⟩
   case measure => simp [intOf]; omega
end Go.Proofs.YthefooacfcagbaaGreatDoor.spc

/- The reference's numbers of words, lists and stops. -/
namespace Go.Proofs.YthefooacfcagbaaGreatDoor.spc
open Go.RowKit
open lib rd app els typ big gen
open txt (in64 By strV strV_of elem_str push_one Strs numL rnumber_any num_dec dec_num at_data ext_data)
set_option linter.unusedVariables false
set_option linter.unusedSimpArgs false
theorem readF_num0 : ∀ {L : List By} {k : Nat} {y : By}, L[k]? = some y → (numL y).2 ≠ 0 → readF L = none
 | [], _, _, h, _ => by simp at h
 | x :: r, 0, y, h, hy => by
  obtain rfl := Option.some.inj h
  unfold readF
  rw [if_neg hy]
 | x :: r, k + 1, y, h, hy => by
  unfold readF
  rw [readF_num0 (L := r) (k := k) (by simpa using h) hy]
  split <;> rfl
def InOut (o : Option (List Int)) (w : World) (e : Ending) (w' : World) : Prop := Below w.heap.size w w' ∧ ((∃ (l : List Int) (A : Option Addr) (d : Nat), o = some l ∧ e = .returned (.tuple #[.slice A l.length d, .bool true]) ∧ w'.ownsRow w.heap.size 3 1 (.slice A l.length d) l.length (l.map (.int .i64))) ∨ (o = none ∧ e = .returned (.tuple #[.slice none 0 0, .bool false])))
set_option maxRecDepth 20000 in
set_option maxHeartbeats 2000000 in
theorem rints_any (L : List By) (A : Option Addr) (n d : Nat) (hn : n = L.length) (w : World) (hI : Reads w w.heap.size 1 A n (L.map strV)) (hsz : ∀ y ∈ L, y.length ≤ 1000000) (hlen : n ≤ 1000001) :
  Calls Tryz.prog 105 #[.slice A n d] w (InOut (readF L) w) := by
 have HI := Lib.hid (fun v (hv : Below w.heap.size w v) => hI.below hv)
 have HN := Lib.hid hn
 have HSZ := Lib.hid hsz
 obtain ⟨R, hR⟩ : ∃ R, readF L = R := ⟨_, rfl⟩
 have HR := Lib.hid hR
 rw [hR]
 clear hI hn hsz hR
 go_enter Tryz.func105, Tryz.ntmps105
 go_upto_region 3 with fail
 go_loopw [4, 5, 6, 7] (fun ov i _ _ wr => Below w.heap.size w wr ∧ ∃ (k c : Nat) (B : Option Addr) (l : List Int), k ≤ n ∧ i = .int .i64 k ∧ ov = .slice B k c ∧ l.length = k ∧ Hid (L.take k = l.map Lib.itoa ∧ ∀ y ∈ l, in64 y) ∧ Hid (wr.ownsRow w.heap.size 3 1 (.slice B k c) k (l.map (.int .i64)))) (fun _ i _ _ _ => n - (intOf i).toNat)
 case atStart => exact ⟨Below.refl _ _, 0, 0, none, [], by omega, rfl, rfl, rfl, Lib.hid ⟨rfl, fun y hy => by cases hy⟩, Lib.hid (World.ownsRow_nil _ _ _ _)⟩
 case round =>
  obtain ⟨hb, k, c, B, l, hk, rfl, rfl, hl, hpre, hrow⟩ := hrel
  have HBV := Lib.hid hb
  have hbz := hb.size
  by_cases hlt : k < n
  ·obtain ⟨ad, u, hA, hadb, hu, hcell⟩ := (HI.out _ hb).at_ hlt
   obtain ⟨y, hy⟩ : ∃ y, L[k]? = some y := ⟨_, List.getElem?_eq_getElem (by rw [← HN.out]; exact hlt)⟩
   rw [List.getElem?_map, hy] at hu
   obtain rfl := Option.some.inj hu
   subst hA
   have hcell2 : wr.cell? (ad.add k) = some (.string ⟨y.toArray⟩) := hcell
   have HY := Lib.hid hy
   have hyl := HSZ.out y (List.mem_of_getElem? hy)
   have hk0 : (0 : Int) ≤ (k : Int) := by omega
   have hkn : (k : Int) < (n : Int) := by omega
   have hnu := rnumber_any ⟨y.toArray⟩ (by show y.toArray.size ≤ _; rw [List.size_toArray]; omega) wr
   rw [show (⟨y.toArray⟩ : ByteArray).data.toList = y by simp] at hnu
   obtain ⟨⟨z, q⟩, hq⟩ : ∃ p, numL y = p := ⟨_, rfl⟩
   rw [hq] at hnu
   have HQ := Lib.hid hq
   have HNU := Lib.hid hnu
   clear hcell hy hb hnu hq
   go_upto_region 6 with (go_at_call 154; refine HNU.out.mono ?_; rintro e w2 ⟨rfl, rfl⟩)
   by_cases h0 : q = 0
   ·subst h0
    have h0b : ((0 : Int) != 0) = false := rfl
    have HD := Lib.hid (dec_num HQ.out)
    have hrow2 := hrow.out
    go_wp2_with (at_builtin; refine push_int rfl _ _ rfl w.heap.size _ k l rfl hrow2 z rfl (by omega) (by omega) ?_; intro g' c' w3 hown3 hb4 hz4)
    go_roundw
    case rel =>
     refine ⟨HBV.out.trans hb4, k + 1, c', g', l ++ [z], by omega, by go_num, rfl, by simp [hl], Lib.hid ⟨?_, ?_⟩, Lib.hid hown3⟩
     ·rw [List.take_add_one, HY.out, hpre.out.1, HD.out.1, List.map_append]
      rfl
     ·intro u hu
      rcases List.mem_append.1 hu with hu | hu
      ·exact hpre.out.2 u hu
      ·rw [List.mem_singleton] at hu
       subst hu
       have := (numL_in y).1
       rw [HQ.out] at this
       exact this
    case measure => simp [intOf]; omega
   ·have h0b : (q != 0) = true := by simpa using h0
    have HE : Hid (R = none) := Lib.hid (by rw [← HR.out, readF_num0 HY.out (by rw [HQ.out]; exact h0)])
    go_wp2
    go_ret2
    exact ⟨HBV.out, .inr ⟨HE.out, rfl⟩⟩
  ·have hkn : ¬ (k : Int) < (n : Int) := by omega
   have hke : k = n := by omega
   subst hke
   have HF : Hid (R = some l) := Lib.hid (by
    have h1 := hpre.out.1
    rw [List.take_of_length_le (by rw [← HN.out]; exact Nat.le_refl _)] at h1
    rw [← HR.out, h1]
    exact readF_dec hpre.out.2)
   have hl' := Lib.hid hl
   clear hl hb
   go_wp2
   go_ret2
   exact ⟨HBV.out, .inl ⟨l, B, c, HF.out, by rw [hl'.out]; rfl, by rw [hl'.out]; exact hrow.out⟩⟩
set_option maxRecDepth 20000 in
theorem rnums_any (x : By) (c : UInt8) (hx : x.length ≤ 1000000) (w : World) (A : Option Addr) (n d : Nat) (v : World) (hn : n = (splt c x).length) (ho : v.ownsRow w.heap.size 9 1 (.slice A n d) n ((splt c x).map strV)) (hb : Below w.heap.size w v) :
  Calls Tryz.prog 105 #[.slice A n d] v fun e w' => InOut (readF (splt c x)) w e w' := by
 have h1 := splt_len c x
 have h2 := List.count_le_length (a := c) (l := x)
 refine (rints_any (splt c x) A n d hn v (Reads.of_own ho) (fun y hy => by have := h1.2 y hy; omega) (by omega)).mono ?_
 rintro e w' ⟨hb2, h⟩
 refine ⟨hb.trans (hb2.mono hb.size), ?_⟩
 rcases h with ⟨l, A', d', h3, h4, h5⟩ | h
 ·exact .inl ⟨l, A', d', h3, h4, own_less h5 hb.size⟩
 ·exact .inr h
theorem arr_list (x : By) : (⟨x.toArray⟩ : ByteArray).data.toList = x := by simp
theorem arr_sz (x : By) : (⟨x.toArray⟩ : ByteArray).size = x.length := by simp [ByteArray.size]
set_option maxRecDepth 20000 in
theorem rpartsL_any (x : By) (c : UInt8) (hx : x.length ≤ 1000000) (w : World) :
  Calls Tryz.prog 35 #[.string ⟨x.toArray⟩, .int .u8 (c.toNat : Int)] w (PtOut (splt c x) w) := by
 have h := rparts_any ⟨x.toArray⟩ c (by rw [arr_sz]; exact hx) w
 rw [arr_list] at h
 exact h
set_option maxRecDepth 20000 in
set_option maxHeartbeats 1000000 in
theorem runlist_any (x : By) (hx : x.length ≤ 1000000) (w : World) :
  Calls Tryz.prog 107 #[.string ⟨x.toArray⟩] w (InOut (listR x) w) := by
 by_cases h : x = [46]
 ·subst h
  go_enter Tryz.func107, Tryz.ntmps107
  go_wp2
  go_ret2
  exact ⟨Below.refl _ _, .inl ⟨[], none, 0, rfl, rfl, World.ownsRow_nil _ _ _ _⟩⟩
 ·have hxb : (x == [46]) = false := beq_eq_false_iff_ne.2 h
  have HE : Hid (listR x = readF (splt 44 x)) := Lib.hid (by unfold listR; rw [if_neg h])
  have HP := Lib.hid (rpartsL_any x 44 hx w)
  have HQ := Lib.hid (fun A n d v h1 h2 h3 => rnums_any x 44 hx w A n d v h1 h2 h3)
  obtain ⟨R, hR⟩ : ∃ R, listR x = R := ⟨_, rfl⟩
  rw [hR] at HE ⊢
  clear h hR
  go_enter Tryz.func107, Tryz.ntmps107
  go_wp2_with (first
   | (go_at_call 35; refine HP.out.mono ?_; rintro e w1 ⟨A, n, d, hn, rfl, ho, hb⟩; have HO := Lib.hid (And.intro hn (And.intro ho hb)); clear hn ho hb)
   | (go_at_call 105; refine (HQ.out A n d _ HO.out.1 HO.out.2.1 HO.out.2.2).mono ?_; rintro e w2 ⟨hb2, ⟨l, A2, d2, hl, rfl, hown⟩ | ⟨hl, rfl⟩⟩))
  ·go_ret2
   exact ⟨hb2, .inl ⟨l, A2, d2, by rw [HE.out, hl], rfl, hown⟩⟩
  ·go_ret2
   exact ⟨hb2, .inr ⟨by rw [HE.out, hl], rfl⟩⟩
end Go.Proofs.YthefooacfcagbaaGreatDoor.spc

/- The reference's stops and points, read. -/
namespace Go.Proofs.YthefooacfcagbaaGreatDoor.spc
open Go.RowKit
open lib rd app els typ big gen
open txt (in64 By strV strV_of elem_str push_one Strs numL)
set_option linter.unusedVariables false
set_option linter.unusedSimpArgs false
theorem stopR_of {x : By} (hx : x ≠ [46]) {o : Option (List Int)} (h : readF (splt 58 x) = o) : stopR x = o.bind (fourR x) := by unfold stopR; rw [if_neg hx, h]
theorem fourR_len {x : By} {l : List Int} (hl : l.length ≠ 4) : fourR x l = none := by
 unfold fourR
 split
 ·exact absurd rfl hl
 ·rfl
def StOut (o : Option Stp) (w : World) (e : Ending) (w' : World) : Prop := Below w.heap.size w w' ∧ ((∃ s, o = some s ∧ e = .returned (.tuple #[.agg (StpCells s).toArray, .bool true])) ∨ (o = none ∧ ∃ s, e = .returned (.tuple #[.agg (StpCells s).toArray, .bool false])))
set_option maxRecDepth 20000 in
set_option maxHeartbeats 2000000 in
theorem runstop_any (x : By) (hx : x.length ≤ 1000000) (w : World) :
  Calls Tryz.prog 108 #[.string ⟨x.toArray⟩] w (StOut (stopR x) w) := by
 obtain ⟨W0, hW0⟩ : ∃ W0, w.alloc (.cells #[.int .i64 0, .int .i64 0, .int .i64 0, .int .i64 0] 41) = W0 := ⟨_, rfl⟩
 have HW0 := Lib.hid hW0
 have HB0 : Hid (Blk W0 w.heap.size 41 (StpCells zStp)) := Lib.hid (by rw [← hW0]; exact Blk.new w _ _)
 have HL0 : Hid (Below w.heap.size w W0) := Lib.hid (by rw [← hW0]; exact (Below.refl _ _).alloc (Nat.le_refl _) _)
 obtain ⟨R, hR⟩ : ∃ R, stopR x = R := ⟨_, rfl⟩
 have HR := Lib.hid hR
 rw [hR]
 clear hR hW0
 go_enter Tryz.func108, Tryz.ntmps108
 go_upto_region 1 with fail
 rw [HW0.out]
 clear HW0
 by_cases h : x = [46]
 ·subst h
  go_wp2_with ((with_reducible refine wpList_storeL sStp rfl _ _ rfl w.heap.size (StpCells zStp) (StpCells noStp) ?_ ?_ ?_ ?_ ?_ (stp_one _) ?_); exact rfl; exact rfl; exact HB0.out; exact rfl; exact rfl; intro wz k1 k2 k3 k4; have K := lib.h4 k1 k2 k3 k4; clear k1 k2 k3 k4)
  refine bodyPost_ret (v := .tuple #[.agg (StpCells noStp).toArray, .bool true]) (big.res_cell_tmp sStp Tryz.results108 rfl rfl (Blk.cells K.out.1) rfl) rfl ?_
  exact ⟨HL0.out.trans K.out.2.2.2, .inl ⟨noStp, HR.out.symm, rfl⟩⟩
 have hxb : (x == [46]) = false := beq_eq_false_iff_ne.2 h
 have HX := Lib.hid h
 have HP := Lib.hid (rpartsL_any x 58 hx W0)
 have HQ := Lib.hid (fun A n d v h1 h2 h3 => rnums_any x 58 hx W0 A n d v h1 h2 h3)
 clear h
 go_upto_region 4 with (first
  | (go_at_call 35; refine HP.out.mono ?_; rintro e w1 ⟨A, n, d, hn, rfl, ho, hb⟩; have HO := Lib.hid (And.intro hn (And.intro ho hb)); clear hn ho hb)
  | (go_at_call 105; refine (HQ.out A n d _ HO.out.1 HO.out.2.1 HO.out.2.2).mono ?_; rintro e w2 ⟨hb2, ⟨l, A2, d2, hl, rfl, hown⟩ | ⟨hl, rfl⟩⟩))
 rotate_left
 ·have HE : Hid (none = R) := Lib.hid ((stopR_of HX.out hl).symm.trans HR.out)
  have HB2 := Lib.hid (HB0.out.below hb2)
  have HL2 := Lib.hid (HL0.out.trans (hb2.mono HL0.out.size))
  clear hb2 hl HP HQ HO
  go_wp2_with ((with_reducible refine wpList_storeL sStp rfl _ _ rfl w.heap.size (StpCells zStp) (StpCells zStp) ?_ ?_ ?_ ?_ ?_ (stp_one _) ?_); exact rfl; exact rfl; exact HB2.out; exact rfl; exact rfl; intro wz k1 k2 k3 k4; have K := lib.h4 k1 k2 k3 k4; clear k1 k2 k3 k4)
  refine bodyPost_ret (v := .tuple #[.agg (StpCells zStp).toArray, .bool false]) (big.res_cell_tmp sStp Tryz.results108 rfl rfl (Blk.cells K.out.1) rfl) rfl ?_
  exact ⟨HL2.out.trans K.out.2.2.2, .inr ⟨HE.out.symm, zStp, rfl⟩⟩
 have HE := Lib.hid ((stopR_of HX.out hl).symm.trans HR.out)
 have HL := Lib.hid hl
 have HB2 := Lib.hid (HB0.out.below hb2)
 have HL2 := Lib.hid (HL0.out.trans (hb2.mono HL0.out.size))
 have HOW := Lib.hid hown
 have hz0 := HB0.out.lt
 have hz2 := hb2.size
 clear hb2 hl hown HP HQ HO HR
 obtain ⟨n, hn⟩ : ∃ n, l.length = n := ⟨_, rfl⟩
 have HN := Lib.hid hn
 rw [hn] at HOW ⊢
 clear hn
 by_cases h4 : n = 4
 rotate_left
 ·have h4i : ¬ (n : Int) = 4 := by omega
  have h4b : ((n : Int) != 4) = true := by simpa using h4i
  have HE2 : Hid (R = none) := Lib.hid (by rw [← HE.out]; exact fourR_len (by rw [HN.out]; exact h4))
  go_wp2_with ((with_reducible refine wpList_storeL sStp rfl _ _ rfl w.heap.size (StpCells zStp) (StpCells zStp) ?_ ?_ ?_ ?_ ?_ (stp_one _) ?_); exact rfl; exact rfl; exact HB2.out; exact rfl; exact rfl; intro wz k1 k2 k3 k4; have K := lib.h4 k1 k2 k3 k4; clear k1 k2 k3 k4)
  refine bodyPost_ret (v := .tuple #[.agg (StpCells zStp).toArray, .bool false]) (big.res_cell_tmp sStp Tryz.results108 rfl rfl (Blk.cells K.out.1) rfl) rfl ?_
  exact ⟨HL2.out.trans K.out.2.2.2, .inr ⟨HE2.out, zStp, rfl⟩⟩
 subst h4
 obtain ⟨a1, a2, a3, a4, rfl⟩ : ∃ a1 a2 a3 a4, l = [a1, a2, a3, a4] := by
  have hl := HN.out
  match l, hl with
  | [a, b, c, d], _ => exact ⟨a, b, c, d, rfl⟩
 obtain ⟨g, c2, hv, hg0, hglt⟩ := HOW.out.form (by omega)
 injection hv with e1 e2 e3
 subst e1
 have g0 := HOW.out.cellAt 0 (by omega)
 have g1 := HOW.out.cellAt 1 (by omega)
 have g2 := HOW.out.cellAt 2 (by omega)
 have g3 := HOW.out.cellAt 3 (by omega)
 simp only [List.map_cons, List.getElem?_cons_zero, List.getElem?_cons_succ] at g0 g1 g2 g3
 clear e2 e3
 go_upto_region 6 with fail
 obtain ⟨W3, hW3⟩ : ∃ W3, (w2.alloc (.cells #[.int .i64 0, .int .i64 0, .int .i64 0, .int .i64 0] 41)).drew = W3 := ⟨_, rfl⟩
 have HW3 := Lib.hid hW3
 have HB3 : Hid (Blk W3 w2.heap.size 41 (StpCells zStp)) := Lib.hid (by rw [← hW3]; exact Blk.new w2 _ _)
 have hbl3 : Below w2.heap.size w2 W3 := by rw [← hW3]; exact ((Below.refl _ _).alloc (Nat.le_refl _) _).drew
 have HQ3 := Lib.hid (And.intro ((hbl3.cell (p := ⟨g, 0, none⟩) hglt).trans g0) (And.intro ((hbl3.cell (p := ⟨g, 1, none⟩) hglt).trans g1) (And.intro ((hbl3.cell (p := ⟨g, 2, none⟩) hglt).trans g2) ((hbl3.cell (p := ⟨g, 3, none⟩) hglt).trans g3))))
 have HL3 := Lib.hid hbl3
 clear hW3 hbl3
 (refine wp_region_held_drew (S := (fun w' => w'.cell? ⟨g, 0, none⟩ = some (.int .i64 a1) ∧ w'.cell? ⟨g, 1, none⟩ = some (.int .i64 a2) ∧ w'.cell? ⟨g, 2, none⟩ = some (.int .i64 a3) ∧ w'.cell? ⟨g, 3, none⟩ = some (.int .i64 a4))) (by kernel_rfl) ?_ (fun hHeld => ?_))
 ·exact ⟨g0, g1, g2, g3⟩
 (refine lib.tk 0 rfl ?_; (try simp only [lib.hly]))
 (refine lib.tk 1 rfl ?_; (try simp only [lib.hly]))
 (refine lib.tk 2 rfl ?_; (try simp only [lib.hly]))
 (refine lib.tk 3 rfl ?_; (try simp only [lib.hly]))
 (refine lib.tk 4 rfl ?_; (try simp only [lib.hly]))
 (refine lib.tk 5 rfl ?_; (try simp only [lib.hly]))
 (refine lib.tk 6 rfl ?_; (try simp only [lib.hly]))
 (refine lib.tk 7 rfl ?_; (try simp only [lib.hly]))
 (refine lib.tk 8 rfl ?_; (try simp only [lib.hly]))
 (refine lib.tk 9 rfl ?_; (try simp only [lib.hly]))
 (refine lib.tk 10 rfl ?_; (try simp only [lib.hly]))
 (refine lib.tk 11 rfl ?_; (try simp only [lib.hly]))
 (refine lib.tk 12 rfl ?_; (try simp only [lib.hly]))
 (refine lib.rk 13 rfl fun K hK => ?_)
 go_simp
 rw [HW3.out]
 refine hK.out _ _ (HQ3.out) (fun hHeld => ?_)
 clear hK K
 (try simp only [lib.hly])
 (refine lib.rk 14 rfl fun K hK => ?_)
 refine step_storeL sStp rfl _ _ rfl w2.heap.size (StpCells zStp) (StpCells ⟨a1, a2, a3, a4⟩) rfl rfl HB3.out rfl rfl (stp_one _) ?_
 intro w4 k1 k2 k3 k4
 have K4 := Lib.hid (And.intro k1 (And.intro k2 k4))
 have q0 := (World.cell?_of_block (a := ⟨g, 0, none⟩) (k2 g (by omega))).trans HQ3.out.1
 have q1 := (World.cell?_of_block (a := ⟨g, 1, none⟩) (k2 g (by omega))).trans HQ3.out.2.1
 have q2 := (World.cell?_of_block (a := ⟨g, 2, none⟩) (k2 g (by omega))).trans HQ3.out.2.2.1
 have q3 := (World.cell?_of_block (a := ⟨g, 3, none⟩) (k2 g (by omega))).trans HQ3.out.2.2.2
 clear k1 k2 k3 k4
 refine hK.out _ _ (⟨q0, q1, q2, q3⟩) (fun hHeld => ?_)
 clear hK K
 (try simp only [lib.hly])
 (refine wpAnyH_done (by kernel_rfl) ?_ _)
 have HL4 := Lib.hid (HL3.out.trans (K4.out.2.2))
 have HK4 : Hid (Blk w4 w2.heap.size 41 (StpCells ⟨a1, a2, a3, a4⟩)) := Lib.hid K4.out.1
 have HB4 := Lib.hid (HB2.out.below HL4.out)
 have h64 := (readF_len HL.out).2
 have hcs := rfstop_any ⟨a1, a2, a3, a4⟩ w4.drew h64
 have HE3 : Hid ((if stopF ⟨a1, a2, a3, a4⟩ = x then some (⟨a1, a2, a3, a4⟩ : Stp) else none) = R) := Lib.hid HE.out
 obtain ⟨F, hF⟩ : ∃ F, stopF ⟨a1, a2, a3, a4⟩ = F := ⟨_, rfl⟩
 rw [hF] at hcs HE3
 have HCS := Lib.hid hcs
 have HLW := Lib.hid (HL2.out.trans (HL4.out.mono HL2.out.size))
 clear h64 hcs hF q0 q1 q2 q3 g0 g1 g2 g3 hHeld HQ3 HB3 HW3 K4 HL3 HE
 go_upto_region 7 with fail
 have hq4 := HK4.out
 obtain ⟨q, hq⟩ : ∃ q, w2.heap.size = q := ⟨_, rfl⟩
 have hqz : W0.heap.size ≤ q := by omega
 rw [hq] at HK4 hq4 ⊢
 clear hq
 (refine wp_region_held_drew (S := (fun v => Blk v q 41 (StpCells ⟨a1, a2, a3, a4⟩))) (by kernel_rfl) ?_ (fun hHeld => ?_))
 ·exact hq4
 clear hq4
 (refine lib.tk 0 rfl ?_ (fun _ hSw => exec_loadS sStp rfl rfl (Blk.cells hSw) rfl); (try simp only [lib.hly]))
 (refine lib.tk 1 rfl ?_ (fun _ hSw => exec_loadS sStp rfl rfl (Blk.cells hSw) rfl); (try simp only [lib.hly]))
 (refine lib.tk 3 rfl ?_; (try simp only [lib.hly]))
 (refine lib.rk 2 rfl fun K hK => ?_)
 go_simp
 refine HCS.out.mono ?_
 rintro e w5 ⟨rfl, b5⟩
 have HB5 := Lib.hid ((show Blk w4.drew w.heap.size 41 (StpCells zStp) from HB4.out).below b5)
 have HQ5 := Lib.hid ((show Blk w4.drew q 41 (StpCells ⟨a1, a2, a3, a4⟩) from HK4.out).below b5)
 have HL5 := Lib.hid (HLW.out.trans (((Below.refl w.heap.size w4).drew).trans (b5.mono HLW.out.size)))
 clear b5
 refine hK.out _ _ (HQ5.out) (fun hHeld => ?_)
 clear hK K
 (try simp only [lib.hly])
 (refine lib.tk 4 rfl ?_; (try simp only [lib.hly]))
 (refine lib.rk 5 rfl fun K hK => ?_)
 refine step_storeL sStp rfl _ _ rfl w.heap.size (StpCells zStp) (StpCells ⟨a1, a2, a3, a4⟩) rfl rfl HB5.out rfl rfl (stp_one _) ?_
 intro w6 k1 k2 k3 k4
 have HK6 := Lib.hid (And.intro k1 k4)
 have HQ6 := Lib.hid ((k2 q (by omega)).trans HQ5.out)
 clear k1 k2 k3 k4
 refine hK.out _ _ (HQ6.out) (fun hHeld => ?_)
 clear hK K
 (try simp only [lib.hly])
 (refine lib.tk 6 rfl ?_; (try simp only [lib.hly]))
 (refine wpAnyH_done (by kernel_rfl) ?_ _)
 clear hHeld
 by_cases he : F = x
 ·have heb : (F == x) = true := beq_iff_eq.2 he
  have HE4 : Hid (R = some ⟨a1, a2, a3, a4⟩) := Lib.hid (by rw [← HE3.out, if_pos he])
  go_wp2
  refine bodyPost_ret (v := .tuple #[.agg (StpCells ⟨a1, a2, a3, a4⟩).toArray, .bool true]) (big.res_cell_tmp sStp Tryz.results108 rfl (by simp [heb]) (Blk.cells HK6.out.1) rfl) rfl ?_
  exact ⟨HL5.out.trans HK6.out.2, .inl ⟨_, HE4.out, rfl⟩⟩
 ·have heb : (F == x) = false := beq_eq_false_iff_ne.2 he
  have HE4 : Hid (R = none) := Lib.hid (by rw [← HE3.out, if_neg he])
  go_wp2
  refine bodyPost_ret (v := .tuple #[.agg (StpCells ⟨a1, a2, a3, a4⟩).toArray, .bool false]) (big.res_cell_tmp sStp Tryz.results108 rfl (by simp [heb]) (Blk.cells HK6.out.1) rfl) rfl ?_
  exact ⟨HL5.out.trans HK6.out.2, .inr ⟨HE4.out, _, rfl⟩⟩
end Go.Proofs.YthefooacfcagbaaGreatDoor.spc

/- The reference's points, read; what is a word; the ranks of lines. -/
namespace Go.Proofs.YthefooacfcagbaaGreatDoor.spc
open Go.RowKit
open lib rd app els typ big gen
open txt (in64 By strV strV_of elem_str push_one Strs numL)
set_option linter.unusedVariables false
set_option linter.unusedSimpArgs false
def PsOut (o : Option (List Pt)) (w : World) (e : Ending) (w' : World) : Prop := Below w.heap.size w w' ∧ ((∃ (l : List Pt) (A : Option Addr) (d : Nat), o = some l ∧ e = .returned (.tuple #[.slice A l.length d, .bool true]) ∧ w'.ownsRow w.heap.size 89 2 (.slice A l.length d) l.length (pcs l)) ∨ (o = none ∧ e = .returned (.tuple #[.slice none 0 0, .bool false])))
theorem trvR_no {x : By} (hx : x ≠ [46]) (h : ptsL (splt 44 x) = none) : trvR x = none := by unfold trvR; rw [if_neg hx, h]
set_option maxRecDepth 20000 in
set_option maxHeartbeats 2000000 in
theorem runpoints_any (x : By) (hx : x.length ≤ 1000000) (w : World) :
  Calls Tryz.prog 106 #[.string ⟨x.toArray⟩] w (PsOut (trvR x) w) := by
 obtain ⟨R, hR⟩ : ∃ R, trvR x = R := ⟨_, rfl⟩
 have HR := Lib.hid hR
 rw [hR]
 clear hR
 go_enter Tryz.func106, Tryz.ntmps106
 by_cases hx0 : x = [46]
 ·subst hx0
  go_wp2
  go_ret2
  exact ⟨Below.refl _ _, .inl ⟨[], none, 0, HR.out.symm, rfl, World.ownsRow_nil _ _ _ _⟩⟩
 have hxb : (x == [46]) = false := beq_eq_false_iff_ne.2 hx0
 have HX := Lib.hid hx0
 obtain ⟨L, hL⟩ : ∃ L, splt 44 x = L := ⟨_, rfl⟩
 have HLX := Lib.hid hL
 have HLL : Hid (∀ y ∈ L, y.length ≤ 1000000) := Lib.hid (fun y hy => by have := (splt_len 44 x).2 y (by rw [hL]; exact hy); omega)
 have hLn : L.length ≤ 1000001 := by have := (splt_len 44 x).1; have h2 := List.count_le_length (a := 44) (l := x); rw [hL] at this; omega
 have HP := Lib.hid (rpartsL_any x 44 hx w)
 rw [hL] at HP
 clear hx0 hL
 go_upto_region 6 with (go_at_call 35; refine HP.out.mono ?_; rintro e w1 ⟨A, n, d, hn, rfl, ho, hb⟩; have HN := Lib.hid hn; have hn1 : n ≤ 1000001 := (by omega); have HO := Lib.hid (And.intro (Reads.of_own ho) hb); clear hn ho hb)
 clear HP
 have hz1 := HO.out.2.size
 go_loopw [4, 6, 7, 8] (fun pv i _ _ wr => Below w1.heap.size w1 wr ∧ ∃ (k c : Nat) (B : Option Addr) (l : List Pt), k ≤ n ∧ i = .int .i64 k ∧ pv = .slice B k c ∧ l.length = k ∧ Hid (L.take k = l.map ptF ∧ (∀ y ∈ l, PtFits y)) ∧ Hid (wr.ownsRow w1.heap.size 89 2 (.slice B k c) k (pcs l))) (fun _ i _ _ _ => n - (intOf i).toNat)
 case atStart => exact ⟨Below.refl _ _, 0, 0, none, [], by omega, rfl, rfl, rfl, Lib.hid ⟨rfl, fun y hy => by cases hy⟩, Lib.hid (World.ownsRow_nil _ _ _ _)⟩
 case round =>
  obtain ⟨hb, k, c, B, l, hk, rfl, rfl, hlk, hpre, hrow⟩ := hrel
  have HBV := Lib.hid hb
  have HLK := Lib.hid hlk
  have hbz := hb.size
  by_cases hlt : k < n
  ·obtain ⟨ad, u, hA, hadb, hu, hcell⟩ := (HO.out.1.below hb).at_ hlt
   obtain ⟨y, hy⟩ : ∃ y, L[k]? = some y := ⟨_, List.getElem?_eq_getElem (by rw [← HN.out]; exact hlt)⟩
   rw [List.getElem?_map, hy] at hu
   obtain rfl := Option.some.inj hu
   subst hA
   have hcell2 : wr.cell? (ad.add k) = some (.string ⟨y.toArray⟩) := hcell
   have HY := Lib.hid hy
   have hyl := HLL.out y (List.mem_of_getElem? hy)
   have hk0 : (0 : Int) ≤ (k : Int) := by omega
   have hkn : (k : Int) < (n : Int) := by omega
   have HP := Lib.hid (rpartsL_any y 58 hyl wr)
   have HQ := Lib.hid (fun A n d v h1 h2 h3 => rnums_any y 58 hyl wr A n d v h1 h2 h3)
   clear hcell hy hb hlk
   go_upto_region 9 with (first
    | (go_at_call 35; refine HP.out.mono ?_; rintro e w2 ⟨A2, n2, d2, hn2, rfl, ho2, hb2⟩; have HO2 := Lib.hid (And.intro hn2 (And.intro ho2 hb2)); clear hn2 ho2 hb2)
    | (go_at_call 105; refine (HQ.out A2 n2 d2 _ HO2.out.1 HO2.out.2.1 HO2.out.2.2).mono ?_; rintro e w3 ⟨hb3, ⟨q, Aq, dq, hr, rfl, hown⟩ | ⟨hr, rfl⟩⟩))
   rotate_left
   ·have HE : Hid (R = none) := Lib.hid (HR.out.symm.trans (trvR_no HX.out (by rw [HLX.out]; exact ptsL_bad HY.out (ptR_none hr))))
    have HB3 := Lib.hid (HBV.out.trans (hb3.mono hbz))
    clear hr hb3
    go_wp2
    go_ret2
    exact ⟨HO.out.2.trans (HB3.out.mono hz1), .inr ⟨HE.out, rfl⟩⟩
   have HB3 := Lib.hid hb3
   have HRQ := Lib.hid hr
   have HOW := Lib.hid hown
   have hb3z := hb3.size
   clear hb3 hr hown HP HQ HO2
   obtain ⟨j, hj⟩ : ∃ j, q.length = j := ⟨_, rfl⟩
   have HJ := Lib.hid hj
   rw [hj] at HOW ⊢
   clear hj
   by_cases h2 : j = 2
   rotate_left
   ·have h2i : ¬ (j : Int) = 2 := by omega
    have h2b : ((j : Int) != 2) = true := by simpa using h2i
    have HE : Hid (R = none) := Lib.hid (HR.out.symm.trans (trvR_no HX.out (by rw [HLX.out]; exact ptsL_bad HY.out (ptR_len HRQ.out (by rw [HJ.out]; exact h2)))))
    go_wp2
    go_ret2
    exact ⟨HO.out.2.trans ((HBV.out.trans (HB3.out.mono hbz)).mono hz1), .inr ⟨HE.out, rfl⟩⟩
   subst h2
   obtain ⟨a1, a2, rfl⟩ : ∃ a1 a2, q = [a1, a2] := by
    have hl := HJ.out
    match q, hl with
    | [a, b], _ => exact ⟨a, b, rfl⟩
   obtain ⟨g, c2, hv, hg0, hglt⟩ := HOW.out.form (by omega)
   injection hv with e1 e2 e3
   subst e1
   have g0 := HOW.out.cellAt 0 (by omega)
   have g1 := HOW.out.cellAt 1 (by omega)
   simp only [List.map_cons, List.getElem?_cons_zero, List.getElem?_cons_succ] at g0 g1
   clear e2 e3
   have hgne : Hid (∀ q, (Value.slice B k c).ownBlock = some q → q ≠ g) := Lib.hid (fun q e => by have := (World.ownsRow.lt hrow.out q e).2; omega)
   have HRW := Lib.hid (own_below hrow.out HB3.out)
   have h64 := (readF_len HRQ.out).2
   have HPF : Hid (PtFits ⟨a1, a2⟩) := Lib.hid ⟨h64 _ (by simp), h64 _ (by simp)⟩
   clear h64
   go_upto_region 11 with fail
   obtain ⟨W4, hW4⟩ : ∃ W4, (w3.alloc (.cells #[.int .i64 a1, .int .i64 a2] 89)).drew = W4 := ⟨_, rfl⟩
   have HW4 := Lib.hid hW4
   have hbl4 : Below w3.heap.size w3 W4 := by rw [← hW4]; exact ((Below.refl _ _).alloc (Nat.le_refl _) _).drew
   have hC4 : ∀ (j : Nat) (u : Value), [Value.int .i64 a1, .int .i64 a2][j]? = some u → W4.cell? ((⟨w3.heap.size, 0, none⟩ : Addr).add j) = some u := fun j u hu => by
    rw [← hW4]
    exact two_new w3 _ _ _ j u hu
   have hz4 : W4.heap.size = w3.heap.size + 1 := by rw [← hW4]; show (w3.alloc _).heap.size = _; simp
   have HC4 := Lib.hid hC4
   have HL4 := Lib.hid hbl4
   have HQ4 := Lib.hid (And.intro ((hbl4.cell (p := ⟨g, 0, none⟩) hglt).trans g0) ((hbl4.cell (p := ⟨g, 1, none⟩) hglt).trans g1))
   have HR4 := Lib.hid (own_below HRW.out hbl4)
   clear hW4 hbl4 hC4
   (refine wp_region_held_drew (S := (fun w' => w'.cell? ⟨g, 0, none⟩ = some (.int .i64 a1) ∧ w'.cell? ⟨g, 1, none⟩ = some (.int .i64 a2))) (by kernel_rfl) ?_ (fun hHeld => ?_))
   ·exact ⟨g0, g1⟩
   (refine lib.tk 0 rfl ?_; (try simp only [lib.hly]))
   (refine lib.tk 1 rfl ?_; (try simp only [lib.hly]))
   (refine lib.tk 2 rfl ?_; (try simp only [lib.hly]))
   (refine lib.tk 3 rfl ?_; (try simp only [lib.hly]))
   (refine lib.tk 4 rfl ?_; (try simp only [lib.hly]))
   (refine lib.tk 5 rfl ?_; (try simp only [lib.hly]))
   (refine lib.tk 6 rfl ?_; (try simp only [lib.hly]))
   (refine lib.tk 7 rfl ?_; (try simp only [lib.hly]))
   (refine lib.rk 8 rfl fun K hK => ?_)
   go_simp
   rw [HW4.out]
   refine hK.out _ _ (HQ4.out) (fun hHeld => ?_)
   clear hK K
   (try simp only [lib.hly])
   (refine lib.rk 9 rfl fun K hK => ?_)
   refine step_app pt_elem _ _ rfl w1.heap.size B k c (pcs l) rfl HR4.out ⟨w3.heap.size, 0, none⟩ 1 [.int .i64 a1, .int .i64 a2] rfl rfl HC4.out (fun u hu => by simp only [List.mem_cons, List.not_mem_nil, or_false] at hu; rcases hu with rfl | rfl <;> rfl) (by omega) (by omega) rfl ?_
   intro g7 c7 w7 hown7 hg7 hx7
   have HO7 := Lib.hid hown7
   have q0 := hg7.cell (a := ⟨g, 0, none⟩) HQ4.out.1 (by intro e; exact hgne.out g e.symm rfl)
   have q1 := hg7.cell (a := ⟨g, 1, none⟩) HQ4.out.2 (by intro e; exact hgne.out g e.symm rfl)
   have HB7 : Hid (Below w1.heap.size w3 w7) := Lib.hid ((HL4.out.mono (by omega)).grown hg7 (by omega) (fun q e => (World.ownsRow.lt HR4.out q e).1))
   clear hown7 hg7 hx7
   refine hK.out _ _ (⟨q0, q1⟩) (fun hHeld => ?_)
   clear hK K
   (try simp only [lib.hly])
   (refine lib.tk 10 rfl ?_; (try simp only [lib.hly]))
   (refine wpAnyH_done (by kernel_rfl) ?_ _)
   clear q0 q1 g0 g1 hHeld
   go_wp2_with fail
   go_roundw
   case rel =>
    refine ⟨(HBV.out.trans (HB3.out.mono hbz)).trans HB7.out, k + 1, c7, _, l ++ [⟨a1, a2⟩], by omega, by go_num, rfl, by simp [HLK.out], Lib.hid ⟨?_, ?_⟩, Lib.hid (by rw [pcs_append]; exact HO7.out)⟩
    ·rw [List.take_add_one, HY.out, hpre.out.1, (ptF_ptR (ptR_two HRQ.out)).1, List.map_append]
     rfl
    ·intro u hu
     rcases List.mem_append.1 hu with hu | hu
     ·exact hpre.out.2 u hu
     ·rw [List.mem_singleton] at hu
      subst hu
      exact HPF.out
   case measure => simp [intOf]; omega
  ·have hkn : ¬ (k : Int) < (n : Int) := by omega
   have hke : k = n := by omega
   subst hke
   have HF : Hid (R = some l) := Lib.hid (by
    have h1 := hpre.out.1
    rw [List.take_of_length_le (by rw [← HN.out]; exact Nat.le_refl _)] at h1
    rw [← HR.out]
    unfold trvR
    rw [if_neg HX.out, HLX.out, h1]
    exact ptsL_map hpre.out.2)
   clear hlk hpre hb
   go_wp2
   go_ret2
   exact ⟨HO.out.2.trans (HBV.out.mono hz1), .inl ⟨l, B, c, HF.out, by rw [HLK.out]; rfl, own_less (by rw [HLK.out]; exact hrow.out) hz1⟩⟩
end Go.Proofs.YthefooacfcagbaaGreatDoor.spc

import Derived.Test.YthefooacfcagbaaGreatDoorBase
import Derived.Laws.Strings
import Derived.Test.YthefooacfcagbaaGreatDoorC2
import Derived.Deep.DeepCutAuto
import Derived.Deep.QuietTactic
import Derived.BigQuiet
import Derived.IntWalk
/- One violation appended, in one step. Portable. -/
namespace Go.Proofs.YthefooacfcagbaaGreatDoor.flts
open Go.RowKit
open lib rd typ app mrk
set_option linter.unusedVariables false
theorem wpList_pushF {ops : Array Oper} {rest : List Oper} {o : Oper} {a : Act} {Q : Exit → Act → World → Prop} {W : World} (hgd : o.guard = none) (s x : Operand)
  (ho : o.op = .call { callee := .builtin .append, args := #[s, x], argTypes := #[50, 50] })
  (base : Nat) (A : Option Addr) (fs : List Flt) (c : Nat) (hs : a.eval s = .slice A fs.length c) (hown : Fown W base A c fs) (f : Flt) (G : List Flt) (hG : G = fs ++ [f])
  (hx : a.eval x = .slice (some ⟨W.heap.size, 0, none⟩) 1 1) (hn : fs.length ≤ 1000000000) (hbase : base ≤ W.heap.size)
  (h : ∀ g c' w', Fown w' base (some ⟨g, 0, none⟩) c' G → Below base W w' → W.heap.size < w'.heap.size → (∀ q, q < W.heap.size → (Value.slice A fs.length c).ownBlock ≠ some q → w'.heap[q]? = W.heap[q]?) → ((Value.slice A fs.length c).ownBlock = some g ∨ W.heap.size ≤ g) → wpList Tryz.prog ops Q rest (a.put o.dst (.slice (some ⟨g, 0, none⟩) G.length c')) w') :
  wpList Tryz.prog ops Q (o :: rest) a (W.alloc (.cells #[.int .i64 f.err, .string f.at_] 53)) := by
 subst hG
 refine wpList_app fault_elem s x ho base A fs.length c (fcs fs) hs (World.ownsRow.alloc hown _) ⟨W.heap.size, 0, none⟩ 1 [.int .i64 f.err, .string f.at_] hx rfl (two_new W (.int .i64 f.err) (.string f.at_) 53) (by simp [Value.oneCell']) hn (by simp; omega) hgd ?_
 intro g c' w' h1 h2 h3
 have e : (fs ++ [f]).length = fs.length + 1 := by simp
 have hz := h2.size
 simp at hz
 have hr := h g c' w' (by unfold Fown; rw [e, fcs_snoc]; exact h1) (((Below.refl base W).alloc hbase _).grown h2 (by simp; omega) (fun q e => (World.ownsRow.lt hown _ e).1)) (by omega) (fun q hq hne => (h2.block q (by simp; omega) (fun e => hne e.symm)).trans (Below.heap_alloc W _ q hq)) (h3.imp id fun h => (by simp at h; omega))
 rw [e] at hr
 exact hr
theorem Fown.below {w w' : World} {base c : Nat} {A : Option Addr} {fs : List Flt} (h : Fown w base A c fs) (hb : Below w.heap.size w w') : Fown w' base A c fs := own_below h hb
theorem Fown.nil (w : World) (base : Nat) : Fown w base none 0 [] := World.ownsRow_nil _ _ _ _
theorem str_eq (x s : ByteArray) : (x.toList == s.toList) = decide (x = s) := by
 rw [Bool.eq_iff_iff, beq_iff_eq, decide_eq_true_eq, ByteArray.toList_eq, ByteArray.toList_eq]
 constructor
 ·intro h
  cases x
  cases s
  simpa using h
 ·rintro rfl
  rfl
theorem take_snoc'' {α : Type} {l : List α} {k : Nat} {x : α} (h : l[k]? = some x) : l.take (k + 1) = l.take k ++ [x] := by
 obtain ⟨h1, h2⟩ := List.getElem?_eq_some_iff.1 h
 rw [List.take_succ_eq_append_getElem h1, h2]
theorem hasB_step {X : Type} [DecidableEq X] {l : List X} {k : Nat} {x y : X} (h : l[k]? = some x) : hasB (l.take (k + 1)) y = (hasB (l.take k) y || decide (x = y)) := by
 unfold hasB
 rw [take_snoc'' h, Bool.eq_iff_iff]
 simp only [List.mem_append, List.mem_singleton, Bool.or_eq_true, decide_eq_true_eq]
 constructor
 ·rintro (h | h)
  ·exact .inl h
  ·exact .inr h.symm
 ·rintro (h | h)
  ·exact .inl h
  ·exact .inr h.symm
theorem hasB_zero {X : Type} [DecidableEq X] (l : List X) (y : X) : hasB (l.take 0) y = false := by unfold hasB; simp
end Go.Proofs.YthefooacfcagbaaGreatDoor.flts

/- Violations appended, many at once, in one step. Portable. -/
namespace Go.Proofs.YthefooacfcagbaaGreatDoor.flts
open Go.RowKit
open lib rd typ app mrk
set_option linter.unusedVariables false
theorem fcs_ones (fs : List Flt) : ∀ u ∈ fcs fs, u.oneCell' = true := fun u hu => by
 unfold fcs at hu
 rw [List.mem_flatMap] at hu
 obtain ⟨f, _, hf⟩ := hu
 simp at hf
 rcases hf with rfl | rfl <;> rfl
theorem fcs_app (a b : List Flt) : fcs (a ++ b) = fcs a ++ fcs b := by simp [fcs]
theorem wpList_appF {ops : Array Oper} {rest : List Oper} {o : Oper} {a : Act} {Q : Exit → Act → World → Prop} {W : World} (hgd : o.guard = none) (s x : Operand)
  (ho : o.op = .call { callee := .builtin .append, args := #[s, x], argTypes := #[50, 50] })
  (base : Nat) (A : Option Addr) (fs : List Flt) (c : Nat) (hs : a.eval s = .slice A fs.length c) (hown : Fown W base A c fs) (A2 : Option Addr) (gs : List Flt) (c2 : Nat) (hx : a.eval x = .slice A2 gs.length c2) (hr : Reads W W.heap.size 2 A2 gs.length (fcs gs))
  (G : List Flt) (hG : G = fs ++ gs) (hn : G.length ≤ 1000000000) (hbase : base ≤ W.heap.size)
  (h : ∀ A' c' w', Fown w' base A' c' G → Below base W w' → wpList Tryz.prog ops Q rest (a.put o.dst (.slice A' G.length c')) w') :
  wpList Tryz.prog ops Q (o :: rest) a W := by
 subst hG
 have e : (fs ++ gs).length = fs.length + gs.length := by simp
 refine wpList_appN fault_elem s x ho base (.slice A fs.length c) fs.length (fcs fs) hs hown W.heap.size A2 gs.length c2 (fcs gs) hx hr (fcs_ones gs) (by omega) hbase hgd ?_
 intro A' c' w' h1 h2
 have hh := h A' c' w' (by unfold Fown; rw [e, fcs_app]; exact h1) ((Below.refl base W).grown h2 hbase (fun q e => (World.ownsRow.lt hown _ e).1))
 rw [e] at hh
 exact hh
end Go.Proofs.YthefooacfcagbaaGreatDoor.flts

/- The reference's check of a travel function. -/
namespace Go.Proofs.YthefooacfcagbaaGreatDoor.rnet
open Go.RowKit
open lib rd typ app note mrk trv flts txt
set_option linter.unusedVariables false
set_option linter.unusedSimpArgs false
theorem bad_cases (p : Pt) : (tvBad p = true ∧ p.t < 0) ∨ (tvBad p = true ∧ ¬ p.t < 0 ∧ 4096 < p.t) ∨ (tvBad p = decide (p.a < p.t ∨ p.t + 4096 < p.a) ∧ ¬ p.t < 0 ∧ ¬ 4096 < p.t) := by
 unfold tvBad inB
 by_cases h1 : p.t < 0
 ·left
  refine ⟨?_, h1⟩
  simp
  omega
 ·by_cases h2 : 4096 < p.t
  ·right; left
   refine ⟨?_, h1, h2⟩
   simp
   omega
  ·right; right
   refine ⟨?_, h1, h2⟩
   rw [Bool.eq_iff_iff]
   simp
   omega
set_option maxRecDepth 20000 in
set_option maxHeartbeats 4000000 in
theorem rtv_any (A0 : Option Addr) (d0 : Nat) (l : List Pt) (w : World) (hL : RowAt rPt w w.heap.size A0 l) (hl : l.length ≤ 10000000) :
  Calls Tryz.prog 134 #[.slice A0 l.length d0] w (FltsOut w (tvTo l l.length)) := by
 obtain ⟨m, hm⟩ : ∃ m, l.length = m := ⟨_, rfl⟩
 have HM := Lib.hid hm
 obtain ⟨F, hF⟩ : ∃ F, tvTo l = F := ⟨_, rfl⟩
 have HF := Lib.hid hF
 have hFl : ∀ j, (F j).length ≤ 1 + 2 * j := fun j => by rw [← hF]; exact tvTo_len _ j
 have HF0 : Hid (F 0 = if szB m = true then [⟨4, ⟨#[]⟩⟩] else []) := Lib.hid (by rw [← hF, ← hm]; rfl)
 rw [hm] at hl ⊢
 rw [hF]
 clear hm hF
 have B0 : Below w.heap.size w w := Below.refl _ _
 go_enter Tryz.func134, Tryz.ntmps134
 go_upto_region 2 with fail
 go_cut [13] (fun v wx => v = .bool (szB m) ∧ w = wx)
 case first =>
  by_cases h0 : m = 0
  ·subst h0
   go_wp2
   go_meet
   exact ⟨rfl, rfl⟩
  ·have e0 : ¬ (m : Int) < 1 := by omega
   have HE : Hid (szB m = decide (16 < m)) := Lib.hid (by unfold szB; simp [h0])
   by_cases hq : 16 < m
   ·have e1 : (16 : Int) < (m : Int) := by omega
    have HQ := Lib.hid (decide_eq_true hq)
    clear h0 hq
    go_wp2
    go_meet
    exact ⟨by rw [HE.out, HQ.out], rfl⟩
   ·have e1 : ¬ (16 : Int) < (m : Int) := by omega
    have HQ := Lib.hid (decide_eq_false hq)
    clear h0 hq
    go_wp2
    go_meet
    exact ⟨by rw [HE.out, HQ.out], rfl⟩
 obtain ⟨h13, rfl⟩ := hcut
 subst h13
 go_upto_if 13 with fail
 go_cut [3] (fun v wx => ∃ A c, v = .slice A (F 0).length c ∧ Fown wx w.heap.size A c (F 0) ∧ Below w.heap.size w wx)
 case first => as_aux_lemma =>
  cases hs : szB m
  ·have hE : Hid (F 0 = []) := Lib.hid (by rw [HF0.out, hs]; rfl)
   clear hs
   go_wp2
   go_meet
   exact ⟨none, 0, by rw [hE.out]; rfl, by rw [hE.out]; exact Fown.nil _ _, B0⟩
  ·have hE : Hid (F 0 = [] ++ [⟨4, ⟨#[]⟩⟩]) := Lib.hid (by rw [HF0.out, hs]; rfl)
   have HO := Lib.hid (Fown.nil w w.heap.size)
   clear hs
   go_wp2_with (at_builtin; refine wpList_pushF rfl _ _ rfl w.heap.size none ([]) 0 rfl HO.out (⟨4, ⟨#[]⟩⟩) (F 0) hE.out rfl (by first | omega | decide) (by omega) ?_; intro g3 c3 w3 hown3 hb3 hs3 hk3 hd3)
   go_meet
   exact ⟨_, _, rfl, hown3, hb3⟩
 obtain ⟨A, c, h3, hown, hB⟩ := hcut
 subst h3
 go_upto_region 5 with fail
 go_loopw [3, 4, 5] (fun v i _ wr => ∃ (j : Nat) (A : Option Addr) (c : Nat), j ≤ m ∧ i = .int .i64 j ∧ v = .slice A (F j).length c ∧ Fown wr w.heap.size A c (F j) ∧ Below w.heap.size w wr) (fun _ i _ _ => m - (intOf i).toNat)
 case atStart => exact ⟨0, A, c, by omega, rfl, rfl, hown, hB⟩
 case round =>
  clear hown hB
  obtain ⟨j, A, c, hj, rfl, rfl, hown, hB⟩ := hrel
  have hz := hB.size
  by_cases hlt : j < m
  ·obtain ⟨p, hp⟩ : ∃ p, l[j]? = some p := ⟨_, List.getElem?_eq_getElem (by rw [HM.out]; exact hlt)⟩
   obtain ⟨ad, rfl, hadb, ⟨m0, m1⟩, hpf⟩ := row_Pt (hL.below hB) hp
   have hj0 : (0 : Int) ≤ (j : Int) := by omega
   have hjn : (j : Int) < (m : Int) := by omega
   have hjd : j < 1000000000000000000 := by omega
   have hFj := hFl j
   have HP : Hid (F (j + 1) = F j ++ tvP l j p) := Lib.hid (by rw [← HF.out, tvTo_succ hp])
   have HLS := Lib.hid hp
   have HFO := Lib.hid (Eq.refl (tvFifo l j p))
   have HNE : Hid (∀ q, (Value.slice A (F j).length c).ownBlock = some q → q < wr.heap.size) := Lib.hid fun q e => (World.ownsRow.lt hown q e).2
   obtain ⟨bad, hbad⟩ : ∃ q, tvBad p = q := ⟨_, rfl⟩
   obtain ⟨fo, hfo⟩ : ∃ q, tvFifo l j p = q := ⟨_, rfl⟩
   obtain ⟨G, hG⟩ : ∃ G : List Flt, F j ++ (if bad = true then [⟨2, decS j⟩] else []) = G := ⟨_, rfl⟩
   have hGl : G.length ≤ 2 + 2 * j := by rw [← hG, List.length_append]; split <;> simp <;> omega
   have HG := Lib.hid hG
   have HP2 : Hid (F (j + 1) = G ++ (if fo = true then [⟨13, decS j⟩] else [])) := Lib.hid (by rw [HP.out, ← hG, List.append_assoc]; unfold tvP; rw [hbad, hfo])
   have HBAD := Lib.hid hbad
   have HFF := Lib.hid hfo
   clear hp hbad hfo hG HP
   go_upto_region 8 with fail
   obtain ⟨W, hW⟩ : ∃ W, wr.alloc (.cells #[.int .i64 p.t, .int .i64 p.a] 89) = W := ⟨_, rfl⟩
   have k0 : W.cell? ⟨wr.heap.size, 0, none⟩ = some (.int .i64 p.t) := by rw [← hW]; exact two_new wr _ _ _ 0 _ rfl
   have k1 : W.cell? ⟨wr.heap.size, 1, none⟩ = some (.int .i64 p.a) := by rw [← hW]; exact two_new wr _ _ _ 1 _ rfl
   have HO : Hid (Fown W w.heap.size A c (F j)) := Lib.hid (by rw [← hW]; exact World.ownsRow.alloc hown _)
   have zp : wr.heap.size < W.heap.size := by rw [← hW]; simp
   have BW : Below w.heap.size w W := by rw [← hW]; exact hB.alloc hz _
   rw [hW]
   clear hW m0 m1 hown
   obtain ⟨P, hP⟩ : ∃ P, wr.heap.size = P := ⟨_, rfl⟩
   rw [hP] at k0 k1 zp HNE hz ⊢
   clear hP
   have zW : w.heap.size ≤ W.heap.size := BW.size
   obtain ⟨pt, hpt⟩ : ∃ x, p.t = x := ⟨_, rfl⟩
   obtain ⟨pa, hpa⟩ : ∃ x, p.a = x := ⟨_, rfl⟩
   have hpf' := hpf
   unfold PtFits at hpf'
   have hbc := bad_cases p
   rw [HBAD.out] at hbc
   have HPT := Lib.hid (And.intro hpt hpa)
   rw [hpt, hpa] at hpf' hbc
   rw [hpt] at k0
   rw [hpa] at k1
   obtain ⟨⟨t1, t2⟩, t3, t4⟩ := hpf'
   clear hpt hpa hpf
   go_cut [50] (fun v wx => v = .bool bad ∧ W = wx)
   case first => as_aux_lemma =>
    rcases hbc with ⟨hb, h1⟩ | ⟨hb, h1, h2⟩ | ⟨hb, h1, h2⟩
    ·have HE := Lib.hid hb
     clear hb
     go_wp2
     go_meet
     exact ⟨by rw [HE.out], rfl⟩
    ·have HE := Lib.hid hb
     clear hb
     go_wp2
     go_meet
     exact ⟨by rw [HE.out], rfl⟩
    ·by_cases h3 : pa < pt
     ·have HE : Hid (bad = true) := Lib.hid (by rw [hb]; exact decide_eq_true (.inl h3))
      clear hb
      go_wp2
      go_meet
      exact ⟨by rw [HE.out], rfl⟩
     ·by_cases h4 : pt + 4096 < pa
      ·have HE : Hid (bad = true) := Lib.hid (by rw [hb]; exact decide_eq_true (.inr h4))
       clear hb
       go_wp2
       go_meet
       exact ⟨by rw [HE.out], rfl⟩
      ·have HE : Hid (bad = false) := Lib.hid (by rw [hb]; exact decide_eq_false (by omega))
       clear hb
       go_wp2
       go_meet
       exact ⟨by rw [HE.out], rfl⟩
   obtain ⟨h50, hwc⟩ := hcut
   subst h50
   subst hwc
   clear hbc
   go_upto_if 50 with fail
   go_cut [3] (fun v wx => ∃ A2 c2, v = .slice A2 G.length c2 ∧ Fown wx w.heap.size A2 c2 G ∧ wx.cell? ⟨P, 0, none⟩ = some (.int .i64 pt) ∧ wx.cell? ⟨P, 1, none⟩ = some (.int .i64 pa) ∧ Below w.heap.size w wx)
   case first => as_aux_lemma =>
    cases bad
    ·go_wp2
     go_meet
     have e : F j = G := by rw [← HG.out]; simp
     exact ⟨A, c, by rw [e], by rw [← e]; exact HO.out, k0, k1, BW⟩
    ·have hE : Hid (G = F j ++ [⟨2, decS j⟩]) := Lib.hid (by rw [← HG.out]; simp)
     go_wp2_with (first | (go_at_call 18; refine (rdec_any j hjd _).mono ?_; rintro e w2 ⟨rfl, hdw2⟩; have hz2 := hdw2.size; have HO2 := Lib.hid (HO.out.below hdw2)) | (at_builtin; refine wpList_pushF rfl _ _ rfl w.heap.size A (F j) c rfl HO2.out (⟨2, decS j⟩) (G) hE.out rfl (by first | omega | decide) (by omega) ?_; intro g3 c3 w3 hown3 hb3 hs3 hk3 hd3))
     go_meet
     have hkp := hk3 P (by omega) (fun e => absurd (HNE.out P e) (Nat.lt_irrefl _))
     exact ⟨_, _, rfl, hown3, cell_heap hkp ((hdw2.cell (p := ⟨P, 0, none⟩) zp).trans k0), cell_heap hkp ((hdw2.cell (p := ⟨P, 1, none⟩) zp).trans k1), BW.trans ((hdw2.mono zW).trans (hb3.mono (Nat.le_refl _)))⟩
   clear k0 k1
   obtain ⟨A2, c2, h3, hown2, k0, k1, BC⟩ := hcut
   subst h3
   have zC := BC.size
   have HOC := Lib.hid hown2
   clear hown2
   go_upto_region 10 with fail
   go_cut [80] (fun v wx => v = .bool fo ∧ ∃ n, wx = wc.drewN n)
   case first => as_aux_lemma =>
    rcases j with _ | k
    ·have HE : Hid (fo = false) := Lib.hid (by rw [← HFF.out]; rfl)
     have hj0 : ¬ (0 : Int) < ((0 : Nat) : Int) := by omega
     go_quiet (fail)
     go_wp2
     go_meet
     exact ⟨by rw [HE.out], _, rfl⟩
    ·obtain ⟨x, hx⟩ : ∃ x, l[k]? = some x := ⟨_, List.getElem?_eq_getElem (by rw [HM.out]; omega)⟩
     obtain ⟨ad2, hadeq, hadb2, ⟨n0, n1⟩, hxf⟩ := row_Pt (hL.below BC) hx
     obtain rfl : ad = ad2 := Option.some.inj hadeq
     have HE : Hid (fo = (decide (pt ≤ x.t) || decide (pa < x.a))) := Lib.hid (by rw [← HFF.out]; unfold tvFifo; simp only [hx]; rw [← HPT.out.1, ← HPT.out.2])
     have hj0 : (0 : Int) < ((k + 1 : Nat) : Int) := by omega
     have hj1 : IntKind.i64.wrap (((k + 1 : Nat) : Int) - 1) = (k : Int) := by rw [IntWalk.i64_in _ (by omega)]; omega
     clear hx hadeq
     cases hc1 : decide (pt ≤ x.t)
     ·have HE2 : Hid (fo = decide (pa < x.a)) := Lib.hid (by rw [HE.out, hc1]; rfl)
      go_quiet (fail)
      go_wp2
      go_meet
      exact ⟨by rw [HE2.out], _, rfl⟩
     ·have HE2 : Hid (fo = true) := Lib.hid (by rw [HE.out, hc1]; rfl)
      go_quiet (fail)
      go_wp2
      go_meet
      exact ⟨by rw [HE2.out], _, rfl⟩
   obtain ⟨h80, nq, hw80⟩ := hcut
   subst h80
   have ownD := HOC.out.below (bel_drewN (Below.refl _ _) nq)
   have BD2 := bel_drewN BC nq
   rw [← hw80] at ownD BD2
   clear k0 k1 hw80
   go_upto_if 80 with fail
   have zD := BD2.size
   have HOD := Lib.hid ownD
   clear ownD
   cases fo
   ·have HE : Hid (F (j + 1) = G) := Lib.hid (by rw [HP2.out]; simp)
    go_wp2
    go_roundw
    case rel => exact ⟨j + 1, A2, c2, by omega, by go_num, by rw [HE.out], by rw [HE.out]; exact HOD.out, BD2⟩
    case measure => simp [intOf]; omega
   ·have hE : Hid (F (j + 1) = G ++ [⟨13, decS j⟩]) := Lib.hid (by rw [HP2.out]; simp)
    go_wp2_with (first | (go_at_call 18; refine (rdec_any j hjd _).mono ?_; rintro e w2 ⟨rfl, hdw2⟩; have hz2 := hdw2.size; have HO2 := Lib.hid (HOD.out.below hdw2)) | (at_builtin; refine wpList_pushF rfl _ _ rfl w.heap.size A2 (G) c2 rfl HO2.out (⟨13, decS j⟩) (F (j + 1)) hE.out rfl (by first | omega | decide) (by omega) ?_; intro g3 c3 w3 hown3 hb3 hs3 hk3 hd3))
    go_roundw
    case rel => exact ⟨j + 1, _, _, by omega, by go_num, rfl, hown3, BD2.trans ((hdw2.mono zD).trans (hb3.mono (Nat.le_refl _)))⟩
    case measure => simp [intOf]; omega
  ·have hjm : j = m := by omega
   subst hjm
   go_wp2
   go_ret
   exact ⟨A, c, rfl, hown, hB⟩
end Go.Proofs.YthefooacfcagbaaGreatDoor.rnet

/- The reference's check of places. -/
namespace Go.Proofs.YthefooacfcagbaaGreatDoor.rnet
open Go.RowKit
open lib rd typ app note mrk trv flts txt eqg net
set_option linter.unusedVariables false
set_option linter.unusedSimpArgs false
set_option maxRecDepth 20000 in
set_option maxHeartbeats 4000000 in
theorem rplaces_any (x : Net) (A0 : Option Addr) (d0 : Nat) (A1 : Option Addr) (d1 : Nat) (w : World) (hP : RowAt rStr w w.heap.size A0 x.places) (hl : x.places.length ≤ 10000000) :
  Calls Tryz.prog 90 #[.agg #[.slice A0 x.places.length d0, .slice A1 x.arcs.length d1]] w (FltsOut w (plTo x.places x.places.length)) := by
 obtain ⟨n, hn⟩ : ∃ n, x.places.length = n := ⟨_, rfl⟩
 obtain ⟨m, hm⟩ : ∃ m, x.arcs.length = m := ⟨_, rfl⟩
 obtain ⟨l, hxl⟩ : ∃ l, x.places = l := ⟨_, rfl⟩
 have HN : Hid (l.length = n) := Lib.hid (by rw [← hxl]; exact hn)
 obtain ⟨F, hF⟩ : ∃ F, plTo l = F := ⟨_, rfl⟩
 have HF := Lib.hid hF
 have hFl : ∀ j, (F j).length ≤ 1 + j := fun j => by rw [← hF]; exact plTo_len _ j
 have HF0 : Hid (F 0 = if 24 < n then [⟨4, ⟨#[112, 108, 97, 99, 101, 115]⟩⟩] else []) := Lib.hid (by rw [← hF, ← HN.out]; rfl)
 rw [hn] at hl
 rw [hn, hm]
 rw [hxl] at hP ⊢
 rw [hF]
 clear hn hm hxl hF x
 obtain ⟨W0, hW0⟩ : ∃ W0, w.alloc (.cells #[.slice A0 n d0, .slice A1 m d1] 25) = W0 := ⟨_, rfl⟩
 have hB0 : Below w.heap.size w W0 := by rw [← hW0]; exact (Below.refl _ _).alloc (Nat.le_refl _) _
 have z0 := hB0.size
 have hs0 : w.heap.size < W0.heap.size := by rw [← hW0]; simp
 have HS : Hid (∀ w', Below W0.heap.size W0 w' → w'.cell? ⟨w.heap.size, 0, none⟩ = some (.slice A0 n d0) ∧ RowAt rStr w' W0.heap.size A0 l) := Lib.hid fun w' h => by
  have hk := fun (o : Nat) => h.cell (p := ⟨w.heap.size, o, none⟩) hs0
  refine ⟨(hk _).trans ?_, ((hP.below hB0).more z0).below h⟩
  rw [← hW0]; simp
 have B0 : Below W0.heap.size W0 W0 := Below.refl _ _
 have HW0 := Lib.hid hW0
 clear hW0 hP
 go_enter Tryz.func90, Tryz.ntmps90
 go_upto_region 2 with fail
 rw [HW0.out]
 go_cut [11] (fun v wx => v = .bool (decide (24 < n)) ∧ W0 = wx)
 case first => as_aux_lemma =>
  obtain ⟨x0, -⟩ := HS.out _ B0
  have hE : decide ((24 : Int) < (n : Int)) = decide (24 < n) := by rw [Bool.eq_iff_iff]; simp; omega
  have HE := Lib.hid hE
  clear hE
  go_wp2
  go_meet
  exact ⟨by rw [HE.out], rfl⟩
 obtain ⟨h11, hwc⟩ := hcut
 subst h11
 subst hwc
 go_upto_if 11 with fail
 go_cut [3] (fun v wx => ∃ A c, v = .slice A (F 0).length c ∧ Fown wx W0.heap.size A c (F 0) ∧ Below W0.heap.size W0 wx)
 case first => as_aux_lemma =>
  cases h24 : decide (24 < n)
  ·have hE : Hid (F 0 = []) := Lib.hid (by rw [HF0.out, if_neg (of_decide_eq_false h24)])
   clear h24
   go_wp2
   go_meet
   exact ⟨none, 0, by rw [hE.out]; rfl, by rw [hE.out]; exact Fown.nil _ _, B0⟩
  ·have hE : Hid (F 0 = [] ++ [⟨4, ⟨#[112, 108, 97, 99, 101, 115]⟩⟩]) := Lib.hid (by rw [HF0.out, if_pos (of_decide_eq_true h24)]; rfl)
   clear h24
   have HO := Lib.hid (Fown.nil W0 W0.heap.size)
   go_wp2_with (at_builtin; refine wpList_pushF rfl _ _ rfl W0.heap.size none ([]) 0 rfl HO.out (⟨4, ⟨#[112, 108, 97, 99, 101, 115]⟩⟩) (F 0) hE.out rfl (by first | omega | decide) (by omega) ?_; intro g3 c3 w3 hown3 hb3 hs3 hk3 hd3)
   go_meet
   exact ⟨_, _, rfl, hown3, hb3⟩
 obtain ⟨A, c, h3, hown, hB⟩ := hcut
 subst h3
 go_upto_region 5 with fail
 go_loopw [3, 4, 5, 6, 7] (fun v i _ _ _ wr => ∃ (j : Nat) (A : Option Addr) (c : Nat), j ≤ n ∧ i = .int .i64 j ∧ v = .slice A (F j).length c ∧ Fown wr W0.heap.size A c (F j) ∧ Below W0.heap.size W0 wr) (fun _ i _ _ _ _ => n - (intOf i).toNat)
 case atStart => exact ⟨0, A, c, by omega, rfl, rfl, hown, hB⟩
 case round =>
  clear hown hB
  obtain ⟨j, A, c, hj, rfl, rfl, hown, hB⟩ := hrel
  have hz := hB.size
  obtain ⟨x0, -⟩ := HS.out _ hB
  by_cases hlt : j < n
  ·obtain ⟨s, hs⟩ : ∃ s, l[j]? = some s := ⟨_, List.getElem?_eq_getElem (by rw [HN.out]; exact hlt)⟩
   obtain ⟨ad, hA0, hadb, -, hsz⟩ := row_Str (HS.out _ hB).2 hs
   subst hA0
   have HA := Lib.hid (show ∀ w', Below W0.heap.size W0 w' → ∀ (k : Nat) t, l[k]? = some t → w'.cell? (ad.add k) = some (.string t) by
    intro w' hb k t hk
    obtain ⟨ad', hA', _, hc, _⟩ := row_Str (HS.out _ hb).2 hk
    obtain rfl : ad = ad' := Option.some.inj hA'
    exact hc)
   have hj0 : (0 : Int) ≤ (j : Int) := by omega
   have hjn : (j : Int) < (n : Int) := by omega
   have hjd : j < 1000000000000000000 := by omega
   have hFj := hFl j
   have HP : Hid (F (j + 1) = F j ++ plP l j s) := Lib.hid (by rw [← HF.out, plTo_succ hs])
   have HLS := Lib.hid hs
   have HO := Lib.hid hown
   have hds := decS_size j
   clear hs hown
   go_upto_region 8 with (go_at_call 18; refine (rdec_any j hjd _).mono ?_; rintro e w1 ⟨rfl, hb1⟩)
   have hB1 : Below W0.heap.size W0 w1 := hB.trans (hb1.mono hz)
   have z1 := hB1.size
   have HO1 := Lib.hid (HO.out.below hb1)
   clear HO hB x0
   obtain ⟨x0, -⟩ := HS.out _ hB1
   have m0 := HA.out _ hB1 j s HLS.out
   cases hnm : nameB s
   case false =>
    have hE : Hid (F (j + 1) = F j ++ [⟨5, plcS j⟩]) := Lib.hid (by rw [HP.out]; unfold plP; rw [hnm]; rfl)
    go_wp2_with (first
     | (go_at_call 133; refine (rname_any s hsz _).mono ?_; rw [hnm]; rintro e we ⟨rfl, rfl⟩)
     | (at_builtin; refine wpList_pushF rfl _ _ rfl W0.heap.size A (F j) c rfl HO1.out (⟨5, plcS j⟩) (F (j + 1)) hE.out rfl (by first | omega | decide) (by omega) ?_; intro g3 c3 w3 hown3 hb3 hs3 hk3 hd3))
    go_roundw
    case rel => exact ⟨j + 1, _, _, by omega, by go_num, rfl, hown3, hB1.trans (hb3.mono (Nat.le_refl _))⟩
    case measure => simp [intOf]; omega
   case true =>
    have HP2 : Hid (F (j + 1) = F j ++ (if hasB (l.take j) s = true then [⟨6, plcS j⟩] else [])) := Lib.hid (by rw [HP.out]; unfold plP; rw [hnm]; rfl)
    go_upto_region 12 with (go_at_call 133; refine (rname_any s hsz _).mono ?_; rw [hnm]; rintro e we ⟨rfl, rfl⟩)
    obtain ⟨w2, hw2⟩ : ∃ w2, w1 = w2 := ⟨_, rfl⟩
    clear x0 m0
    go_loopw [6, 7] (fun t i wr => ∃ (k : Nat), k ≤ j ∧ i = .int .i64 k ∧ t = .bool (hasB (l.take k) s) ∧ Below w1.heap.size w1 wr) (fun _ i _ => j - (intOf i).toNat)
    case atStart => exact ⟨0, by omega, rfl, by rw [hasB_zero], Below.refl _ _⟩
    case round =>
     obtain ⟨k, hk, rfl, rfl, hb⟩ := hrel
     have hB2 : Below W0.heap.size W0 wr := hB1.trans (hb.mono z1)
     obtain ⟨x0, -⟩ := HS.out _ hB2
     by_cases hkj : k < j
     ·obtain ⟨y, hy⟩ : ∃ y, l[k]? = some y := ⟨_, List.getElem?_eq_getElem (by rw [HN.out]; omega)⟩
      have m0 := HA.out _ hB2 j s HLS.out
      have m1 := HA.out _ hB2 k y hy
      have hk0 : (0 : Int) ≤ (k : Int) := by omega
      have hk1 : (k : Int) < (n : Int) := by omega
      have hk2 : (k : Int) < (j : Int) := by omega
      have HST := Lib.hid (hasB_step (y := s) hy)
      obtain ⟨q, hq⟩ : ∃ q, (y.toList == s.toList) = q := ⟨_, rfl⟩
      have HQ : Hid (decide (y = s) = q) := Lib.hid (by rw [← str_eq, hq])
      clear hy
      cases hh : hasB (l.take k) s
      all_goals
       have HH := Lib.hid hh
       clear hh
       go_wp2
       go_quiet (fail)
       go_wp2
       go_roundw
       case rel => exact ⟨k + 1, by omega, by go_num, by rw [HST.out, HQ.out, HH.out]; rfl, bel_drewN hb _⟩
       case measure => simp [intOf]; omega
     ·have hkj2 : k = j := by omega
      subst hkj2
      clear hkj
      have hbO := Lib.hid (HO1.out.below hb)
      have hs2 := hb.size
      have hz2 := hB2.size
      cases hh : hasB (l.take k) s
      ·have hE : Hid (F (k + 1) = F k) := Lib.hid (by rw [HP2.out, hh]; simp)
       clear hh
       go_wp2
       go_roundw
       case rel => exact ⟨k + 1, A, c, by omega, by go_num, by rw [hE.out], by rw [hE.out]; exact hbO.out, hB2⟩
       case measure => simp [intOf]; omega
      ·have hE : Hid (F (k + 1) = F k ++ [⟨6, plcS k⟩]) := Lib.hid (by rw [HP2.out, hh]; rfl)
       clear hh
       go_wp2_with (at_builtin; refine wpList_pushF rfl _ _ rfl W0.heap.size A (F k) c rfl hbO.out (⟨6, plcS k⟩) (F (k + 1)) hE.out rfl (by first | omega | decide) (by omega) ?_; intro g3 c3 w3 hown3 hb3 hs3 hk3 hd3)
       go_roundw
       case rel => exact ⟨k + 1, _, _, by omega, by go_num, rfl, hown3, hB2.trans (hb3.mono (Nat.le_refl _))⟩
       case measure => simp [intOf]; omega
  ·have hjn : j = n := by omega
   subst hjn
   clear hlt
   go_wp2
   go_ret
   exact ⟨A, c, rfl, own_less hown z0, hB0.trans (hB.mono z0)⟩
end Go.Proofs.YthefooacfcagbaaGreatDoor.rnet

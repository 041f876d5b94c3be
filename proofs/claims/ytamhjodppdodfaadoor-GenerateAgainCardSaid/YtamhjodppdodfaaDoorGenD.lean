/- Travel functions that are drawn, on both sides; an arc of the reference. -/
import Derived.Test.YtamhjodppdodfaaDoorGenB
import Derived.Test.YtamhjodppdodfaaDoorOff
import Derived.Test.YtamhjodppdodfaaDoorBase
import Derived.Deep.RegionHeld3
namespace Go.Proofs.YtamhjodppdodfaaDoor.gen
open Go.RowKit
open Go.Proofs.YtamhjodppdodfaaDoor.lib Go.Proofs.YtamhjodppdodfaaDoor.rd Go.Proofs.YtamhjodppdodfaaDoor.app Go.Proofs.YtamhjodppdodfaaDoor.typ Go.Proofs.YtamhjodppdodfaaDoor.txt Go.Proofs.YtamhjodppdodfaaDoor.big Go.Proofs.YtamhjodppdodfaaDoor.off
set_option linter.unusedVariables false
set_option linter.unusedSimpArgs false

theorem pt_elem : ElemOf 65 80 (.agg #[.int .i64 0, .int .i64 0]) 2 16 := ⟨Tryd.underlying65, by kernel_rfl, rfl, by decide, by decide⟩
def pcs (l : List Pt) : List Value := l.flatMap PtCells
theorem pcs_append (l l' : List Pt) : pcs (l ++ l') = pcs l ++ pcs l' := by unfold pcs; rw [List.flatMap_append]
theorem pcs_at {l : List Pt} {i : Nat} {q : Pt} (h : l[i]? = some q) (j : Nat) (hj : j < 2) : (pcs l)[i * 2 + j]? = (PtCells q)[j]? := flat_at (g := PtCells) (s := 2) (fun _ => rfl) l i q h j hj
/-- A slice literal is a row of the call's own. -/
theorem own_new (w : World) {base size n : Nat} {e : TypeId} {cs : List Value} (hl : cs.length = n * size) (hb : base ≤ w.heap.size) (hn : n ≤ 1000) : (w.alloc (.cells cs.toArray e)).ownsRow base e size (.slice (some ⟨w.heap.size, 0, none⟩) n n) n cs :=
  ⟨hl, .inr ⟨w.heap.size, n, cs.toArray, rfl, hb, World.alloc_heap_new w _, Nat.le_refl _, by unfold maxLen; omega, by simpa using hl, by simp [← hl]⟩⟩
theorem own_draw {w w' : World} {base p : Nat} {e : TypeId} {size n : Nat} {v : Value} {xs : List Value} (h : w.ownsRow base e size v n xs) (hp : p < base) (hg : w.grownBy w' (some p)) : w'.ownsRow base e size v n xs := by
  refine own_grown h hg (Or.inr (fun e => ?_))
  have := (World.ownsRow.lt h p e).1
  omega
theorem own_drew {w : World} {base : Nat} {e : TypeId} {size n : Nat} {v : Value} {xs : List Value} (h : w.ownsRow base e size v n xs) : w.drew.ownsRow base e size v n xs := h
/-- A travel function that was drawn, handed back. -/
def TrvOut (T : TypeId) (p : Nat) (l : List Pt) (s' : Int) (w : World) (e : Ending) (w' : World) : Prop := ∃ A c, e = .returned (.slice A l.length c) ∧ w'.ownsRow w.heap.size 80 2 (.slice A l.length c) l.length (pcs l) ∧ Boxed w' p T (.int .i64 s') ∧ w.grownBy w' (some p)
theorem pts_len (p : Pt) (s : Int) : ∀ k, (ptsTo p s k).1.length = k + 1
  | 0 => rfl
  | k + 1 => by rw [ptsTo, List.length_append, pts_len p s k]; rfl
theorem pts_last (p : Pt) (s : Int) : ∀ k, (ptsTo p s k).1[k]? = some (ptsTo p s k).2.1
  | 0 => rfl
  | k + 1 => by
    rw [ptsTo]
    simp only
    rw [List.getElem?_append_right (by rw [pts_len]; exact Nat.le_refl _), pts_len, Nat.sub_self]
    rfl
theorem pts_bd (p : Pt) (s : Int) (hp : 0 ≤ p.t ∧ p.t ≤ 50 ∧ 0 ≤ p.a ∧ p.a ≤ 110) : ∀ k : Nat, 0 ≤ (ptsTo p s k).2.1.t ∧ (ptsTo p s k).2.1.t ≤ 50 + 100 * k ∧ 0 ≤ (ptsTo p s k).2.1.a ∧ (ptsTo p s k).2.1.a ≤ 110 + 120 * k
  | 0 => by show 0 ≤ p.t ∧ _; simp [ptsTo]; omega
  | k + 1 => by
    have ih := pts_bd p s hp k
    have f1 := frm_bd (s := (ptsTo p s k).2.2) (a := 10) (b := 100) (by omega)
    have f2 := frm_bd (s := nx 1 (ptsTo p s k).2.2) (a := 0) (b := 120) (by omega)
    rw [ptsTo]
    simp only [ptNext]
    push_cast
    split <;> omega
set_option maxRecDepth 20000 in
set_option maxHeartbeats 8000000 in
theorem travel_any (p : Nat) (s : Int) (w : World) (h : Boxed w p 48 (.int .i64 s)) :
    Calls Tryd.prog 20 #[.pointer (some ⟨p, 0, none⟩)] w (TrvOut 48 p (trvF s).1 (trvF s).2.2 w) := by
  have hp := h.lt
  have HG0 := Lib.hid (GS.start h)
  clear h
  go_enter Tryd.func20, Tryd.ntmps20
  go_wp2_with fail
  refine (from_any p (s) (1) (3) _ HG0.out.box (by omega) (by omega) (by omega)).mono ?_
  rintro e w1 ⟨rfl, hbx, hgr⟩
  obtain ⟨n, hv⟩ : ∃ v, frm (s) (1) (3) = v := ⟨_, rfl⟩
  have Bn := frm_bd (s := s) (a := 1) (b := 3) (by omega)
  rw [hv] at Bn ⊢
  have Hn := Lib.hid hv
  have Gn := Lib.hid (HG0.out.draw hbx hgr)
  clear hbx hv
  clear hgr
  go_wp2_with fail
  refine (from_any p (nx 1 s) (0) (50) _ Gn.out.box (by omega) (by omega) (by omega)).mono ?_
  rintro e w2 ⟨rfl, hbx, hgr⟩
  obtain ⟨t0, hv⟩ : ∃ v, frm (nx 1 s) (0) (50) = v := ⟨_, rfl⟩
  have Bt0 := frm_bd (s := nx 1 s) (a := 0) (b := 50) (by omega)
  rw [hv] at Bt0 ⊢
  have Ht0 := Lib.hid hv
  have Gt0 := Lib.hid (Gn.out.draw hbx hgr)
  clear hbx hv
  clear hgr
  go_wp2_with fail
  refine (from_any p (nx 2 s) (1) (60) _ Gt0.out.box (by omega) (by omega) (by omega)).mono ?_
  rintro e w3 ⟨rfl, hbx, hgr⟩
  obtain ⟨a0, hv⟩ : ∃ v, frm (nx 2 s) (1) (60) = v := ⟨_, rfl⟩
  have Ba0 := frm_bd (s := nx 2 s) (a := 1) (b := 60) (by omega)
  rw [hv] at Ba0 ⊢
  have Ha0 := Lib.hid hv
  have Ga0 := Lib.hid (Gt0.out.draw hbx hgr)
  clear hbx hv
  clear hgr
  obtain ⟨N, hN⟩ : ∃ N : Nat, n = (N : Int) + 1 := ⟨n.toNat - 1, by omega⟩
  have HT : Hid (trvF s = ptsTo ⟨t0, t0 + a0⟩ (nx 3 s) N) := Lib.hid (by
    unfold trvF pt0 trvN
    rw [Hn.out, Ht0.out, Ha0.out, hN]
    congr 1)
  have hN2 : N ≤ 2 := by omega
  subst hN
  go_upto_region 4 with fail
  have HG4 := Lib.hid (Ga0.out.alloc (.cells #[.int .i64 t0, .int .i64 (t0 + a0)] 80))
  have HO4 : Hid ((w3.alloc (.cells #[.int .i64 t0, .int .i64 (t0 + a0)] 80)).ownsRow w.heap.size 80 2 (.slice (some ⟨w3.heap.size, 0, none⟩) 1 1) 1 (pcs [⟨t0, t0 + a0⟩])) := Lib.hid (own_new w3 (cs := pcs [⟨t0, t0 + a0⟩]) rfl Ga0.out.size (by omega))
  go_loopw [5, 6, 7] (fun v _ _ wr => ∃ (k : Nat) (A : Option Addr) (c : Nat), k ≤ N ∧ v = .slice A (k + 1) c ∧ Hid (wr.ownsRow w.heap.size 80 2 (.slice A (k + 1) c) (k + 1) (pcs (ptsTo ⟨t0, t0 + a0⟩ (nx 3 s) k).1)) ∧ Hid (GS w p 48 (ptsTo ⟨t0, t0 + a0⟩ (nx 3 s) k).2.2 wr)) (fun v _ _ _ => N + 1 - (match v with | .slice _ n _ => n | _ => 0))
  case atStart => exact ⟨0, some ⟨w3.heap.size, 0, none⟩, 1, by omega, rfl, HO4, HG4⟩
  case round =>
    clear HO4 HG4
    obtain ⟨k, A, c, hk, rfl, HO, HG⟩ := hrel
    have hzr := HG.out.size
    by_cases hlt : k < N
    · obtain ⟨q, hq⟩ : ∃ q, (ptsTo ⟨t0, t0 + a0⟩ (nx 3 s) k).2.1 = q := ⟨_, rfl⟩
      obtain ⟨z, hz⟩ : ∃ z, (ptsTo ⟨t0, t0 + a0⟩ (nx 3 s) k).2.2 = z := ⟨_, rfl⟩
      obtain ⟨l, hl⟩ : ∃ l, (ptsTo ⟨t0, t0 + a0⟩ (nx 3 s) k).1 = l := ⟨_, rfl⟩
      have hbd := pts_bd ⟨t0, t0 + a0⟩ (nx 3 s) ⟨by show 0 ≤ t0; omega, by show t0 ≤ 50; omega, by show 0 ≤ t0 + a0; omega, by show t0 + a0 ≤ 110; omega⟩ k
      have hlast := pts_last ⟨t0, t0 + a0⟩ (nx 3 s) k
      have HNX : Hid (ptsTo ⟨t0, t0 + a0⟩ (nx 3 s) (k + 1) = (l ++ [ptNext q z], ptNext q z, nx 2 z)) := Lib.hid (by rw [ptsTo, hq, hz, hl])
      rw [hq] at hbd hlast
      rw [hl] at hlast HO
      rw [hz] at HG
      clear hq hz hl
      have h8 : (k + 1 : Nat) ≤ 3 := by omega
      obtain ⟨g, hA, hg0⟩ : ∃ g, A = some ⟨g, 0, none⟩ ∧ w.heap.size ≤ g := by
        rcases HO.out.2 with ⟨h6, h7⟩ | ⟨g, cap, cur, h6, h7, _⟩
        · omega
        · injection h6 with h6 _ _
          exact ⟨g, h6, h7⟩
      subst hA
      have hgl := (World.ownsRow.lt HO.out g rfl).2
      obtain ⟨ad, had⟩ : ∃ ad : Addr, (⟨g, 0, none⟩ : Addr) = ad := ⟨_, rfl⟩
      have m0 : wr.cell? (ad.add (k * 2)) = some (.int .i64 q.t) := by rw [← had]; exact HO.out.cells (g := g) rfl _ _ (by rw [show k * 2 = k * 2 + 0 from rfl, pcs_at hlast 0 (by omega)]; rfl)
      have m1 : wr.cell? ⟨(ad.add (k * 2)).block, (ad.add (k * 2)).off + 1, none⟩ = some (.int .i64 q.a) := by rw [← add_split, ← had]; exact HO.out.cells (g := g) rfl _ _ (by rw [pcs_at hlast 1 (by omega)]; rfl)
      have e8 : ((k + 1 : Nat) : Int) - 1 = (k : Int) := by omega
      have hk0 : (0 : Int) ≤ (k : Int) := by omega
      have hk1 : (k : Int) < ((k + 1 : Nat) : Int) := by omega
      have hk2 : ((k + 1 : Nat) : Int) < (N : Int) + 1 := by omega
      rw [had] at HO ⊢
      clear hlast
      go_upto_region 6 with fail
      obtain ⟨b, hb⟩ : ∃ b, wr.heap.size = b := ⟨_, rfl⟩
      have hO5 := own_below HO.out ((Below.refl _ _).alloc (Nat.le_refl _) (.cells #[.int .i64 q.t, .int .i64 q.a] 80))
      have hB5 : Blk (wr.alloc (.cells #[.int .i64 q.t, .int .i64 q.a] 80)) wr.heap.size 80 [.int .i64 q.t, .int .i64 q.a] := Blk.new wr _ [.int .i64 q.t, .int .i64 q.a]
      have hG5 := HG.out.alloc (.cells #[.int .i64 q.t, .int .i64 q.a] 80)
      obtain ⟨W5, hW5⟩ : ∃ W, wr.alloc (.cells #[.int .i64 q.t, .int .i64 q.a] 80) = W := ⟨_, rfl⟩
      rw [hW5] at hO5 hB5 hG5 ⊢
      rw [hb] at hB5 hgl hzr ⊢
      have HO5 := Lib.hid hO5
      have HB5 := Lib.hid hB5
      have HG5 := Lib.hid hG5
      clear hW5 hO5 hB5 hG5 HO HG m0 m1 hb
      (refine wp_region_held_drew (S := (fun w' => w'.cell? ⟨b, 0, none⟩ = some (.int .i64 q.t))) (by kernel_rfl) ?_ (fun hHeld => ?_))
      · exact HB5.out.cell (j := 0) rfl
      (refine wpAnyH_take (i := 0) (v := ?_) rfl (by kernel_rfl) (by kernel_rfl) (by kernel_rfl) (fun _ _ _ h => h) (Or.inl ⟨by kernel_rfl, ?_⟩) (by assumption) ?_; rotate_left; (focus (intro w hSw; (try dsimp only at hSw); go_simp; all_goals with_reducible rfl)); (try simp only [Act.put, List.getElem_toArray, List.getElem_cons_succ, List.getElem_cons_zero, List.setIfInBounds_toArray, List.set_cons_zero, List.set_cons_succ]))
      (refine wpAnyH_take (i := 1) (v := ?_) rfl (by kernel_rfl) (by kernel_rfl) (by kernel_rfl) (fun _ _ _ h => h) (Or.inl ⟨by kernel_rfl, ?_⟩) (by assumption) ?_; rotate_left; (focus (intro w hSw; (try dsimp only at hSw); go_simp; all_goals with_reducible rfl)); (try simp only [Act.put, List.getElem_toArray, List.getElem_cons_succ, List.getElem_cons_zero, List.setIfInBounds_toArray, List.set_cons_zero, List.set_cons_succ]))
      (refine wpAnyH_take (i := 2) (v := ?_) rfl (by kernel_rfl) (by kernel_rfl) (by kernel_rfl) (fun _ _ _ h => h) (Or.inl ⟨by kernel_rfl, ?_⟩) (by assumption) ?_; rotate_left; (focus (intro w hSw; (try dsimp only at hSw); go_simp; all_goals with_reducible rfl)); (try simp only [Act.put, List.getElem_toArray, List.getElem_cons_succ, List.getElem_cons_zero, List.setIfInBounds_toArray, List.set_cons_zero, List.set_cons_succ]))
      (refine wpAnyH_ready (rs := [3]) (by kernel_rfl) (by simp) ?_; refine AllReadyH.cons rfl (fun K hK => ?_) AllReadyH.nil)
      go_simp
      have HG6 := Lib.hid HG5.out.drew
      refine (from_any p (z) (10) (100) _ HG6.out.box (by omega) (by omega) (by omega)).mono ?_
      rintro e w7 ⟨rfl, hbx, hgr⟩
      obtain ⟨v1, hv⟩ : ∃ v, frm (z) (10) (100) = v := ⟨_, rfl⟩
      have Bv1 := frm_bd (s := z) (a := 10) (b := 100) (by omega)
      rw [hv] at Bv1 ⊢
      have Hv1 := Lib.hid hv
      have Gv1 := Lib.hid (HG6.out.draw hbx hgr)
      clear hbx hv
      have HB7 := Lib.hid ((show Blk W5.drew b 80 [.int .i64 q.t, .int .i64 q.a] from HB5.out).kept hgr (fun e => by injection e; omega))
      have HO7 := Lib.hid (own_draw (own_drew HO5.out) hp hgr)
      clear hgr HG6 HG5 HB5 HO5
      refine hK.out _ _ ((HB7.out.cell (j := 0) rfl)) (fun hHeld => ?_)
      clear hK K
      (try simp only [Act.put, List.getElem_toArray, List.getElem_cons_succ, List.getElem_cons_zero, List.setIfInBounds_toArray, List.set_cons_zero, List.set_cons_succ])
      (refine wpAnyH_take (i := 4) (v := ?_) rfl (by kernel_rfl) (by kernel_rfl) (by kernel_rfl) (fun _ _ _ h => h) (Or.inl ⟨by kernel_rfl, ?_⟩) (by assumption) ?_; rotate_left; (focus (intro w hSw; (try dsimp only at hSw); go_simp; all_goals with_reducible rfl)); (try simp only [Act.put, List.getElem_toArray, List.getElem_cons_succ, List.getElem_cons_zero, List.setIfInBounds_toArray, List.set_cons_zero, List.set_cons_succ]))
      rw [wrapI (n := q.t + v1) (by omega) (by omega)]
      (refine wpAnyH_take (i := 5) (v := ?_) rfl (by kernel_rfl) (by kernel_rfl) (by kernel_rfl) (fun _ _ _ h => h) (Or.inl ⟨by kernel_rfl, ?_⟩) (by assumption) ?_; rotate_left; (focus (intro w hSw; (try dsimp only at hSw); go_simp; all_goals with_reducible rfl)); (try simp only [Act.put, List.getElem_toArray, List.getElem_cons_succ, List.getElem_cons_zero, List.setIfInBounds_toArray, List.set_cons_zero, List.set_cons_succ]))
      (refine wpAnyH_done (by kernel_rfl) ?_ _)
      go_upto_region 7 with fail
      (refine wp_region_held_drew (S := (fun w' => w'.cell? ⟨b, 1, none⟩ = some (.int .i64 q.a))) (by kernel_rfl) ?_ (fun hHeld => ?_))
      · exact HB7.out.cell (j := 1) rfl
      (refine wpAnyH_take (i := 0) (v := ?_) rfl (by kernel_rfl) (by kernel_rfl) (by kernel_rfl) (fun _ _ _ h => h) (Or.inl ⟨by kernel_rfl, ?_⟩) (by assumption) ?_; rotate_left; (focus (intro w hSw; (try dsimp only at hSw); go_simp; all_goals with_reducible rfl)); (try simp only [Act.put, List.getElem_toArray, List.getElem_cons_succ, List.getElem_cons_zero, List.setIfInBounds_toArray, List.set_cons_zero, List.set_cons_succ]))
      (refine wpAnyH_take (i := 1) (v := ?_) rfl (by kernel_rfl) (by kernel_rfl) (by kernel_rfl) (fun _ _ _ h => h) (Or.inl ⟨by kernel_rfl, ?_⟩) (by assumption) ?_; rotate_left; (focus (intro w hSw; (try dsimp only at hSw); go_simp; all_goals with_reducible rfl)); (try simp only [Act.put, List.getElem_toArray, List.getElem_cons_succ, List.getElem_cons_zero, List.setIfInBounds_toArray, List.set_cons_zero, List.set_cons_succ]))
      (refine wpAnyH_take (i := 2) (v := ?_) rfl (by kernel_rfl) (by kernel_rfl) (by kernel_rfl) (fun _ _ _ h => h) (Or.inl ⟨by kernel_rfl, ?_⟩) (by assumption) ?_; rotate_left; (focus (intro w hSw; (try dsimp only at hSw); go_simp; all_goals with_reducible rfl)); (try simp only [Act.put, List.getElem_toArray, List.getElem_cons_succ, List.getElem_cons_zero, List.setIfInBounds_toArray, List.set_cons_zero, List.set_cons_succ]))
      (refine wpAnyH_take (i := 3) (v := ?_) rfl (by kernel_rfl) (by kernel_rfl) (by kernel_rfl) (fun _ _ _ h => h) (Or.inl ⟨by kernel_rfl, ?_⟩) (by assumption) ?_; rotate_left; (focus (intro w hSw; (try dsimp only at hSw); go_simp; all_goals with_reducible rfl)); (try simp only [Act.put, List.getElem_toArray, List.getElem_cons_succ, List.getElem_cons_zero, List.setIfInBounds_toArray, List.set_cons_zero, List.set_cons_succ]))
      (refine wpAnyH_take (i := 4) (v := ?_) rfl (by kernel_rfl) (by kernel_rfl) (by kernel_rfl) (fun _ _ _ h => h) (Or.inl ⟨by kernel_rfl, ?_⟩) (by assumption) ?_; rotate_left; (focus (intro w hSw; (try dsimp only at hSw); go_simp; all_goals with_reducible rfl)); (try simp only [Act.put, List.getElem_toArray, List.getElem_cons_succ, List.getElem_cons_zero, List.setIfInBounds_toArray, List.set_cons_zero, List.set_cons_succ]))
      (refine wpAnyH_take (i := 5) (v := ?_) rfl (by kernel_rfl) (by kernel_rfl) (by kernel_rfl) (fun _ _ _ h => h) (Or.inl ⟨by kernel_rfl, ?_⟩) (by assumption) ?_; rotate_left; (focus (intro w hSw; (try dsimp only at hSw); go_simp; all_goals with_reducible rfl)); (try simp only [Act.put, List.getElem_toArray, List.getElem_cons_succ, List.getElem_cons_zero, List.setIfInBounds_toArray, List.set_cons_zero, List.set_cons_succ]))
      (refine wpAnyH_ready (rs := [6]) (by kernel_rfl) (by simp) ?_; refine AllReadyH.cons rfl (fun K hK => ?_) AllReadyH.nil)
      go_simp
      have HG8 := Lib.hid Gv1.out.drew
      refine (from_any p (nx 1 z) (0) (120) _ HG8.out.box (by omega) (by omega) (by omega)).mono ?_
      rintro e w9 ⟨rfl, hbx, hgr⟩
      obtain ⟨v2, hv⟩ : ∃ v, frm (nx 1 z) (0) (120) = v := ⟨_, rfl⟩
      have Bv2 := frm_bd (s := nx 1 z) (a := 0) (b := 120) (by omega)
      rw [hv] at Bv2 ⊢
      have Hv2 := Lib.hid hv
      have Gv2 := Lib.hid (HG8.out.draw hbx hgr)
      clear hbx hv
      have HB9 := Lib.hid ((show Blk w7.drew b 80 [.int .i64 q.t, .int .i64 q.a] from HB7.out).kept hgr (fun e => by injection e; omega))
      have HO9 := Lib.hid (own_draw (own_drew HO7.out) hp hgr)
      clear hgr HG8 Gv1 HB7 HO7
      refine hK.out _ _ ((HB9.out.cell (j := 1) rfl)) (fun hHeld => ?_)
      clear hK K
      (try simp only [Act.put, List.getElem_toArray, List.getElem_cons_succ, List.getElem_cons_zero, List.setIfInBounds_toArray, List.set_cons_zero, List.set_cons_succ])
      (refine wpAnyH_take (i := 7) (v := ?_) rfl (by kernel_rfl) (by kernel_rfl) (by kernel_rfl) (fun _ _ _ h => h) (Or.inl ⟨by kernel_rfl, ?_⟩) (by assumption) ?_; rotate_left; (focus (intro w hSw; (try dsimp only at hSw); go_simp; all_goals with_reducible rfl)); (try simp only [Act.put, List.getElem_toArray, List.getElem_cons_succ, List.getElem_cons_zero, List.setIfInBounds_toArray, List.set_cons_zero, List.set_cons_succ]))
      rw [wrapI (n := q.a + v2) (by omega) (by omega)]
      (refine wpAnyH_take (i := 8) (v := ?_) rfl (by kernel_rfl) (by kernel_rfl) (by kernel_rfl) (fun _ _ _ h => h) (Or.inl ⟨by kernel_rfl, ?_⟩) (by assumption) ?_; rotate_left; (focus (intro w hSw; (try dsimp only at hSw); go_simp; all_goals with_reducible rfl)); (try simp only [Act.put, List.getElem_toArray, List.getElem_cons_succ, List.getElem_cons_zero, List.setIfInBounds_toArray, List.set_cons_zero, List.set_cons_succ]))
      obtain ⟨na, hna⟩ : ∃ na, (if q.t + v1 < q.a + v2 then q.a + v2 else q.t + v1) = na := ⟨_, rfl⟩
      obtain ⟨nt, hnt⟩ : ∃ nt, q.t + v1 = nt := ⟨_, rfl⟩
      have HPN : Hid (ptNext q z = ⟨nt, na⟩) := Lib.hid (by
        unfold ptNext
        rw [Hv1.out, Hv2.out, hnt]
        congr 1
        rw [← hna, ← hnt]
        split <;> split <;> omega)
      rw [hna]
      rw [hnt]
      clear hna hnt
      (refine wpAnyH_take (i := 9) (v := ?_) rfl (by kernel_rfl) (by kernel_rfl) (by kernel_rfl) (fun _ _ _ h => h) (Or.inl ⟨by kernel_rfl, ?_⟩) (by assumption) ?_; rotate_left; (focus (intro w hSw; (try dsimp only at hSw); go_simp; all_goals with_reducible rfl)); (try simp only [Act.put, List.getElem_toArray, List.getElem_cons_succ, List.getElem_cons_zero, List.setIfInBounds_toArray, List.set_cons_zero, List.set_cons_succ]))
      have bl : Below w9.heap.size w9 (w9.alloc (.cells #[.int .i64 nt, .int .i64 na] 80)) := (Below.refl _ _).alloc (Nat.le_refl _) _
      have HBa := Lib.hid (HB9.out.below bl)
      have HOa := Lib.hid (own_below HO9.out bl)
      have HGa := Lib.hid (Gv2.out.alloc (.cells #[.int .i64 nt, .int .i64 na] 80))
      have hza : w.heap.size ≤ (w9.alloc (.cells #[.int .i64 nt, .int .i64 na] 80)).heap.size := HGa.out.size
      (refine wpAnyH_ready (rs := [10]) (by kernel_rfl) (by simp) ?_; refine AllReadyH.cons rfl (fun K hK => ?_) AllReadyH.nil)
      go_simp
      refine hK.out _ _ ((HBa.out.cell (j := 1) rfl)) (fun hHeld => ?_)
      clear hK K
      (try simp only [Act.put, List.getElem_toArray, List.getElem_cons_succ, List.getElem_cons_zero, List.setIfInBounds_toArray, List.set_cons_zero, List.set_cons_succ])
      (refine wpAnyH_ready (rs := [11]) (by kernel_rfl) (by simp) ?_; refine AllReadyH.cons rfl (fun K hK => ?_) AllReadyH.nil)
      refine step_app pt_elem _ _ rfl w.heap.size (some ad) (k + 1) c (pcs l) rfl HOa.out ⟨w9.heap.size, 0, none⟩ 1 [.int .i64 nt, .int .i64 na] rfl rfl (two_new w9 (.int .i64 nt) (.int .i64 na) _) (fun u hu => by simp only [List.mem_cons, List.not_mem_nil, or_false] at hu; rcases hu with rfl | rfl <;> rfl) (by omega) hza rfl ?_
      intro g7 c7 wz hown7 hg7 hx7
      have HOz := Lib.hid hown7
      have HGz := Lib.hid (HGa.out.grow hg7 (fun q e => (World.ownsRow.lt HOa.out q e).1))
      have HBz := Lib.hid (HBa.out.kept hg7 (fun e => by
        have e' : some b = some ad.block := e
        injection e' with e'
        rw [← had] at e'
        have e2 : b = g := e'
        omega))
      clear hown7 hg7 hx7
      refine hK.out _ _ ((HBz.out.cell (j := 1) rfl)) (fun hHeld => ?_)
      clear hK K
      (try simp only [Act.put, List.getElem_toArray, List.getElem_cons_succ, List.getElem_cons_zero, List.setIfInBounds_toArray, List.set_cons_zero, List.set_cons_succ])
      (refine wpAnyH_take (i := 12) (v := ?_) rfl (by kernel_rfl) (by kernel_rfl) (by kernel_rfl) (fun _ _ _ h => h) (Or.inl ⟨by kernel_rfl, ?_⟩) (by assumption) ?_; rotate_left; (focus (intro w hSw; (try dsimp only at hSw); go_simp; all_goals with_reducible rfl)); (try simp only [Act.put, List.getElem_toArray, List.getElem_cons_succ, List.getElem_cons_zero, List.setIfInBounds_toArray, List.set_cons_zero, List.set_cons_succ]))
      (refine wpAnyH_done (by kernel_rfl) ?_ _)
      go_wp2
      have hl9 : pcs (ptsTo ⟨t0, t0 + a0⟩ (nx 3 s) (k + 1)).1 = pcs l ++ [.int .i64 nt, .int .i64 na] := by rw [HNX.out, pcs_append, HPN.out]; rfl
      exact ⟨⟨k + 1, some ⟨g7, 0, none⟩, c7, by omega, rfl, by rw [hl9]; exact HOz, by rw [HNX.out]; exact HGz⟩, by simp; omega⟩
    · have hkN : k = N := by omega
      subst hkN
      clear hlt
      go_wp2_with fail
      go_ret
      rw [HT.out]
      have hl := pts_len ⟨t0, t0 + a0⟩ (nx 3 s) k
      exact ⟨A, c, by rw [hl]; rfl, by rw [hl]; exact HO.out, HG.out.box, HG.out.grown⟩
end Go.Proofs.YtamhjodppdodfaaDoor.gen

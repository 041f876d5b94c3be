/- A network in which the arcs between two places take more ticks: the walk of the program. -/
import Derived.Test.YtamhjodppdodfaaDoorSlwB
import Derived.Test.YtamhjodppdodfaaDoorGenG
namespace Go.Proofs.YtamhjodppdodfaaDoor.evt
open Go.RowKit
open Go.Proofs.YtamhjodppdodfaaDoor.lib Go.Proofs.YtamhjodppdodfaaDoor.rd Go.Proofs.YtamhjodppdodfaaDoor.app Go.Proofs.YtamhjodppdodfaaDoor.els Go.Proofs.YtamhjodppdodfaaDoor.off Go.Proofs.YtamhjodppdodfaaDoor.typ Go.Proofs.YtamhjodppdodfaaDoor.big Go.Proofs.YtamhjodppdodfaaDoor.ins Go.Proofs.YtamhjodppdodfaaDoor.ord Go.Proofs.YtamhjodppdodfaaDoor.gen Go.Proofs.YtamhjodppdodfaaDoor.net
open Go.Proofs.YtamhjodppdodfaaDoor.win (tickB)
set_option linter.unusedVariables false
set_option linter.unusedSimpArgs false

theorem row_fits {w : World} {B : Nat} {A : Option Addr} {l : List Pt} (h : RowAt rPt w B A l) : ∀ p ∈ l, PtFits p := fun p hp => by
  obtain ⟨i, hi⟩ := List.mem_iff_getElem?.1 hp
  obtain ⟨ad, cs, _, _, h3, _⟩ := h.2 i p hi
  exact (rPt_at h3).2
theorem arc_ones {w : World} {B : Nat} : ∀ (cs : List Value) (x : Arc), rArc.at_ w B cs x → ∀ u ∈ cs, u.oneCell' = true := fun cs x h => by
  obtain ⟨C, cc, D, dd, rfl, _⟩ := rArc_at h
  intro u hu
  simp only [ArcCells, List.mem_cons, List.not_mem_nil, or_false] at hu
  rcases hu with rfl | rfl | rfl | rfl | rfl | rfl <;> rfl
theorem arcC_one (o : Arc) (C : Option Addr) (c : Nat) (D : Option Addr) (d : Nat) : ∀ u ∈ ArcCells o C c D d, u.oneCell' = true := fun u hu => by
  simp only [ArcCells, List.mem_cons, List.not_mem_nil, or_false] at hu
  rcases hu with rfl | rfl | rfl | rfl | rfl | rfl <;> rfl
theorem late_err {l : List Pt} {t n k : Int} (h : lateF l t n = .error k) : k = 2 ∨ k = 4 := by
  rcases List.eq_nil_or_concat l with rfl | ⟨l', p, rfl⟩
  · have h' : (Except.ok [⟨t, n⟩] : Except Int (List Pt)) = .error k := h
    cases h'
  · rw [List.concat_eq_append, late_snoc] at h
    split at h
    · injection h with h
      omega
    · split at h
      · split at h
        · injection h with h
          omega
        · cases h
      · split at h
        · injection h with h
          omega
        · cases h
theorem own_ne {w : World} {base : Nat} {e : TypeId} {size n : Nat} {v : Value} {xs : List Value} {b : Nat} {t : TypeId} {cs : List Value} (h : w.ownsRow base e size v n xs) (hb : Blk w b t cs) (hne : e ≠ t) : some b ≠ v.ownBlock := fun e' => by
  rcases h.2 with ⟨rfl, _⟩ | ⟨g, cap, cur, rfl, _, hg, _⟩
  · cases e'
  · have hbg : b = g := Option.some.inj e'
    subst hbg
    rw [show w.heap[b]? = _ from hb] at hg
    injection hg with hg
    injection hg with _ hg _
    exact hne hg.symm
theorem own_skip {w w' : World} {base : Nat} {e : TypeId} {size n : Nat} {v : Value} {xs : List Value} {b : Nat} {t : TypeId} {cs : List Value} (h : w.ownsRow base e size v n xs) (hb : Blk w b t cs) (hne : e ≠ t) (hk : ∀ k, k ≠ b → w'.heap[k]? = w.heap[k]?) : w'.ownsRow base e size v n xs := by
  have h9 := own_ne h hb hne
  rcases h.2 with ⟨h1, h2⟩ | ⟨g, cap, cur, rfl, h2, h3, h4⟩
  · exact ⟨h.1, .inl ⟨h1, h2⟩⟩
  · exact ⟨h.1, .inr ⟨g, cap, cur, rfl, h2, (hk g (fun e' => h9 (by rw [e']; rfl))).trans h3, h4⟩⟩
set_option maxRecDepth 20000 in
set_option maxHeartbeats 8000000 in
theorem slower_any (N : Net) (A0 : Option Addr) (d0 : Nat) (A1 : Option Addr) (d1 : Nat) (f t at_ n : Int) (w : World) (h1 : RowAt rArc w w.heap.size A1 N.arcs) (hl : N.arcs.length ≤ 100000)
    (hs : ∀ a ∈ N.arcs, a.slow.length ≤ 500 ∧ ∀ p ∈ a.slow, -1000000 ≤ p.a ∧ p.a ≤ 1000000) :
    Calls Tryd.prog 35 #[.agg #[.slice A0 N.places.length d0, .slice A1 N.arcs.length d1], .int .i64 f, .int .i64 t, .int .i64 at_, .int .i64 n] w (SlwOut w A0 d0 (slwF N f t at_ n)) := by
  obtain ⟨W0, hW0⟩ : ∃ W0, (w.alloc (.cells (netC A0 N.places.length d0 A1 N.arcs.length d1).toArray 25)).alloc (.cells (netC none 0 0 none 0 0).toArray 25) = W0 := ⟨_, rfl⟩
  have hB0 : Below w.heap.size w W0 := by rw [← hW0]; exact ((Below.refl _ _).alloc (Nat.le_refl _) _).alloc (by simp) _
  have hz : W0.heap.size = w.heap.size + 2 := by rw [← hW0]; simp
  have b0 : Blk W0 w.heap.size 25 (netC A0 N.places.length d0 A1 N.arcs.length d1) := by
    rw [← hW0]
    exact (Blk.new w _ _).kept (World.grownBy_alloc _ _ none) (by simp)
  have b1 : Blk W0 (w.heap.size + 1) 25 (netC none 0 0 none 0 0) := by
    rw [← hW0]
    have h := Blk.new (w.alloc (.cells (netC A0 N.places.length d0 A1 N.arcs.length d1).toArray 25)) 25 (netC none 0 0 none 0 0)
    rw [show (w.alloc (.cells (netC A0 N.places.length d0 A1 N.arcs.length d1).toArray 25)).heap.size = w.heap.size + 1 by simp] at h
    exact h
  have hW1 : (w.alloc (.cells #[.slice A0 N.places.length d0, .slice A1 N.arcs.length d1] 25)).alloc (.cells #[.slice none 0 0, .slice none 0 0] 25) = W0 := hW0
  obtain ⟨CS, hcs, hca, hcb, hone⟩ := RowAt.cells (r := rArc) (by decide) h1
  have HEL := Lib.hid (fun (P : Nat → Prop) (hP : ∀ b, b < w.heap.size → P b) => EG.of_cells (r := oArc) (P := P) hcs (fun _ _ => oArc_low (Nat.le_refl _) hP))
  have HON := Lib.hid (hone (fun u => u.oneCell' = true) arc_ones)
  obtain ⟨m, hm⟩ : ∃ m, N.places.length = m := ⟨_, rfl⟩
  obtain ⟨n1, hn1⟩ : ∃ m, N.arcs.length = m := ⟨_, rfl⟩
  have HRD : Hid (∀ w', Below w.heap.size w w' → Reads w' w.heap.size 6 A1 n1 CS) := Lib.hid (fun w' hb => ⟨by rw [← hn1]; exact hcs.1, fun h0 => by
    obtain ⟨ad, h3, h4⟩ := hcb (by omega)
    exact ⟨ad, h3, h4, (hca ad h3).below hb h4⟩⟩)
  have HSF : Hid (slwF N f t at_ n = if ¬ (placeB m f = true ∧ placeB m t = true) then .error 11 else if ¬ (tickB at_ = true ∧ tickB n = true) then .error 2 else match slwTo N.arcs f t at_ n n1 with
    | .error e => .error e
    | .ok (r, b) => if b then .ok ⟨N.places, r⟩ else .error 12) := Lib.hid (by rw [← hm, ← hn1]; rfl)
  obtain ⟨r, hr⟩ : ∃ r, slwF N f t at_ n = r := ⟨_, rfl⟩
  rw [hr] at HSF ⊢
  rw [hm, hn1] at hW1 b0 ⊢
  rw [hn1] at hl
  have HNN := Lib.hid (And.intro hm hn1)
  have HSL := Lib.hid hs
  have HX := Lib.hid b0
  have HY := Lib.hid b1
  have HW1 := Lib.hid hW1
  clear h1 hs hcs hca hcb hone hm hn1 hr hW0 hW1 b0 b1
  go_enter Tryd.func35, Tryd.ntmps35
  go_upto_region 1 with fail
  rw [HW1.out]
  clear HW1
  go_wp2_with ((with_reducible refine wpList_loadG stNet _ rfl ⟨w.heap.size, 0, none⟩ (netC A0 m d0 A1 n1 d1) ?_ ?_ ?_ ?_ ?_); exact rfl; exact rfl; exact HX.out.cells; exact rfl)
  refine (place_any m A0 d0 A1 n1 d1 f W0).mono ?_
  rintro e w1 ⟨rfl, b1⟩
  obtain ⟨p1, hp1⟩ : ∃ q, placeB m f = q := ⟨_, rfl⟩
  rw [hp1] at HSF ⊢
  clear hp1
  have HB1 := Lib.hid b1
  clear b1
  cases p1
  · have HRR : Hid (r = .error 11) := Lib.hid (by rw [HSF.out, if_pos (by simp)])
    go_wp2_with ((with_reducible refine wpList_storeL stNet rfl _ _ rfl (w.heap.size + 1) (netC none 0 0 none 0 0) (netC none 0 0 none 0 0) ?_ ?_ ?_ ?_ ?_ (netC_one _ _ _ _ _ _) ?_); exact rfl; exact rfl; exact HY.out.below HB1.out; exact rfl; exact rfl; intro wz k1 k2 k3 k4; have K := Lib.hid (And.intro k1 (And.intro k2 (And.intro k3 k4))); clear k1 k2 k3 k4)
    have HRz : Blk wz (w.heap.size + 1) 25 (netC none 0 0 none 0 0) := K.out.1
    refine bodyPost_ret (v := .tuple #[.agg #[.slice none 0 0, .slice none 0 0], .int .i64 11]) (big.res_cell_tmp stNet Tryd.results35 rfl rfl HRz.cells rfl) rfl ?_
    rw [HRR.out]
    exact ⟨rfl, (hB0.trans (HB1.out.mono (by omega))).trans (K.out.2.2.2.mono (by omega))⟩
  go_wp2_with ((with_reducible refine wpList_loadG stNet _ rfl ⟨w.heap.size, 0, none⟩ (netC A0 m d0 A1 n1 d1) ?_ ?_ ?_ ?_ ?_); exact rfl; exact rfl; exact (HX.out.below HB1.out).cells; exact rfl)
  refine (place_any m A0 d0 A1 n1 d1 t w1).mono ?_
  rintro e w2 ⟨rfl, b2⟩
  have hz1 := HB1.out.size
  have HB2 := Lib.hid (HB1.out.trans (b2.mono hz1))
  obtain ⟨p2, hp2⟩ : ∃ q, placeB m t = q := ⟨_, rfl⟩
  rw [hp2] at HSF ⊢
  clear hp2 b2 hz1
  cases p2
  · have HRR : Hid (r = .error 11) := Lib.hid (by rw [HSF.out, if_pos (by simp)])
    go_wp2_with ((with_reducible refine wpList_storeL stNet rfl _ _ rfl (w.heap.size + 1) (netC none 0 0 none 0 0) (netC none 0 0 none 0 0) ?_ ?_ ?_ ?_ ?_ (netC_one _ _ _ _ _ _) ?_); exact rfl; exact rfl; exact HY.out.below HB2.out; exact rfl; exact rfl; intro wz k1 k2 k3 k4; have K := Lib.hid (And.intro k1 (And.intro k2 (And.intro k3 k4))); clear k1 k2 k3 k4)
    have HRz : Blk wz (w.heap.size + 1) 25 (netC none 0 0 none 0 0) := K.out.1
    refine bodyPost_ret (v := .tuple #[.agg #[.slice none 0 0, .slice none 0 0], .int .i64 11]) (big.res_cell_tmp stNet Tryd.results35 rfl rfl HRz.cells rfl) rfl ?_
    rw [HRR.out]
    exact ⟨rfl, (hB0.trans (HB2.out.mono (by omega))).trans (K.out.2.2.2.mono (by omega))⟩
  have HSF1 : Hid (r = if ¬ (tickB at_ = true ∧ tickB n = true) then .error 2 else match slwTo N.arcs f t at_ n n1 with
    | .error e => .error e
    | .ok (r, b) => if b then .ok ⟨N.places, r⟩ else .error 12) := Lib.hid (by rw [HSF.out, if_neg (by simp)])
  clear HSF
  go_wp2_with fail
  refine (ntick_any at_ w2).mono ?_
  rintro e w3 ⟨rfl, rfl⟩
  cases hp3 : tickB at_
  · have HRR : Hid (r = .error 2) := Lib.hid (by rw [HSF1.out, hp3, if_pos (by simp)])
    clear hp3
    go_wp2_with ((with_reducible refine wpList_storeL stNet rfl _ _ rfl (w.heap.size + 1) (netC none 0 0 none 0 0) (netC none 0 0 none 0 0) ?_ ?_ ?_ ?_ ?_ (netC_one _ _ _ _ _ _) ?_); exact rfl; exact rfl; exact HY.out.below HB2.out; exact rfl; exact rfl; intro wz k1 k2 k3 k4; have K := Lib.hid (And.intro k1 (And.intro k2 (And.intro k3 k4))); clear k1 k2 k3 k4)
    have HRz : Blk wz (w.heap.size + 1) 25 (netC none 0 0 none 0 0) := K.out.1
    refine bodyPost_ret (v := .tuple #[.agg #[.slice none 0 0, .slice none 0 0], .int .i64 2]) (big.res_cell_tmp stNet Tryd.results35 rfl rfl HRz.cells rfl) rfl ?_
    rw [HRR.out]
    exact ⟨rfl, (hB0.trans (HB2.out.mono (by omega))).trans (K.out.2.2.2.mono (by omega))⟩
  have hat : 0 ≤ at_ ∧ at_ ≤ 4096 := by unfold tickB at hp3; simpa using hp3
  have HAT := Lib.hid hat
  rw [hp3] at HSF1
  clear hp3 hat
  go_wp2_with fail
  refine (ntick_any n w2).mono ?_
  rintro e w3 ⟨rfl, rfl⟩
  cases hp4 : tickB n
  · have HRR : Hid (r = .error 2) := Lib.hid (by rw [HSF1.out, hp4, if_pos (by simp)])
    clear hp4
    go_wp2_with ((with_reducible refine wpList_storeL stNet rfl _ _ rfl (w.heap.size + 1) (netC none 0 0 none 0 0) (netC none 0 0 none 0 0) ?_ ?_ ?_ ?_ ?_ (netC_one _ _ _ _ _ _) ?_); exact rfl; exact rfl; exact HY.out.below HB2.out; exact rfl; exact rfl; intro wz k1 k2 k3 k4; have K := Lib.hid (And.intro k1 (And.intro k2 (And.intro k3 k4))); clear k1 k2 k3 k4)
    have HRz : Blk wz (w.heap.size + 1) 25 (netC none 0 0 none 0 0) := K.out.1
    refine bodyPost_ret (v := .tuple #[.agg #[.slice none 0 0, .slice none 0 0], .int .i64 2]) (big.res_cell_tmp stNet Tryd.results35 rfl rfl HRz.cells rfl) rfl ?_
    rw [HRR.out]
    exact ⟨rfl, (hB0.trans (HB2.out.mono (by omega))).trans (K.out.2.2.2.mono (by omega))⟩
  have hnt : 0 ≤ n ∧ n ≤ 4096 := by unfold tickB at hp4; simpa using hp4
  have HNT := Lib.hid hnt
  have HSF2 : Hid (r = match slwTo N.arcs f t at_ n n1 with
    | .error e => .error e
    | .ok (r, b) => if b then .ok ⟨N.places, r⟩ else .error 12) := Lib.hid (by rw [HSF1.out, hp4, if_neg (by simp)])
  clear HSF1 hp4 hnt
  have hz2 := HB2.out.size
  have HBW := Lib.hid (hB0.trans (HB2.out.mono (by omega)))
  go_upto_region 5 with fail
  go_cut [12] (fun v wx => ∃ (ob : Nat) (B : Option Addr) (d : Nat), v = .pointer (some ⟨ob, 0, none⟩) ∧ SlwSt w A0 m d0 ob n1 B d CS N.arcs wx)
  case first => as_aux_lemma =>
    have HSS : Hid (∀ w', Below w2.heap.size w2 w' → w'.cell? ⟨w.heap.size, 0, none⟩ = some (.slice A0 m d0) ∧ w'.cell? ⟨w.heap.size, 1, none⟩ = some (.slice A1 n1 d1)) := Lib.hid (fun w' hb => by
      have h := HX.out.below (HB2.out.trans (hb.mono hz2))
      exact ⟨h.cell (j := 0) rfl, h.cell (j := 1) rfl⟩)
    (refine wp_region_held_drew (S := (fun w' => w'.cell? ⟨w.heap.size, 0, none⟩ = some (.slice A0 m d0) ∧ w'.cell? ⟨w.heap.size, 1, none⟩ = some (.slice A1 n1 d1))) (by kernel_rfl) ?_ (fun hHeld => ?_))
    · exact HSS.out _ (Below.refl _ _).drew
    (refine wpAnyH_take (i := 0) (v := ?_) rfl (by kernel_rfl) (by kernel_rfl) (by kernel_rfl) (fun _ _ _ h => h) (Or.inl ⟨by kernel_rfl, ?_⟩) (by assumption) ?_; rotate_left; (focus (intro w hSw; (try dsimp only at hSw); go_simp; all_goals with_reducible rfl)); (try simp only [Act.put, List.getElem_toArray, List.getElem_cons_succ, List.getElem_cons_zero, List.setIfInBounds_toArray, List.set_cons_zero, List.set_cons_succ]))
    (refine wpAnyH_take (i := 1) (v := ?_) rfl (by kernel_rfl) (by kernel_rfl) (by kernel_rfl) (fun _ _ _ h => h) (Or.inl ⟨by kernel_rfl, ?_⟩) (by assumption) ?_; rotate_left; (focus (intro w hSw; (try dsimp only at hSw); go_simp; all_goals with_reducible rfl)); (try simp only [Act.put, List.getElem_toArray, List.getElem_cons_succ, List.getElem_cons_zero, List.setIfInBounds_toArray, List.set_cons_zero, List.set_cons_succ]))
    (refine wpAnyH_take (i := 3) (v := ?_) rfl (by kernel_rfl) (by kernel_rfl) (by kernel_rfl) (fun _ _ _ h => h) (Or.inl ⟨by kernel_rfl, ?_⟩) (by assumption) ?_; rotate_left; (focus (intro w hSw; (try dsimp only at hSw); go_simp; all_goals with_reducible rfl)); (try simp only [Act.put, List.getElem_toArray, List.getElem_cons_succ, List.getElem_cons_zero, List.setIfInBounds_toArray, List.set_cons_zero, List.set_cons_succ]))
    (refine wpAnyH_take (i := 4) (v := ?_) rfl (by kernel_rfl) (by kernel_rfl) (by kernel_rfl) (fun _ _ _ h => h) (Or.inl ⟨by kernel_rfl, ?_⟩) (by assumption) ?_; rotate_left; (focus (intro w hSw; (try dsimp only at hSw); go_simp; all_goals with_reducible rfl)); (try simp only [Act.put, List.getElem_toArray, List.getElem_cons_succ, List.getElem_cons_zero, List.setIfInBounds_toArray, List.set_cons_zero, List.set_cons_succ]))
    refine wpAnyH_ready (rs := [2, 7]) (by kernel_rfl) (by simp) ?_
    refine AllReadyH.cons rfl (fun K hK => ?_) (AllReadyH.cons rfl (fun K hK => ?_) AllReadyH.nil)
    · go_simp
      have BA : Below w2.heap.size w2 (w2.drew.alloc (.cells #[] 68)) := ((Below.refl _ _).drew).alloc (Nat.le_refl _) _
      have HEM : Hid ((w2.drew.alloc (.cells #[] 68)).ownsRow (w.heap.size + 2) 68 6 (.slice (some ⟨w2.drew.heap.size, 0, none⟩) 0 0) 0 []) := Lib.hid (World.ownsRow_made w2.drew #[] 0 (by show w.heap.size + 2 ≤ w2.heap.size; omega) (by decide) rfl)
      refine hK.out _ _ (HSS.out _ BA) (fun hHeld => ?_)
      clear hK K
      (try simp only [Act.put, List.getElem_toArray, List.getElem_cons_succ, List.getElem_cons_zero, List.setIfInBounds_toArray, List.set_cons_zero, List.set_cons_succ])
      refine wpAnyH_ready (rs := [5, 7]) (by kernel_rfl) (by simp) ?_
      refine AllReadyH.cons rfl (fun K hK => ?_) (AllReadyH.cons rfl (fun K hK => ?_) AllReadyH.nil)
      · skip
        refine step_appN arc_elem _ _ rfl (w.heap.size + 2) (.slice (some ⟨w2.drew.heap.size, 0, none⟩) 0 0) 0 [] rfl (HEM.out) w.heap.size A1 n1 d1 CS rfl (HRD.out _ (HBW.out.trans (BA.mono (by omega)))) HON.out (by omega) ((by have h := BA.size; omega)) rfl ?_
        intro A5 c5 w5 hown5 hg5
        rw [Nat.zero_add, List.nil_append] at hown5
        have B5 : Below w2.heap.size w2 w5 := BA.grown hg5 BA.size (fun q e => by have h : w2.heap.size = q := Option.some.inj e; omega)
        refine hK.out _ _ (HSS.out _ B5) (fun hHeld => ?_)
        clear hK K
        (try simp only [Act.put, List.getElem_toArray, List.getElem_cons_succ, List.getElem_cons_zero, List.setIfInBounds_toArray, List.set_cons_zero, List.set_cons_succ])
        (refine wpAnyH_take (i := 6) (v := ?_) rfl (by kernel_rfl) (by kernel_rfl) (by kernel_rfl) (fun _ _ _ h => h) (Or.inl ⟨by kernel_rfl, ?_⟩) (by assumption) ?_; rotate_left; (focus (intro w hSw; (try dsimp only at hSw); go_simp; all_goals with_reducible rfl)); (try simp only [Act.put, List.getElem_toArray, List.getElem_cons_succ, List.getElem_cons_zero, List.setIfInBounds_toArray, List.set_cons_zero, List.set_cons_succ]))
        (refine wpAnyH_ready (rs := [7]) (by kernel_rfl) (by simp) ?_; refine AllReadyH.cons rfl (fun K hK => ?_) AllReadyH.nil)
        go_simp
        have B6 : Below w2.heap.size w2 (w5.alloc (.cells (netC none 0 0 none 0 0).toArray 25)) := B5.alloc B5.size _
        refine hK.out _ _ (HSS.out _ B6) (fun hHeld => ?_)
        clear hK K
        (try simp only [Act.put, List.getElem_toArray, List.getElem_cons_succ, List.getElem_cons_zero, List.setIfInBounds_toArray, List.set_cons_zero, List.set_cons_succ])
        (refine wpAnyH_ready (rs := [8]) (by kernel_rfl) (by simp) ?_; refine AllReadyH.cons rfl (fun K hK => ?_) AllReadyH.nil)
        refine step_storeL stNet rfl _ _ rfl (w5.heap.size) (netC none 0 0 none 0 0) (netC A0 m d0 A5 n1 c5) rfl rfl (Blk.new w5 _ _) rfl rfl (netC_one _ _ _ _ _ _) ?_
        intro w8 k1 k2 k3 k4
        have h8 := own_skip (own_below hown5 ((Below.refl _ _).alloc (Nat.le_refl _) _)) ((Blk.new w5 25 (netC none 0 0 none 0 0))) (by decide) k2
        have B8 : Below w2.heap.size w2 w8 := (B6).trans (k4.mono (B5.size))
        have HST : Hid (SlwSt w A0 m d0 (w5.heap.size) n1 A5 c5 CS N.arcs w8) := Lib.hid (by
          have hbw : Below w.heap.size w w8 := HBW.out.trans (B8.mono (by omega))
          refine ⟨h8, (HEL.out _ (fun b hb => ⟨fun e => ?_, by omega⟩)).below hbw, k1, HY.out.below (HB2.out.trans (B8.mono hz2)), hbw, by have h := B5.size; omega, own_ne h8 (show Blk w8 _ _ _ from k1) (by decide)⟩
          have h := (World.ownsRow.lt h8 b e.symm).1
          omega)
        refine hK.out _ _ (HSS.out _ B8) (fun hHeld => ?_)
        clear hK K
        (try simp only [Act.put, List.getElem_toArray, List.getElem_cons_succ, List.getElem_cons_zero, List.setIfInBounds_toArray, List.set_cons_zero, List.set_cons_succ])
        (refine wpAnyH_done (by kernel_rfl) ?_ _)
        go_wp2
        go_meet
        exact ⟨_, _, _, rfl, HST.out⟩
      · go_simp
        obtain ⟨V, hV⟩ : ∃ V, ((w2.alloc (.cells #[] 68)).alloc (.cells #[.slice none 0 0, .slice none 0 0] 25)).drew = V := ⟨_, rfl⟩
        rw [hV]
        have B6 : Below w2.heap.size w2 V := by rw [← hV]; exact (((Below.refl _ _).alloc (Nat.le_refl _) _).alloc (by simp) _).drew
        have HEM : Hid (V.ownsRow (w.heap.size + 2) 68 6 (.slice (some ⟨w2.heap.size, 0, none⟩) 0 0) 0 []) := Lib.hid (by
          rw [← hV]
          exact own_below (World.ownsRow_made w2 #[] 0 (by omega) (by decide) rfl) ((Below.refl _ _).alloc (Nat.le_refl _) _).drew)
        have HBN : Hid (Blk V (w2.heap.size + 1) 25 (netC none 0 0 none 0 0)) := Lib.hid (by
          rw [← hV]
          have h := Blk.new (w2.alloc (.cells #[] 68)) 25 (netC none 0 0 none 0 0)
          rw [show (w2.alloc (.cells #[] 68)).heap.size = w2.heap.size + 1 by simp] at h
          exact h)
        clear hV
        refine hK.out _ _ (HSS.out _ B6) (fun hHeld => ?_)
        clear hK K
        (try simp only [Act.put, List.getElem_toArray, List.getElem_cons_succ, List.getElem_cons_zero, List.setIfInBounds_toArray, List.set_cons_zero, List.set_cons_succ])
        (refine wpAnyH_ready (rs := [5]) (by kernel_rfl) (by simp) ?_; refine AllReadyH.cons rfl (fun K hK => ?_) AllReadyH.nil)
        refine step_appN arc_elem _ _ rfl (w.heap.size + 2) (.slice (some ⟨w2.heap.size, 0, none⟩) 0 0) 0 [] rfl (HEM.out) w.heap.size A1 n1 d1 CS rfl (HRD.out _ (HBW.out.trans (B6.mono (by omega)))) HON.out (by omega) ((by have h := B6.size; omega)) rfl ?_
        intro A5 c5 w5 hown5 hg5
        rw [Nat.zero_add, List.nil_append] at hown5
        have B7 : Below w2.heap.size w2 w5 := B6.grown hg5 B6.size (fun q e => by have h : w2.heap.size = q := Option.some.inj e; omega)
        have HBK : Hid (Blk w5 (w2.heap.size + 1) 25 (netC none 0 0 none 0 0)) := Lib.hid (HBN.out.kept hg5 (fun e => by have h : w2.heap.size + 1 = w2.heap.size := Option.some.inj e; omega))
        refine hK.out _ _ (HSS.out _ B7) (fun hHeld => ?_)
        clear hK K
        (try simp only [Act.put, List.getElem_toArray, List.getElem_cons_succ, List.getElem_cons_zero, List.setIfInBounds_toArray, List.set_cons_zero, List.set_cons_succ])
        (refine wpAnyH_take (i := 6) (v := ?_) rfl (by kernel_rfl) (by kernel_rfl) (by kernel_rfl) (fun _ _ _ h => h) (Or.inl ⟨by kernel_rfl, ?_⟩) (by assumption) ?_; rotate_left; (focus (intro w hSw; (try dsimp only at hSw); go_simp; all_goals with_reducible rfl)); (try simp only [Act.put, List.getElem_toArray, List.getElem_cons_succ, List.getElem_cons_zero, List.setIfInBounds_toArray, List.set_cons_zero, List.set_cons_succ]))
        (refine wpAnyH_ready (rs := [8]) (by kernel_rfl) (by simp) ?_; refine AllReadyH.cons rfl (fun K hK => ?_) AllReadyH.nil)
        refine step_storeL stNet rfl _ _ rfl ((w2.heap.size + 1)) (netC none 0 0 none 0 0) (netC A0 m d0 A5 n1 c5) rfl rfl (HBK.out) rfl rfl (netC_one _ _ _ _ _ _) ?_
        intro w8 k1 k2 k3 k4
        have h8 := own_skip (hown5) (HBK.out) (by decide) k2
        have B8 : Below w2.heap.size w2 w8 := (B7).trans (k4.mono ((show w2.heap.size ≤ w2.heap.size + 1 by omega)))
        have HST : Hid (SlwSt w A0 m d0 ((w2.heap.size + 1)) n1 A5 c5 CS N.arcs w8) := Lib.hid (by
          have hbw : Below w.heap.size w w8 := HBW.out.trans (B8.mono (by omega))
          refine ⟨h8, (HEL.out _ (fun b hb => ⟨fun e => ?_, by omega⟩)).below hbw, k1, HY.out.below (HB2.out.trans (B8.mono hz2)), hbw, by have h := (show w2.heap.size ≤ w2.heap.size + 1 by omega); omega, own_ne h8 (show Blk w8 _ _ _ from k1) (by decide)⟩
          have h := (World.ownsRow.lt h8 b e.symm).1
          omega)
        refine hK.out _ _ (HSS.out _ B8) (fun hHeld => ?_)
        clear hK K
        (try simp only [Act.put, List.getElem_toArray, List.getElem_cons_succ, List.getElem_cons_zero, List.setIfInBounds_toArray, List.set_cons_zero, List.set_cons_succ])
        (refine wpAnyH_done (by kernel_rfl) ?_ _)
        go_wp2
        go_meet
        exact ⟨_, _, _, rfl, HST.out⟩
    · go_simp
      have BA : Below w2.heap.size w2 (w2.alloc (.cells #[.slice none 0 0, .slice none 0 0] 25)).drew := ((Below.refl _ _).alloc (Nat.le_refl _) _).drew
      refine hK.out _ _ (HSS.out _ BA) (fun hHeld => ?_)
      clear hK K
      (try simp only [Act.put, List.getElem_toArray, List.getElem_cons_succ, List.getElem_cons_zero, List.setIfInBounds_toArray, List.set_cons_zero, List.set_cons_succ])
      (refine wpAnyH_ready (rs := [2]) (by kernel_rfl) (by simp) ?_; refine AllReadyH.cons rfl (fun K hK => ?_) AllReadyH.nil)
      go_simp
      obtain ⟨V, hV⟩ : ∃ V, ((w2.alloc (.cells #[.slice none 0 0, .slice none 0 0] 25)).alloc (.cells #[] 68)).drew = V := ⟨_, rfl⟩
      rw [hV]
      have B6 : Below w2.heap.size w2 V := by rw [← hV]; exact (((Below.refl _ _).alloc (Nat.le_refl _) _).alloc (by simp) _).drew
      have HEM : Hid (V.ownsRow (w.heap.size + 2) 68 6 (.slice (some ⟨w2.heap.size + 1, 0, none⟩) 0 0) 0 []) := Lib.hid (by
        rw [← hV]
        have h := World.ownsRow_made (w2.alloc (.cells #[.slice none 0 0, .slice none 0 0] 25)) (base := w.heap.size + 2) (e := 68) (size := 6) #[] 0 (by simp; omega) (by decide) rfl
        rw [show (w2.alloc (.cells #[.slice none 0 0, .slice none 0 0] 25)).heap.size = w2.heap.size + 1 by simp] at h
        exact h)
      have HBN : Hid (Blk V w2.heap.size 25 (netC none 0 0 none 0 0)) := Lib.hid (by
        rw [← hV]
        exact (Blk.new w2 25 (netC none 0 0 none 0 0)).below ((Below.refl _ _).alloc (Nat.le_refl _) _).drew)
      clear hV
      refine hK.out _ _ (HSS.out _ B6) (fun hHeld => ?_)
      clear hK K
      (try simp only [Act.put, List.getElem_toArray, List.getElem_cons_succ, List.getElem_cons_zero, List.setIfInBounds_toArray, List.set_cons_zero, List.set_cons_succ])
      (refine wpAnyH_ready (rs := [5]) (by kernel_rfl) (by simp) ?_; refine AllReadyH.cons rfl (fun K hK => ?_) AllReadyH.nil)
      refine step_appN arc_elem _ _ rfl (w.heap.size + 2) (.slice (some ⟨w2.heap.size + 1, 0, none⟩) 0 0) 0 [] rfl (HEM.out) w.heap.size A1 n1 d1 CS rfl (HRD.out _ (HBW.out.trans (B6.mono (by omega)))) HON.out (by omega) ((by have h := B6.size; omega)) rfl ?_
      intro A5 c5 w5 hown5 hg5
      rw [Nat.zero_add, List.nil_append] at hown5
      have B7 : Below w2.heap.size w2 w5 := B6.grown hg5 B6.size (fun q e => by have h : w2.heap.size + 1 = q := Option.some.inj e; omega)
      have HBK : Hid (Blk w5 (w2.heap.size) 25 (netC none 0 0 none 0 0)) := Lib.hid (HBN.out.kept hg5 (fun e => by have h : w2.heap.size = w2.heap.size + 1 := Option.some.inj e; omega))
      refine hK.out _ _ (HSS.out _ B7) (fun hHeld => ?_)
      clear hK K
      (try simp only [Act.put, List.getElem_toArray, List.getElem_cons_succ, List.getElem_cons_zero, List.setIfInBounds_toArray, List.set_cons_zero, List.set_cons_succ])
      (refine wpAnyH_take (i := 6) (v := ?_) rfl (by kernel_rfl) (by kernel_rfl) (by kernel_rfl) (fun _ _ _ h => h) (Or.inl ⟨by kernel_rfl, ?_⟩) (by assumption) ?_; rotate_left; (focus (intro w hSw; (try dsimp only at hSw); go_simp; all_goals with_reducible rfl)); (try simp only [Act.put, List.getElem_toArray, List.getElem_cons_succ, List.getElem_cons_zero, List.setIfInBounds_toArray, List.set_cons_zero, List.set_cons_succ]))
      (refine wpAnyH_ready (rs := [8]) (by kernel_rfl) (by simp) ?_; refine AllReadyH.cons rfl (fun K hK => ?_) AllReadyH.nil)
      refine step_storeL stNet rfl _ _ rfl ((w2.heap.size)) (netC none 0 0 none 0 0) (netC A0 m d0 A5 n1 c5) rfl rfl (HBK.out) rfl rfl (netC_one _ _ _ _ _ _) ?_
      intro w8 k1 k2 k3 k4
      have h8 := own_skip (hown5) (HBK.out) (by decide) k2
      have B8 : Below w2.heap.size w2 w8 := (B7).trans (k4.mono ((show w2.heap.size ≤ w2.heap.size by omega)))
      have HST : Hid (SlwSt w A0 m d0 ((w2.heap.size)) n1 A5 c5 CS N.arcs w8) := Lib.hid (by
        have hbw : Below w.heap.size w w8 := HBW.out.trans (B8.mono (by omega))
        refine ⟨h8, (HEL.out _ (fun b hb => ⟨fun e => ?_, by omega⟩)).below hbw, k1, HY.out.below (HB2.out.trans (B8.mono hz2)), hbw, by have h := (show w2.heap.size ≤ w2.heap.size by omega); omega, own_ne h8 (show Blk w8 _ _ _ from k1) (by decide)⟩
        have h := (World.ownsRow.lt h8 b e.symm).1
        omega)
      refine hK.out _ _ (HSS.out _ B8) (fun hHeld => ?_)
      clear hK K
      (try simp only [Act.put, List.getElem_toArray, List.getElem_cons_succ, List.getElem_cons_zero, List.setIfInBounds_toArray, List.set_cons_zero, List.set_cons_succ])
      (refine wpAnyH_done (by kernel_rfl) ?_ _)
      go_wp2
      go_meet
      exact ⟨_, _, _, rfl, HST.out⟩
  obtain ⟨ob, B, d, hv, hst⟩ := hcut
  subst hv
  have HO := Lib.hid hst
  clear hst
  have x1 : wc.cell? ⟨ob, 1, none⟩ = some (.slice B n1 d) := HO.out.obx.cell (j := 1) rfl
  go_upto_region 8 with fail
  clear x1
  go_loopw [13, 50] (fun fv i wr => ∃ (k : Nat) (rk : List Arc) (b : Bool) (CK : List Value), k ≤ n1 ∧ i = .int .i64 k ∧ fv = .bool b ∧ Hid (slwTo N.arcs f t at_ n k = .ok (rk, b) ∧ rk.length = k) ∧ Hid (SlwSt w A0 m d0 ob n1 B d CK (rk ++ N.arcs.drop k) wr)) (fun _ i _ => n1 - (intOf i).toNat)
  case atStart => exact ⟨0, [], false, CS, by omega, rfl, rfl, Lib.hid ⟨rfl, rfl⟩, HO⟩
  case round =>
    clear HO
    obtain ⟨k, rk, b, CK, hk, rfl, rfl, HK, HO⟩ := hrel
    have hsz := HO.out.size
    by_cases hlt : k < n1
    · obtain ⟨x, hx⟩ : ∃ x, N.arcs[k]? = some x := ⟨_, List.getElem?_eq_getElem (by rw [HNN.out.2]; exact hlt)⟩
      have hdr : N.arcs.drop k = x :: N.arcs.drop (k + 1) := by
        obtain ⟨hkk, e⟩ := List.getElem?_eq_some_iff.1 hx
        rw [← e]
        exact List.drop_eq_getElem_cons hkk
      have hxk : (rk ++ N.arcs.drop k)[k]? = some x := by rw [List.getElem?_append_right (by rw [HK.out.2]; exact Nat.le_refl _), HK.out.2, Nat.sub_self, hdr]; rfl
      have hll : (rk ++ N.arcs.drop k).length = n1 := by rw [List.length_append, HK.out.2, List.length_drop, HNN.out.2]; omega
      obtain ⟨g, cap, hv, hgb, hglt⟩ := HO.out.own.form (by omega)
      obtain rfl : B = some ⟨g, 0, none⟩ := by injection hv
      obtain ⟨C0, c0, C1, c1, hce, hsl⟩ := HO.out.elem hxk hll
      have HXS := Lib.hid (HSL.out x (List.mem_of_getElem? hx))
      have HDR := Lib.hid (And.intro hdr (And.intro hxk hx))
      have HCE := Lib.hid (And.intro hce hsl)
      have hk0 : (0 : Int) ≤ (k : Int) := by omega
      have hkn : (k : Int) < (n1 : Int) := by omega
      have HLL := Lib.hid hll
      clear hx hdr hxk hll hv hce hsl
      go_upto_region 10 with (first
        | ((with_reducible refine wpList_loadG stArc' _ rfl ⟨g, k * 6, none⟩ (ArcCells x C0 c0 C1 c1) ?_ ?_ ?_ ?_ ?_); exact rfl; exact rfl; exact HCE.out.1; exact rfl)
        | ((with_reducible refine wpList_storeL stArc' rfl _ _ rfl wr.heap.size (arcL 0 0 0 (.slice none 0 0)) (ArcCells x C0 c0 C1 c1) ?_ ?_ ?_ ?_ ?_ (arcC_one _ _ _ _ _) ?_); exact rfl; exact rfl; exact Blk.new wr _ _; exact rfl; exact rfl; intro w4 k1 k2 k3 k4; have K := Lib.hid (And.intro k1 (And.intro k2 (And.intro k3 k4))); clear k1 k2 k3 k4))
      (try simp only [Act.put, List.getElem_toArray, List.getElem_cons_succ, List.getElem_cons_zero, List.setIfInBounds_toArray, List.set_cons_zero, List.set_cons_succ])
      have b4 : Below wr.heap.size wr w4 := ((Below.refl _ _).alloc (Nat.le_refl _) _).trans K.out.2.2.2
      have HQ : Hid (Blk w4 wr.heap.size 68 (ArcCells x C0 c0 C1 c1)) := Lib.hid K.out.1
      have HO4 := Lib.hid (HO.out.below b4)
      have HS4 : Hid (RowAt rPt w4 w4.heap.size C1 x.slow) := Lib.hid (RowAt.more b4.size (HCE.out.2.below b4))
      obtain ⟨q, hq⟩ : ∃ q, wr.heap.size = q := ⟨_, rfl⟩
      rw [hq] at HQ ⊢
      have q0 := HQ.out.cell (j := 0) rfl
      have q1 := HQ.out.cell (j := 1) rfl
      have q5 := HQ.out.cell (j := 5) rfl
      have HL9 : Hid (∀ y, (rk ++ [y]).length = k + 1) := Lib.hid (fun y => by rw [List.length_append, HK.out.2]; rfl)
      clear K b4 HCE HO hq
      by_cases hw1 : x.frm = f
      rotate_left
      · have hb1 : (x.frm != f) = true := by simp [hw1]
        have HNX : Hid (slwTo N.arcs f t at_ n (k + 1) = .ok (rk ++ [x], b)) := Lib.hid (by rw [slwTo_succ HDR.out.2.2 HK.out.1, if_neg (by unfold way; simp [hw1])])
        clear hw1
        go_wp2_with fail
        exact ⟨⟨k + 1, rk ++ [x], b, CK, by omega, by go_num, rfl, Lib.hid ⟨HNX.out, HL9.out x⟩, Lib.hid (by rw [List.append_assoc, List.singleton_append, ← HDR.out.1]; exact HO4.out)⟩, by simp [intOf]; omega⟩
      have hb1 : (x.frm != f) = false := by simp [hw1]
      by_cases hw2 : x.to = t
      rotate_left
      · have hb2 : (x.to != t) = true := by simp [hw2]
        have HNX : Hid (slwTo N.arcs f t at_ n (k + 1) = .ok (rk ++ [x], b)) := Lib.hid (by rw [slwTo_succ HDR.out.2.2 HK.out.1, if_neg (by unfold way; simp [hw2])])
        clear hw1 hw2
        go_wp2_with fail
        exact ⟨⟨k + 1, rk ++ [x], b, CK, by omega, by go_num, rfl, Lib.hid ⟨HNX.out, HL9.out x⟩, Lib.hid (by rw [List.append_assoc, List.singleton_append, ← HDR.out.1]; exact HO4.out)⟩, by simp [intOf]; omega⟩
      have hb2 : (x.to != t) = false := by simp [hw2]
      have HNX : Hid (slwTo N.arcs f t at_ n (k + 1) = (match lateF x.slow at_ n with | .error e => .error e | .ok s => .ok (rk ++ [{ x with slow := s }], true))) := Lib.hid (by rw [slwTo_succ HDR.out.2.2 HK.out.1, if_pos (by unfold way; simp [hw1, hw2])]; cases lateF x.slow at_ n <;> rfl)
      clear hw1 hw2
      go_wp2_with fail
      refine (later_any C1 c1 x.slow at_ n w4 HS4.out (by have := HXS.out.1; omega) HXS.out.2 HNT.out).mono ?_
      obtain ⟨s', hs'⟩ : ∃ s', lateF x.slow at_ n = s' := ⟨_, rfl⟩
      have HLF := Lib.hid hs'
      rw [hs'] at HNX ⊢
      clear hs' q0 q1 q5
      intro e w5 h5
      rcases s' with kk | s
      · obtain ⟨rfl, b5⟩ := h5
        have hkk : (kk != 0) = true := by rcases late_err HLF.out with rfl | rfl <;> rfl
        have HRR : Hid (r = .error kk) := Lib.hid (by
          have h := slwTo_err HNX.out (n1 - (k + 1))
          rw [show k + 1 + (n1 - (k + 1)) = n1 by omega] at h
          rw [HSF2.out, h])
        have HO5 := Lib.hid (HO4.out.below b5)
        clear b5
        go_wp2_with ((with_reducible refine wpList_storeL stNet rfl _ _ rfl (w.heap.size + 1) (netC none 0 0 none 0 0) (netC none 0 0 none 0 0) ?_ ?_ ?_ ?_ ?_ (netC_one _ _ _ _ _ _) ?_); exact rfl; exact rfl; exact HO5.out.rbx; exact rfl; exact rfl; intro wz k1 k2 k3 k4; have K := Lib.hid (And.intro k1 (And.intro k2 (And.intro k3 k4))); clear k1 k2 k3 k4)
        have HRz : Blk wz (w.heap.size + 1) 25 (netC none 0 0 none 0 0) := K.out.1
        refine bodyPost_ret (v := .tuple #[.agg #[.slice none 0 0, .slice none 0 0], .int .i64 kk]) (big.res_cell_tmp stNet Tryd.results35 rfl rfl HRz.cells rfl) rfl ?_
        rw [HRR.out]
        exact ⟨rfl, (HO5.out.bel).trans (K.out.2.2.2.mono (by omega))⟩
      · obtain ⟨A', c', rfl, hown, b5⟩ := h5
        have HO5 := Lib.hid (HO4.out.below b5)
        have HRS : Hid (RowOff oPt w5 (fun b => some b ≠ (Value.slice (some ⟨g, 0, none⟩) n1 d).ownBlock ∧ b ≠ w.heap.size + 1) A' s) := Lib.hid (by
          obtain ⟨f1, f2⟩ := late_fits HLF.out (fun p hp => ⟨row_fits HS4.out p hp, HXS.out.2 p hp⟩) HAT.out HNT.out
          refine rowOff_pts hown (by have := HXS.out.1; omega) f1 (fun g' hg' _ => ⟨fun e' => ?_, ?_⟩)
          · have h9 := (World.ownsRow.lt HO4.out.own g rfl).2
            have h8 : g' = g := Option.some.inj e'
            omega
          · have h9 := HO4.out.size
            have h8 : w4.heap.size ≤ g' := hg'
            omega)
        have y1 : w5.cell? ⟨ob, 1, none⟩ = some (.slice (some ⟨g, 0, none⟩) n1 d) := HO5.out.obx.cell (j := 1) rfl
        have f5 := HO5.out.own.frozenAt (k * 6 + 5)
        obtain ⟨D0, e0, D1, e1, hce5, _⟩ := HO5.out.elem HDR.out.2.1 HLL.out
        have y5 : w5.cell? ⟨g, k * 6 + 5, none⟩ = some (.slice D1 x.slow.length e1) := hce5 5 _ rfl
        clear hce5
        clear b5 hown
        go_wp2_with fail
        have hset : (rk ++ N.arcs.drop k).set k { x with slow := s } = (rk ++ [{ x with slow := s }]) ++ N.arcs.drop (k + 1) := by
          rw [HDR.out.1, List.set_append_right _ _ (by rw [HK.out.2]; exact Nat.le_refl _), HK.out.2, Nat.sub_self, List.append_assoc]
          rfl
        exact ⟨⟨k + 1, rk ++ [{ x with slow := s }], true, _, by omega, by go_num, rfl, Lib.hid ⟨HNX.out, HL9.out _⟩, Lib.hid (by rw [← hset]; exact HO5.out.mod HDR.out.2.1 HRS.out)⟩, by simp [intOf]; omega⟩
    · have hkn : k = n1 := by omega
      subst hkn
      clear hlt
      have hdr : N.arcs.drop k = [] := List.drop_of_length_le (by rw [HNN.out.2]; exact Nat.le_refl _)
      rw [hdr, List.append_nil] at HO
      clear hdr
      cases b
      · have HRR : Hid (r = .error 12) := Lib.hid (by rw [HSF2.out, HK.out.1]; rfl)
        go_wp2_with ((with_reducible refine wpList_storeL stNet rfl _ _ rfl (w.heap.size + 1) (netC none 0 0 none 0 0) (netC none 0 0 none 0 0) ?_ ?_ ?_ ?_ ?_ (netC_one _ _ _ _ _ _) ?_); exact rfl; exact rfl; exact HO.out.rbx; exact rfl; exact rfl; intro wz k1 k2 k3 k4; have K := Lib.hid (And.intro k1 (And.intro k2 (And.intro k3 k4))); clear k1 k2 k3 k4)
        have HRz : Blk wz (w.heap.size + 1) 25 (netC none 0 0 none 0 0) := K.out.1
        refine bodyPost_ret (v := .tuple #[.agg #[.slice none 0 0, .slice none 0 0], .int .i64 12]) (big.res_cell_tmp stNet Tryd.results35 rfl rfl HRz.cells rfl) rfl ?_
        rw [HRR.out]
        exact ⟨rfl, (HO.out.bel).trans (K.out.2.2.2.mono (by omega))⟩
      · have HRR : Hid (r = .ok ⟨N.places, rk⟩) := Lib.hid (by rw [HSF2.out, HK.out.1]; rfl)
        go_wp2_with (first
          | ((with_reducible refine wpList_loadG stNet _ rfl ⟨ob, 0, none⟩ (netC A0 m d0 B k d) ?_ ?_ ?_ ?_ ?_); exact rfl; exact rfl; exact HO.out.obx.cells; exact rfl)
          | ((with_reducible refine wpList_storeL stNet rfl _ _ rfl (w.heap.size + 1) (netC none 0 0 none 0 0) (netC A0 m d0 B k d) ?_ ?_ ?_ ?_ ?_ (netC_one _ _ _ _ _ _) ?_); exact rfl; exact rfl; exact HO.out.rbx; exact rfl; exact rfl; intro wz k1 k2 k3 k4; have K := Lib.hid (And.intro k1 (And.intro k2 (And.intro k3 k4))); clear k1 k2 k3 k4))
        have HRz : Blk wz (w.heap.size + 1) 25 (netC A0 m d0 B k d) := K.out.1
        refine bodyPost_ret (v := .tuple #[.agg #[.slice A0 m d0, .slice B k d], .int .i64 0]) (big.res_cell_tmp stNet Tryd.results35 rfl rfl HRz.cells rfl) rfl ?_
        rw [HRR.out]
        refine ⟨B, d, by rw [HNN.out.1, HK.out.2], ?_, HO.out.bel.trans (K.out.2.2.2.mono (by omega))⟩
        have hown := own_skip HO.out.own HO.out.rbx (by decide) K.out.2.1
        have hgr : wr.heap.size ≤ wz.heap.size := by rw [K.out.2.2.1]; exact Nat.le_refl _
        have hels : EG oArc wz (fun _ => True) CK rk := HO.out.els.keep hgr (fun b hb hp => ⟨trivial, K.out.2.1 b hp.2⟩)
        exact EG.row (by rw [HK.out.2]; exact hown) hels (by rw [HK.out.2]; omega)
end Go.Proofs.YtamhjodppdodfaaDoor.evt

/- instance.Add: the rows of what is handed back. -/
import Derived.Test.YtofabhenmplkoaaGreatDoorZ4
import Derived.Test.YtofabhenmplkoaaGreatDoorInsV
import Derived.Test.YtofabhenmplkoaaGreatDoorInFr
import Derived.Test.YtofabhenmplkoaaGreatDoorZ2
namespace Go.Proofs.YtofabhenmplkoaaGreatDoor.ins
open Go.RowKit
open Go.Proofs.YtofabhenmplkoaaGreatDoor.lib Go.Proofs.YtofabhenmplkoaaGreatDoor.rd Go.Proofs.YtofabhenmplkoaaGreatDoor.typ Go.Proofs.YtofabhenmplkoaaGreatDoor.app Go.Proofs.YtofabhenmplkoaaGreatDoor.big Go.Proofs.YtofabhenmplkoaaGreatDoor.flts Go.Proofs.YtofabhenmplkoaaGreatDoor.ord
set_option linter.unusedVariables false
set_option linter.unusedSimpArgs false

def AddOutF (x : Ins) (o : Ord) (B : Nat) (w : World) (e : Ending) (w' : World) : Prop := ∃ P, e = .returned (.tuple #[InV (addR x o).1 P, .int .i64 (addR x o).2]) ∧ InFr w' B w.heap.size (addR x o).1 P ∧ Below w.heap.size w w'
set_option maxRecDepth 100000 in
set_option maxHeartbeats 8000000 in
theorem addF_any (x : Ins) (P : InP) (o : Ord) (C : Option Addr) (cc : Nat) (B : Nat) (w : World) (hB : B ≤ w.heap.size) (hA : InAt w B x P) (hCA : Ints w B C o.load) (hf : OrdFits o) (hlim : x.orders.length < 10 → Lim (addI x o)) :
    Calls Tryz.prog 103 #[InV x P, .agg #[.string o.name, .slice C o.load.length cc, .int .i64 o.pick.place, .int .i64 o.pick.opn, .int .i64 o.pick.close, .int .i64 o.pick.service, .int .i64 o.drop.place, .int .i64 o.drop.opn, .int .i64 o.drop.close, .int .i64 o.drop.service, .int .i64 o.skills, .int .i64 o.penalty, .int .i64 o.split, .int .i64 o.last, .int .i64 o.now, .bool o.off]] w (AddOutF x o B w) := by
  have h : InAt w w.heap.size x P := hA.more hB
  have hC : Ints w w.heap.size C o.load := hCA.more hB
  have hlen0 := h.orders.len
  obtain ⟨n, hn⟩ : ∃ n, x.orders.length = n := ⟨_, rfl⟩
  by_cases h10 : 10 ≤ n
  · have hR : Hid (addR x o = (nilI, 4)) := Lib.hid (addR_full (by omega))
    have h10' : (10 : Int) ≤ (n : Int) := by omega
    simp only [InV]
    rw [hn]
    clear hlim h hC hf h10 hn hA hCA
    go_enter Tryz.func103, Tryz.ntmps103
    go_wp2
    refine bodyPost_ret (v := .tuple #[InV nilI nilP, .int .i64 4]) (by simp [results, Tryz.results103, go_sem, InV, nilI, nilP]) rfl ?_
    unfold AddOutF
    rw [hR.out]
    refine ⟨nilP, rfl, InFr.nil, by repeat (first | assumption | exact Below.refl _ _ | refine Below.drew ?_ | refine Below.alloc ?_ (by first | omega | (simp <;> omega)) _ | refine Below.setCell ?_ (by first | omega | (simp <;> omega)) _)⟩
  have h10' : ¬ (10 : Int) ≤ (n : Int) := by omega
  have h10n := h10
  have hLim := Lib.hid (hlim (by omega))
  obtain ⟨CS, hcs, hca, hcb, hone⟩ := RowAt.cells (r := rOrd) (by decide) hA.orders
  have hcap : n ≤ P.c3 := by have := h.capO; omega
  have HI := Lib.hid h
  have HC := Lib.hid (And.intro hC hf)
  have hW1 : ∃ W0, ((w.alloc (.cells (insCs x P).toArray 30)).alloc (.cells (OrdCells o C cc).toArray 35)).alloc (.cells nilCs.toArray 30) = W0 := ⟨_, rfl⟩
  obtain ⟨W0, hW0⟩ := hW1
  have hB0 : Below w.heap.size w W0 := by rw [← hW0]; exact (((Below.refl _ _).alloc (Nat.le_refl _) _).alloc (by simp) _).alloc (by simp; omega) _
  have z0 := hB0.size
  have hs0 : w.heap.size + 1 + 1 < W0.heap.size := by rw [← hW0]; simp
  have b0 : SixAt W0 w.heap.size (insCs x P) := by
    rw [← hW0]
    unfold SixAt
    rw [Below.heap_alloc _ _ _ (by simp; omega), Below.heap_alloc _ _ _ (by simp)]
    exact World.alloc_heap_new w _
  have b1 : OrBlk W0 (w.heap.size + 1) o C cc := by
    rw [← hW0]
    unfold OrBlk
    rw [Below.heap_alloc _ _ _ (by simp)]
    have h := World.alloc_heap_new (w.alloc (.cells (insCs x P).toArray 30)) (.cells (OrdCells o C cc).toArray 35)
    simpa using h
  have b2 : SixAt W0 (w.heap.size + 1 + 1) nilCs := by
    rw [← hW0]
    have h := World.alloc_heap_new ((w.alloc (.cells (insCs x P).toArray 30)).alloc (.cells (OrdCells o C cc).toArray 35)) (.cells nilCs.toArray 30)
    simpa [SixAt] using h
  have HX : Hid (∀ w', Below W0.heap.size W0 w' → SixAt w' w.heap.size (insCs x P)) := Lib.hid fun w' h => (h.block _ (by omega)).trans b0
  have HOB : Hid (∀ w', Below W0.heap.size W0 w' → OrBlk w' (w.heap.size + 1) o C cc) := Lib.hid fun w' h => (h.block _ (by omega)).trans b1
  have HRS : Hid (∀ w', Below W0.heap.size W0 w' → SixAt w' (w.heap.size + 1 + 1) nilCs) := Lib.hid fun w' h => (h.block _ (by omega)).trans b2
  have HCS : Hid (CS.length = n * 16 ∧ (0 < n → ∃ ad, P.a3 = some ad) ∧ (∀ w', Below W0.heap.size W0 w' → ∀ ad, P.a3 = some ad → CellsAt w' ad CS) ∧ (∀ w', Below W0.heap.size W0 w' → CellsOf rOrd w' w'.heap.size x.orders CS)) := Lib.hid (by
    refine ⟨by rw [hcs.1, hn]; rfl, fun h0 => ?_, fun w' hb ad hA' => ?_, fun w' hb => ?_⟩
    · obtain ⟨ad, h1, _⟩ := hcb (by omega)
      exact ⟨ad, h1⟩
    · rcases Nat.eq_zero_or_pos n with h0 | h0
      · obtain rfl : CS = [] := List.eq_nil_of_length_eq_zero (by rw [hcs.1, hn, h0]; simp)
        intro j u hu
        cases hu
      · obtain ⟨ad', h1, h2⟩ := hcb (by omega)
        rw [hA'] at h1
        obtain rfl := Option.some.inj h1
        exact (hca ad hA').below (hB0.trans (hb.mono z0)) (Nat.lt_of_lt_of_le h2 hB)
    · have hb' := hB0.trans (hb.mono z0)
      exact (hcs.keep (hb'.mono hB)).more (Nat.le_trans hB hb'.size))
  have HCA := Lib.hid (And.intro hA hCA)
  have HFINI : Hid (∀ w' A' c', B ≤ w'.heap.size → (∀ b, b < B → w'.heap[b]? = w.heap[b]?) → w'.ownsRow (w.heap.size + 1 + 1 + 1) 35 16 (.slice A' (n + 1) c') (n + 1) (CS ++ OrdCells o C cc) → InAt w' w'.heap.size (addI x o) ⟨P.a0, P.c0, P.a1, P.c1, P.a2, P.c2, A', c', P.a4, P.c4, P.a5, P.c5⟩) := Lib.hid fun w' A' c' hs1 hk1 hown => by
    have hi := (HCA.out.1.blocks hk1).more hs1
    have hle : (x.orders ++ [o]).length = n + 1 := by rw [List.length_append, hn]; rfl
    have hce : CellsOf rOrd w' w'.heap.size (x.orders ++ [o]) (CS ++ OrdCells o C cc) := ((CellsOf.blocks hcs hk1).more hs1).snoc (rOrd_mk ((Ints.blocks HCA.out.2 hk1).more hs1) HC.out.2)
    refine ⟨hi.places, hi.arcs, hi.types, ?_, hi.apart, hi.before, hi.capT, ?_, hi.capA, hi.capB⟩
    · have h2 := RowAt.of_own (r := rOrd) (l := x.orders ++ [o]) (c := c') hce (by rw [hle]; exact hown) (by rw [hle]; omega)
      exact h2
    · show (x.orders ++ [o]).length ≤ c'
      rw [hle]
      exact own_len_cap hown
  have HW0 : Hid (((w.alloc (.cells #[.slice P.a0 x.net.places.length P.c0, .slice P.a1 x.net.arcs.length P.c1, .slice P.a2 x.types.length P.c2, .slice P.a3 n P.c3, .slice P.a4 x.apart.length P.c4, .slice P.a5 x.before.length P.c5] 30)).alloc (.cells #[.string o.name, .slice C o.load.length cc, .int .i64 o.pick.place, .int .i64 o.pick.opn, .int .i64 o.pick.close, .int .i64 o.pick.service, .int .i64 o.drop.place, .int .i64 o.drop.opn, .int .i64 o.drop.close, .int .i64 o.drop.service, .int .i64 o.skills, .int .i64 o.penalty, .int .i64 o.split, .int .i64 o.last, .int .i64 o.now, .bool o.off] 35)).alloc (.cells #[.slice none 0 0, .slice none 0 0, .slice none 0 0, .slice none 0 0, .slice none 0 0, .slice none 0 0] 30) = W0) := Lib.hid (by rw [← hn]; exact hW0)
  have B0 : Below W0.heap.size W0 W0 := Below.refl _ _
  have HXC : Hid (∀ w', Below W0.heap.size W0 w' → w'.cell? ⟨w.heap.size, 3, none⟩ = some (.slice P.a3 n P.c3)) := Lib.hid fun w' h => by rw [← hn]; exact (HX.out _ h).cell (j := 3) rfl
  have HNL := Lib.hid hn
  clear hlim h hC hf hA hCA hW0 hcs hca hcb hone b0 b1 b2 h10
  simp only [InV]
  rw [hn]
  clear hn
  go_enter Tryz.func103, Tryz.ntmps103
  go_upto_region 1 with fail
  rw [HW0.out]
  have x3 := HXC.out _ B0
  go_upto_region 3 with fail
  clear x3
  go_cut [] (fun wx => ∃ A' c', SixAt wx w.heap.size (insCs (addI x o) ⟨P.a0, P.c0, P.a1, P.c1, P.a2, P.c2, A', c', P.a4, P.c4, P.a5, P.c5⟩) ∧ SixAt wx (w.heap.size + 1 + 1) nilCs ∧ wx.ownsRow (w.heap.size + 1 + 1 + 1) 35 16 (.slice A' (n + 1) c') (n + 1) (CS ++ OrdCells o C cc) ∧ Below w.heap.size w wx)
  case first => as_aux_lemma =>
    have Bd : Below W0.heap.size W0 W0.drew := B0.drew
    have BL : Below W0.heap.size W0 (W0.drew.alloc (.cells (OrdCells o C cc).toArray 35)) := Bd.alloc (by simp) _
    have HL : Hid (CellsAt (W0.drew.alloc (.cells (OrdCells o C cc).toArray 35)) ⟨w.heap.size + 1, 0, none⟩ (OrdCells o C cc)) := Lib.hid (orBlk_at (HOB.out _ BL))
    have HD : Hid (CellsAt W0.drew ⟨w.heap.size + 1, 0, none⟩ (OrdCells o C cc)) := Lib.hid (orBlk_at (HOB.out _ Bd))
    (refine wp_region_held_drew (S := (fun w' => CellsAt w' ⟨w.heap.size + 1, 0, none⟩ (OrdCells o C cc))) (by kernel_rfl) ?_ (fun hHeld => ?_))
    · exact HD.out
    (refine wpAnyH_take (i := 0) (v := ?_) rfl (by kernel_rfl) (by kernel_rfl) (by kernel_rfl) (fun _ _ _ h => h) (Or.inl ⟨by kernel_rfl, ?_⟩) (by assumption) ?_; rotate_left; (focus (intro w hSw; (try dsimp only at hSw); go_simp; all_goals with_reducible rfl)); (try simp only [Act.put, List.getElem_toArray, List.getElem_cons_succ, List.getElem_cons_zero, List.setIfInBounds_toArray, List.set_cons_zero, List.set_cons_succ]))
    (refine wpAnyH_take (i := 3) (v := _) rfl (by kernel_rfl) (by kernel_rfl) (by kernel_rfl) (fun _ _ _ h => h) (Or.inl ⟨by kernel_rfl, fun _ hSw => exec_loadS stOrd' rfl rfl hSw rfl⟩) (by assumption) ?_; (try simp only [Act.put, List.getElem_toArray, List.getElem_cons_succ, List.getElem_cons_zero, List.setIfInBounds_toArray, List.set_cons_zero, List.set_cons_succ]))
    have xd := HXC.out _ Bd
    have xl := HXC.out _ B0
    have hs3 : w.heap.size < W0.heap.size := by omega
    refine wpAnyH_ready (rs := [1, 4]) (by kernel_rfl) (by simp) ?_
    refine AllReadyH.cons rfl (fun K hK => ?_) (AllReadyH.cons rfl (fun K hK => ?_) AllReadyH.nil)
    · go_simp
      refine hK.out _ _ (HD.out) (fun hHeld => ?_)
      clear hK K
      (try simp only [Act.put, List.getElem_toArray, List.getElem_cons_succ, List.getElem_cons_zero, List.setIfInBounds_toArray, List.set_cons_zero, List.set_cons_succ])
      refine wpAnyH_ready (rs := [2, 4]) (by kernel_rfl) (by simp) ?_
      refine AllReadyH.cons rfl (fun K hK => ?_) (AllReadyH.cons rfl (fun K hK => ?_) AllReadyH.nil)
      · skip
        go_simp
        go_at_call 160
        refine (clip_any P.a3 n P.c3 hcap (by omega) _).mono ?_
        rintro e we ⟨rfl, rfl⟩
        refine hK.out _ _ (HD.out) (fun hHeld => ?_)
        clear hK K
        (try simp only [Act.put, List.getElem_toArray, List.getElem_cons_succ, List.getElem_cons_zero, List.setIfInBounds_toArray, List.set_cons_zero, List.set_cons_succ])
        (refine wpAnyH_ready (rs := [4]) (by kernel_rfl) (by simp) ?_; refine AllReadyH.cons rfl (fun K hK => ?_) AllReadyH.nil)
        refine step_lit1 ord_elem rfl _ rfl (OrdCells o C cc) ordZs rfl (by decide) ord_zs (ord_fill1 o C cc) ?_
        refine hK.out _ _ (HL.out) (fun hHeld => ?_)
        clear hK K
        (try simp only [Act.put, List.getElem_toArray, List.getElem_cons_succ, List.getElem_cons_zero, List.setIfInBounds_toArray, List.set_cons_zero, List.set_cons_succ])
        (refine wpAnyH_ready (rs := [5]) (by kernel_rfl) (by simp) ?_; refine AllReadyH.cons rfl (fun K hK => ?_) AllReadyH.nil)
        refine step_appClip ord_elem rfl _ _ rfl P.a3 n CS rfl HCS.out.1 HCS.out.2.1 (HCS.out.2.2.1 _ BL) ⟨W0.drew.heap.size, 0, none⟩ 1 (OrdCells o C cc) rfl rfl (ord_new W0.drew o C cc) (ordCells_one o C cc) (by omega) ?_
        intro A' c' w5 hown5 hg5
        have BG : Below W0.heap.size W0 w5 := BL.grown hg5 BL.size (fun q e => by cases e)
        refine hK.out _ _ ((orBlk_at (HOB.out _ BG))) (fun hHeld => ?_)
        clear hK K
        (try simp only [Act.put, List.getElem_toArray, List.getElem_cons_succ, List.getElem_cons_zero, List.setIfInBounds_toArray, List.set_cons_zero, List.set_cons_succ])
        have x5 := HXC.out _ BG
        have f5 : w5.frozen? ⟨w.heap.size, 3, none⟩ = false := (HX.out _ BG).frozen 3
        have z5 := BG.size
        have HO5 := Lib.hid hown5
        have HG5 := Lib.hid hg5
        clear hown5 hg5
        (refine wpAnyH_take (i := 6) (v := ?_) rfl (by kernel_rfl) (by kernel_rfl) (by kernel_rfl) (fun _ _ _ h => h) (Or.inl ⟨by kernel_rfl, ?_⟩) (by assumption) ?_; rotate_left; (focus (intro w hSw; (try dsimp only at hSw); go_simp; all_goals with_reducible rfl)); (try simp only [Act.put, List.getElem_toArray, List.getElem_cons_succ, List.getElem_cons_zero, List.setIfInBounds_toArray, List.set_cons_zero, List.set_cons_succ]))
        (refine wpAnyH_ready (rs := [7]) (by kernel_rfl) (by simp) ?_; refine AllReadyH.cons rfl (fun K hK => ?_) AllReadyH.nil)
        go_simp
        refine hK.out _ _ (cellsAt_set (orBlk_at (HOB.out _ BG)) _ _ (by show w.heap.size + 1 ≠ w.heap.size; omega)) (fun hHeld => ?_)
        clear hK K
        (try simp only [Act.put, List.getElem_toArray, List.getElem_cons_succ, List.getElem_cons_zero, List.setIfInBounds_toArray, List.set_cons_zero, List.set_cons_succ])
        (refine wpAnyH_done (by kernel_rfl) ?_ _)
        go_wp2
        go_meet
        refine ⟨A', c', ?_, ?_, ?_, ?_⟩
        · rw [← insCs_add, HNL.out]
          exact (HX.out _ BG).set 3 _
        · exact (HRS.out _ BG).keep (Below.heap_setCell _ _ _ _ (by show w.heap.size + 1 + 1 ≠ w.heap.size; omega))
        · exact ownsRow_setCell_below (a := ⟨w.heap.size, 3, none⟩) (own_less HO5.out (by simp; omega)) (by show w.heap.size < _; omega) _
        · exact (hB0.trans (BG.mono z0)).setCell (p := ⟨w.heap.size, 3, none⟩) (Nat.le_refl _) _
      · skip
        refine step_lit1 ord_elem rfl _ rfl (OrdCells o C cc) ordZs rfl (by decide) ord_zs (ord_fill1 o C cc) ?_
        refine hK.out _ _ (HL.out) (fun hHeld => ?_)
        clear hK K
        (try simp only [Act.put, List.getElem_toArray, List.getElem_cons_succ, List.getElem_cons_zero, List.setIfInBounds_toArray, List.set_cons_zero, List.set_cons_succ])
        (refine wpAnyH_ready (rs := [2]) (by kernel_rfl) (by simp) ?_; refine AllReadyH.cons rfl (fun K hK => ?_) AllReadyH.nil)
        go_simp
        go_at_call 160
        refine (clip_any P.a3 n P.c3 hcap (by omega) _).mono ?_
        rintro e we ⟨rfl, rfl⟩
        refine hK.out _ _ (HL.out) (fun hHeld => ?_)
        clear hK K
        (try simp only [Act.put, List.getElem_toArray, List.getElem_cons_succ, List.getElem_cons_zero, List.setIfInBounds_toArray, List.set_cons_zero, List.set_cons_succ])
        (refine wpAnyH_ready (rs := [5]) (by kernel_rfl) (by simp) ?_; refine AllReadyH.cons rfl (fun K hK => ?_) AllReadyH.nil)
        refine step_appClip ord_elem rfl _ _ rfl P.a3 n CS rfl HCS.out.1 HCS.out.2.1 (HCS.out.2.2.1 _ BL) ⟨W0.drew.heap.size, 0, none⟩ 1 (OrdCells o C cc) rfl rfl (ord_new W0.drew o C cc) (ordCells_one o C cc) (by omega) ?_
        intro A' c' w5 hown5 hg5
        have BG : Below W0.heap.size W0 w5 := BL.grown hg5 BL.size (fun q e => by cases e)
        refine hK.out _ _ ((orBlk_at (HOB.out _ BG))) (fun hHeld => ?_)
        clear hK K
        (try simp only [Act.put, List.getElem_toArray, List.getElem_cons_succ, List.getElem_cons_zero, List.setIfInBounds_toArray, List.set_cons_zero, List.set_cons_succ])
        have x5 := HXC.out _ BG
        have f5 : w5.frozen? ⟨w.heap.size, 3, none⟩ = false := (HX.out _ BG).frozen 3
        have z5 := BG.size
        have HO5 := Lib.hid hown5
        have HG5 := Lib.hid hg5
        clear hown5 hg5
        (refine wpAnyH_take (i := 6) (v := ?_) rfl (by kernel_rfl) (by kernel_rfl) (by kernel_rfl) (fun _ _ _ h => h) (Or.inl ⟨by kernel_rfl, ?_⟩) (by assumption) ?_; rotate_left; (focus (intro w hSw; (try dsimp only at hSw); go_simp; all_goals with_reducible rfl)); (try simp only [Act.put, List.getElem_toArray, List.getElem_cons_succ, List.getElem_cons_zero, List.setIfInBounds_toArray, List.set_cons_zero, List.set_cons_succ]))
        (refine wpAnyH_ready (rs := [7]) (by kernel_rfl) (by simp) ?_; refine AllReadyH.cons rfl (fun K hK => ?_) AllReadyH.nil)
        go_simp
        refine hK.out _ _ (cellsAt_set (orBlk_at (HOB.out _ BG)) _ _ (by show w.heap.size + 1 ≠ w.heap.size; omega)) (fun hHeld => ?_)
        clear hK K
        (try simp only [Act.put, List.getElem_toArray, List.getElem_cons_succ, List.getElem_cons_zero, List.setIfInBounds_toArray, List.set_cons_zero, List.set_cons_succ])
        (refine wpAnyH_done (by kernel_rfl) ?_ _)
        go_wp2
        go_meet
        refine ⟨A', c', ?_, ?_, ?_, ?_⟩
        · rw [← insCs_add, HNL.out]
          exact (HX.out _ BG).set 3 _
        · exact (HRS.out _ BG).keep (Below.heap_setCell _ _ _ _ (by show w.heap.size + 1 + 1 ≠ w.heap.size; omega))
        · exact ownsRow_setCell_below (a := ⟨w.heap.size, 3, none⟩) (own_less HO5.out (by simp; omega)) (by show w.heap.size < _; omega) _
        · exact (hB0.trans (BG.mono z0)).setCell (p := ⟨w.heap.size, 3, none⟩) (Nat.le_refl _) _
    · skip
      refine step_lit1 ord_elem rfl _ rfl (OrdCells o C cc) ordZs rfl (by decide) ord_zs (ord_fill1 o C cc) ?_
      refine hK.out _ _ (HL.out) (fun hHeld => ?_)
      clear hK K
      (try simp only [Act.put, List.getElem_toArray, List.getElem_cons_succ, List.getElem_cons_zero, List.setIfInBounds_toArray, List.set_cons_zero, List.set_cons_succ])
      (refine wpAnyH_ready (rs := [1]) (by kernel_rfl) (by simp) ?_; refine AllReadyH.cons rfl (fun K hK => ?_) AllReadyH.nil)
      go_simp
      refine hK.out _ _ (HL.out) (fun hHeld => ?_)
      clear hK K
      (try simp only [Act.put, List.getElem_toArray, List.getElem_cons_succ, List.getElem_cons_zero, List.setIfInBounds_toArray, List.set_cons_zero, List.set_cons_succ])
      (refine wpAnyH_ready (rs := [2]) (by kernel_rfl) (by simp) ?_; refine AllReadyH.cons rfl (fun K hK => ?_) AllReadyH.nil)
      go_simp
      go_at_call 160
      refine (clip_any P.a3 n P.c3 hcap (by omega) _).mono ?_
      rintro e we ⟨rfl, rfl⟩
      refine hK.out _ _ (HL.out) (fun hHeld => ?_)
      clear hK K
      (try simp only [Act.put, List.getElem_toArray, List.getElem_cons_succ, List.getElem_cons_zero, List.setIfInBounds_toArray, List.set_cons_zero, List.set_cons_succ])
      (refine wpAnyH_ready (rs := [5]) (by kernel_rfl) (by simp) ?_; refine AllReadyH.cons rfl (fun K hK => ?_) AllReadyH.nil)
      refine step_appClip ord_elem rfl _ _ rfl P.a3 n CS rfl HCS.out.1 HCS.out.2.1 (HCS.out.2.2.1 _ BL) ⟨W0.drew.heap.size, 0, none⟩ 1 (OrdCells o C cc) rfl rfl (ord_new W0.drew o C cc) (ordCells_one o C cc) (by omega) ?_
      intro A' c' w5 hown5 hg5
      have BG : Below W0.heap.size W0 w5 := BL.grown hg5 BL.size (fun q e => by cases e)
      refine hK.out _ _ ((orBlk_at (HOB.out _ BG))) (fun hHeld => ?_)
      clear hK K
      (try simp only [Act.put, List.getElem_toArray, List.getElem_cons_succ, List.getElem_cons_zero, List.setIfInBounds_toArray, List.set_cons_zero, List.set_cons_succ])
      have x5 := HXC.out _ BG
      have f5 : w5.frozen? ⟨w.heap.size, 3, none⟩ = false := (HX.out _ BG).frozen 3
      have z5 := BG.size
      have HO5 := Lib.hid hown5
      have HG5 := Lib.hid hg5
      clear hown5 hg5
      (refine wpAnyH_take (i := 6) (v := ?_) rfl (by kernel_rfl) (by kernel_rfl) (by kernel_rfl) (fun _ _ _ h => h) (Or.inl ⟨by kernel_rfl, ?_⟩) (by assumption) ?_; rotate_left; (focus (intro w hSw; (try dsimp only at hSw); go_simp; all_goals with_reducible rfl)); (try simp only [Act.put, List.getElem_toArray, List.getElem_cons_succ, List.getElem_cons_zero, List.setIfInBounds_toArray, List.set_cons_zero, List.set_cons_succ]))
      (refine wpAnyH_ready (rs := [7]) (by kernel_rfl) (by simp) ?_; refine AllReadyH.cons rfl (fun K hK => ?_) AllReadyH.nil)
      go_simp
      refine hK.out _ _ (cellsAt_set (orBlk_at (HOB.out _ BG)) _ _ (by show w.heap.size + 1 ≠ w.heap.size; omega)) (fun hHeld => ?_)
      clear hK K
      (try simp only [Act.put, List.getElem_toArray, List.getElem_cons_succ, List.getElem_cons_zero, List.setIfInBounds_toArray, List.set_cons_zero, List.set_cons_succ])
      (refine wpAnyH_done (by kernel_rfl) ?_ _)
      go_wp2
      go_meet
      refine ⟨A', c', ?_, ?_, ?_, ?_⟩
      · rw [← insCs_add, HNL.out]
        exact (HX.out _ BG).set 3 _
      · exact (HRS.out _ BG).keep (Below.heap_setCell _ _ _ _ (by show w.heap.size + 1 + 1 ≠ w.heap.size; omega))
      · exact ownsRow_setCell_below (a := ⟨w.heap.size, 3, none⟩) (own_less HO5.out (by simp; omega)) (by show w.heap.size < _; omega) _
      · exact (hB0.trans (BG.mono z0)).setCell (p := ⟨w.heap.size, 3, none⟩) (Nat.le_refl _) _
  obtain ⟨A', c', hx1, hr1, hown1, hB1⟩ := hcut
  have z1 := hB1.size
  have HX1 := Lib.hid hx1
  have HR1 := Lib.hid hr1
  have HO1 := Lib.hid hown1
  clear hx1 hr1 hown1 HX HOB HRS HCS HW0 HXC
  obtain ⟨Q, hQ⟩ : ∃ Q, (⟨P.a0, P.c0, P.a1, P.c1, P.a2, P.c2, A', c', P.a4, P.c4, P.a5, P.c5⟩ : InP) = Q := ⟨_, rfl⟩
  have HFJ : Hid (∀ w', B ≤ w'.heap.size → (∀ b, b < B → w'.heap[b]? = w.heap[b]?) → w'.ownsRow (w.heap.size + 1 + 1 + 1) 35 16 (.slice A' (n + 1) c') (n + 1) (CS ++ OrdCells o C cc) → InAt w' w'.heap.size (addI x o) Q) := Lib.hid fun w' h1 h2 h3 => by rw [← hQ]; exact HFINI.out w' A' c' h1 h2 h3
  have HFI : Hid (∀ w', Below w.heap.size w w' → w'.ownsRow (w.heap.size + 1 + 1 + 1) 35 16 (.slice A' (n + 1) c') (n + 1) (CS ++ OrdCells o C cc) → InAt w' w'.heap.size (addI x o) Q) := Lib.hid fun w' h1 h2 => HFJ.out w' (Nat.le_trans hB h1.size) (fun b hb => h1.block b (by omega)) h2
  rw [hQ] at HX1
  clear hQ HFINI
  go_wp2_with ((with_reducible refine wpList_loadG stIns _ rfl ⟨w.heap.size, 0, none⟩ (insCs (addI x o) Q) ?_ ?_ ?_ ?_ ?_); exact rfl; exact rfl; exact HX1.out.cells; exact rfl)
  refine (icheck_any (addI x o) Q _ (HFI.out _ hB1 HO1.out) hLim.out).mono ?_
  rintro e w2 ⟨Af, cf, rfl, hownF, b2⟩
  have z2 := b2.size
  have HX2 : Hid (SixAt w2 w.heap.size (insCs (addI x o) Q)) := Lib.hid (HX1.out.below b2)
  have HR2 : Hid (SixAt w2 (w.heap.size + 1 + 1) nilCs) := Lib.hid (HR1.out.below b2)
  have HO2 := Lib.hid (own_below HO1.out b2)
  have hB2 : Below w.heap.size w w2 := hB1.trans (b2.mono z1)
  cases hF : insF (addI x o)
  case nil =>
    have hR : Hid (addR x o = (addI x o, 0)) := Lib.hid (addR_good (by rw [HNL.out]; exact h10n) hF)
    clear hF hownF
    go_wp2_with (first
      | ((with_reducible refine wpList_loadG stIns _ rfl ⟨w.heap.size, 0, none⟩ (insCs (addI x o) Q) ?_ ?_ ?_ ?_ ?_); exact rfl; exact rfl; exact HX2.out.cells; exact rfl)
      | ((with_reducible refine wpList_storeL stIns rfl _ _ rfl (w.heap.size + 1 + 1) nilCs (insCs (addI x o) Q) ?_ ?_ ?_ ?_ ?_ (insCs_one _ _) ?_); exact rfl; exact rfl; exact HR2.out; exact rfl; exact rfl; intro w3 k1 k2 k3 k4; have K := Lib.hid (And.intro k1 (And.intro k2 (And.intro k3 k4))); clear k1 k2 k3 k4))
    obtain ⟨k1, k2, k3, k4⟩ := K.out
    have k1' : SixAt w3 (w.heap.size + 1 + 1) (insCs (addI x o) Q) := k1
    have hB3 : Below w.heap.size w w3 := hB2.trans (k4.mono (by omega))
    have ho3 := own_other HO2.out k2 (by omega)
    have hi3 : InFr w3 B w.heap.size (addI x o) Q := fun w4 hs4 hk4 => by
      have hs3 := hB3.size
      refine HFJ.out w4 (by omega) (fun b hb => (hk4 b (by omega) (.inl hb)).trans (hB3.block b (by omega))) (gen.own_fr ho3 ⟨hs4, fun b hb hp => hk4 b hb (.inr ?_)⟩)
      have h9 : w.heap.size + 1 + 1 + 1 ≤ b := hp
      omega
    have r0 : w3.cell? ⟨w.heap.size + 1 + 1, 0, none⟩ = some (.slice Q.a0 (addI x o).net.places.length Q.c0) := k1'.cell (j := 0) rfl
    have r1 : w3.cell? ⟨w.heap.size + 1 + 1, 1, none⟩ = some (.slice Q.a1 (addI x o).net.arcs.length Q.c1) := k1'.cell (j := 1) rfl
    have r2 : w3.cell? ⟨w.heap.size + 1 + 1, 2, none⟩ = some (.slice Q.a2 (addI x o).types.length Q.c2) := k1'.cell (j := 2) rfl
    have r3 : w3.cell? ⟨w.heap.size + 1 + 1, 3, none⟩ = some (.slice Q.a3 (addI x o).orders.length Q.c3) := k1'.cell (j := 3) rfl
    have r4 : w3.cell? ⟨w.heap.size + 1 + 1, 4, none⟩ = some (.slice Q.a4 (addI x o).apart.length Q.c4) := k1'.cell (j := 4) rfl
    have r5 : w3.cell? ⟨w.heap.size + 1 + 1, 5, none⟩ = some (.slice Q.a5 (addI x o).before.length Q.c5) := k1'.cell (j := 5) rfl
    refine bodyPost_ret (v := .tuple #[InV (addI x o) Q, .int .i64 0]) (by simp [results, Tryz.results103, go_sem, InV, r0, r1, r2, r3, r4, r5]) rfl ?_
    unfold AddOutF
    rw [hR.out]
    exact ⟨Q, rfl, hi3, hB3⟩
  case cons f fs =>
    have hR : Hid (addR x o = (nilI, f.err)) := Lib.hid (addR_bad (by rw [HNL.out]; exact h10n) hF)
    rw [hF] at hownF
    have HFI2 := Lib.hid hownF
    obtain ⟨g, hg1, hg2, hg3⟩ := net.flt_place hownF
    obtain ⟨hgA, hgs⟩ := hg2 (by simp)
    obtain ⟨g0, -⟩ := hg3 0 f rfl
    subst hgA
    have gl : (0 : Int) < (fs.length : Int) + 1 := by omega
    have q0 : w2.cell? ⟨g, 0, none⟩ = some (.int .i64 f.err) := by simpa using g0
    have hk2 : w.heap.size + 1 + 1 < wc.heap.size := (Array.getElem?_eq_some_iff.1 HR1.out).1
    have hgne : g ≠ w.heap.size + 1 + 1 := by have := hg1; omega
    clear hF hownF hg2 hg3 g0
    go_upto_region 6 with fail
    (refine wp_region_held_drew (S := (fun w' => w'.cell? ⟨g, 0, none⟩ = some (.int .i64 f.err))) (by kernel_rfl) ?_ (fun hHeld => ?_))
    · exact q0
    (refine wpAnyH_take (i := 0) (v := ?_) rfl (by kernel_rfl) (by kernel_rfl) (by kernel_rfl) (fun _ _ _ h => h) (Or.inl ⟨by kernel_rfl, ?_⟩) (by assumption) ?_; rotate_left; (focus (intro w hSw; (try dsimp only at hSw); go_simp; all_goals with_reducible rfl)); (try simp only [Act.put, List.getElem_toArray, List.getElem_cons_succ, List.getElem_cons_zero, List.setIfInBounds_toArray, List.set_cons_zero, List.set_cons_succ]))
    (refine wpAnyH_take (i := 1) (v := ?_) rfl (by kernel_rfl) (by kernel_rfl) (by kernel_rfl) (fun _ _ _ h => h) (Or.inl ⟨by kernel_rfl, ?_⟩) (by assumption) ?_; rotate_left; (focus (intro w hSw; (try dsimp only at hSw); go_simp; all_goals with_reducible rfl)); (try simp only [Act.put, List.getElem_toArray, List.getElem_cons_succ, List.getElem_cons_zero, List.setIfInBounds_toArray, List.set_cons_zero, List.set_cons_succ]))
    (refine wpAnyH_take (i := 2) (v := ?_) rfl (by kernel_rfl) (by kernel_rfl) (by kernel_rfl) (fun _ _ _ h => h) (Or.inl ⟨by kernel_rfl, ?_⟩) (by assumption) ?_; rotate_left; (focus (intro w hSw; (try dsimp only at hSw); go_simp; all_goals with_reducible rfl)); (try simp only [Act.put, List.getElem_toArray, List.getElem_cons_succ, List.getElem_cons_zero, List.setIfInBounds_toArray, List.set_cons_zero, List.set_cons_succ]))
    (refine wpAnyH_take (i := 3) (v := ?_) rfl (by kernel_rfl) (by kernel_rfl) (by kernel_rfl) (fun _ _ _ h => h) (Or.inl ⟨by kernel_rfl, ?_⟩) (by assumption) ?_; rotate_left; (focus (intro w hSw; (try dsimp only at hSw); go_simp; all_goals with_reducible rfl)); (try simp only [Act.put, List.getElem_toArray, List.getElem_cons_succ, List.getElem_cons_zero, List.setIfInBounds_toArray, List.set_cons_zero, List.set_cons_succ]))
    (refine wpAnyH_take (i := 4) (v := ?_) rfl (by kernel_rfl) (by kernel_rfl) (by kernel_rfl) (fun _ _ _ h => h) (Or.inl ⟨by kernel_rfl, ?_⟩) (by assumption) ?_; rotate_left; (focus (intro w hSw; (try dsimp only at hSw); go_simp; all_goals with_reducible rfl)); (try simp only [Act.put, List.getElem_toArray, List.getElem_cons_succ, List.getElem_cons_zero, List.setIfInBounds_toArray, List.set_cons_zero, List.set_cons_succ]))
    (refine wpAnyH_ready (rs := [5]) (by kernel_rfl) (by simp) ?_; refine AllReadyH.cons rfl (fun K hK => ?_) AllReadyH.nil)
    refine step_storeL stIns rfl _ _ rfl (w.heap.size + 1 + 1) nilCs nilCs rfl rfl HR2.out rfl rfl nilCs_one ?_
    intro w3 k1 k2 k3 k4
    have q3 : w3.cell? ⟨g, 0, none⟩ = some (.int .i64 f.err) := mrk_cell (k2 g hgne) q0
    refine hK.out _ _ (q3) (fun hHeld => ?_)
    clear hK K
    (try simp only [Act.put, List.getElem_toArray, List.getElem_cons_succ, List.getElem_cons_zero, List.setIfInBounds_toArray, List.set_cons_zero, List.set_cons_succ])
    (refine wpAnyH_take (i := 6) (v := ?_) rfl (by kernel_rfl) (by kernel_rfl) (by kernel_rfl) (fun _ _ _ h => h) (Or.inl ⟨by kernel_rfl, ?_⟩) (by assumption) ?_; rotate_left; (focus (intro w hSw; (try dsimp only at hSw); go_simp; all_goals with_reducible rfl)); (try simp only [Act.put, List.getElem_toArray, List.getElem_cons_succ, List.getElem_cons_zero, List.setIfInBounds_toArray, List.set_cons_zero, List.set_cons_succ]))
    (refine wpAnyH_done (by kernel_rfl) ?_ _)
    have hB3 : Below w.heap.size w w3 := hB2.trans (((Below.refl _ _).drew.trans k4).mono (by omega))
    have k1' : SixAt w3 (w.heap.size + 1 + 1) nilCs := k1
    have r0 : w3.cell? ⟨w.heap.size + 1 + 1, 0, none⟩ = some (.slice none 0 0) := k1'.cell (j := 0) rfl
    have r1 : w3.cell? ⟨w.heap.size + 1 + 1, 1, none⟩ = some (.slice none 0 0) := k1'.cell (j := 1) rfl
    have r2 : w3.cell? ⟨w.heap.size + 1 + 1, 2, none⟩ = some (.slice none 0 0) := k1'.cell (j := 2) rfl
    have r3 : w3.cell? ⟨w.heap.size + 1 + 1, 3, none⟩ = some (.slice none 0 0) := k1'.cell (j := 3) rfl
    have r4 : w3.cell? ⟨w.heap.size + 1 + 1, 4, none⟩ = some (.slice none 0 0) := k1'.cell (j := 4) rfl
    have r5 : w3.cell? ⟨w.heap.size + 1 + 1, 5, none⟩ = some (.slice none 0 0) := k1'.cell (j := 5) rfl
    go_wp2
    refine bodyPost_ret (v := .tuple #[InV nilI nilP, .int .i64 f.err]) (by simp [results, Tryz.results103, go_sem, InV, nilI, nilP, r0, r1, r2, r3, r4, r5]) rfl ?_
    unfold AddOutF
    rw [hR.out]
    exact ⟨nilP, rfl, InFr.nil, hB3⟩
end Go.Proofs.YtofabhenmplkoaaGreatDoor.ins

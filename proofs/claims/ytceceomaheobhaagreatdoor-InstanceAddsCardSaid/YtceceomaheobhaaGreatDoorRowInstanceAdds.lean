import Derived.Test.YtceceomaheobhaaGreatDoorAddA
import Derived.Test.YtceceomaheobhaaGreatDoorInsK
import Derived.Test.YtceceomaheobhaaGreatDoorNetC
import Derived.Test.YtceceomaheobhaaGreatDoorInsC
import Derived.Test.YtceceomaheobhaaGreatDoorInsJ
import Derived.Test.YtceceomaheobhaaGreatDoorSamP
import Derived.Test.YtceceomaheobhaaGreatDoorR13C
import Derived.Deep.QuietTactic
import Derived.BigQuiet
import Derived.Test.YtceceomaheobhaaGreatDoorBase
import Derived.Test.YtceceomaheobhaaGreatDoorInsI
import Derived.Test.YtceceomaheobhaaGreatDoorRsame
import Derived.Test.YtceceomaheobhaaGreatDoorCards
import Derived.Test.YtceceomaheobhaaGreatDoorTie
import Derived.WalkKit
import Derived.ProofKit
import Derived.OpenShut
import Derived.Deep.DeepHandedRow
import Derived.Lib.LaidTab
import Derived.Shelf.Spec.TrailingZeros
import Derived.SizedLaws
import Derived.ShutString
import Derived.ChangeOld
import Derived.Below
import Derived.Lib.SmallJoins
import Derived.Deep.Slices
import Derived.Carry
/- instance.Add. -/
namespace Go.Proofs.YtceceomaheobhaaGreatDoor.ins
open Go.RowKit
open Go.Proofs.YtceceomaheobhaaGreatDoor.lib Go.Proofs.YtceceomaheobhaaGreatDoor.rd Go.Proofs.YtceceomaheobhaaGreatDoor.typ Go.Proofs.YtceceomaheobhaaGreatDoor.app Go.Proofs.YtceceomaheobhaaGreatDoor.big Go.Proofs.YtceceomaheobhaaGreatDoor.flts Go.Proofs.YtceceomaheobhaaGreatDoor.ord
set_option linter.unusedVariables false
set_option linter.unusedSimpArgs false

theorem orBlk_at {w : World} {k : Nat} {o : Ord} {C : Option Addr} {c : Nat} (h : OrBlk w k o C c) : CellsAt w ⟨k, 0, none⟩ (OrdCells o C c) := fun j u hu => World.news_of_block (w := w) (B := k) h j u (by simpa using hu)
theorem insCs_add (x : Ins) (o : Ord) (P : InP) (A : Option Addr) (c : Nat) : (insCs x P).set 3 (.slice A (x.orders.length + 1) c) = insCs (addI x o) ⟨P.a0, P.c0, P.a1, P.c1, P.a2, P.c2, A, c, P.a4, P.c4, P.a5, P.c5⟩ := by
  simp [insCs, addI]
theorem cellsAt_set {w : World} {g : Nat} {cs : List Value} (h : CellsAt w ⟨g, 0, none⟩ cs) (b i : Nat) {v : Value} (hne : g ≠ b) : CellsAt (w.setCell ⟨b, i, none⟩ v) ⟨g, 0, none⟩ cs := h.heap (Below.heap_setCell _ _ _ _ hne)
theorem own_other {w w' : World} {base : Nat} {e : TypeId} {size n : Nat} {v : Value} {xs : List Value} {b : Nat} (h : w.ownsRow base e size v n xs) (hk : ∀ k, k ≠ b → w'.heap[k]? = w.heap[k]?) (hb : b < base) : w'.ownsRow base e size v n xs := by
  rcases h.2 with ⟨h1, h2⟩ | ⟨g, cap, cur, h1, h2, h3, h4⟩
  · exact ⟨h.1, .inl ⟨h1, h2⟩⟩
  · exact ⟨h.1, .inr ⟨g, cap, cur, h1, h2, (hk g (by omega)).trans h3, h4⟩⟩
theorem step_storeL {t : TypeId} {n : Nat} (T : StructOf t n) {o : Oper} {a : Act} {w : World} {ops : Array Oper} {K : Act → World → Prop} {Q : Exit → Act → World → Prop} {E' : Prop} (hgd : o.guard = none) (p v : Operand) (ho : o.op = Op.store t p v)
    (g : Nat) (old cs : List Value) (hp : a.eval p = .pointer (some ⟨g, 0, none⟩)) (hv : a.eval v = .agg cs.toArray) (hb : w.heap[g]? = some (.cells old.toArray t (0, 0))) (hold : old.length = n) (hn : cs.length = n) (h1 : ∀ u ∈ cs, u.oneCell' = true)
    (h : ∀ w', w'.heap[g]? = some (.cells cs.toArray t (0, 0)) → (∀ k, k ≠ g → w'.heap[k]? = w.heap[k]?) → w'.heap.size = w.heap.size → Below g w w' → K (a.put o.dst undef) w') :
    if Region.wanted o (yielded ops a.tmps) = true then Oper.wp Tryz.prog o a w K Q else E' := by
  have hw : Region.wanted o (yielded ops a.tmps) = true := by simp [Region.wanted, hgd]
  rw [if_pos hw]
  have hr := run_storeVar_row (P := Tryz.prog) w g t t old.toArray cs.toArray hb (by rw [T.size]; simp [hn]) (by simp [hold, hn]) (Array.all_eq_true_iff_forall_mem.2 fun u hu => h1 u (by simpa using hu))
  have hr2 : (Instr.storeAt t (.pointer (some ⟨g, 0, none⟩)) (.agg cs.toArray)).run Tryz.prog w = .ok () (w.setRow g cs.toArray) := by
    simp only [Instr.storeAt, Instr.sureAddr, Sem.run_bind, Sem.run_pure, Result.andThen]
    exact hr
  have hot : ∀ k, k ≠ g → (w.setRow g cs.toArray).heap[k]? = w.heap[k]? := fun k hk => by
    simp only [World.setRow, Array.getElem?_modify]
    rw [if_neg (fun e => hk e.symm)]
  have hsz : (w.setRow g cs.toArray).heap.size = w.heap.size := by simp [World.setRow]
  unfold Oper.wp execOp
  simp only [ho, hp, hv, Sem.run_bind, hr2, Result.andThen_ok, Sem.run_pure]
  exact h _ (setRow_heap w g old.toArray cs.toArray t (0, 0) hb) hot hsz ⟨rfl, rfl, rfl, Nat.le_of_eq hsz.symm, fun k hk => hot k (by omega)⟩
theorem nilCs_one : ∀ u ∈ nilCs, u.oneCell' = true := fun u hu => by
  simp only [nilCs, List.mem_cons, List.not_mem_nil, or_false] at hu
  rcases hu with rfl | rfl | rfl | rfl | rfl | rfl <;> rfl
theorem mrk_cell {w w' : World} {q o : Nat} {v : Option Value} (e : w'.heap[q]? = w.heap[q]?) (h : w.cell? ⟨q, o, none⟩ = v) : w'.cell? ⟨q, o, none⟩ = v := by
  rw [← h]
  unfold World.cell?
  simp only [e]
theorem stOrd' : StructOf 42 16 := ⟨⟨_, Tryz.underlying42⟩, by kernel_rfl⟩
set_option maxRecDepth 100000 in
set_option maxHeartbeats 8000000 in
theorem add_any (x : Ins) (P : InP) (o : Ord) (C : Option Addr) (cc : Nat) (w : World) (h : InAt w w.heap.size x P) (hC : Ints w w.heap.size C o.load) (hf : OrdFits o) (hlim : x.orders.length < 10 → Lim (addI x o)) :
    Calls Tryz.prog 10 #[InV x P, .agg #[.string o.name, .slice C o.load.length cc, .int .i64 o.pick.place, .int .i64 o.pick.opn, .int .i64 o.pick.close, .int .i64 o.pick.service, .int .i64 o.drop.place, .int .i64 o.drop.opn, .int .i64 o.drop.close, .int .i64 o.drop.service, .int .i64 o.skills, .int .i64 o.penalty, .int .i64 o.split, .int .i64 o.last, .int .i64 o.now, .bool o.off]] w (AddOutI x o w) := by
  have hlen0 := h.orders.len
  obtain ⟨n, hn⟩ : ∃ n, x.orders.length = n := ⟨_, rfl⟩
  by_cases h10 : 10 ≤ n
  · have hR : Hid (addR x o = (nilI, 4)) := Lib.hid (addR_full (by omega))
    have h10' : (10 : Int) ≤ (n : Int) := by omega
    simp only [InV]
    rw [hn]
    clear hlim h hC hf h10 hn
    go_enter Tryz.func10, Tryz.ntmps10
    go_wp2
    refine bodyPost_ret (v := .tuple #[InV nilI nilP, .int .i64 4]) (by simp [results, Tryz.results10, go_sem, InV, nilI, nilP]) rfl ?_
    unfold AddOutI
    rw [hR.out]
    refine ⟨nilP, rfl, nil_at _, by repeat (first | assumption | exact Below.refl _ _ | refine Below.drew ?_ | refine Below.alloc ?_ (by first | omega | (simp <;> omega)) _ | refine Below.setCell ?_ (by first | omega | (simp <;> omega)) _)⟩
  have h10' : ¬ (10 : Int) ≤ (n : Int) := by omega
  have h10n := h10
  have hLim := Lib.hid (hlim (by omega))
  obtain ⟨CS, hcs, hca, hcb, hone⟩ := RowAt.cells (r := rOrd) (by decide) h.orders
  have hcap : n ≤ P.c3 := by have := h.capO; omega
  have HI := Lib.hid h
  have HC := Lib.hid (And.intro hC hf)
  have hW1 : ∃ W0, ((w.alloc (.cells (insCs x P).toArray 30)).alloc (.cells (OrdCells o C cc).toArray 42)).alloc (.cells nilCs.toArray 30) = W0 := ⟨_, rfl⟩
  obtain ⟨W0, hW0⟩ := hW1
  have hB0 : Below w.heap.size w W0 := by rw [← hW0]; exact (((Below.refl _ _).alloc (Nat.le_refl _) _).alloc (by simp) _).alloc (by simp; omega) _
  have z0 := hB0.size
  have hs0 : w.heap.size + 1 + 1 < W0.heap.size := by rw [← hW0]; simp
  have b0 : SixAt W0 w.heap.size (insCs x P) := by
    rw [← hW0]
    unfold SixAt
    rw [Below.heap_alloc _ _ _ (by simp; omega), Below.heap_alloc _ _ _ (by simp)]
    exact World.alloc_heap_new w _
  have b1 : OrBlk W0 (w.heap.size + 1) o C cc := by
    rw [← hW0]
    unfold OrBlk
    rw [Below.heap_alloc _ _ _ (by simp)]
    have h := World.alloc_heap_new (w.alloc (.cells (insCs x P).toArray 30)) (.cells (OrdCells o C cc).toArray 42)
    simpa using h
  have b2 : SixAt W0 (w.heap.size + 1 + 1) nilCs := by
    rw [← hW0]
    have h := World.alloc_heap_new ((w.alloc (.cells (insCs x P).toArray 30)).alloc (.cells (OrdCells o C cc).toArray 42)) (.cells nilCs.toArray 30)
    simpa [SixAt] using h
  have HX : Hid (∀ w', Below W0.heap.size W0 w' → SixAt w' w.heap.size (insCs x P)) := Lib.hid fun w' h => (h.block _ (by omega)).trans b0
  have HOB : Hid (∀ w', Below W0.heap.size W0 w' → OrBlk w' (w.heap.size + 1) o C cc) := Lib.hid fun w' h => (h.block _ (by omega)).trans b1
  have HRS : Hid (∀ w', Below W0.heap.size W0 w' → SixAt w' (w.heap.size + 1 + 1) nilCs) := Lib.hid fun w' h => (h.block _ (by omega)).trans b2
  have HCS : Hid (CS.length = n * 16 ∧ (0 < n → ∃ ad, P.a3 = some ad) ∧ (∀ w', Below W0.heap.size W0 w' → ∀ ad, P.a3 = some ad → CellsAt w' ad CS) ∧ (∀ w', Below W0.heap.size W0 w' → CellsOf rOrd w' w'.heap.size x.orders CS)) := Lib.hid (by
    refine ⟨by rw [hcs.1, hn]; rfl, fun h0 => ?_, fun w' hb ad hA => ?_, fun w' hb => ?_⟩
    · obtain ⟨ad, h1, _⟩ := hcb (by omega)
      exact ⟨ad, h1⟩
    · rcases Nat.eq_zero_or_pos n with h0 | h0
      · obtain rfl : CS = [] := List.eq_nil_of_length_eq_zero (by rw [hcs.1, hn, h0]; simp)
        intro j u hu
        cases hu
      · obtain ⟨ad', h1, h2⟩ := hcb (by omega)
        rw [hA] at h1
        obtain rfl := Option.some.inj h1
        exact (hca ad hA).below (hB0.trans (hb.mono z0)) h2
    · have hb' := hB0.trans (hb.mono z0)
      exact (hcs.keep hb').more hb'.size)
  have HFINI : Hid (∀ w' A' c', Below w.heap.size w w' → w'.ownsRow (w.heap.size + 1 + 1 + 1) 42 16 (.slice A' (n + 1) c') (n + 1) (CS ++ OrdCells o C cc) → InAt w' w'.heap.size (addI x o) ⟨P.a0, P.c0, P.a1, P.c1, P.a2, P.c2, A', c', P.a4, P.c4, P.a5, P.c5⟩) := Lib.hid fun w' A' c' hb1 hown => by
    have hi := HI.out.go hb1
    have hle : (x.orders ++ [o]).length = n + 1 := by rw [List.length_append, hn]; rfl
    have hce : CellsOf rOrd w' w'.heap.size (x.orders ++ [o]) (CS ++ OrdCells o C cc) := ((hcs.keep hb1).more hb1.size).snoc (rOrd_mk ((HC.out.1.below hb1).more hb1.size) HC.out.2)
    refine ⟨hi.places, hi.arcs, hi.types, ?_, hi.apart, hi.before, hi.capT, ?_, hi.capA, hi.capB⟩
    · have h2 := RowAt.of_own (r := rOrd) (l := x.orders ++ [o]) (c := c') hce (by rw [hle]; exact hown) (by rw [hle]; omega)
      exact h2
    · show (x.orders ++ [o]).length ≤ c'
      rw [hle]
      exact own_len_cap hown
  have HW0 : Hid (((w.alloc (.cells #[.slice P.a0 x.net.places.length P.c0, .slice P.a1 x.net.arcs.length P.c1, .slice P.a2 x.types.length P.c2, .slice P.a3 n P.c3, .slice P.a4 x.apart.length P.c4, .slice P.a5 x.before.length P.c5] 30)).alloc (.cells #[.string o.name, .slice C o.load.length cc, .int .i64 o.pick.place, .int .i64 o.pick.opn, .int .i64 o.pick.close, .int .i64 o.pick.service, .int .i64 o.drop.place, .int .i64 o.drop.opn, .int .i64 o.drop.close, .int .i64 o.drop.service, .int .i64 o.skills, .int .i64 o.penalty, .int .i64 o.split, .int .i64 o.last, .int .i64 o.now, .bool o.off] 42)).alloc (.cells #[.slice none 0 0, .slice none 0 0, .slice none 0 0, .slice none 0 0, .slice none 0 0, .slice none 0 0] 30) = W0) := Lib.hid (by rw [← hn]; exact hW0)
  have B0 : Below W0.heap.size W0 W0 := Below.refl _ _
  have HXC : Hid (∀ w', Below W0.heap.size W0 w' → w'.cell? ⟨w.heap.size, 3, none⟩ = some (.slice P.a3 n P.c3)) := Lib.hid fun w' h => by rw [← hn]; exact (HX.out _ h).cell (j := 3) rfl
  have HNL := Lib.hid hn
  clear hlim h hC hf hW0 hcs hca hcb hone b0 b1 b2 h10
  simp only [InV]
  rw [hn]
  clear hn
  go_enter Tryz.func10, Tryz.ntmps10
  go_upto_region 1 with fail
  rw [HW0.out]
  have x3 := HXC.out _ B0
  go_upto_region 3 with fail
  clear x3
  go_cut [] (fun wx => ∃ A' c', SixAt wx w.heap.size (insCs (addI x o) ⟨P.a0, P.c0, P.a1, P.c1, P.a2, P.c2, A', c', P.a4, P.c4, P.a5, P.c5⟩) ∧ SixAt wx (w.heap.size + 1 + 1) nilCs ∧ wx.ownsRow (w.heap.size + 1 + 1 + 1) 42 16 (.slice A' (n + 1) c') (n + 1) (CS ++ OrdCells o C cc) ∧ Below w.heap.size w wx)
  case first => as_aux_lemma =>
    have Bd : Below W0.heap.size W0 W0.drew := B0.drew
    have BL : Below W0.heap.size W0 (W0.drew.alloc (.cells (OrdCells o C cc).toArray 42)) := Bd.alloc (by simp) _
    have HL : Hid (CellsAt (W0.drew.alloc (.cells (OrdCells o C cc).toArray 42)) ⟨w.heap.size + 1, 0, none⟩ (OrdCells o C cc)) := Lib.hid (orBlk_at (HOB.out _ BL))
    have HD : Hid (CellsAt W0.drew ⟨w.heap.size + 1, 0, none⟩ (OrdCells o C cc)) := Lib.hid (orBlk_at (HOB.out _ Bd))
    (refine wp_region_held_drew (S := (fun w' => CellsAt w' ⟨w.heap.size + 1, 0, none⟩ (OrdCells o C cc))) (by kernel_rfl) ?_ (fun hHeld => ?_))
    · exact HD.out
    (refine wpAnyH_take (i := 0) (v := ?_) rfl (by kernel_rfl) (by kernel_rfl) (by kernel_rfl) (fun _ _ _ h => h) (Or.inl ⟨by kernel_rfl, ?_⟩) (by assumption) ?_; rotate_left; (focus (intro w hSw; (try dsimp only at hSw); go_simp; all_goals with_reducible rfl)); (try simp only [Act.put, List.getElem_toArray, List.getElem_cons_succ, List.getElem_cons_zero, List.setIfInBounds_toArray, List.set_cons_zero, List.set_cons_succ]))
    (refine wpAnyH_take (i := 3) (v := _) rfl (by kernel_rfl) (by kernel_rfl) (by kernel_rfl) (fun _ _ _ h => h) (Or.inl ⟨by kernel_rfl, fun _ hSw => exec_loadS stOrd' rfl rfl hSw rfl⟩) (by assumption) ?_; (try simp only [Act.put, List.getElem_toArray, List.getElem_cons_succ, List.getElem_cons_zero, List.setIfInBounds_toArray, List.set_cons_zero, List.set_cons_succ]))
    have xd := HXC.out _ Bd
    have xl := HXC.out _ B0
    have hs3 : w.heap.size < W0.heap.size := by omega
    refine wpAnyH_ready (rs := [1, 4]) (by kernel_rfl) (by simp) ?_
    refine AllReadyH.cons rfl (fun K hK => ?_) (AllReadyH.cons rfl (fun K hK => ?_) AllReadyH.nil)
    · go_simp
      refine hK.out _ _ (HD.out) (fun hHeld => ?_)
      clear hK K
      (try simp only [Act.put, List.getElem_toArray, List.getElem_cons_succ, List.getElem_cons_zero, List.setIfInBounds_toArray, List.set_cons_zero, List.set_cons_succ])
      refine wpAnyH_ready (rs := [2, 4]) (by kernel_rfl) (by simp) ?_
      refine AllReadyH.cons rfl (fun K hK => ?_) (AllReadyH.cons rfl (fun K hK => ?_) AllReadyH.nil)
      · skip
        go_simp
        go_at_call 35
        refine (clip_any P.a3 n P.c3 hcap (by omega) _).mono ?_
        rintro e we ⟨rfl, rfl⟩
        refine hK.out _ _ (HD.out) (fun hHeld => ?_)
        clear hK K
        (try simp only [Act.put, List.getElem_toArray, List.getElem_cons_succ, List.getElem_cons_zero, List.setIfInBounds_toArray, List.set_cons_zero, List.set_cons_succ])
        (refine wpAnyH_ready (rs := [4]) (by kernel_rfl) (by simp) ?_; refine AllReadyH.cons rfl (fun K hK => ?_) AllReadyH.nil)
        refine step_lit1 ord_elem rfl _ rfl (OrdCells o C cc) ordZs rfl (by decide) ord_zs (ord_fill1 o C cc) ?_
        refine hK.out _ _ (HL.out) (fun hHeld => ?_)
        clear hK K
        (try simp only [Act.put, List.getElem_toArray, List.getElem_cons_succ, List.getElem_cons_zero, List.setIfInBounds_toArray, List.set_cons_zero, List.set_cons_succ])
        (refine wpAnyH_ready (rs := [5]) (by kernel_rfl) (by simp) ?_; refine AllReadyH.cons rfl (fun K hK => ?_) AllReadyH.nil)
        refine step_appClip ord_elem rfl _ _ rfl P.a3 n CS rfl HCS.out.1 HCS.out.2.1 (HCS.out.2.2.1 _ BL) ⟨W0.drew.heap.size, 0, none⟩ 1 (OrdCells o C cc) rfl rfl (ord_new W0.drew o C cc) (ordCells_one o C cc) (by omega) ?_
        intro A' c' w5 hown5 hg5
        have BG : Below W0.heap.size W0 w5 := BL.grown hg5 BL.size (fun q e => by cases e)
        refine hK.out _ _ ((orBlk_at (HOB.out _ BG))) (fun hHeld => ?_)
        clear hK K
        (try simp only [Act.put, List.getElem_toArray, List.getElem_cons_succ, List.getElem_cons_zero, List.setIfInBounds_toArray, List.set_cons_zero, List.set_cons_succ])
        have x5 := HXC.out _ BG
        have f5 : w5.frozen? ⟨w.heap.size, 3, none⟩ = false := (HX.out _ BG).frozen 3
        have z5 := BG.size
        have HO5 := Lib.hid hown5
        have HG5 := Lib.hid hg5
        clear hown5 hg5
        (refine wpAnyH_take (i := 6) (v := ?_) rfl (by kernel_rfl) (by kernel_rfl) (by kernel_rfl) (fun _ _ _ h => h) (Or.inl ⟨by kernel_rfl, ?_⟩) (by assumption) ?_; rotate_left; (focus (intro w hSw; (try dsimp only at hSw); go_simp; all_goals with_reducible rfl)); (try simp only [Act.put, List.getElem_toArray, List.getElem_cons_succ, List.getElem_cons_zero, List.setIfInBounds_toArray, List.set_cons_zero, List.set_cons_succ]))
        (refine wpAnyH_ready (rs := [7]) (by kernel_rfl) (by simp) ?_; refine AllReadyH.cons rfl (fun K hK => ?_) AllReadyH.nil)
        go_simp
        refine hK.out _ _ (cellsAt_set (orBlk_at (HOB.out _ BG)) _ _ (by show w.heap.size + 1 ≠ w.heap.size; omega)) (fun hHeld => ?_)
        clear hK K
        (try simp only [Act.put, List.getElem_toArray, List.getElem_cons_succ, List.getElem_cons_zero, List.setIfInBounds_toArray, List.set_cons_zero, List.set_cons_succ])
        (refine wpAnyH_done (by kernel_rfl) ?_ _)
        go_wp2
        go_meet
        refine ⟨A', c', ?_, ?_, ?_, ?_⟩
        · rw [← insCs_add, HNL.out]
          exact (HX.out _ BG).set 3 _
        · exact (HRS.out _ BG).keep (Below.heap_setCell _ _ _ _ (by show w.heap.size + 1 + 1 ≠ w.heap.size; omega))
        · exact ownsRow_setCell_below (a := ⟨w.heap.size, 3, none⟩) (own_less HO5.out (by simp; omega)) (by show w.heap.size < _; omega) _
        · exact (hB0.trans (BG.mono z0)).setCell (p := ⟨w.heap.size, 3, none⟩) (Nat.le_refl _) _
      · skip
        refine step_lit1 ord_elem rfl _ rfl (OrdCells o C cc) ordZs rfl (by decide) ord_zs (ord_fill1 o C cc) ?_
        refine hK.out _ _ (HL.out) (fun hHeld => ?_)
        clear hK K
        (try simp only [Act.put, List.getElem_toArray, List.getElem_cons_succ, List.getElem_cons_zero, List.setIfInBounds_toArray, List.set_cons_zero, List.set_cons_succ])
        (refine wpAnyH_ready (rs := [2]) (by kernel_rfl) (by simp) ?_; refine AllReadyH.cons rfl (fun K hK => ?_) AllReadyH.nil)
        go_simp
        go_at_call 35
        refine (clip_any P.a3 n P.c3 hcap (by omega) _).mono ?_
        rintro e we ⟨rfl, rfl⟩
        refine hK.out _ _ (HL.out) (fun hHeld => ?_)
        clear hK K
        (try simp only [Act.put, List.getElem_toArray, List.getElem_cons_succ, List.getElem_cons_zero, List.setIfInBounds_toArray, List.set_cons_zero, List.set_cons_succ])
        (refine wpAnyH_ready (rs := [5]) (by kernel_rfl) (by simp) ?_; refine AllReadyH.cons rfl (fun K hK => ?_) AllReadyH.nil)
        refine step_appClip ord_elem rfl _ _ rfl P.a3 n CS rfl HCS.out.1 HCS.out.2.1 (HCS.out.2.2.1 _ BL) ⟨W0.drew.heap.size, 0, none⟩ 1 (OrdCells o C cc) rfl rfl (ord_new W0.drew o C cc) (ordCells_one o C cc) (by omega) ?_
        intro A' c' w5 hown5 hg5
        have BG : Below W0.heap.size W0 w5 := BL.grown hg5 BL.size (fun q e => by cases e)
        refine hK.out _ _ ((orBlk_at (HOB.out _ BG))) (fun hHeld => ?_)
        clear hK K
        (try simp only [Act.put, List.getElem_toArray, List.getElem_cons_succ, List.getElem_cons_zero, List.setIfInBounds_toArray, List.set_cons_zero, List.set_cons_succ])
        have x5 := HXC.out _ BG
        have f5 : w5.frozen? ⟨w.heap.size, 3, none⟩ = false := (HX.out _ BG).frozen 3
        have z5 := BG.size
        have HO5 := Lib.hid hown5
        have HG5 := Lib.hid hg5
        clear hown5 hg5
        (refine wpAnyH_take (i := 6) (v := ?_) rfl (by kernel_rfl) (by kernel_rfl) (by kernel_rfl) (fun _ _ _ h => h) (Or.inl ⟨by kernel_rfl, ?_⟩) (by assumption) ?_; rotate_left; (focus (intro w hSw; (try dsimp only at hSw); go_simp; all_goals with_reducible rfl)); (try simp only [Act.put, List.getElem_toArray, List.getElem_cons_succ, List.getElem_cons_zero, List.setIfInBounds_toArray, List.set_cons_zero, List.set_cons_succ]))
        (refine wpAnyH_ready (rs := [7]) (by kernel_rfl) (by simp) ?_; refine AllReadyH.cons rfl (fun K hK => ?_) AllReadyH.nil)
        go_simp
        refine hK.out _ _ (cellsAt_set (orBlk_at (HOB.out _ BG)) _ _ (by show w.heap.size + 1 ≠ w.heap.size; omega)) (fun hHeld => ?_)
        clear hK K
        (try simp only [Act.put, List.getElem_toArray, List.getElem_cons_succ, List.getElem_cons_zero, List.setIfInBounds_toArray, List.set_cons_zero, List.set_cons_succ])
        (refine wpAnyH_done (by kernel_rfl) ?_ _)
        go_wp2
        go_meet
        refine ⟨A', c', ?_, ?_, ?_, ?_⟩
        · rw [← insCs_add, HNL.out]
          exact (HX.out _ BG).set 3 _
        · exact (HRS.out _ BG).keep (Below.heap_setCell _ _ _ _ (by show w.heap.size + 1 + 1 ≠ w.heap.size; omega))
        · exact ownsRow_setCell_below (a := ⟨w.heap.size, 3, none⟩) (own_less HO5.out (by simp; omega)) (by show w.heap.size < _; omega) _
        · exact (hB0.trans (BG.mono z0)).setCell (p := ⟨w.heap.size, 3, none⟩) (Nat.le_refl _) _
    · skip
      refine step_lit1 ord_elem rfl _ rfl (OrdCells o C cc) ordZs rfl (by decide) ord_zs (ord_fill1 o C cc) ?_
      refine hK.out _ _ (HL.out) (fun hHeld => ?_)
      clear hK K
      (try simp only [Act.put, List.getElem_toArray, List.getElem_cons_succ, List.getElem_cons_zero, List.setIfInBounds_toArray, List.set_cons_zero, List.set_cons_succ])
      (refine wpAnyH_ready (rs := [1]) (by kernel_rfl) (by simp) ?_; refine AllReadyH.cons rfl (fun K hK => ?_) AllReadyH.nil)
      go_simp
      refine hK.out _ _ (HL.out) (fun hHeld => ?_)
      clear hK K
      (try simp only [Act.put, List.getElem_toArray, List.getElem_cons_succ, List.getElem_cons_zero, List.setIfInBounds_toArray, List.set_cons_zero, List.set_cons_succ])
      (refine wpAnyH_ready (rs := [2]) (by kernel_rfl) (by simp) ?_; refine AllReadyH.cons rfl (fun K hK => ?_) AllReadyH.nil)
      go_simp
      go_at_call 35
      refine (clip_any P.a3 n P.c3 hcap (by omega) _).mono ?_
      rintro e we ⟨rfl, rfl⟩
      refine hK.out _ _ (HL.out) (fun hHeld => ?_)
      clear hK K
      (try simp only [Act.put, List.getElem_toArray, List.getElem_cons_succ, List.getElem_cons_zero, List.setIfInBounds_toArray, List.set_cons_zero, List.set_cons_succ])
      (refine wpAnyH_ready (rs := [5]) (by kernel_rfl) (by simp) ?_; refine AllReadyH.cons rfl (fun K hK => ?_) AllReadyH.nil)
      refine step_appClip ord_elem rfl _ _ rfl P.a3 n CS rfl HCS.out.1 HCS.out.2.1 (HCS.out.2.2.1 _ BL) ⟨W0.drew.heap.size, 0, none⟩ 1 (OrdCells o C cc) rfl rfl (ord_new W0.drew o C cc) (ordCells_one o C cc) (by omega) ?_
      intro A' c' w5 hown5 hg5
      have BG : Below W0.heap.size W0 w5 := BL.grown hg5 BL.size (fun q e => by cases e)
      refine hK.out _ _ ((orBlk_at (HOB.out _ BG))) (fun hHeld => ?_)
      clear hK K
      (try simp only [Act.put, List.getElem_toArray, List.getElem_cons_succ, List.getElem_cons_zero, List.setIfInBounds_toArray, List.set_cons_zero, List.set_cons_succ])
      have x5 := HXC.out _ BG
      have f5 : w5.frozen? ⟨w.heap.size, 3, none⟩ = false := (HX.out _ BG).frozen 3
      have z5 := BG.size
      have HO5 := Lib.hid hown5
      have HG5 := Lib.hid hg5
      clear hown5 hg5
      (refine wpAnyH_take (i := 6) (v := ?_) rfl (by kernel_rfl) (by kernel_rfl) (by kernel_rfl) (fun _ _ _ h => h) (Or.inl ⟨by kernel_rfl, ?_⟩) (by assumption) ?_; rotate_left; (focus (intro w hSw; (try dsimp only at hSw); go_simp; all_goals with_reducible rfl)); (try simp only [Act.put, List.getElem_toArray, List.getElem_cons_succ, List.getElem_cons_zero, List.setIfInBounds_toArray, List.set_cons_zero, List.set_cons_succ]))
      (refine wpAnyH_ready (rs := [7]) (by kernel_rfl) (by simp) ?_; refine AllReadyH.cons rfl (fun K hK => ?_) AllReadyH.nil)
      go_simp
      refine hK.out _ _ (cellsAt_set (orBlk_at (HOB.out _ BG)) _ _ (by show w.heap.size + 1 ≠ w.heap.size; omega)) (fun hHeld => ?_)
      clear hK K
      (try simp only [Act.put, List.getElem_toArray, List.getElem_cons_succ, List.getElem_cons_zero, List.setIfInBounds_toArray, List.set_cons_zero, List.set_cons_succ])
      (refine wpAnyH_done (by kernel_rfl) ?_ _)
      go_wp2
      go_meet
      refine ⟨A', c', ?_, ?_, ?_, ?_⟩
      · rw [← insCs_add, HNL.out]
        exact (HX.out _ BG).set 3 _
      · exact (HRS.out _ BG).keep (Below.heap_setCell _ _ _ _ (by show w.heap.size + 1 + 1 ≠ w.heap.size; omega))
      · exact ownsRow_setCell_below (a := ⟨w.heap.size, 3, none⟩) (own_less HO5.out (by simp; omega)) (by show w.heap.size < _; omega) _
      · exact (hB0.trans (BG.mono z0)).setCell (p := ⟨w.heap.size, 3, none⟩) (Nat.le_refl _) _
  obtain ⟨A', c', hx1, hr1, hown1, hB1⟩ := hcut
  have z1 := hB1.size
  have HX1 := Lib.hid hx1
  have HR1 := Lib.hid hr1
  have HO1 := Lib.hid hown1
  clear hx1 hr1 hown1 HX HOB HRS HCS HW0 HXC
  obtain ⟨Q, hQ⟩ : ∃ Q, (⟨P.a0, P.c0, P.a1, P.c1, P.a2, P.c2, A', c', P.a4, P.c4, P.a5, P.c5⟩ : InP) = Q := ⟨_, rfl⟩
  have HFI : Hid (∀ w', Below w.heap.size w w' → w'.ownsRow (w.heap.size + 1 + 1 + 1) 42 16 (.slice A' (n + 1) c') (n + 1) (CS ++ OrdCells o C cc) → InAt w' w'.heap.size (addI x o) Q) := Lib.hid fun w' h1 h2 => by rw [← hQ]; exact HFINI.out w' A' c' h1 h2
  rw [hQ] at HX1
  clear hQ HFINI
  go_wp2_with ((with_reducible refine wpList_loadG stIns _ rfl ⟨w.heap.size, 0, none⟩ (insCs (addI x o) Q) ?_ ?_ ?_ ?_ ?_); exact rfl; exact rfl; exact HX1.out.cells; exact rfl)
  refine (icheck_any (addI x o) Q _ (HFI.out _ hB1 HO1.out) hLim.out).mono ?_
  rintro e w2 ⟨Af, cf, rfl, hownF, b2⟩
  have z2 := b2.size
  have HX2 : Hid (SixAt w2 w.heap.size (insCs (addI x o) Q)) := Lib.hid (HX1.out.below b2)
  have HR2 : Hid (SixAt w2 (w.heap.size + 1 + 1) nilCs) := Lib.hid (HR1.out.below b2)
  have HO2 := Lib.hid (own_below HO1.out b2)
  have hB2 : Below w.heap.size w w2 := hB1.trans (b2.mono z1)
  cases hF : insF (addI x o)
  case nil =>
    have hR : Hid (addR x o = (addI x o, 0)) := Lib.hid (addR_good (by rw [HNL.out]; exact h10n) hF)
    clear hF hownF
    go_wp2_with (first
      | ((with_reducible refine wpList_loadG stIns _ rfl ⟨w.heap.size, 0, none⟩ (insCs (addI x o) Q) ?_ ?_ ?_ ?_ ?_); exact rfl; exact rfl; exact HX2.out.cells; exact rfl)
      | ((with_reducible refine wpList_storeL stIns rfl _ _ rfl (w.heap.size + 1 + 1) nilCs (insCs (addI x o) Q) ?_ ?_ ?_ ?_ ?_ (insCs_one _ _) ?_); exact rfl; exact rfl; exact HR2.out; exact rfl; exact rfl; intro w3 k1 k2 k3 k4; have K := Lib.hid (And.intro k1 (And.intro k2 (And.intro k3 k4))); clear k1 k2 k3 k4))
    obtain ⟨k1, k2, k3, k4⟩ := K.out
    have k1' : SixAt w3 (w.heap.size + 1 + 1) (insCs (addI x o) Q) := k1
    have hB3 : Below w.heap.size w w3 := hB2.trans (k4.mono (by omega))
    have hi3 := HFI.out _ hB3 (own_other HO2.out k2 (by omega))
    have r0 : w3.cell? ⟨w.heap.size + 1 + 1, 0, none⟩ = some (.slice Q.a0 (addI x o).net.places.length Q.c0) := k1'.cell (j := 0) rfl
    have r1 : w3.cell? ⟨w.heap.size + 1 + 1, 1, none⟩ = some (.slice Q.a1 (addI x o).net.arcs.length Q.c1) := k1'.cell (j := 1) rfl
    have r2 : w3.cell? ⟨w.heap.size + 1 + 1, 2, none⟩ = some (.slice Q.a2 (addI x o).types.length Q.c2) := k1'.cell (j := 2) rfl
    have r3 : w3.cell? ⟨w.heap.size + 1 + 1, 3, none⟩ = some (.slice Q.a3 (addI x o).orders.length Q.c3) := k1'.cell (j := 3) rfl
    have r4 : w3.cell? ⟨w.heap.size + 1 + 1, 4, none⟩ = some (.slice Q.a4 (addI x o).apart.length Q.c4) := k1'.cell (j := 4) rfl
    have r5 : w3.cell? ⟨w.heap.size + 1 + 1, 5, none⟩ = some (.slice Q.a5 (addI x o).before.length Q.c5) := k1'.cell (j := 5) rfl
    refine bodyPost_ret (v := .tuple #[InV (addI x o) Q, .int .i64 0]) (by simp [results, Tryz.results10, go_sem, InV, r0, r1, r2, r3, r4, r5]) rfl ?_
    unfold AddOutI
    rw [hR.out]
    exact ⟨Q, rfl, hi3, hB3⟩
  case cons f fs =>
    have hR : Hid (addR x o = (nilI, f.err)) := Lib.hid (addR_bad (by rw [HNL.out]; exact h10n) hF)
    rw [hF] at hownF
    have HFI2 := Lib.hid hownF
    obtain ⟨g, hg1, hg2, hg3⟩ := net.flt_place hownF
    obtain ⟨hgA, hgs⟩ := hg2 (by simp)
    obtain ⟨g0, -⟩ := hg3 0 f rfl
    subst hgA
    have gl : (0 : Int) < (fs.length : Int) + 1 := by omega
    have q0 : w2.cell? ⟨g, 0, none⟩ = some (.int .i64 f.err) := by simpa using g0
    have hk2 : w.heap.size + 1 + 1 < wc.heap.size := (Array.getElem?_eq_some_iff.1 HR1.out).1
    have hgne : g ≠ w.heap.size + 1 + 1 := by have := hg1; omega
    clear hF hownF hg2 hg3 g0
    go_upto_region 6 with fail
    (refine wp_region_held_drew (S := (fun w' => w'.cell? ⟨g, 0, none⟩ = some (.int .i64 f.err))) (by kernel_rfl) ?_ (fun hHeld => ?_))
    · exact q0
    (refine wpAnyH_take (i := 0) (v := ?_) rfl (by kernel_rfl) (by kernel_rfl) (by kernel_rfl) (fun _ _ _ h => h) (Or.inl ⟨by kernel_rfl, ?_⟩) (by assumption) ?_; rotate_left; (focus (intro w hSw; (try dsimp only at hSw); go_simp; all_goals with_reducible rfl)); (try simp only [Act.put, List.getElem_toArray, List.getElem_cons_succ, List.getElem_cons_zero, List.setIfInBounds_toArray, List.set_cons_zero, List.set_cons_succ]))
    (refine wpAnyH_take (i := 1) (v := ?_) rfl (by kernel_rfl) (by kernel_rfl) (by kernel_rfl) (fun _ _ _ h => h) (Or.inl ⟨by kernel_rfl, ?_⟩) (by assumption) ?_; rotate_left; (focus (intro w hSw; (try dsimp only at hSw); go_simp; all_goals with_reducible rfl)); (try simp only [Act.put, List.getElem_toArray, List.getElem_cons_succ, List.getElem_cons_zero, List.setIfInBounds_toArray, List.set_cons_zero, List.set_cons_succ]))
    (refine wpAnyH_take (i := 2) (v := ?_) rfl (by kernel_rfl) (by kernel_rfl) (by kernel_rfl) (fun _ _ _ h => h) (Or.inl ⟨by kernel_rfl, ?_⟩) (by assumption) ?_; rotate_left; (focus (intro w hSw; (try dsimp only at hSw); go_simp; all_goals with_reducible rfl)); (try simp only [Act.put, List.getElem_toArray, List.getElem_cons_succ, List.getElem_cons_zero, List.setIfInBounds_toArray, List.set_cons_zero, List.set_cons_succ]))
    (refine wpAnyH_take (i := 3) (v := ?_) rfl (by kernel_rfl) (by kernel_rfl) (by kernel_rfl) (fun _ _ _ h => h) (Or.inl ⟨by kernel_rfl, ?_⟩) (by assumption) ?_; rotate_left; (focus (intro w hSw; (try dsimp only at hSw); go_simp; all_goals with_reducible rfl)); (try simp only [Act.put, List.getElem_toArray, List.getElem_cons_succ, List.getElem_cons_zero, List.setIfInBounds_toArray, List.set_cons_zero, List.set_cons_succ]))
    (refine wpAnyH_take (i := 4) (v := ?_) rfl (by kernel_rfl) (by kernel_rfl) (by kernel_rfl) (fun _ _ _ h => h) (Or.inl ⟨by kernel_rfl, ?_⟩) (by assumption) ?_; rotate_left; (focus (intro w hSw; (try dsimp only at hSw); go_simp; all_goals with_reducible rfl)); (try simp only [Act.put, List.getElem_toArray, List.getElem_cons_succ, List.getElem_cons_zero, List.setIfInBounds_toArray, List.set_cons_zero, List.set_cons_succ]))
    (refine wpAnyH_ready (rs := [5]) (by kernel_rfl) (by simp) ?_; refine AllReadyH.cons rfl (fun K hK => ?_) AllReadyH.nil)
    refine step_storeL stIns rfl _ _ rfl (w.heap.size + 1 + 1) nilCs nilCs rfl rfl HR2.out rfl rfl nilCs_one ?_
    intro w3 k1 k2 k3 k4
    have q3 : w3.cell? ⟨g, 0, none⟩ = some (.int .i64 f.err) := mrk_cell (k2 g hgne) q0
    refine hK.out _ _ (q3) (fun hHeld => ?_)
    clear hK K
    (try simp only [Act.put, List.getElem_toArray, List.getElem_cons_succ, List.getElem_cons_zero, List.setIfInBounds_toArray, List.set_cons_zero, List.set_cons_succ])
    (refine wpAnyH_take (i := 6) (v := ?_) rfl (by kernel_rfl) (by kernel_rfl) (by kernel_rfl) (fun _ _ _ h => h) (Or.inl ⟨by kernel_rfl, ?_⟩) (by assumption) ?_; rotate_left; (focus (intro w hSw; (try dsimp only at hSw); go_simp; all_goals with_reducible rfl)); (try simp only [Act.put, List.getElem_toArray, List.getElem_cons_succ, List.getElem_cons_zero, List.setIfInBounds_toArray, List.set_cons_zero, List.set_cons_succ]))
    (refine wpAnyH_done (by kernel_rfl) ?_ _)
    have hB3 : Below w.heap.size w w3 := hB2.trans (((Below.refl _ _).drew.trans k4).mono (by omega))
    have k1' : SixAt w3 (w.heap.size + 1 + 1) nilCs := k1
    have r0 : w3.cell? ⟨w.heap.size + 1 + 1, 0, none⟩ = some (.slice none 0 0) := k1'.cell (j := 0) rfl
    have r1 : w3.cell? ⟨w.heap.size + 1 + 1, 1, none⟩ = some (.slice none 0 0) := k1'.cell (j := 1) rfl
    have r2 : w3.cell? ⟨w.heap.size + 1 + 1, 2, none⟩ = some (.slice none 0 0) := k1'.cell (j := 2) rfl
    have r3 : w3.cell? ⟨w.heap.size + 1 + 1, 3, none⟩ = some (.slice none 0 0) := k1'.cell (j := 3) rfl
    have r4 : w3.cell? ⟨w.heap.size + 1 + 1, 4, none⟩ = some (.slice none 0 0) := k1'.cell (j := 4) rfl
    have r5 : w3.cell? ⟨w.heap.size + 1 + 1, 5, none⟩ = some (.slice none 0 0) := k1'.cell (j := 5) rfl
    go_wp2
    refine bodyPost_ret (v := .tuple #[InV nilI nilP, .int .i64 f.err]) (by simp [results, Tryz.results10, go_sem, InV, nilI, nilP, r0, r1, r2, r3, r4, r5]) rfl ?_
    unfold AddOutI
    rw [hR.out]
    exact ⟨nilP, rfl, nil_at _, hB3⟩
end Go.Proofs.YtceceomaheobhaaGreatDoor.ins

/- Small instances are within the limits. -/
namespace Go.Proofs.YtceceomaheobhaaGreatDoor.ins
open Go.RowKit
open Go.Proofs.YtceceomaheobhaaGreatDoor.lib Go.Proofs.YtceceomaheobhaaGreatDoor.rd Go.Proofs.YtceceomaheobhaaGreatDoor.typ
set_option linter.unusedVariables false

theorem small_lim {x : Ins} (h : SmallI x) : Lim x where
  places := by have := h.places; omega
  arcs := by have := h.arcs; omega
  points := fun a ha => by have := h.arc a ha; omega
  few := fun j a hj _ => by have := h.arcs; have := (List.getElem?_eq_some_iff.1 hj).1; omega
  net := by
    have := net.netTo_len x.net (fun a ha => by have := h.arc a ha; omega) x.net.arcs.length
    have := h.places
    have := h.arcs
    unfold insN
    omega
  types := by have := h.types; omega
  orders := by have := h.orders; omega
  apart := h.apart
  before := h.before
end Go.Proofs.YtceceomaheobhaaGreatDoor.ins

/- The law InstanceChecks, walked. -/
namespace Go.Proofs.YtceceomaheobhaaGreatDoor.ins
open Go.RowKit
open Go.Proofs.YtceceomaheobhaaGreatDoor.lib Go.Proofs.YtceceomaheobhaaGreatDoor.rd Go.Proofs.YtceceomaheobhaaGreatDoor.typ Go.Proofs.YtceceomaheobhaaGreatDoor.flts Go.Proofs.YtceceomaheobhaaGreatDoor.note Go.Proofs.YtceceomaheobhaaGreatDoor.big Go.Proofs.YtceceomaheobhaaGreatDoor.app
set_option linter.unusedVariables false
set_option linter.unusedSimpArgs false

theorem lim_rlim {x : Ins} (h : Lim x) : RLim x where
  places := by have := h.places; omega
  points := fun a ha => by have := h.points a ha; omega
  net := by have := h.net; omega
  types := by have := h.types; omega
  orders := by have := h.orders; omega
  apart := by have := h.apart; omega
  before := by have := h.before; omega
theorem undL_fits {word : ByteArray} (hw : word.size ≤ 10) {fs : List Flt} (h : OkF fs) : ∀ f ∈ und.undL word fs, FltFits f := fun f hf => by
  unfold und.undL at hf
  obtain ⟨g, hg, rfl⟩ := List.mem_map.1 hf
  obtain ⟨⟨h1, h2⟩, h3⟩ := h g hg
  unfold FltFits und.undP
  refine ⟨by show -9223372036854775808 ≤ g.err ∧ g.err ≤ 9223372036854775807; omega, ?_⟩
  show (if g.at_.toList.isEmpty = true then word else word ++ (⟨#[32]⟩ ++ g.at_)).size ≤ _
  split
  · omega
  · rw [ByteArray.size_append, ByteArray.size_append]
    have e1 : (⟨#[32]⟩ : ByteArray).size = 1 := rfl
    omega
theorem insF_fits (x : Ins) : ∀ f ∈ insF x, FltFits f := fun f hf => by
  have e : insF x = und.undL netS (insN x) ++ (und.undL typesS (insT x) ++ (und.undL ordersS (insO x) ++ (und.undL rulesS (insR x) ++ []))) := rfl
  rw [e] at hf
  simp only [List.mem_append, List.not_mem_nil, or_false] at hf
  rcases hf with hf | hf | hf | hf
  · exact undL_fits (by decide) (netTo_ok _ _) f hf
  · exact undL_fits (by decide) (fltsTo_ok _ _ _) f hf
  · exact undL_fits (by decide) (ofltsTo_ok _ _ _ _ _) f hf
  · exact undL_fits (by decide) (rulesF_ok _ _ _) f hf
theorem insF_len {x : Ins} (h : Lim x) : (insF x).length ≤ 1000000 := by
  have e : insF x = und.undL netS (insN x) ++ (und.undL typesS (insT x) ++ (und.undL ordersS (insO x) ++ (und.undL rulesS (insR x) ++ []))) := rfl
  have l1 := h.net
  have l2 : (insT x).length ≤ 1000 := by
    have := flt.fltsTo_len ((x.net.places.length : Int) - 1) x.types x.types.length
    have := h.types
    unfold insT
    omega
  have l3 : (insO x).length ≤ 1000 := by
    have := ord.ofltsTo_len ((x.net.places.length : Int) - 1) (flt.dimsN x.types) x.types.length x.orders x.orders.length
    have := h.orders
    unfold insO
    omega
  have l4 : (insR x).length ≤ 1000 := by
    have := rul.pairsTo_len x.orders.length rul.apartS rul.looseB x.apart x.apart.length
    have := rul.pairsTo_len x.orders.length rul.beforeS eqg.twoEq x.before x.before.length
    have := h.apart
    have := h.before
    unfold insR rul.rulesF
    rw [List.length_append]
    omega
  rw [e]
  simp only [List.length_append, undL_len, List.length_nil]
  omega
set_option maxRecDepth 100000 in
set_option maxHeartbeats 8000000 in
theorem lawChecks_any (x : Ins) (Q : InP) (w : World) (h : InAt w w.heap.size x Q) : Calls Tryz.prog 3 #[InV x Q] w fun e w' => e = .returned (.bool true) ∧ Below w.heap.size w w' := by
  obtain ⟨W0, hW0⟩ : ∃ W0, w.alloc (.cells (insCs x Q).toArray 30) = W0 := ⟨_, rfl⟩
  have hB0 : Below w.heap.size w W0 := by rw [← hW0]; exact (Below.refl _ _).alloc (Nat.le_refl _) _
  have z0 := hB0.size
  have hs0 : w.heap.size < W0.heap.size := by rw [← hW0]; simp
  have hb0 : SixAt W0 w.heap.size (insCs x Q) := by rw [← hW0]; exact World.alloc_heap_new w _
  have HX : Hid (∀ w', Below W0.heap.size W0 w' → SixAt w' w.heap.size (insCs x Q)) := Lib.hid fun w' h => hb0.below h
  have HI : Hid (∀ w', Below W0.heap.size W0 w' → InAt w' w'.heap.size x Q) := Lib.hid fun w' h' => (h.go hB0).go h'
  have hW1 : w.alloc (.cells #[.slice Q.a0 x.net.places.length Q.c0, .slice Q.a1 x.net.arcs.length Q.c1, .slice Q.a2 x.types.length Q.c2, .slice Q.a3 x.orders.length Q.c3, .slice Q.a4 x.apart.length Q.c4, .slice Q.a5 x.before.length Q.c5] 30) = W0 := hW0
  have HW1 := Lib.hid hW1
  have B0 : Below W0.heap.size W0 W0 := Below.refl _ _
  clear hW0 hW1 h hb0
  simp only [InV]
  go_enter Tryz.func3, Tryz.ntmps3
  go_upto_region 1 with fail
  rw [HW1.out]
  go_wp2_with ((with_reducible refine wpList_loadG stIns _ rfl ⟨w.heap.size, 0, none⟩ (insCs (x) Q) ?_ ?_ ?_ ?_ ?_); exact rfl; exact rfl; exact (HX.out _ B0).cells; exact rfl)
  refine (small_any x Q _ (HI.out _ B0)).mono ?_
  rintro e w1 ⟨b, rfl, hsm, b1⟩
  have HSM := Lib.hid hsm
  have z1 := b1.size
  clear hsm
  cases b
  case false =>
    go_wp2_with fail
    refine (awake_any _).mono ?_
    rintro e w2 ⟨rfl, b2⟩
    have B2 : Below W0.heap.size W0 w2 := b1.trans (b2.mono z1)
    go_wp2_with fail
    go_ret
    exact ⟨rfl, hB0.trans (B2.mono z0)⟩
  case true =>
    have hlim := small_lim (HSM.out rfl)
    have hfl := insF_len hlim
    have HL := Lib.hid hlim
    obtain ⟨E, hE⟩ : ∃ E, insF x = E := ⟨_, rfl⟩
    have HFT : Hid (∀ f ∈ E, FltFits f) := Lib.hid (by rw [← hE]; exact insF_fits x)
    have HE := Lib.hid hE
    rw [hE] at hfl
    clear hlim hE HSM
    go_wp2_with ((with_reducible refine wpList_loadG stIns _ rfl ⟨w.heap.size, 0, none⟩ (insCs (x) Q) ?_ ?_ ?_ ?_ ?_); exact rfl; exact rfl; exact (HX.out _ b1).cells; exact rfl)
    refine (icheck_any x Q _ (HI.out _ b1) HL.out).mono ?_
    rw [HE.out]
    rintro e w2 ⟨A1, c1, rfl, hown1, b2⟩
    have B2 : Below W0.heap.size W0 w2 := b1.trans (b2.mono z1)
    have z2 := B2.size
    have HR1 := Lib.hid (flts_row hown1 HFT.out (by omega))
    clear hown1
    go_wp2_with ((with_reducible refine wpList_loadG stIns _ rfl ⟨w.heap.size, 0, none⟩ (insCs (x) Q) ?_ ?_ ?_ ?_ ?_); exact rfl; exact rfl; exact (HX.out _ B2).cells; exact rfl)
    refine (richeck_any x Q _ (HI.out _ B2) (lim_rlim HL.out)).mono ?_
    rw [HE.out]
    rintro e w3 ⟨A2, c2, rfl, hown2, b3⟩
    have B3 : Below W0.heap.size W0 w3 := B2.trans (b3.mono z2)
    have z3 := B3.size
    have HR2 := Lib.hid (And.intro ((HR1.out.below b3).more b3.size) (flts_row hown2 HFT.out (by omega)))
    clear hown2
    have C0 : Below w3.heap.size w3 w3 := Below.refl _ _
    go_upto_region 8 with fail
    go_loopw [5] (fun i wr => ∃ j : Nat, j ≤ E.length ∧ i = .int .i64 j ∧ Below w3.heap.size w3 wr) (fun i _ => E.length - (intOf i).toNat)
    case atStart => exact ⟨0, by omega, rfl, C0⟩
    case round =>
      obtain ⟨j, hj, rfl, hb⟩ := hrel
      by_cases hlt : j < E.length
      · obtain ⟨f, hf⟩ : ∃ f, E[j]? = some f := ⟨_, List.getElem?_eq_getElem hlt⟩
        obtain ⟨ad, rfl, hadb, ⟨m0, m1⟩, -⟩ := row_Flt (HR2.out.1.below hb) hf
        obtain ⟨ad', rfl, hadb', ⟨n0, n1⟩, -⟩ := row_Flt (HR2.out.2.below hb) hf
        have hj0 : (0 : Int) ≤ (j : Int) := by omega
        have hjn : (j : Int) < (E.length : Int) := by omega
        clear hf
        go_wp2
        go_quiet (fail)
        go_wp2
        go_roundw
        case rel => exact ⟨j + 1, by omega, by go_num, bel_drewN hb _⟩
        case measure => simp [intOf]; omega
      · have hjn : j = E.length := by omega
        subst hjn
        clear hlt
        have B4 : Below W0.heap.size W0 wr := B3.trans (hb.mono z3)
        go_wp2_with fail
        refine (awake_any _).mono ?_
        rintro e w5 ⟨rfl, b5⟩
        have B5 : Below W0.heap.size W0 w5 := B4.trans (b5.mono B4.size)
        go_wp2_with fail
        go_ret
        exact ⟨rfl, hB0.trans (B5.mono z0)⟩
end Go.Proofs.YtceceomaheobhaaGreatDoor.ins

/- The reference's Add. -/
namespace Go.Proofs.YtceceomaheobhaaGreatDoor.ins
open Go.RowKit
open Go.Proofs.YtceceomaheobhaaGreatDoor.lib Go.Proofs.YtceceomaheobhaaGreatDoor.rd Go.Proofs.YtceceomaheobhaaGreatDoor.typ Go.Proofs.YtceceomaheobhaaGreatDoor.app Go.Proofs.YtceceomaheobhaaGreatDoor.big Go.Proofs.YtceceomaheobhaaGreatDoor.flts Go.Proofs.YtceceomaheobhaaGreatDoor.ord
set_option linter.unusedVariables false
set_option linter.unusedSimpArgs false

set_option maxRecDepth 100000 in
set_option maxHeartbeats 8000000 in
theorem radd_any (x : Ins) (P : InP) (o : Ord) (C : Option Addr) (cc : Nat) (w : World) (h : InAt w w.heap.size x P) (hC : Ints w w.heap.size C o.load) (hf : OrdFits o) (hlim : x.orders.length < 10 → Lim (addI x o)) :
    Calls Tryz.prog 11 #[InV x P, .agg #[.string o.name, .slice C o.load.length cc, .int .i64 o.pick.place, .int .i64 o.pick.opn, .int .i64 o.pick.close, .int .i64 o.pick.service, .int .i64 o.drop.place, .int .i64 o.drop.opn, .int .i64 o.drop.close, .int .i64 o.drop.service, .int .i64 o.skills, .int .i64 o.penalty, .int .i64 o.split, .int .i64 o.last, .int .i64 o.now, .bool o.off]] w (AddOutI x o w) := by
  have hlen0 := h.orders.len
  obtain ⟨n, hn⟩ : ∃ n, x.orders.length = n := ⟨_, rfl⟩
  by_cases h10 : 10 ≤ n
  · have hR : Hid (addR x o = (nilI, 4)) := Lib.hid (addR_full (by omega))
    have h10' : (10 : Int) ≤ (n : Int) := by omega
    simp only [InV]
    rw [hn]
    clear hlim h hC hf h10 hn
    go_enter Tryz.func11, Tryz.ntmps11
    go_wp2
    refine bodyPost_ret (v := .tuple #[InV nilI nilP, .int .i64 4]) (by simp [results, Tryz.results11, go_sem, InV, nilI, nilP]) rfl ?_
    unfold AddOutI
    rw [hR.out]
    refine ⟨nilP, rfl, nil_at _, by repeat (first | assumption | exact Below.refl _ _ | refine Below.drew ?_ | refine Below.alloc ?_ (by first | omega | (simp <;> omega)) _ | refine Below.setCell ?_ (by first | omega | (simp <;> omega)) _)⟩
  have h10' : ¬ (10 : Int) ≤ (n : Int) := by omega
  have h10n := h10
  have hLim := Lib.hid (hlim (by omega))
  obtain ⟨CS, hcs, hca, hcb, hone⟩ := RowAt.cells (r := rOrd) (by decide) h.orders
  have hcap : n ≤ P.c3 := by have := h.capO; omega
  have HI := Lib.hid h
  have HC := Lib.hid (And.intro hC hf)
  have hW1 : ∃ W0, ((w.alloc (.cells (insCs x P).toArray 30)).alloc (.cells (OrdCells o C cc).toArray 42)).alloc (.cells nilCs.toArray 30) = W0 := ⟨_, rfl⟩
  obtain ⟨W0, hW0⟩ := hW1
  have hB0 : Below w.heap.size w W0 := by rw [← hW0]; exact (((Below.refl _ _).alloc (Nat.le_refl _) _).alloc (by simp) _).alloc (by simp; omega) _
  have z0 := hB0.size
  have hs0 : w.heap.size + 1 + 1 < W0.heap.size := by rw [← hW0]; simp
  have b0 : SixAt W0 w.heap.size (insCs x P) := by
    rw [← hW0]
    unfold SixAt
    rw [Below.heap_alloc _ _ _ (by simp; omega), Below.heap_alloc _ _ _ (by simp)]
    exact World.alloc_heap_new w _
  have b1 : OrBlk W0 (w.heap.size + 1) o C cc := by
    rw [← hW0]
    unfold OrBlk
    rw [Below.heap_alloc _ _ _ (by simp)]
    have h := World.alloc_heap_new (w.alloc (.cells (insCs x P).toArray 30)) (.cells (OrdCells o C cc).toArray 42)
    simpa using h
  have b2 : SixAt W0 (w.heap.size + 1 + 1) nilCs := by
    rw [← hW0]
    have h := World.alloc_heap_new ((w.alloc (.cells (insCs x P).toArray 30)).alloc (.cells (OrdCells o C cc).toArray 42)) (.cells nilCs.toArray 30)
    simpa [SixAt] using h
  have HX : Hid (∀ w', Below W0.heap.size W0 w' → SixAt w' w.heap.size (insCs x P)) := Lib.hid fun w' h => (h.block _ (by omega)).trans b0
  have HOB : Hid (∀ w', Below W0.heap.size W0 w' → OrBlk w' (w.heap.size + 1) o C cc) := Lib.hid fun w' h => (h.block _ (by omega)).trans b1
  have HRS : Hid (∀ w', Below W0.heap.size W0 w' → SixAt w' (w.heap.size + 1 + 1) nilCs) := Lib.hid fun w' h => (h.block _ (by omega)).trans b2
  have HCS : Hid (CS.length = n * 16 ∧ (0 < n → ∃ ad, P.a3 = some ad) ∧ (∀ w', Below W0.heap.size W0 w' → ∀ ad, P.a3 = some ad → CellsAt w' ad CS) ∧ (∀ w', Below W0.heap.size W0 w' → CellsOf rOrd w' w'.heap.size x.orders CS)) := Lib.hid (by
    refine ⟨by rw [hcs.1, hn]; rfl, fun h0 => ?_, fun w' hb ad hA => ?_, fun w' hb => ?_⟩
    · obtain ⟨ad, h1, _⟩ := hcb (by omega)
      exact ⟨ad, h1⟩
    · rcases Nat.eq_zero_or_pos n with h0 | h0
      · obtain rfl : CS = [] := List.eq_nil_of_length_eq_zero (by rw [hcs.1, hn, h0]; simp)
        intro j u hu
        cases hu
      · obtain ⟨ad', h1, h2⟩ := hcb (by omega)
        rw [hA] at h1
        obtain rfl := Option.some.inj h1
        exact (hca ad hA).below (hB0.trans (hb.mono z0)) h2
    · have hb' := hB0.trans (hb.mono z0)
      exact (hcs.keep hb').more hb'.size)
  have HFINI : Hid (∀ w' A' c', Below w.heap.size w w' → w'.ownsRow (w.heap.size + 1 + 1 + 1 + 1) 42 16 (.slice A' (n + 1) c') (n + 1) (CS ++ OrdCells o C cc) → InAt w' w'.heap.size (addI x o) ⟨P.a0, P.c0, P.a1, P.c1, P.a2, P.c2, A', c', P.a4, P.c4, P.a5, P.c5⟩) := Lib.hid fun w' A' c' hb1 hown => by
    have hi := HI.out.go hb1
    have hle : (x.orders ++ [o]).length = n + 1 := by rw [List.length_append, hn]; rfl
    have hce : CellsOf rOrd w' w'.heap.size (x.orders ++ [o]) (CS ++ OrdCells o C cc) := ((hcs.keep hb1).more hb1.size).snoc (rOrd_mk ((HC.out.1.below hb1).more hb1.size) HC.out.2)
    refine ⟨hi.places, hi.arcs, hi.types, ?_, hi.apart, hi.before, hi.capT, ?_, hi.capA, hi.capB⟩
    · have h2 := RowAt.of_own (r := rOrd) (l := x.orders ++ [o]) (c := c') hce (by rw [hle]; exact hown) (by rw [hle]; omega)
      exact h2
    · show (x.orders ++ [o]).length ≤ c'
      rw [hle]
      exact own_len_cap hown
  have HW0 : Hid (((w.alloc (.cells #[.slice P.a0 x.net.places.length P.c0, .slice P.a1 x.net.arcs.length P.c1, .slice P.a2 x.types.length P.c2, .slice P.a3 n P.c3, .slice P.a4 x.apart.length P.c4, .slice P.a5 x.before.length P.c5] 30)).alloc (.cells #[.string o.name, .slice C o.load.length cc, .int .i64 o.pick.place, .int .i64 o.pick.opn, .int .i64 o.pick.close, .int .i64 o.pick.service, .int .i64 o.drop.place, .int .i64 o.drop.opn, .int .i64 o.drop.close, .int .i64 o.drop.service, .int .i64 o.skills, .int .i64 o.penalty, .int .i64 o.split, .int .i64 o.last, .int .i64 o.now, .bool o.off] 42)).alloc (.cells #[.slice none 0 0, .slice none 0 0, .slice none 0 0, .slice none 0 0, .slice none 0 0, .slice none 0 0] 30) = W0) := Lib.hid (by rw [← hn]; exact hW0)
  have HCR : Hid (∀ w', Below W0.heap.size W0 w' → Reads w' w.heap.size 16 P.a3 n CS) := Lib.hid fun w' hb => by
    refine ⟨HCS.out.1, fun h0 => ?_⟩
    obtain ⟨ad, h1, h2⟩ := hcb (by omega)
    refine ⟨ad, h1, h2, ?_⟩
    exact HCS.out.2.2.1 w' hb ad h1
  have HONE : Hid (∀ u ∈ CS, u.oneCell' = true) := Lib.hid (hone (fun u => u.oneCell' = true) (fun cs o h => by obtain ⟨C0, c0, rfl, -⟩ := rOrd_at h; exact ordCells_one _ _ _))
  have B0 : Below W0.heap.size W0 W0 := Below.refl _ _
  have HXC : Hid (∀ w', Below W0.heap.size W0 w' → w'.cell? ⟨w.heap.size, 3, none⟩ = some (.slice P.a3 n P.c3)) := Lib.hid fun w' h => by rw [← hn]; exact (HX.out _ h).cell (j := 3) rfl
  have HNL := Lib.hid hn
  clear hlim h hC hf hW0 hcs hca hcb hone b0 b1 b2 h10
  simp only [InV]
  rw [hn]
  clear hn
  go_enter Tryz.func11, Tryz.ntmps11
  go_upto_region 1 with fail
  rw [HW0.out]
  have x3 := HXC.out _ B0
  go_upto_region 3 with fail
  clear x3
  go_upto_region 4 with (first
    | ((with_reducible refine wpList_loadG stIns _ rfl ⟨w.heap.size, 0, none⟩ (insCs (x) P) ?_ ?_ ?_ ?_ ?_); exact rfl; exact rfl; exact (HX.out _ B0).cells; exact rfl)
    | ((with_reducible refine wpList_storeL stIns rfl _ _ rfl W0.heap.size nilCs (insCs x P) ?_ ?_ ?_ ?_ ?_ (insCs_one _ _) ?_); exact rfl; exact rfl; exact World.alloc_heap_new W0 _; exact rfl; exact rfl; intro W1 k1 k2 k3 k4; have K := Lib.hid (And.intro k1 (And.intro k2 (And.intro k3 k4))); clear k1 k2 k3 k4))
  (try simp only [Act.put, List.getElem_toArray, List.getElem_cons_succ, List.getElem_cons_zero, List.setIfInBounds_toArray, List.set_cons_zero, List.set_cons_succ])
  obtain ⟨k1, k2, k3, k4⟩ := K.out
  have zz1 : W1.heap.size = W0.heap.size + 1 := by rw [k3]; simp
  have B1 : Below W0.heap.size W0 W1 := ((Below.refl _ _).alloc (Nat.le_refl _) _).trans k4
  have hz0 : W0.heap.size = w.heap.size + 1 + 1 + 1 := by rw [← HW0.out]; simp
  have T1 : Hid (SixAt W1 W0.heap.size (insCs x P)) := Lib.hid k1
  have x31 := HXC.out _ B1
  have BA1 : Below W0.heap.size W0 (W1.alloc (.cells #[] 42)) := B1.alloc (by omega) _
  have BAs : (W1.alloc (.cells #[] 42)).heap.size = w.heap.size + 1 + 1 + 1 + 1 + 1 := by simp [zz1, hz0]
  have HE0 : Hid ((W1.alloc (.cells #[] 42)).ownsRow (w.heap.size + 1 + 1 + 1 + 1) 42 16 (.slice (some ⟨w.heap.size + 1 + 1 + 1 + 1, 0, none⟩) 0 0) 0 []) := Lib.hid (by
    have h := World.ownsRow_made (base := w.heap.size + 1 + 1 + 1 + 1) (e := 42) (size := 16) W1 #[] 0 (by omega) (by decide) rfl
    rw [zz1, hz0] at h
    exact h)
  clear k1 k2 k3 k4
  have HBG : Hid (∀ w5, (W1.alloc (.cells #[] 42)).grownBy w5 (Value.slice (some ⟨w.heap.size + 1 + 1 + 1 + 1, 0, none⟩) 0 0).ownBlock → Below W0.heap.size W0 w5 ∧ SixAt w5 W0.heap.size (insCs x P)) := Lib.hid fun w5 hg => by
    have hq : ∀ q, (Value.slice (some ⟨w.heap.size + 1 + 1 + 1 + 1, 0, none⟩) 0 0).ownBlock = some q → w.heap.size + 1 + 1 + 1 + 1 ≤ q := fun q e => by
      have := Option.some.inj e
      show w.heap.size + 1 + 1 + 1 + 1 ≤ q
      have e2 : w.heap.size + 1 + 1 + 1 + 1 = q := this
      omega
    have h2 : Below (w.heap.size + 1 + 1 + 1 + 1) (W1.alloc (.cells #[] 42)) w5 := (Below.refl _ _).grown hg (by omega) hq
    refine ⟨BA1.trans (h2.mono (by omega)), ?_⟩
    have h3 : SixAt (W1.alloc (.cells #[] 42)) W0.heap.size (insCs x P) := (Below.heap_alloc _ _ _ (by omega)).trans T1.out
    exact (h2.block _ (by omega)).trans h3
  have BAl : w.heap.size + 1 + 1 + 1 + 1 ≤ (W1.alloc (.cells #[] 42)).heap.size := by omega
  have HBA := Lib.hid BAl
  clear BAl
  go_upto_region 5 with (at_builtin; go_loud (refine wpList_appN ord_elem _ _ rfl (w.heap.size + 1 + 1 + 1 + 1) (.slice (some ⟨w.heap.size + 1 + 1 + 1 + 1, 0, none⟩) 0 0) 0 [] rfl HE0.out w.heap.size P.a3 n P.c3 CS rfl (HCR.out _ BA1) HONE.out (by omega) HBA.out rfl ?_); intro A5 c5 w5 hown5 hg5; go_loud (obtain ⟨b5, s5⟩ := HBG.out w5 hg5); go_loud (have x5 : w5.cell? ⟨w.heap.size + 1 + 1 + 1, 3, none⟩ = some (.slice P.a3 n P.c3) := by (rw [← hz0]; rw [← HNL.out]; exact s5.cell (j := 3) rfl)); go_loud (have f5 : w5.frozen? ⟨w.heap.size + 1 + 1 + 1, 3, none⟩ = false := by (rw [← hz0]; exact s5.frozen 3)))
  (try simp only [Act.put, List.getElem_toArray, List.getElem_cons_succ, List.getElem_cons_zero, List.setIfInBounds_toArray, List.set_cons_zero, List.set_cons_succ])
  have zx5 := (HBG.out _ hg5).1.size
  have hW6 : ∃ W6, w5.setCell ⟨w.heap.size + 1 + 1 + 1, 3, none⟩ (.slice A5 n c5) = W6 := ⟨_, rfl⟩
  obtain ⟨W6, hW6⟩ := hW6
  have q6 : SixAt W6 (w.heap.size + 1 + 1 + 1) ((insCs x P).set 3 (.slice A5 n c5)) := by
    rw [← hW6]
    rw [hz0] at s5
    exact s5.set 3 _
  have ob6 : OrBlk W6 (w.heap.size + 1) o C cc := by
    rw [← hW6]
    exact (Below.heap_setCell _ _ _ _ (by show w.heap.size + 1 ≠ w.heap.size + 1 + 1 + 1; omega)).trans (HOB.out _ b5)
  have r6 : SixAt W6 (w.heap.size + 1 + 1) nilCs := by
    rw [← hW6]
    exact (HRS.out _ b5).keep (Below.heap_setCell _ _ _ _ (by show w.heap.size + 1 + 1 ≠ w.heap.size + 1 + 1 + 1; omega))
  have own6 : W6.ownsRow (w.heap.size + 1 + 1 + 1 + 1) 42 16 (.slice A5 n c5) n CS := by
    rw [← hW6]
    have h := ownsRow_setCell_below (a := ⟨w.heap.size + 1 + 1 + 1, 3, none⟩) hown5 (by show w.heap.size + 1 + 1 + 1 < _; omega) (.slice A5 n c5)
    simpa using h
  have B6 : Below w.heap.size w W6 := by
    rw [← hW6]
    exact (hB0.trans (b5.mono z0)).setCell (p := ⟨w.heap.size + 1 + 1 + 1, 3, none⟩) (by show w.heap.size ≤ w.heap.size + 1 + 1 + 1; omega) _
  have zl6 : w.heap.size + 1 + 1 + 1 < W6.heap.size := (Array.getElem?_eq_some_iff.1 q6).1
  have HC6 : Hid (∀ w', Below W6.heap.size W6 w' → CellsAt w' ⟨w.heap.size + 1, 0, none⟩ (OrdCells o C cc)) := Lib.hid fun w' h => (orBlk_at ob6).heap (h.block _ (by show w.heap.size + 1 < _; omega))
  have x6 : W6.cell? ⟨w.heap.size + 1 + 1 + 1, 3, none⟩ = some (.slice A5 n c5) := q6.cell (j := 3) rfl
  have HO6 : Hid ((W6.alloc (.cells (OrdCells o C cc).toArray 42)).ownsRow (w.heap.size + 1 + 1 + 1 + 1) 42 16 (.slice A5 n c5) n CS) := Lib.hid (own6.alloc _)
  have HBA6 : Hid (w.heap.size + 1 + 1 + 1 + 1 ≤ (W6.alloc (.cells (OrdCells o C cc).toArray 42)).heap.size) := Lib.hid (by simp; omega)
  have HAF : Hid (∀ w7 g' c', (W6.alloc (.cells (OrdCells o C cc).toArray 42)).grownBy w7 (Value.slice A5 n c5).ownBlock → w7.ownsRow (w.heap.size + 1 + 1 + 1 + 1) 42 16 (.slice (some ⟨g', 0, none⟩) (n + 1) c') (n + 1) (CS ++ OrdCells o C cc) →
      (w7.cell? ⟨w.heap.size + 1 + 1 + 1, 3, none⟩ = some (.slice A5 n c5) ∧ w7.frozen? ⟨w.heap.size + 1 + 1 + 1, 3, none⟩ = false) ∧
      (SixAt (w7.setCell ⟨w.heap.size + 1 + 1 + 1, 3, none⟩ (.slice (some ⟨g', 0, none⟩) (n + 1) c')) (w.heap.size + 1 + 1 + 1) (insCs (addI x o) ⟨P.a0, P.c0, P.a1, P.c1, P.a2, P.c2, some ⟨g', 0, none⟩, c', P.a4, P.c4, P.a5, P.c5⟩) ∧ SixAt (w7.setCell ⟨w.heap.size + 1 + 1 + 1, 3, none⟩ (.slice (some ⟨g', 0, none⟩) (n + 1) c')) (w.heap.size + 1 + 1) nilCs ∧ (w7.setCell ⟨w.heap.size + 1 + 1 + 1, 3, none⟩ (.slice (some ⟨g', 0, none⟩) (n + 1) c')).ownsRow (w.heap.size + 1 + 1 + 1 + 1) 42 16 (.slice (some ⟨g', 0, none⟩) (n + 1) c') (n + 1) (CS ++ OrdCells o C cc) ∧ Below w.heap.size w (w7.setCell ⟨w.heap.size + 1 + 1 + 1, 3, none⟩ (.slice (some ⟨g', 0, none⟩) (n + 1) c')))) := Lib.hid fun w7 g' c' hg hown => by
    have hb7 : Below (w.heap.size + 1 + 1 + 1 + 1) (W6.alloc (.cells (OrdCells o C cc).toArray 42)) w7 := (Below.refl _ _).grown hg HBA6.out (fun q e => own_base own6 q e)
    have hb7' : Below (w.heap.size + 1 + 1 + 1 + 1) W6 w7 := ((Below.refl _ _).alloc zl6 _).trans hb7
    have q7 : SixAt w7 (w.heap.size + 1 + 1 + 1) ((insCs x P).set 3 (.slice A5 n c5)) := (hb7'.block _ (by omega)).trans q6
    refine ⟨⟨q7.cell (j := 3) rfl, q7.frozen 3⟩, ?_, ?_, ?_, ?_⟩
    · rw [← insCs_add, HNL.out]
      have h := q7.set 3 (.slice (some ⟨g', 0, none⟩) (n + 1) c')
      simpa using h
    · exact SixAt.keep ((hb7'.block _ (by omega)).trans r6) (Below.heap_setCell _ _ _ _ (by show w.heap.size + 1 + 1 ≠ w.heap.size + 1 + 1 + 1; omega))
    · exact ownsRow_setCell_below (a := ⟨w.heap.size + 1 + 1 + 1, 3, none⟩) hown (by show w.heap.size + 1 + 1 + 1 < _; omega) _
    · exact (B6.trans (hb7'.mono (by omega))).setCell (p := ⟨w.heap.size + 1 + 1 + 1, 3, none⟩) (by show w.heap.size ≤ w.heap.size + 1 + 1 + 1; omega) _
  rw [hW6]
  clear hW6 q6 ob6 r6 own6 x5 f5 hown5 hg5 b5 s5 T1 HE0 HCR HONE HBG HBA x31 BA1 BAs HX HOB HRS HCS HW0 HXC zz1 B1 hz0 zx5
  have B66 := Below.refl W6.heap.size W6
  go_cut [] (fun wx => ∃ A' c', SixAt wx (w.heap.size + 1 + 1 + 1) (insCs (addI x o) ⟨P.a0, P.c0, P.a1, P.c1, P.a2, P.c2, A', c', P.a4, P.c4, P.a5, P.c5⟩) ∧ SixAt wx (w.heap.size + 1 + 1) nilCs ∧ wx.ownsRow (w.heap.size + 1 + 1 + 1 + 1) 42 16 (.slice A' (n + 1) c') (n + 1) (CS ++ OrdCells o C cc) ∧ Below w.heap.size w wx)
  case first => as_aux_lemma =>
    go_wp2_with (first
      | ((with_reducible refine wpList_loadG stOrd' _ rfl ⟨w.heap.size + 1, 0, none⟩ (OrdCells o C cc) ?_ ?_ ?_ ?_ ?_); exact rfl; exact rfl; exact HC6.out _ B66; exact rfl)
      | ((with_reducible refine wpList_bsliceL ord_elem rfl 1 [(0, .tmp 21)] rfl [(0, .agg (OrdCells o C cc).toArray)] (OrdCells o C cc) ordZs ?_ (by decide) (by decide) ord_zs (ord_fill1 o C cc) ?_); exact rfl)
      | (at_builtin; go_loud (refine wpList_app ord_elem _ _ rfl (w.heap.size + 1 + 1 + 1 + 1) A5 n c5 CS rfl HO6.out ⟨W6.heap.size, 0, none⟩ 1 (OrdCells o C cc) rfl rfl (ord_new W6 o C cc) (ordCells_one o C cc) (by omega) HBA6.out rfl ?_); intro g7 c7 w7 hown7 hg7 hx7; go_loud (obtain ⟨⟨x7, f7⟩, -⟩ := HAF.out w7 g7 c7 hg7 hown7); have HK7 := Lib.hid (And.intro hg7 hown7); clear hg7 hown7))
    go_meet
    exact ⟨_, c7, (HAF.out w7 g7 c7 HK7.out.1 HK7.out.2).2⟩
  obtain ⟨A', c', hx1, hr1, hown1, hB1⟩ := hcut
  have z1 := hB1.size
  have HX1 := Lib.hid hx1
  have HR1 := Lib.hid hr1
  have HO1 := Lib.hid hown1
  clear hx1 hr1 hown1 HC6 HO6 HBA6 HAF B66 x6 B6
  obtain ⟨Q, hQ⟩ : ∃ Q, (⟨P.a0, P.c0, P.a1, P.c1, P.a2, P.c2, A', c', P.a4, P.c4, P.a5, P.c5⟩ : InP) = Q := ⟨_, rfl⟩
  have HFI : Hid (∀ w', Below w.heap.size w w' → w'.ownsRow (w.heap.size + 1 + 1 + 1 + 1) 42 16 (.slice A' (n + 1) c') (n + 1) (CS ++ OrdCells o C cc) → InAt w' w'.heap.size (addI x o) Q) := Lib.hid fun w' h1 h2 => by rw [← hQ]; exact HFINI.out w' A' c' h1 h2
  rw [hQ] at HX1
  clear hQ HFINI
  go_wp2_with ((with_reducible refine wpList_loadG stIns _ rfl ⟨w.heap.size + 1 + 1 + 1, 0, none⟩ (insCs (addI x o) Q) ?_ ?_ ?_ ?_ ?_); exact rfl; exact rfl; exact HX1.out.cells; exact rfl)
  refine (richeck_any (addI x o) Q _ (HFI.out _ hB1 HO1.out) (lim_rlim hLim.out)).mono ?_
  rintro e w2 ⟨Af, cf, rfl, hownF, b2⟩
  have z2 := b2.size
  have HX2 : Hid (SixAt w2 (w.heap.size + 1 + 1 + 1) (insCs (addI x o) Q)) := Lib.hid (HX1.out.below b2)
  have HR2 : Hid (SixAt w2 (w.heap.size + 1 + 1) nilCs) := Lib.hid (HR1.out.below b2)
  have HO2 := Lib.hid (own_below HO1.out b2)
  have hB2 : Below w.heap.size w w2 := hB1.trans (b2.mono z1)
  cases hF : insF (addI x o)
  case nil =>
    have hR : Hid (addR x o = (addI x o, 0)) := Lib.hid (addR_good (by rw [HNL.out]; exact h10n) hF)
    clear hF hownF
    go_wp2_with (first
      | ((with_reducible refine wpList_loadG stIns _ rfl ⟨w.heap.size + 1 + 1 + 1, 0, none⟩ (insCs (addI x o) Q) ?_ ?_ ?_ ?_ ?_); exact rfl; exact rfl; exact HX2.out.cells; exact rfl)
      | ((with_reducible refine wpList_storeL stIns rfl _ _ rfl (w.heap.size + 1 + 1) nilCs (insCs (addI x o) Q) ?_ ?_ ?_ ?_ ?_ (insCs_one _ _) ?_); exact rfl; exact rfl; exact HR2.out; exact rfl; exact rfl; intro w3 k1 k2 k3 k4; have K := Lib.hid (And.intro k1 (And.intro k2 (And.intro k3 k4))); clear k1 k2 k3 k4))
    obtain ⟨k1, k2, k3, k4⟩ := K.out
    have k1' : SixAt w3 (w.heap.size + 1 + 1) (insCs (addI x o) Q) := k1
    have hB3 : Below w.heap.size w w3 := hB2.trans (k4.mono (by omega))
    have hi3 := HFI.out _ hB3 (own_other HO2.out k2 (by omega))
    have r0 : w3.cell? ⟨w.heap.size + 1 + 1, 0, none⟩ = some (.slice Q.a0 (addI x o).net.places.length Q.c0) := k1'.cell (j := 0) rfl
    have r1 : w3.cell? ⟨w.heap.size + 1 + 1, 1, none⟩ = some (.slice Q.a1 (addI x o).net.arcs.length Q.c1) := k1'.cell (j := 1) rfl
    have r2 : w3.cell? ⟨w.heap.size + 1 + 1, 2, none⟩ = some (.slice Q.a2 (addI x o).types.length Q.c2) := k1'.cell (j := 2) rfl
    have r3 : w3.cell? ⟨w.heap.size + 1 + 1, 3, none⟩ = some (.slice Q.a3 (addI x o).orders.length Q.c3) := k1'.cell (j := 3) rfl
    have r4 : w3.cell? ⟨w.heap.size + 1 + 1, 4, none⟩ = some (.slice Q.a4 (addI x o).apart.length Q.c4) := k1'.cell (j := 4) rfl
    have r5 : w3.cell? ⟨w.heap.size + 1 + 1, 5, none⟩ = some (.slice Q.a5 (addI x o).before.length Q.c5) := k1'.cell (j := 5) rfl
    refine bodyPost_ret (v := .tuple #[InV (addI x o) Q, .int .i64 0]) (by simp [results, Tryz.results11, go_sem, InV, r0, r1, r2, r3, r4, r5]) rfl ?_
    unfold AddOutI
    rw [hR.out]
    exact ⟨Q, rfl, hi3, hB3⟩
  case cons f fs =>
    have hR : Hid (addR x o = (nilI, f.err)) := Lib.hid (addR_bad (by rw [HNL.out]; exact h10n) hF)
    rw [hF] at hownF
    have HFI2 := Lib.hid hownF
    obtain ⟨g, hg1, hg2, hg3⟩ := net.flt_place hownF
    obtain ⟨hgA, hgs⟩ := hg2 (by simp)
    obtain ⟨g0, -⟩ := hg3 0 f rfl
    subst hgA
    have gl : (0 : Int) < (fs.length : Int) + 1 := by omega
    have q0 : w2.cell? ⟨g, 0, none⟩ = some (.int .i64 f.err) := by simpa using g0
    have hk2 : w.heap.size + 1 + 1 < wc.heap.size := (Array.getElem?_eq_some_iff.1 HR1.out).1
    have hgne : g ≠ w.heap.size + 1 + 1 := by have := hg1; omega
    clear hF hownF hg2 hg3 g0
    go_upto_region 8 with fail
    (refine wp_region_held_drew (S := (fun w' => w'.cell? ⟨g, 0, none⟩ = some (.int .i64 f.err))) (by kernel_rfl) ?_ (fun hHeld => ?_))
    · exact q0
    (refine wpAnyH_take (i := 0) (v := ?_) rfl (by kernel_rfl) (by kernel_rfl) (by kernel_rfl) (fun _ _ _ h => h) (Or.inl ⟨by kernel_rfl, ?_⟩) (by assumption) ?_; rotate_left; (focus (intro w hSw; (try dsimp only at hSw); go_simp; all_goals with_reducible rfl)); (try simp only [Act.put, List.getElem_toArray, List.getElem_cons_succ, List.getElem_cons_zero, List.setIfInBounds_toArray, List.set_cons_zero, List.set_cons_succ]))
    (refine wpAnyH_take (i := 1) (v := ?_) rfl (by kernel_rfl) (by kernel_rfl) (by kernel_rfl) (fun _ _ _ h => h) (Or.inl ⟨by kernel_rfl, ?_⟩) (by assumption) ?_; rotate_left; (focus (intro w hSw; (try dsimp only at hSw); go_simp; all_goals with_reducible rfl)); (try simp only [Act.put, List.getElem_toArray, List.getElem_cons_succ, List.getElem_cons_zero, List.setIfInBounds_toArray, List.set_cons_zero, List.set_cons_succ]))
    (refine wpAnyH_take (i := 2) (v := ?_) rfl (by kernel_rfl) (by kernel_rfl) (by kernel_rfl) (fun _ _ _ h => h) (Or.inl ⟨by kernel_rfl, ?_⟩) (by assumption) ?_; rotate_left; (focus (intro w hSw; (try dsimp only at hSw); go_simp; all_goals with_reducible rfl)); (try simp only [Act.put, List.getElem_toArray, List.getElem_cons_succ, List.getElem_cons_zero, List.setIfInBounds_toArray, List.set_cons_zero, List.set_cons_succ]))
    (refine wpAnyH_take (i := 3) (v := ?_) rfl (by kernel_rfl) (by kernel_rfl) (by kernel_rfl) (fun _ _ _ h => h) (Or.inl ⟨by kernel_rfl, ?_⟩) (by assumption) ?_; rotate_left; (focus (intro w hSw; (try dsimp only at hSw); go_simp; all_goals with_reducible rfl)); (try simp only [Act.put, List.getElem_toArray, List.getElem_cons_succ, List.getElem_cons_zero, List.setIfInBounds_toArray, List.set_cons_zero, List.set_cons_succ]))
    (refine wpAnyH_take (i := 4) (v := ?_) rfl (by kernel_rfl) (by kernel_rfl) (by kernel_rfl) (fun _ _ _ h => h) (Or.inl ⟨by kernel_rfl, ?_⟩) (by assumption) ?_; rotate_left; (focus (intro w hSw; (try dsimp only at hSw); go_simp; all_goals with_reducible rfl)); (try simp only [Act.put, List.getElem_toArray, List.getElem_cons_succ, List.getElem_cons_zero, List.setIfInBounds_toArray, List.set_cons_zero, List.set_cons_succ]))
    (refine wpAnyH_ready (rs := [5]) (by kernel_rfl) (by simp) ?_; refine AllReadyH.cons rfl (fun K hK => ?_) AllReadyH.nil)
    refine step_storeL stIns rfl _ _ rfl (w.heap.size + 1 + 1) nilCs nilCs rfl rfl HR2.out rfl rfl nilCs_one ?_
    intro w3 k1 k2 k3 k4
    have q3 : w3.cell? ⟨g, 0, none⟩ = some (.int .i64 f.err) := mrk_cell (k2 g hgne) q0
    refine hK.out _ _ (q3) (fun hHeld => ?_)
    clear hK K
    (try simp only [Act.put, List.getElem_toArray, List.getElem_cons_succ, List.getElem_cons_zero, List.setIfInBounds_toArray, List.set_cons_zero, List.set_cons_succ])
    (refine wpAnyH_take (i := 6) (v := ?_) rfl (by kernel_rfl) (by kernel_rfl) (by kernel_rfl) (fun _ _ _ h => h) (Or.inl ⟨by kernel_rfl, ?_⟩) (by assumption) ?_; rotate_left; (focus (intro w hSw; (try dsimp only at hSw); go_simp; all_goals with_reducible rfl)); (try simp only [Act.put, List.getElem_toArray, List.getElem_cons_succ, List.getElem_cons_zero, List.setIfInBounds_toArray, List.set_cons_zero, List.set_cons_succ]))
    (refine wpAnyH_done (by kernel_rfl) ?_ _)
    have hB3 : Below w.heap.size w w3 := hB2.trans (((Below.refl _ _).drew.trans k4).mono (by omega))
    have k1' : SixAt w3 (w.heap.size + 1 + 1) nilCs := k1
    have r0 : w3.cell? ⟨w.heap.size + 1 + 1, 0, none⟩ = some (.slice none 0 0) := k1'.cell (j := 0) rfl
    have r1 : w3.cell? ⟨w.heap.size + 1 + 1, 1, none⟩ = some (.slice none 0 0) := k1'.cell (j := 1) rfl
    have r2 : w3.cell? ⟨w.heap.size + 1 + 1, 2, none⟩ = some (.slice none 0 0) := k1'.cell (j := 2) rfl
    have r3 : w3.cell? ⟨w.heap.size + 1 + 1, 3, none⟩ = some (.slice none 0 0) := k1'.cell (j := 3) rfl
    have r4 : w3.cell? ⟨w.heap.size + 1 + 1, 4, none⟩ = some (.slice none 0 0) := k1'.cell (j := 4) rfl
    have r5 : w3.cell? ⟨w.heap.size + 1 + 1, 5, none⟩ = some (.slice none 0 0) := k1'.cell (j := 5) rfl
    go_wp2
    refine bodyPost_ret (v := .tuple #[InV nilI nilP, .int .i64 f.err]) (by simp [results, Tryz.results11, go_sem, InV, nilI, nilP, r0, r1, r2, r3, r4, r5]) rfl ?_
    unfold AddOutI
    rw [hR.out]
    exact ⟨nilP, rfl, nil_at _, hB3⟩
end Go.Proofs.YtceceomaheobhaaGreatDoor.ins

/- No violation is OK. Printed from InsI's lemmas on sizes. -/
namespace Go.Proofs.YtceceomaheobhaaGreatDoor.nz
open Go.RowKit
open Go.Proofs.YtceceomaheobhaaGreatDoor.lib Go.Proofs.YtceceomaheobhaaGreatDoor.rd Go.Proofs.YtceceomaheobhaaGreatDoor.typ Go.Proofs.YtceceomaheobhaaGreatDoor.app Go.Proofs.YtceceomaheobhaaGreatDoor.flts Go.Proofs.YtceceomaheobhaaGreatDoor.note Go.Proofs.YtceceomaheobhaaGreatDoor.txt Go.Proofs.YtceceomaheobhaaGreatDoor.und Go.Proofs.YtceceomaheobhaaGreatDoor.cat Go.Proofs.YtceceomaheobhaaGreatDoor.rul Go.Proofs.YtceceomaheobhaaGreatDoor.net
set_option linter.unusedVariables false
set_option linter.unusedSimpArgs false

/-- Violations are no OK. -/
def OkE (E : List Int) : Prop := ∀ e ∈ E, e ≠ 0
def OkF (fs : List Flt) : Prop := ∀ f ∈ fs, f.err ≠ 0 ∧ f.at_.size ≤ 1000
theorem OkE.nil : OkE [] := fun e h => by cases h
theorem OkE.push {xs : List Int} {r : Bool} {u : Int} (h : OkE xs) (hu : u ≠ 0) : OkE (pushIf xs r u) := fun e he => by
  rcases pushIf_mem he with h1 | rfl
  · exact h e h1
  · exact hu
theorem OkE.append {xs ys : List Int} (h : OkE xs) (h' : OkE ys) : OkE (xs ++ ys) := fun e he => by
  rcases List.mem_append.1 he with h1 | h1
  · exact h e h1
  · exact h' e h1
theorem OkF.nil : OkF [] := fun e h => by cases h
theorem OkF.append {xs ys : List Flt} (h : OkF xs) (h' : OkF ys) : OkF (xs ++ ys) := fun e he => by
  rcases List.mem_append.1 he with h1 | h1
  · exact h e h1
  · exact h' e h1
theorem OkF.one {e : Int} {s : ByteArray} (h : e ≠ 0) (hs : s.size ≤ 1000) : OkF [⟨e, s⟩] := fun f hf => by
  rw [List.mem_singleton] at hf
  subst hf
  exact ⟨h, hs⟩
theorem OkF.of {E : List Int} {s : ByteArray} (h : OkE E) (hs : s.size ≤ 1000) : OkF (E.map fun e => ⟨e, s⟩) := fun f hf => by
  obtain ⟨e, he, rfl⟩ := List.mem_map.1 hf
  exact ⟨h e he, hs⟩
theorem dec_sz (n : Nat) : (decS n).size ≤ 1000 := Nat.le_trans (decS_size n) (by decide)
theorem OkF.mk {i : Nat} {E : List Int} (h : OkE E) : OkF (mkF i E) := OkF.of h (dec_sz i)
theorem tvTo_ok (l : List Pt) : ∀ j, OkF (trv.tvTo l j)
  | 0 => by
    unfold trv.tvTo
    split
    · exact OkF.one (by decide) (by decide)
    · exact OkF.nil
  | j + 1 => by
    rw [trv.tvTo]
    refine (tvTo_ok l j).append ?_
    unfold trv.tvAt
    split
    · unfold trv.tvP
      refine OkF.append ?_ ?_
      all_goals
        split
        · exact OkF.one (by decide) (dec_sz j)
        · exact OkF.nil
    · exact OkF.nil
theorem slTo_ok (l : List Pt) : ∀ j, OkE (slTo l j)
  | 0 => by
    unfold slTo
    split
    · intro e he; simp at he; omega
    · exact OkE.nil
  | j + 1 => by
    rw [slTo]
    refine (slTo_ok l j).append ?_
    unfold slAt
    split
    · unfold slP
      split
      · intro e he; simp at he; omega
      · exact OkE.nil
    · exact OkE.nil
theorem arcE_ok (P : Int) (ks : List (Int × Int × Int)) (x : Arc) : OkE (arcE P ks x) := by
  unfold arcE
  refine ((((OkE.nil.push ?_).push ?_).push ?_).append ?_).append (slTo_ok _ _)
  · decide
  · decide
  · decide
  · intro e he
    obtain ⟨f, hf, rfl⟩ := List.mem_map.1 he
    exact (tvTo_ok _ _ f hf).1
theorem plc_sz (i : Nat) : (plcS i).size ≤ 1000 := by
  have := decS_size i
  unfold plcS
  rw [ByteArray.size_append]
  exact Nat.le_trans (Nat.add_le_add_left this _) (by decide)
theorem arc_sz (i : Nat) : (arcS i).size ≤ 1000 := by
  have := decS_size i
  unfold arcS
  rw [ByteArray.size_append]
  exact Nat.le_trans (Nat.add_le_add_left this _) (by decide)
theorem plTo_ok (l : List ByteArray) : ∀ j, OkF (plTo l j)
  | 0 => by
    unfold plTo
    split
    · exact OkF.one (by decide) (by decide)
    · exact OkF.nil
  | j + 1 => by
    rw [plTo]
    refine (plTo_ok l j).append ?_
    unfold plAt
    split
    · unfold plP
      split
      · split
        · exact OkF.one (by decide) (plc_sz j)
        · exact OkF.nil
      · exact OkF.one (by decide) (plc_sz j)
    · exact OkF.nil
theorem netTo_ok (n : Net) : ∀ j, OkF (netTo n j)
  | 0 => by
    unfold netTo
    refine (plTo_ok _ _).append ?_
    split
    · exact OkF.one (by decide) (by decide)
    · exact OkF.nil
  | j + 1 => by
    rw [netTo]
    refine (netTo_ok n j).append ?_
    unfold arAt
    split
    · exact OkF.of (arcE_ok _ _ _) (arc_sz j)
    · exact OkF.nil
theorem fltsTo_ok (P : Int) (l : List Ty) : ∀ j, OkF (flt.fltsTo P l j)
  | 0 => by
    unfold flt.fltsTo
    split
    · exact OkF.nil
    · exact OkF.one (by decide) (by decide)
  | j + 1 => by
    rw [flt.fltsTo]
    refine (fltsTo_ok P l j).append ?_
    unfold flt.fltsAt
    split
    · refine OkF.mk (i := j) ?_
      unfold flt.errsL
      repeat (refine OkE.push ?_ (by decide))
      exact OkE.nil
    · exact OkF.nil
theorem ofltsTo_ok (P dims types : Int) (l : List Ord) : ∀ j, OkF (ord.ofltsTo P dims types l j)
  | 0 => by
    unfold ord.ofltsTo
    split
    · exact OkF.nil
    · exact OkF.one (by decide) (by decide)
  | j + 1 => by
    rw [ord.ofltsTo]
    refine (ofltsTo_ok P dims types l j).append ?_
    unfold ord.ofltsAt
    split
    · refine OkF.mk (i := j) ?_
      unfold ord.errsO
      repeat (refine OkE.push ?_ (by decide))
      exact OkE.nil
    · exact OkF.nil
theorem at_sz (word : ByteArray) (hw : word.size ≤ 900) (i : Nat) : (atS word i).size ≤ 1000 := by
  have := decS_size i
  unfold atS
  rw [ByteArray.size_append, ByteArray.size_append]
  have h1 : (⟨#[32]⟩ : ByteArray).size = 1 := rfl
  omega
theorem pairsTo_ok (orders : Int) (word : ByteArray) (hw : word.size ≤ 900) (same : Int × Int → Int × Int → Bool) (l : List (Int × Int)) : ∀ j, OkF (pairsTo orders word same l j)
  | 0 => by
    unfold pairsTo
    split
    · exact OkF.nil
    · exact OkF.one (by decide) (by omega)
  | j + 1 => by
    rw [pairsTo]
    refine (pairsTo_ok orders word hw same l j).append ?_
    unfold pairAt
    split
    · unfold pairP
      split
      · exact OkF.one (by decide) (at_sz word hw j)
      · split
        · exact OkF.one (by decide) (at_sz word hw j)
        · exact OkF.nil
    · exact OkF.nil
theorem rulesF_ok (orders : Int) (a b : List (Int × Int)) : OkF (rulesF orders a b) := (pairsTo_ok _ _ (by decide) _ _ _).append (pairsTo_ok _ _ (by decide) _ _ _)

end Go.Proofs.YtceceomaheobhaaGreatDoor.nz

/- The law InstanceAdds, walked. -/
namespace Go.Proofs.YtceceomaheobhaaGreatDoor.ins
open Go.RowKit
open Go.Proofs.YtceceomaheobhaaGreatDoor.lib Go.Proofs.YtceceomaheobhaaGreatDoor.rd Go.Proofs.YtceceomaheobhaaGreatDoor.typ Go.Proofs.YtceceomaheobhaaGreatDoor.flts Go.Proofs.YtceceomaheobhaaGreatDoor.note Go.Proofs.YtceceomaheobhaaGreatDoor.big Go.Proofs.YtceceomaheobhaaGreatDoor.app Go.Proofs.YtceceomaheobhaaGreatDoor.ord
set_option linter.unusedVariables false
set_option linter.unusedSimpArgs false

theorem lim_add {x : Ins} (h : SmallI x) (o : Ord) : Lim (addI x o) := by
  have hl := small_lim h
  have h2 := h.orders
  exact ⟨hl.places, hl.arcs, hl.points, hl.few, hl.net, hl.types, by show (x.orders ++ [o]).length ≤ 20; rw [List.length_append]; simp only [List.length_cons, List.length_nil]; omega, hl.apart, hl.before⟩
theorem insF_pos (x : Ins) : ∀ f ∈ insF x, f.err ≠ 0 := fun f hf => by
  have e : insF x = und.undL netS (insN x) ++ (und.undL typesS (insT x) ++ (und.undL ordersS (insO x) ++ (und.undL rulesS (insR x) ++ []))) := rfl
  rw [e] at hf
  simp only [List.mem_append, List.not_mem_nil, or_false] at hf
  have hg : ∃ word fs, nz.OkF fs ∧ f ∈ und.undL word fs := by
    rcases hf with hf | hf | hf | hf
    · exact ⟨_, _, nz.netTo_ok _ _, hf⟩
    · exact ⟨_, _, nz.fltsTo_ok _ _ _, hf⟩
    · exact ⟨_, _, nz.ofltsTo_ok _ _ _ _ _, hf⟩
    · exact ⟨_, _, nz.rulesF_ok _ _ _, hf⟩
  obtain ⟨word, fs, h, hf⟩ := hg
  unfold und.undL at hf
  obtain ⟨g, hg, rfl⟩ := List.mem_map.1 hf
  exact (h g hg).1
/-- What Add's result is, when it is OK. -/
theorem addR_ok {x : Ins} {o : Ord} (h : (addR x o).2 = 0) : (addR x o).1 = addI x o ∧ insF (addI x o) = [] := by
  unfold addR at h ⊢
  split
  · rename_i h10
    rw [if_pos h10] at h
    exact absurd h (by decide)
  · rename_i h10
    rw [if_neg h10] at h
    cases hF : insF (addI x o)
    case nil => exact ⟨rfl, rfl⟩
    case cons f fs =>
      rw [hF] at h
      exact absurd h (insF_pos (addI x o) f (by rw [hF]; exact List.mem_cons_self ..))
set_option maxRecDepth 100000 in
set_option maxHeartbeats 8000000 in
theorem lawAdds_any (x : Ins) (P : InP) (o : Ord) (C : Option Addr) (cc : Nat) (w : World) (h : InAt w w.heap.size x P) (hC : Ints w w.heap.size C o.load) (hf : OrdFits o) :
    Calls Tryz.prog 4 #[InV x P, .agg #[.string o.name, .slice C o.load.length cc, .int .i64 o.pick.place, .int .i64 o.pick.opn, .int .i64 o.pick.close, .int .i64 o.pick.service, .int .i64 o.drop.place, .int .i64 o.drop.opn, .int .i64 o.drop.close, .int .i64 o.drop.service, .int .i64 o.skills, .int .i64 o.penalty, .int .i64 o.split, .int .i64 o.last, .int .i64 o.now, .bool o.off]] w fun e w' => e = .returned (.bool true) ∧ Below w.heap.size w w' := by
  obtain ⟨W0, hW0⟩ : ∃ W0, (w.alloc (.cells (insCs x P).toArray 30)).alloc (.cells (OrdCells o C cc).toArray 42) = W0 := ⟨_, rfl⟩
  have hB0 : Below w.heap.size w W0 := by rw [← hW0]; exact ((Below.refl _ _).alloc (Nat.le_refl _) _).alloc (by simp) _
  have z0 := hB0.size
  have hs0 : w.heap.size + 1 < W0.heap.size := by rw [← hW0]; simp
  have b0 : SixAt W0 w.heap.size (insCs x P) := by
    rw [← hW0]
    unfold SixAt
    rw [Below.heap_alloc _ _ _ (by simp)]
    exact World.alloc_heap_new w _
  have b1 : OrBlk W0 (w.heap.size + 1) o C cc := by
    rw [← hW0]
    unfold OrBlk
    have h := World.alloc_heap_new (w.alloc (.cells (insCs x P).toArray 30)) (.cells (OrdCells o C cc).toArray 42)
    simpa using h
  have HX : Hid (∀ w', Below W0.heap.size W0 w' → SixAt w' w.heap.size (insCs x P)) := Lib.hid fun w' h => b0.below h
  have HOB : Hid (∀ w', Below W0.heap.size W0 w' → CellsAt w' ⟨w.heap.size + 1, 0, none⟩ (OrdCells o C cc)) := Lib.hid fun w' h => orBlk_at ((h.block _ (by omega)).trans b1)
  have HI : Hid (∀ w', Below W0.heap.size W0 w' → InAt w' w'.heap.size x P ∧ Ints w' w'.heap.size C o.load) := Lib.hid fun w' h' => ⟨(h.go hB0).go h', (hC.below (hB0.trans (h'.mono z0))).more (hB0.trans (h'.mono z0)).size⟩
  have hW1 : (w.alloc (.cells #[.slice P.a0 x.net.places.length P.c0, .slice P.a1 x.net.arcs.length P.c1, .slice P.a2 x.types.length P.c2, .slice P.a3 x.orders.length P.c3, .slice P.a4 x.apart.length P.c4, .slice P.a5 x.before.length P.c5] 30)).alloc (.cells #[.string o.name, .slice C o.load.length cc, .int .i64 o.pick.place, .int .i64 o.pick.opn, .int .i64 o.pick.close, .int .i64 o.pick.service, .int .i64 o.drop.place, .int .i64 o.drop.opn, .int .i64 o.drop.close, .int .i64 o.drop.service, .int .i64 o.skills, .int .i64 o.penalty, .int .i64 o.split, .int .i64 o.last, .int .i64 o.now, .bool o.off] 42) = W0 := hW0
  have HW1 := Lib.hid hW1
  have B0 : Below W0.heap.size W0 W0 := Below.refl _ _
  clear hW0 hW1 h hC b0 b1
  simp only [InV]
  go_enter Tryz.func4, Tryz.ntmps4
  go_upto_region 1 with fail
  rw [HW1.out]
  clear HW1
  go_wp2_with ((with_reducible refine wpList_loadG stIns _ rfl ⟨w.heap.size, 0, none⟩ (insCs (x) P) ?_ ?_ ?_ ?_ ?_); exact rfl; exact rfl; exact (HX.out _ B0).cells; exact rfl)
  refine (small_any x P _ (HI.out _ B0).1).mono ?_
  rintro e w1 ⟨b, rfl, hsm, b1⟩
  have HSM := Lib.hid hsm
  have z1 := b1.size
  clear hsm
  cases b
  case false =>
    go_wp2_with fail
    refine (awake_any _).mono ?_
    rintro e w2 ⟨rfl, b2⟩
    have B2 : Below W0.heap.size W0 w2 := b1.trans (b2.mono z1)
    go_wp2_with fail
    go_ret
    exact ⟨rfl, hB0.trans (B2.mono z0)⟩
  case true =>
    have HL := Lib.hid (lim_add (HSM.out rfl) o)
    have hnx := (HSM.out rfl).orders
    clear HSM
    have ol : w1.cell? ⟨w.heap.size + 1, 1, none⟩ = some (.slice C o.load.length cc) := HOB.out _ b1 1 _ rfl
    by_cases h6 : 6 < o.load.length
    · have h6' : (6 : Int) < (o.load.length : Int) := by omega
      go_wp2_with fail
      refine (awake_any _).mono ?_
      rintro e w2 ⟨rfl, b2⟩
      have B2 : Below W0.heap.size W0 w2 := b1.trans (b2.mono z1)
      go_wp2_with fail
      go_ret
      exact ⟨rfl, hB0.trans (B2.mono z0)⟩
    have h6' : ¬ (6 : Int) < (o.load.length : Int) := by omega
    go_upto_region 3 with fail
    clear ol h6 h6'
    go_wp2_with (first
      | ((with_reducible refine wpList_loadG stIns _ rfl ⟨w.heap.size, 0, none⟩ (insCs (x) P) ?_ ?_ ?_ ?_ ?_); exact rfl; exact rfl; exact (HX.out _ b1).cells; exact rfl)
      | ((with_reducible refine wpList_loadG stOrd' _ rfl ⟨w.heap.size + 1, 0, none⟩ (OrdCells o C cc) ?_ ?_ ?_ ?_ ?_); exact rfl; exact rfl; exact HOB.out _ b1; exact rfl))
    refine (add_any x P o C cc _ (HI.out _ b1).1 (HI.out _ b1).2 hf (fun _ => HL.out)).mono ?_
    rintro e w2 ⟨P1, rfl, hI1, b2⟩
    have B2 : Below W0.heap.size W0 w2 := b1.trans (b2.mono z1)
    have z2 := B2.size
    obtain ⟨Y, hY⟩ : ∃ Y, (addR x o).1 = Y := ⟨_, rfl⟩
    obtain ⟨k, hk⟩ : ∃ k, (addR x o).2 = k := ⟨_, rfl⟩
    rw [hY] at hI1
    rw [hY, hk]
    have HY := Lib.hid (And.intro hY hk)
    have HK0 : Hid (k = 0 → Y = addI x o ∧ insF (addI x o) = []) := Lib.hid fun e => by
      have h := addR_ok (x := x) (o := o) (hk.trans e)
      rw [hY] at h
      exact h
    have HI1 := Lib.hid hI1
    clear hY hk hI1
    go_upto_region 4 with ((with_reducible refine wpList_storeL stIns rfl _ _ rfl w2.heap.size nilCs (insCs Y P1) ?_ ?_ ?_ ?_ ?_ (insCs_one _ _) ?_); exact rfl; exact rfl; exact World.alloc_heap_new w2 _; exact rfl; exact rfl; intro w3 k1 k2 k3 k4; have K := Lib.hid (And.intro k1 (And.intro k2 (And.intro k3 k4))); clear k1 k2 k3 k4)
    (try simp only [Act.put, List.getElem_toArray, List.getElem_cons_succ, List.getElem_cons_zero, List.setIfInBounds_toArray, List.set_cons_zero, List.set_cons_succ])
    obtain ⟨k1, k2, k3, k4⟩ := K.out
    have b3 : Below w2.heap.size w2 w3 := ((Below.refl _ _).alloc (Nat.le_refl _) _).trans k4
    have B3 : Below W0.heap.size W0 w3 := B2.trans (b3.mono z2)
    have z3 := B3.size
    have zz3 : w2.heap.size < w3.heap.size := (Array.getElem?_eq_some_iff.1 k1).1
    have k1' : SixAt w3 w2.heap.size (insCs Y P1) := k1
    obtain ⟨g1, hg1⟩ : ∃ g1, w2.heap.size = g1 := ⟨_, rfl⟩
    have HY3 : Hid (∀ w', Below w3.heap.size w3 w' → SixAt w' g1 (insCs Y P1) ∧ InAt w' w'.heap.size Y P1) := Lib.hid fun w' hb => ⟨by rw [← hg1]; exact k1'.below hb, (HI1.out.go b3).go hb⟩
    rw [hg1]
    clear k1 k2 k3 k4 K k1' hg1 zz3 b3 HI1
    go_wp2_with (first
      | ((with_reducible refine wpList_loadG stIns _ rfl ⟨w.heap.size, 0, none⟩ (insCs (x) P) ?_ ?_ ?_ ?_ ?_); exact rfl; exact rfl; exact (HX.out _ B3).cells; exact rfl)
      | ((with_reducible refine wpList_loadG stOrd' _ rfl ⟨w.heap.size + 1, 0, none⟩ (OrdCells o C cc) ?_ ?_ ?_ ?_ ?_); exact rfl; exact rfl; exact HOB.out _ B3; exact rfl))
    refine (radd_any x P o C cc _ (HI.out _ B3).1 (HI.out _ B3).2 hf (fun _ => HL.out)).mono ?_
    rintro e w4 ⟨P2, rfl, hI2, b4⟩
    have B4 : Below W0.heap.size W0 w4 := B3.trans (b4.mono z3)
    have z4 := B4.size
    rw [HY.out.1] at hI2
    rw [HY.out.1, HY.out.2]
    have HI2 := Lib.hid hI2
    clear hI2
    go_upto_region 5 with ((with_reducible refine wpList_storeL stIns rfl _ _ rfl w4.heap.size nilCs (insCs Y P2) ?_ ?_ ?_ ?_ ?_ (insCs_one _ _) ?_); exact rfl; exact rfl; exact World.alloc_heap_new w4 _; exact rfl; exact rfl; intro w5 k1 k2 k3 k4; have K := Lib.hid (And.intro k1 (And.intro k2 (And.intro k3 k4))); clear k1 k2 k3 k4)
    (try simp only [Act.put, List.getElem_toArray, List.getElem_cons_succ, List.getElem_cons_zero, List.setIfInBounds_toArray, List.set_cons_zero, List.set_cons_succ])
    obtain ⟨k1, k2, k3, k4⟩ := K.out
    have b5 : Below w4.heap.size w4 w5 := ((Below.refl _ _).alloc (Nat.le_refl _) _).trans k4
    have b35 : Below w3.heap.size w3 w5 := b4.trans (b5.mono b4.size)
    have B5 : Below W0.heap.size W0 w5 := B4.trans (b5.mono z4)
    have z5 := B5.size
    have k1' : SixAt w5 w4.heap.size (insCs Y P2) := k1
    obtain ⟨g2, hg2⟩ : ∃ g2, w4.heap.size = g2 := ⟨_, rfl⟩
    have HY5 : Hid (∀ w', Below w5.heap.size w5 w' → (SixAt w' g1 (insCs Y P1) ∧ InAt w' w'.heap.size Y P1) ∧ SixAt w' g2 (insCs Y P2) ∧ InAt w' w'.heap.size Y P2) := Lib.hid fun w' hb => ⟨HY3.out w' (b35.trans (hb.mono b35.size)), by rw [← hg2]; exact k1'.below hb, (HI2.out.go b5).go hb⟩
    rw [hg2]
    clear k1 k2 k3 k4 K k1' hg2 b5 b35 HI2 HY3
    have C5 := Below.refl w5.heap.size w5
    go_wp2_with (first
      | ((with_reducible refine wpList_loadG stIns _ rfl ⟨g1, 0, none⟩ (insCs (Y) P1) ?_ ?_ ?_ ?_ ?_); exact rfl; exact rfl; exact (HY5.out _ C5).1.1.cells; exact rfl)
      | ((with_reducible refine wpList_loadG stIns _ rfl ⟨g2, 0, none⟩ (insCs (Y) P2) ?_ ?_ ?_ ?_ ?_); exact rfl; exact rfl; exact (HY5.out _ C5).2.1.cells; exact rfl))
    refine (rsame_any Y Y P1 P2 _ (HY5.out _ C5).1.2 (HY5.out _ C5).2.2).mono ?_
    rw [sameI_self]
    rintro e w6 ⟨rfl, b6⟩
    have B6 : Below W0.heap.size W0 w6 := B5.trans (b6.mono z5)
    have z6 := B6.size
    go_upto_region 7 with fail
    by_cases hk : k = 0
    · obtain ⟨hYa, hF⟩ := HK0.out hk
      have hF' : insF Y = [] := by rw [hYa]; exact hF
      have HLY : Hid (Lim Y) := Lib.hid (by rw [hYa]; exact HL.out)
      obtain ⟨M, hM⟩ : ∃ M, Y.orders.length = M := ⟨_, rfl⟩
      obtain ⟨n, hn⟩ : ∃ n, x.orders.length = n := ⟨_, rfl⟩
      have hMn : (M : Int) = (n : Int) + 1 := by
        rw [← hM, ← hn, hYa]
        show (((x.orders ++ [o]).length : Nat) : Int) = _
        rw [List.length_append]
        rfl
      have hnn : (n : Int) ≤ 12 := by omega
      have HF := Lib.hid hF'
      have HX6 : Hid (∀ w', Below W0.heap.size W0 w' → w'.cell? ⟨w.heap.size, 3, none⟩ = some (.slice P.a3 n P.c3)) := Lib.hid fun w' h => by rw [← hn]; exact (HX.out _ h).cell (j := 3) rfl
      have HY6 : Hid (∀ w', Below w5.heap.size w5 w' → w'.cell? ⟨g1, 3, none⟩ = some (.slice P1.a3 M P1.c3)) := Lib.hid fun w' h => by rw [← hM]; exact (HY5.out _ h).1.1.cell (j := 3) rfl
      subst hk
      rw [hn]
      clear hF hF' hYa hM hn
      go_wp2_with ((with_reducible refine wpList_loadG stIns _ rfl ⟨g1, 0, none⟩ (insCs (Y) P1) ?_ ?_ ?_ ?_ ?_); exact rfl; exact rfl; exact (HY5.out _ b6).1.1.cells; exact rfl)
      refine (icheck_any Y P1 _ (HY5.out _ b6).1.2 HLY.out).mono ?_
      rw [HF.out]
      rintro e w7 ⟨A7, c7, rfl, hown7, b7⟩
      have B7 : Below W0.heap.size W0 w7 := B6.trans (b7.mono z6)
      have z7 := B7.size
      have x7 := HX6.out _ B7
      have y7 := HY6.out _ (b6.trans (b7.mono b6.size))
      clear hown7
      go_wp2_with fail
      refine (awake_any _).mono ?_
      rintro e w8 ⟨rfl, b8⟩
      have B8 : Below W0.heap.size W0 w8 := B7.trans (b8.mono z7)
      go_wp2_with fail
      go_ret
      exact ⟨rfl, hB0.trans (B8.mono z0)⟩
    · go_wp2_with fail
      refine (awake_any _).mono ?_
      rintro e w7 ⟨rfl, b7⟩
      have B7 : Below W0.heap.size W0 w7 := B6.trans (b7.mono z6)
      go_wp2_with fail
      go_ret
      exact ⟨rfl, hB0.trans (B7.mono z0)⟩
end Go.Proofs.YtceceomaheobhaaGreatDoor.ins

/- A world in which the library's tables lie as the row lists them, for the witness. -/
namespace Go.Proofs.YtceceomaheobhaaGreatDoor.laid
open Go.ChangeShapes Go.WideShapes Go.ChangeAt Go.RowKit

theorem own : ownKnob Tryz.prog.godebug = none := by kernel_rfl
/-- A variable's block with other cells. -/
def lay (xs : Array Value) : Obj → Obj
  | .cells _ t frozen => .cells xs t frozen
  | o => o
/-- The settled world with the tables laid. -/
noncomputable def laidWorld (os : Os) : World :=
  { World.holding Tryz.prog os ⟨#[], #[], []⟩ with heap := (((World.holding Tryz.prog os ⟨#[], #[], []⟩).heap.modify 0 (lay #[.int .u64 1, .int .u64 10, .int .u64 100, .int .u64 1000, .int .u64 10000, .int .u64 100000, .int .u64 1000000, .int .u64 10000000, .int .u64 100000000, .int .u64 1000000000, .int .u64 10000000000, .int .u64 100000000000, .int .u64 1000000000000, .int .u64 10000000000000, .int .u64 100000000000000, .int .u64 1000000000000000, .int .u64 10000000000000000, .int .u64 100000000000000000, .int .u64 1000000000000000000, .int .u64 10000000000000000000])).modify 1 (lay (Lib.deBruijn32tab.map (fun n : Nat => Value.int .u8 n)).toArray)).modify 2 (lay (Lib.deBruijn64tab.map (fun n : Nat => Value.int .u8 n)).toArray) }
end Go.Proofs.YtceceomaheobhaaGreatDoor.laid

/- The statement InstanceAdds: the call returns true whatever the input, and the input reads as it did. No conditions. -/
namespace Go.Proofs.YtceceomaheobhaaGreatDoor.instanceAdds
open Go.ChangeShapes Go.WideShapes Go.ChangeAt Go.RowKit Go.Joins
open Go.ChangeMaps (open_string shut_string)
set_option linter.unusedVariables false

theorem own : ownKnob Tryz.prog.godebug = none := laid.own
theorem laidOut : laidOutB Tryz.prog = true := by kernel_rfl
theorem bd {a : Int} (h : (Lit.int .i64 a).wf = true) : -9223372036854775808 ≤ a ∧ a ≤ 9223372036854775807 := by simpa [Lit.wf, IntKind.min, IntKind.max, IntKind.signed, IntKind.bits] using h
theorem laid_met (os : Os) : laidMet Tryz.prog Rows.instanceAddsRow.laid ((laid.laidWorld os).forCall (fun _ _ => 0) ⟨#[], #[Value.agg #[.slice none 0 0, .slice none 0 0, .slice none 0 0, .slice none 0 0, .slice none 0 0, .slice none 0 0], Value.agg #[.string ⟨#[]⟩, .slice none 0 0, .int .i64 0, .int .i64 0, .int .i64 0, .int .i64 0, .int .i64 0, .int .i64 0, .int .i64 0, .int .i64 0, .int .i64 0, .int .i64 0, .int .i64 0, .int .i64 0, .int .i64 0, .bool false]], []⟩).memory :=
  laidMet_of_run' 8 (by kernel_rfl) (by kernel_rfl)
theorem reads (os : Os) {H : Type} (enc : TypeId × Value → H) : ∃ places, DataW.whole enc Tryz.prog ((laid.laidWorld os).forCall (fun _ _ => 0) ⟨#[], #[Value.agg #[.slice none 0 0, .slice none 0 0, .slice none 0 0, .slice none 0 0, .slice none 0 0, .slice none 0 0], Value.agg #[.string ⟨#[]⟩, .slice none 0 0, .int .i64 0, .int .i64 0, .int .i64 0, .int .i64 0, .int .i64 0, .int .i64 0, .int .i64 0, .int .i64 0, .int .i64 0, .int .i64 0, .int .i64 0, .int .i64 0, .int .i64 0, .bool false]], []⟩).memory Tryz.f4.params.toList Rows.instanceAddsSpec.vars false #[Value.agg #[.slice none 0 0, .slice none 0 0, .slice none 0 0, .slice none 0 0, .slice none 0 0, .slice none 0 0], Value.agg #[.string ⟨#[]⟩, .slice none 0 0, .int .i64 0, .int .i64 0, .int .i64 0, .int .i64 0, .int .i64 0, .int .i64 0, .int .i64 0, .int .i64 0, .int .i64 0, .int .i64 0, .int .i64 0, .int .i64 0, .int .i64 0, .bool false]].toList 8 = some ([.agg [.agg [.nil, .nil], .nil, .nil, .nil, .nil], .agg [.lit (.string []), .nil, .agg [.lit (.int .i64 0), .lit (.int .i64 0), .lit (.int .i64 0), .lit (.int .i64 0)], .agg [.lit (.int .i64 0), .lit (.int .i64 0), .lit (.int .i64 0), .lit (.int .i64 0)], .lit (.int .i64 0), .lit (.int .i64 0), .lit (.int .i64 0), .lit (.int .i64 0), .lit (.int .i64 0), .lit (.bool false)]], [], places) :=
  ⟨[], by kernel_rfl⟩

set_option maxRecDepth 100000 in
theorem contract (H : Type) (enc : TypeId × Value → H) (W : World) (base : Nat) (args : Array Value) (ds gs : List (DataW H)) (before : List MemPlace)
    (hval0 : ∀ (j : Nat) t v, Tryz.f4.params[j]? = some t → args[j]? = some v → Value.okWide Tryz.prog W .any base t v)
    (hW : DataW.Whole enc Tryz.prog Tryz.f4.params.toList Rows.instanceAddsSpec.vars false W args.toList ds gs before)
    (hsz0 : (DataW.weightsEach Tryz.prog (Tryz.f4.params.toList ++ Rows.instanceAddsSpec.plain.varTypes Tryz.prog) (ds ++ gs)).all (· ≤ reachBytes) = true) :
    Calls Tryz.prog 4 args W fun e W' => ∃ v, e = .returned v ∧ Rows.instanceAddsSpec.post enc Tryz.prog Tryz.f4 false true false false W args v W' := by
  have hsz : (DataW.weightsEach Tryz.prog (Tryz.f4.params.toList ++ Rows.instanceAddsSpec.plain.varTypes Tryz.prog) (ds ++ gs)).all (· ≤ reachBytes) = true := hsz0
  clear hsz0
  have hval : ∀ (j : Nat) t v, Tryz.f4.params[j]? = some t → args[j]? = some v → Value.okWide Tryz.prog W .any base t v := hval0
  have hW' := hW
  obtain ⟨p, q, hA0, hV, rfl, hfz, hnd⟩ := hW
  have hA : DataW.TrodAll enc Tryz.prog W 0 (fun _ => true) true Tryz.f4.params.toList args.toList ds p := hA0
  rw [Tryz.params4] at hA hval hsz
  obtain ⟨v0, vs0, d0, ds0, p0, q0, hargs, rfl, rfl, h0, r0⟩ := trodAll_cons hA
  obtain ⟨v1, vs1, d1, ds1, p1, q1, rfl, rfl, rfl, h1, r1⟩ := trodAll_cons r0
  obtain ⟨rfl, rfl, rfl⟩ := trodAll_nil r1
  obtain rfl : args = #[v0, v1] := by cases args; simp_all
  obtain ⟨rfl, rfl⟩ := trodVars_none hV
  have k0 := h0
  have lt0 : ∀ x ∈ p0, x.block < W.heap.size := by obtain ⟨m, hm⟩ := k0; exact DataW.trod_lt m _ _ _ hm
  obtain ⟨x_cs, x, rfl, at_x⟩ := rd.arg_struct Tryz.underlying30 typ.opens_Ins (hval 0 30 v0 rfl rfl) h0 (rd.weight_of hsz (j := 0) rfl rfl)
  obtain ⟨x_C0, x_c0, x_C1, x_c1, x_C2, x_c2, x_C3, x_c3, x_C4, x_c4, x_C5, x_c5, rfl, x_I0, x_I1, x_I2, x_I3, x_I4, x_I5, x_f⟩ := typ.rIns_at at_x
  have k1 := h1
  have lt1 : ∀ x ∈ p1, x.block < W.heap.size := by obtain ⟨m, hm⟩ := k1; exact DataW.trod_lt m _ _ _ hm
  obtain ⟨o_cs, o, rfl, at_o⟩ := rd.arg_struct Tryz.underlying42 typ.opens_Ord (hval 1 42 v1 rfl rfl) h1 (rd.weight_of hsz (j := 1) rfl rfl)
  obtain ⟨o_C0, o_c0, rfl, o_I0, o_f⟩ := typ.rOrd_at at_o
  clear hA0 hval0
  refine Calls.mono (ins.lawAdds_any x ⟨x_C0, x_c0, x_C1, x_c1, x_C2, x_c2, x_C3, x_c3, x_C4, x_c4, x_C5, x_c5⟩ o o_C0 o_c0 W ⟨x_I0, x_I1, x_I2.1, x_I3.1, x_I4.1, x_I5.1, x_I2.2, x_I3.2, x_I4.2, x_I5.2⟩ o_I0 o_f) fun e W' ⟨he, bel⟩ => ?_
  subst he
  exact ⟨_, rfl, _, _, _, [], _, [], hW', trodAll_mk1 (shut_bool Tryz.underlying4 _), (trodAll_cons_mk (Below.trod laidOut (by kernel_rfl) (of_decide_eq_true (by kernel_rfl)) k0 bel lt0) (trodAll_cons_mk (Below.trod laidOut (by kernel_rfl) (of_decide_eq_true (by kernel_rfl)) k1 bel lt1) trodAll_mk0)), rfl, bel.frame _, fun h => by cases h⟩

set_option maxRecDepth 100000 in
theorem lifted (os : Os) (started : os.Started) (H : Type) (enc : TypeId × Value → H) (F : Stop.Interp) :
    ReturnsInHanded {} Tryz.checked os 4 .any ((OpenSpec.ofChange Rows.instanceAddsSpec).preRow enc Tryz.prog Tryz.f4 Rows.instanceAddsRow.domain false Rows.instanceAddsRow.laid) (((OpenSpec.ofChange Rows.instanceAddsSpec).at F).post enc Tryz.prog Tryz.f4 false true false false) := by
  obtain ⟨places, hx⟩ := reads os enc
  refine returnsInHanded_of_row (C := Tryz.checked) (s := OpenSpec.ofChange Rows.instanceAddsSpec) own started (by kernel_rfl) Tryz.func4
    (witness_row_at (enc := enc) (C := Tryz.checked) false (laid.laidWorld os) #[Value.agg #[.slice none 0 0, .slice none 0 0, .slice none 0 0, .slice none 0 0, .slice none 0 0, .slice none 0 0], Value.agg #[.string ⟨#[]⟩, .slice none 0 0, .int .i64 0, .int .i64 0, .int .i64 0, .int .i64 0, .int .i64 0, .int .i64 0, .int .i64 0, .int .i64 0, .int .i64 0, .int .i64 0, .int .i64 0, .int .i64 0, .int .i64 0, .bool false]] rfl (by kernel_rfl) (by kernel_rfl) (by kernel_rfl)
      (OpenSpec.preRow_of_cond 8 hx (by kernel_rfl) (fun k hk => by cases hk) (by kernel_rfl) (laid_met os))) ?_
  intro W base args ds gs before hval hW _ _ hsz hL _ _
  exact contract H enc W base args ds gs before hval hW hsz

theorem said : Rows.InstanceAddsSaid :=
  OpenClaim.holds_of_cond 4 Tryz.f4 rfl rfl rfl rfl rfl rfl rfl ⟨rfl, rfl, rfl, rfl, rfl⟩ rfl rfl rfl rfl rfl (by kernel_rfl) Tryz.func4 (by kernel_rfl)
    (of_decide_eq_true (by kernel_rfl)) (by unfold Func.isWrapper; first | (rw [if_pos (by decide +kernel)]; kernel_rfl) | (rw [if_neg (by decide +kernel)]; exact ⟨rfl, rfl⟩))
    (fun os started H enc _ F => by rw [OpenClaim.pre_eq_preRow]; exact lifted os started H enc F)

theorem plain (f : FuncId) (fn : Func) (hf : Tryz.pinned.checked.prog.funcNamed "lorry/lorrylaw13.InstanceAdds" = some f) (hfn : Tryz.pinned.checked.prog.funcs[f]? = some fn) :
    false = Tryz.pinned.checked.prog.looks [] ∧ ∀ (j : Nat) t, fn.params[j]? = some t → Tryz.pinned.checked.prog.wantsStandIn t = false := by
  obtain rfl : f = 4 := Option.some.inj ((show Tryz.prog.funcNamed "lorry/lorrylaw13.InstanceAdds" = some 4 by kernel_rfl).symm.trans hf) |>.symm
  obtain rfl : fn = Tryz.f4 := (Option.some.inj (Tryz.func4.symm.trans hfn)).symm
  refine ⟨by kernel_rfl, fun j t ht => ?_⟩
  rw [Tryz.params4] at ht
  have hm := Array.mem_of_getElem? ht
  simp only [List.mem_toArray, List.mem_cons, List.not_mem_nil, or_false] at hm
  rcases hm with rfl | rfl
  · exact (show Tryz.prog.wantsStandIn 30 = false by kernel_rfl)
  · exact (show Tryz.prog.wantsStandIn 42 = false by kernel_rfl)

theorem proved : Rows.InstanceAddsCardSaid :=
  Claim7.holds_tied_plain_at .later [] _ _ _ _ said (fun _ h => by cases h) (by kernel_rfl) (fun _ h => by cases h) instanceAdds_row_tie rfl ⟨rfl, rfl⟩ (by kernel_rfl) rfl plain (by kernel_rfl)
#print axioms proved
end Go.Proofs.YtceceomaheobhaaGreatDoor.instanceAdds

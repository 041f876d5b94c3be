/- The reference's piece. -/
import Derived.Test.YtceceomaheobhaaSplV
import Derived.Test.YtceceomaheobhaaSpQ
import Derived.Test.YtceceomaheobhaaZip
import Derived.Deep.DeepCutAuto
namespace Go.Proofs.Ytceceomaheobhaa.spl
open Go.RowKit
open Go.Proofs.Ytceceomaheobhaa.lib Go.Proofs.Ytceceomaheobhaa.rd Go.Proofs.Ytceceomaheobhaa.app Go.Proofs.Ytceceomaheobhaa.els Go.Proofs.Ytceceomaheobhaa.loads Go.Proofs.Ytceceomaheobhaa.typ Go.Proofs.Ytceceomaheobhaa.big Go.Proofs.Ytceceomaheobhaa.ins Go.Proofs.Ytceceomaheobhaa.ord Go.Proofs.Ytceceomaheobhaa.flts
set_option linter.unusedVariables false
set_option linter.unusedSimpArgs false

theorem piece_name (o : Ord) (j : Nat) : (o.name ++ ⟨#[95]⟩) ++ (⟨#[UInt8.ofNat (49 + j)]⟩ : ByteArray) = (pieceO o j).name := by
  show _ = o.name ++ (⟨#[95]⟩ ++ ⟨#[UInt8.ofNat (49 + j)]⟩)
  rw [ByteArray.append_assoc]
/-- What piece hands back. -/
def PieceOut (w : World) (o : Ord) (n j : Nat) (e : Ending) (w' : World) : Prop := ∃ Ai ci, e = .returned (.agg #[.string (pieceO o j).name, .slice Ai (pieceO o j).load.length ci, .int .i64 (pieceO o j).pick.place, .int .i64 (pieceO o j).pick.opn, .int .i64 (pieceO o j).pick.close, .int .i64 (pieceO o j).pick.service, .int .i64 (pieceO o j).drop.place, .int .i64 (pieceO o j).drop.opn, .int .i64 (pieceO o j).drop.close, .int .i64 (pieceO o j).drop.service, .int .i64 (pieceO o j).skills, .int .i64 (pieceO o j).penalty, .int .i64 (pieceO o j).split, .int .i64 (pieceO o j).last, .int .i64 (pieceO o j).now, .bool (pieceO o j).off]) ∧ IntsOff w' (fun b => w.heap.size ≤ b) Ai (ptL o.load n j) ∧ Below w.heap.size w w'
set_option maxRecDepth 100000 in
set_option maxHeartbeats 4000000 in
theorem rpiece_any (o : Ord) (C : Option Addr) (cc : Nat) (n j : Nat) (hn : o.split = n) (w : World) (h : Ints w w.heap.size C o.load) (hf : OrdFits o) (h1 : 1 ≤ n) (h4 : n ≤ 4) (hj : j < n) (hl : okLd o.load = true) (hnm : o.name.size ≤ 1000000) :
    Calls Try.prog 31 #[.agg #[.string o.name, .slice C o.load.length cc, .int .i64 o.pick.place, .int .i64 o.pick.opn, .int .i64 o.pick.close, .int .i64 o.pick.service, .int .i64 o.drop.place, .int .i64 o.drop.opn, .int .i64 o.drop.close, .int .i64 o.drop.service, .int .i64 o.skills, .int .i64 o.penalty, .int .i64 o.split, .int .i64 o.last, .int .i64 o.now, .bool o.off], .int .i64 ((j : Int) + 1)] w (PieceOut w o n j) := by
  obtain ⟨W0, hW0⟩ : ∃ W0, (w.alloc (.cells (OrdCells o C cc).toArray 75)).alloc (.cells ordZs.toArray 75) = W0 := ⟨_, rfl⟩
  have hB0 : Below w.heap.size w W0 := by rw [← hW0]; exact ((Below.refl _ _).alloc (Nat.le_refl _) _).alloc (by simp) _
  have z0 := hB0.size
  have hs0 : w.heap.size + 1 < W0.heap.size := by rw [← hW0]; simp
  have b0 : OrBlk W0 w.heap.size o C cc := by
    rw [← hW0]
    unfold OrBlk
    rw [Below.heap_alloc _ _ _ (by simp)]
    exact World.alloc_heap_new w _
  have b1 : W0.heap[w.heap.size + 1]? = some (.cells ordZs.toArray 75 (0, 0)) := by
    rw [← hW0]
    have h := World.alloc_heap_new (w.alloc (.cells (OrdCells o C cc).toArray 75)) (.cells ordZs.toArray 75)
    simpa using h
  have HX := Lib.hid (fun w' (h : Below W0.heap.size W0 w') => orBlk_at ((h.block _ (by omega)).trans b0))
  have HRES := Lib.hid (fun w' (h : Below W0.heap.size W0 w') => (h.block _ hs0).trans b1)
  have x12 : W0.cell? ⟨w.heap.size, 12, none⟩ = some (.int .i64 n) := by rw [← hn]; exact HX.out _ (Below.refl _ _) 12 _ rfl
  have x1 : W0.cell? ⟨w.heap.size, 1, none⟩ = some (.slice C o.load.length cc) := HX.out _ (Below.refl _ _) 1 _ rfl
  have HI := Lib.hid (And.intro ((h.below hB0).more z0) hf)
  have hW1 : (w.alloc (.cells #[.string o.name, .slice C o.load.length cc, .int .i64 o.pick.place, .int .i64 o.pick.opn, .int .i64 o.pick.close, .int .i64 o.pick.service, .int .i64 o.drop.place, .int .i64 o.drop.opn, .int .i64 o.drop.close, .int .i64 o.drop.service, .int .i64 o.skills, .int .i64 o.penalty, .int .i64 n, .int .i64 o.last, .int .i64 o.now, .bool o.off] 75)).alloc (.cells #[.string ⟨#[]⟩, .slice none 0 0, .int .i64 0, .int .i64 0, .int .i64 0, .int .i64 0, .int .i64 0, .int .i64 0, .int .i64 0, .int .i64 0, .int .i64 0, .int .i64 0, .int .i64 0, .int .i64 0, .int .i64 0, .bool false] 75) = W0 := by rw [← hn]; exact hW0
  have HW0 := Lib.hid hW1
  rw [hn]
  have HL : Hid (loadsF o.load n = some (partsL o.load n)) := Lib.hid (loadsF_some h1 h4 hl)
  have HN := Lib.hid hn
  have hj0 : (0 : Int) ≤ (j : Int) := by omega
  have hj4 : (j : Int) ≤ 3 := by omega
  have hjn : (j : Int) < (n : Int) := by omega
  clear hW0 hW1 h hf b0 b1 hn hl
  go_enter Try.func31, Try.ntmps31
  go_upto_region 1 with fail
  rw [HW0.out]
  clear HW0
  go_wp2_with fail
  refine (rloads_any C cc o.load n _ HI.out.1).mono ?_
  rw [HL.out]
  rintro e w1 (⟨ll, A1, c1, cs1, h, rfl, hown1, hE1, hb1⟩ | ⟨h, -, -⟩)
  rotate_left
  · cases h
  injection h with h
  subst h
  rw [partsL_len] at hown1 ⊢
  obtain ⟨Ai, ci, hio, hcell⟩ := (hE1.at_ (s := 1) (fun x A c => rfl)).2 j _ (partsL_at o.load hj)
  obtain ⟨ad, rfl, hadb, hcx0⟩ := own_at hown1 hj (hcell 0 _ rfl) (Below.refl _ w1)
  have z1 := hb1.size
  have HB1 := Lib.hid hb1
  have HX1 := Lib.hid (HX.out _ hb1)
  have HIO := Lib.hid (hio)
  have hcx : w1.cell? (ad.add j) = some (.slice Ai (ptL o.load n j).length ci) := hcx0
  obtain ⟨m, hm⟩ : ∃ m, (ptL o.load n j).length = m := ⟨_, rfl⟩
  have HMM := Lib.hid hm
  rw [hm] at hcx
  clear hcx0 hcell hio hown1 hE1 hb1 hm x1 x12
  go_upto_region 2 with fail
  go_upto_region 3 with (first
    | ((with_reducible refine wpList_loadG stOrd' _ rfl ⟨w.heap.size, 0, none⟩ (OrdCells o C cc) ?_ ?_ ?_ ?_ ?_); exact rfl; exact rfl; exact HX1.out; exact rfl)
    | ((with_reducible refine wpList_storeL stOrd' rfl _ _ rfl w1.heap.size ordZs (OrdCells o C cc) ?_ ?_ ?_ ?_ ?_ (ordCells_one _ _ _) ?_); exact rfl; exact rfl; exact World.alloc_heap_new w1 _; exact rfl; exact rfl; intro w2 k1 k2 k3 k4; have K := Lib.hid (And.intro k1 (And.intro k2 (And.intro k3 k4))); clear k1 k2 k3 k4))
  (try simp only [Act.put, List.getElem_toArray, List.getElem_cons_succ, List.getElem_cons_zero, List.setIfInBounds_toArray, List.set_cons_zero, List.set_cons_succ])
  obtain ⟨k1, k2, k3, k4⟩ := K.out
  have b2 : Below w1.heap.size w1 w2 := ((Below.refl _ _).alloc (Nat.le_refl _) _).trans k4
  have zz2 : w1.heap.size < w2.heap.size := (Array.getElem?_eq_some_iff.1 k1).1
  obtain ⟨p, hp⟩ : ∃ p, w1.heap.size = p := ⟨_, rfl⟩
  have HP9 : Hid (w1.heap.size = p) := Lib.hid hp
  rw [hp] at k1 zz2 z1 hadb ⊢
  have HO2 : Hid (OrBlk w2 p o C cc) := Lib.hid k1
  have HB2 : Hid (Below p w1 w2) := Lib.hid (by rw [← hp]; exact b2)
  have B2 : Below W0.heap.size W0 w2 := HB1.out.trans (HB2.out.mono (by omega))
  have x0 : w2.cell? ⟨w.heap.size, 0, none⟩ = some (.string o.name) := HX.out _ B2 0 _ rfl
  have p0 : w2.cell? ⟨p, 0, none⟩ = some (.string o.name) := orBlk_at HO2.out 0 _ rfl
  have pf : ∀ i, w2.frozen? ⟨p, i, none⟩ = false := fun i => by simp [World.frozen?, show w2.heap[p]? = _ from k1]
  clear k1 k2 k3 k4 b2 K hp
  have hj3 : j = 0 ∨ j = 1 ∨ j = 2 ∨ j = 3 := by omega
  go_cut [] (fun wx => OrBlk wx p ⟨(pieceO o j).name, o.load, o.pick, o.drop, o.skills, o.penalty, o.split, o.last, o.now, o.off⟩ C cc ∧ Below p w1 wx)
  case first => as_aux_lemma =>
    clear HIO HX HI HL hcx HRES HX1
    rcases hj3 with rfl | rfl | rfl | rfl
    · have hcv := txt.conv_one w2 49 49 rfl
      have hset : ∀ nm : ByteArray, nm = (pieceO o 0).name → OrBlk (w2.setCell ⟨p, 0, none⟩ (.string nm)) p ⟨(pieceO o 0).name, o.load, o.pick, o.drop, o.skills, o.penalty, o.split, o.last, o.now, o.off⟩ C cc := fun nm e => by
        rw [e]
        exact orBlk_set HO2.out 0 _ rfl
      have HSET := Lib.hid hset
      clear hset
      go_wp2
      go_meet
      exact ⟨(heap_old _ _ _ (by simp; omega)).trans (HSET.out _ (piece_name o 0)), (HB2.out.setCell (p := ⟨p, 0, none⟩) (Nat.le_refl _) _).alloc (by simp; omega) _⟩
    · have hcv := txt.conv_one w2 50 50 rfl
      have hset : ∀ nm : ByteArray, nm = (pieceO o 1).name → OrBlk (w2.setCell ⟨p, 0, none⟩ (.string nm)) p ⟨(pieceO o 1).name, o.load, o.pick, o.drop, o.skills, o.penalty, o.split, o.last, o.now, o.off⟩ C cc := fun nm e => by
        rw [e]
        exact orBlk_set HO2.out 0 _ rfl
      have HSET := Lib.hid hset
      clear hset
      go_wp2
      go_meet
      exact ⟨(heap_old _ _ _ (by simp; omega)).trans (HSET.out _ (piece_name o 1)), (HB2.out.setCell (p := ⟨p, 0, none⟩) (Nat.le_refl _) _).alloc (by simp; omega) _⟩
    · have hcv := txt.conv_one w2 51 51 rfl
      have hset : ∀ nm : ByteArray, nm = (pieceO o 2).name → OrBlk (w2.setCell ⟨p, 0, none⟩ (.string nm)) p ⟨(pieceO o 2).name, o.load, o.pick, o.drop, o.skills, o.penalty, o.split, o.last, o.now, o.off⟩ C cc := fun nm e => by
        rw [e]
        exact orBlk_set HO2.out 0 _ rfl
      have HSET := Lib.hid hset
      clear hset
      go_wp2
      go_meet
      exact ⟨(heap_old _ _ _ (by simp; omega)).trans (HSET.out _ (piece_name o 2)), (HB2.out.setCell (p := ⟨p, 0, none⟩) (Nat.le_refl _) _).alloc (by simp; omega) _⟩
    · have hcv := txt.conv_one w2 52 52 rfl
      have hset : ∀ nm : ByteArray, nm = (pieceO o 3).name → OrBlk (w2.setCell ⟨p, 0, none⟩ (.string nm)) p ⟨(pieceO o 3).name, o.load, o.pick, o.drop, o.skills, o.penalty, o.split, o.last, o.now, o.off⟩ C cc := fun nm e => by
        rw [e]
        exact orBlk_set HO2.out 0 _ rfl
      have HSET := Lib.hid hset
      clear hset
      go_wp2
      go_meet
      exact ⟨(heap_old _ _ _ (by simp; omega)).trans (HSET.out _ (piece_name o 3)), (HB2.out.setCell (p := ⟨p, 0, none⟩) (Nat.le_refl _) _).alloc (by simp; omega) _⟩
  clear p0 pf x0 B2 HO2 HB2 hj3
  obtain ⟨ho3, hb3⟩ := hcut
  have hzw : p < wc.heap.size := (Array.getElem?_eq_some_iff.1 ho3).1
  have hcx3 : wc.cell? (ad.add j) = some (.slice Ai m ci) := (hb3.cell (by rw [block_of_add]; exact hadb)).trans hcx
  have hj1 : (j : Int) + 1 - 1 = (j : Int) := by omega
  have pf3 : ∀ i, wc.frozen? ⟨p, i, none⟩ = false := fun i => by simp [World.frozen?, show wc.heap[p]? = _ from ho3]
  have HO3 := Lib.hid ho3
  have HB3 := Lib.hid hb3
  clear ho3 hb3
  go_upto_region 4 with fail
  go_cut [] (fun wx => OrBlk wx p ⟨(pieceO o j).name, ptL o.load n j, o.pick, o.drop, o.skills, o.penalty, o.split, o.last, o.now, o.off⟩ Ai ci ∧ Below p w1 wx)
  case first => as_aux_lemma =>
    have q1 : wc.cell? ⟨p, 1, none⟩ = some (.slice C o.load.length cc) := orBlk_at HO3.out 1 _ rfl
    go_wp2
    go_meet
    refine ⟨orBlk_set HO3.out 1 _ ?_, HB3.out.setCell (p := ⟨p, 1, none⟩) (Nat.le_refl _) _⟩
    rw [← HMM.out]
    rfl
  clear pf3 HO3 HB3 hcx3 hcx
  obtain ⟨ho4, hb4⟩ := hcut
  have pf4 : ∀ i, wc.frozen? ⟨p, i, none⟩ = false := fun i => by simp [World.frozen?, show wc.heap[p]? = _ from ho4]
  have HO4 := Lib.hid ho4
  have HB4 := Lib.hid hb4
  clear ho4 hb4
  go_upto_region 5 with fail
  go_cut [] (fun wx => OrBlk wx p ⟨(pieceO o j).name, ptL o.load n j, o.pick, o.drop, o.skills, o.penalty, 1, o.last, o.now, o.off⟩ Ai ci ∧ Below p w1 wx)
  case first => as_aux_lemma =>
    have q1 : wc.cell? ⟨p, 12, none⟩ = some (.int .i64 o.split) := orBlk_at HO4.out 12 _ rfl
    go_wp2
    go_meet
    exact ⟨orBlk_set HO4.out 12 _ rfl, HB4.out.setCell (p := ⟨p, 12, none⟩) (Nat.le_refl _) _⟩
  clear pf4 HO4 HB4
  obtain ⟨ho5, hb5⟩ := hcut
  have pf5 : ∀ i, wc.frozen? ⟨p, i, none⟩ = false := fun i => by simp [World.frozen?, show wc.heap[p]? = _ from ho5]
  have HO5 := Lib.hid ho5
  have HB5 := Lib.hid hb5
  clear ho5 hb5
  have BX : Below W0.heap.size W0 wc := HB1.out.trans (HB5.out.mono (by omega))
  have x11 : wc.cell? ⟨w.heap.size, 11, none⟩ = some (.int .i64 o.penalty) := HX.out _ BX 11 _ rfl
  have x12b : wc.cell? ⟨w.heap.size, 12, none⟩ = some (.int .i64 n) := by rw [← HN.out]; exact HX.out _ BX 12 _ rfl
  have q11 : wc.cell? ⟨p, 11, none⟩ = some (.int .i64 o.penalty) := orBlk_at HO5.out 11 _ rfl
  have hpo := HI.out.2.2.2.2.2.1
  have hn1 : (1 : Int) ≤ n := by omega
  have hn4 : (n : Int) ≤ 4 := by omega
  have r1 : 0 ≤ o.penalty → 0 ≤ o.penalty / n ∧ o.penalty / n ≤ o.penalty := fun h => ⟨Int.ediv_nonneg h (by omega), Int.ediv_le_self _ h⟩
  have r3 : 0 ≤ o.penalty % n := Int.emod_nonneg _ (by omega)
  have r4 : o.penalty % n < n := Int.emod_lt_of_pos _ (by omega)
  have hdv : 0 ≤ o.penalty → (j : Int) + 1 ≤ o.penalty % n → o.penalty / (n : Int) ≤ 9223372036854775806 := fun hp0 hr => by
    have : n = 1 ∨ n = 2 ∨ n = 3 ∨ n = 4 := by omega
    rcases this with rfl | rfl | rfl | rfl <;> omega
  clear BX
  go_upto_region 6 with fail
  go_cut [36] (fun v wx => v = .bool (decide (0 ≤ o.penalty)) ∧ wc = wx)
  case first => as_aux_lemma =>
    go_wp2
    go_meet
    exact ⟨rfl, rfl⟩
  obtain ⟨hv48, hwx⟩ := hcut
  subst hv48
  subst hwx
  go_upto_if 36 with fail
  go_cut [] (fun wx => OrBlk wx p (pieceO o j) Ai ci ∧ Below p w1 wx)
  case first => as_aux_lemma =>
    by_cases hp0 : 0 ≤ o.penalty
    · have r2 := r1 hp0
      have hd2 := hdv hp0
      by_cases hr : (j : Int) + 1 ≤ o.penalty % n
      · have hd3 := hd2 hr
        go_wp2
        go_meet
        have g1 : OrBlk (wc.setCell ⟨p, 11, none⟩ (.int .i64 (o.penalty / n))) p ⟨(pieceO o j).name, ptL o.load n j, o.pick, o.drop, o.skills, o.penalty / n, 1, o.last, o.now, o.off⟩ Ai ci := orBlk_set HO5.out 11 _ rfl
        refine ⟨orBlk_set g1 11 _ ?_, (HB5.out.setCell (p := ⟨p, 11, none⟩) (Nat.le_refl _) _).setCell (p := ⟨p, 11, none⟩) (Nat.le_refl _) _⟩
        unfold pieceO porI
        rw [if_pos hp0, HN.out, if_pos (by omega)]
        rfl
      · go_wp2
        go_meet
        refine ⟨orBlk_set HO5.out 11 _ ?_, HB5.out.setCell (p := ⟨p, 11, none⟩) (Nat.le_refl _) _⟩
        unfold pieceO porI
        rw [if_pos hp0, HN.out, if_neg (by omega), Int.add_zero]
        rfl
    · go_wp2
      go_meet
      refine ⟨?_, HB5.out⟩
      have h := HO5.out
      unfold pieceO at h ⊢
      rw [if_neg (by omega), HN.out]
      exact h
  clear pf5 HO5 HB5 x11 x12b q11 hdv r1 r3 r4
  obtain ⟨ho6, hb6⟩ := hcut
  have HO6 := Lib.hid (orBlk_at ho6)
  have BX : Below W0.heap.size W0 wc := HB1.out.trans (hb6.mono (by omega))
  have HR6 := Lib.hid (HRES.out _ BX)
  go_wp2_with (first
    | ((with_reducible refine wpList_loadG stOrd' _ rfl ⟨p, 0, none⟩ (OrdCells (pieceO o j) Ai ci) ?_ ?_ ?_ ?_ ?_); exact rfl; exact rfl; exact HO6.out; exact rfl)
    | ((with_reducible refine wpList_storeL stOrd' rfl _ _ rfl (w.heap.size + 1) ordZs (OrdCells (pieceO o j) Ai ci) ?_ ?_ ?_ ?_ ?_ (ordCells_one _ _ _) ?_); exact rfl; exact rfl; exact HR6.out; exact rfl; exact rfl; intro w7 k1 k2 k3 k4; have K := Lib.hid (And.intro k1 (And.intro k2 (And.intro k3 k4))); clear k1 k2 k3 k4))
  obtain ⟨k1, k2, k3, k4⟩ := K.out
  have hca := orBlk_at k1
  have r0 : w7.cell? ⟨w.heap.size + 1, 0, none⟩ = some _ := hca 0 _ rfl
  have r1 : w7.cell? ⟨w.heap.size + 1, 1, none⟩ = some _ := hca 1 _ rfl
  have r2 : w7.cell? ⟨w.heap.size + 1, 2, none⟩ = some _ := hca 2 _ rfl
  have r3 : w7.cell? ⟨w.heap.size + 1, 3, none⟩ = some _ := hca 3 _ rfl
  have r4 : w7.cell? ⟨w.heap.size + 1, 4, none⟩ = some _ := hca 4 _ rfl
  have r5 : w7.cell? ⟨w.heap.size + 1, 5, none⟩ = some _ := hca 5 _ rfl
  have r6 : w7.cell? ⟨w.heap.size + 1, 6, none⟩ = some _ := hca 6 _ rfl
  have r7 : w7.cell? ⟨w.heap.size + 1, 7, none⟩ = some _ := hca 7 _ rfl
  have r8 : w7.cell? ⟨w.heap.size + 1, 8, none⟩ = some _ := hca 8 _ rfl
  have r9 : w7.cell? ⟨w.heap.size + 1, 9, none⟩ = some _ := hca 9 _ rfl
  have r10 : w7.cell? ⟨w.heap.size + 1, 10, none⟩ = some _ := hca 10 _ rfl
  have r11 : w7.cell? ⟨w.heap.size + 1, 11, none⟩ = some _ := hca 11 _ rfl
  have r12 : w7.cell? ⟨w.heap.size + 1, 12, none⟩ = some _ := hca 12 _ rfl
  have r13 : w7.cell? ⟨w.heap.size + 1, 13, none⟩ = some _ := hca 13 _ rfl
  have r14 : w7.cell? ⟨w.heap.size + 1, 14, none⟩ = some _ := hca 14 _ rfl
  have r15 : w7.cell? ⟨w.heap.size + 1, 15, none⟩ = some _ := hca 15 _ rfl
  have hz6 := hb6.size
  refine bodyPost_ret (v := .agg #[.string (pieceO o j).name, .slice Ai (pieceO o j).load.length ci, .int .i64 (pieceO o j).pick.place, .int .i64 (pieceO o j).pick.opn, .int .i64 (pieceO o j).pick.close, .int .i64 (pieceO o j).pick.service, .int .i64 (pieceO o j).drop.place, .int .i64 (pieceO o j).drop.opn, .int .i64 (pieceO o j).drop.close, .int .i64 (pieceO o j).drop.service, .int .i64 (pieceO o j).skills, .int .i64 (pieceO o j).penalty, .int .i64 (pieceO o j).split, .int .i64 (pieceO o j).last, .int .i64 (pieceO o j).now, .bool (pieceO o j).off]) ?_ rfl ⟨Ai, ci, rfl, ?_, ?_⟩
  · simp [results, Try.results31, go_sem, r0, r1, r2, r3, r4, r5, r6, r7, r8, r9, r10, r11, r12, r13, r14, r15]
  · refine IntsOff.keep HIO.out (by omega) (fun b hb hp => ⟨by omega, ?_⟩)
    rw [k2 b (by omega)]
    exact hb6.block b (by rw [← HP9.out]; exact hb)
  · exact ((hB0.trans (HB1.out.mono z0)).trans (hb6.mono (by omega))).trans (k4.mono (by omega))
end Go.Proofs.Ytceceomaheobhaa.spl

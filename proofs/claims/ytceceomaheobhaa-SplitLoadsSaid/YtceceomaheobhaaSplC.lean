/- split.parts. -/
import Derived.Test.YtceceomaheobhaaSplA
import Derived.Test.YtceceomaheobhaaFlat
import Derived.Test.YtceceomaheobhaaOnlA
import Derived.Test.YtceceomaheobhaaAddB
namespace Go.Proofs.Ytceceomaheobhaa.spl
open Go.RowKit
open Go.Proofs.Ytceceomaheobhaa.lib Go.Proofs.Ytceceomaheobhaa.rd Go.Proofs.Ytceceomaheobhaa.app Go.Proofs.Ytceceomaheobhaa.els Go.Proofs.Ytceceomaheobhaa.loads Go.Proofs.Ytceceomaheobhaa.typ Go.Proofs.Ytceceomaheobhaa.big Go.Proofs.Ytceceomaheobhaa.ins Go.Proofs.Ytceceomaheobhaa.ord Go.Proofs.Ytceceomaheobhaa.flts
set_option linter.unusedVariables false
set_option linter.unusedSimpArgs false

/-- The part k (from 0 on) of an order. -/
def pieceO (o : Ord) (k : Nat) : Ord := ⟨o.name ++ (⟨#[95]⟩ ++ ⟨#[UInt8.ofNat (49 + k)]⟩), ptL o.load o.split k, o.pick, o.drop, o.skills, if 0 ≤ o.penalty then porI o.penalty o.split k else o.penalty, 1, o.last, o.now, o.off⟩
def piecesTo (o : Ord) (j : Nat) : List Ord := (List.range j).map (pieceO o)
theorem piecesTo_len (o : Ord) (j : Nat) : (piecesTo o j).length = j := by unfold piecesTo; simp
theorem piecesTo_succ (o : Ord) (j : Nat) : piecesTo o (j + 1) = piecesTo o j ++ [pieceO o j] := by
  unfold piecesTo
  rw [List.range_succ, List.map_append]
  rfl
/-- A cell of a row of the call's own, read later. -/
theorem own_at {w w' : World} {base : Nat} {e : TypeId} {A : Option Addr} {n c j : Nat} {cs : List Value} {v : Value} (h : w.ownsRow base e 1 (.slice A n c) n cs) (hj : j < n) (hv : cs[j * 1 + 0]? = some v) (hb : Below w.heap.size w w') : ∃ ad, A = some ad ∧ ad.block < w.heap.size ∧ w'.cell? (ad.add j) = some v := by
  rw [Nat.mul_one, Nat.add_zero] at hv
  rcases h.2 with ⟨h5, h6⟩ | ⟨g, cap, cur, h5, h6, h7, h8⟩
  · omega
  · injection h5 with h5 _ _
    subst h5
    have hg := (Array.getElem?_eq_some_iff.1 h7).1
    refine ⟨⟨g, 0, none⟩, rfl, hg, ?_⟩
    exact (hb.cell (by rw [block_of_add]; exact hg)).trans (h.cells (g := g) rfl _ _ hv)
theorem pieces_fits {o : Ord} (hf : OrdFits o) (hnm : o.name.size ≤ 1000000) {n : Nat} (hn : o.split = n) (h2 : 2 ≤ n) (h4 : n ≤ 4) {j : Nat} {q : Ord} (hq : q ∈ piecesTo o j) : OrdFits q := by
  obtain ⟨k, hk, rfl⟩ := List.mem_map.1 hq
  obtain ⟨f1, f2, f3, f4, f5, f6, f7, f8⟩ := hf
  refine ⟨?_, f2, f3, f4, ?_, show (-9223372036854775808 : Int) ≤ 1 ∧ (1 : Int) ≤ 9223372036854775807 by decide, f7, f8⟩
  · show (o.name ++ (⟨#[95]⟩ ++ ⟨#[UInt8.ofNat (49 + k)]⟩)).size ≤ _
    rw [ByteArray.size_append, ByteArray.size_append]
    have e1 : (⟨#[95]⟩ : ByteArray).size = 1 := rfl
    have e2 : (⟨#[UInt8.ofNat (49 + k)]⟩ : ByteArray).size = 1 := rfl
    omega
  · show -9223372036854775808 ≤ (if 0 ≤ o.penalty then porI o.penalty o.split k else o.penalty) ∧ (if 0 ≤ o.penalty then porI o.penalty o.split k else o.penalty) ≤ 9223372036854775807
    split
    · rename_i h0
      rw [hn]
      unfold porI
      have : n = 2 ∨ n = 3 ∨ n = 4 := by omega
      rcases this with rfl | rfl | rfl
      all_goals split <;> omega
    · exact f5
/-- What parts answers. -/
def partsF (o : Ord) : Option (List Ord) := if o.split ≤ 1 then some [o] else match loadsF o.load o.split with
  | some _ => some (piecesTo o o.split.toNat)
  | none => none
/-- The row is the call's own; the loads lie in blocks of its own or below B. -/
def PartsOut (w : World) (B : Nat) (r : Option (List Ord)) (e : Ending) (w' : World) : Prop :=
  (∃ os A c cs, r = some os ∧ e = .returned (.tuple #[.slice A os.length c, .int .i64 0]) ∧ w'.ownsRow w.heap.size 75 16 (.slice A os.length c) os.length cs ∧ ElsIn ordEl w' (fun b => b < B ∨ w.heap.size ≤ b) cs os ∧ (∀ q ∈ os, OrdFits q) ∧ Below w.heap.size w w') ∨ (r = none ∧ e = .returned (.tuple #[.slice none 0 0, .int .i64 2]) ∧ Below w.heap.size w w')
theorem parts_one (o : Ord) (C : Option Addr) (cc : Nat) (w : World) (BL : Nat) (hBL : BL ≤ w.heap.size) (h : Ints w BL C o.load) (hf : OrdFits o) (h1 : o.split ≤ 1) :
    Calls Try.prog 28 #[.agg #[.string o.name, .slice C o.load.length cc, .int .i64 o.pick.place, .int .i64 o.pick.opn, .int .i64 o.pick.close, .int .i64 o.pick.service, .int .i64 o.drop.place, .int .i64 o.drop.opn, .int .i64 o.drop.close, .int .i64 o.drop.service, .int .i64 o.skills, .int .i64 o.penalty, .int .i64 o.split, .int .i64 o.last, .int .i64 o.now, .bool o.off]] w (PartsOut w BL (some [o])) := by
  obtain ⟨W0, hW0⟩ : ∃ W0, w.alloc (.cells (OrdCells o C cc).toArray 75) = W0 := ⟨_, rfl⟩
  have hB0 : Below w.heap.size w W0 := by rw [← hW0]; exact (Below.refl _ _).alloc (Nat.le_refl _) _
  have z0 := hB0.size
  have b0 : OrBlk W0 w.heap.size o C cc := by rw [← hW0]; exact World.alloc_heap_new w _
  have HX := Lib.hid (orBlk_at b0)
  have x12 : W0.cell? ⟨w.heap.size, 12, none⟩ = some (.int .i64 o.split) := HX.out 12 _ rfl
  have HI := Lib.hid (And.intro (h.below (hB0.mono hBL)) hf)
  have hW1 : w.alloc (.cells #[.string o.name, .slice C o.load.length cc, .int .i64 o.pick.place, .int .i64 o.pick.opn, .int .i64 o.pick.close, .int .i64 o.pick.service, .int .i64 o.drop.place, .int .i64 o.drop.opn, .int .i64 o.drop.close, .int .i64 o.drop.service, .int .i64 o.skills, .int .i64 o.penalty, .int .i64 o.split, .int .i64 o.last, .int .i64 o.now, .bool o.off] 75) = W0 := hW0
  have HW0 := Lib.hid hW1
  clear hW0 hW1 h hf b0
  go_enter Try.func28, Try.ntmps28
  go_upto_region 1 with fail
  rw [HW0.out]
  go_wp2_with (first
    | ((with_reducible refine wpList_loadG stOrd' _ rfl ⟨w.heap.size, 0, none⟩ (OrdCells o C cc) ?_ ?_ ?_ ?_ ?_); exact rfl; exact rfl; exact HX.out; exact rfl)
    | ((with_reducible refine wpList_bsliceL ord_elem rfl 1 [(0, .tmp 13)] rfl [(0, .agg (OrdCells o C cc).toArray)] (OrdCells o C cc) ordZs ?_ (by decide) (by decide) ord_zs (ord_fill1 o C cc) ?_); exact rfl))
  go_ret2
  have bA : Below W0.heap.size W0 (W0.alloc (.cells (OrdCells o C cc).toArray 75)) := (Below.refl _ _).alloc (Nat.le_refl _) _
  have hown : (W0.alloc (.cells (OrdCells o C cc).toArray 75)).ownsRow w.heap.size 75 16 (.slice (some ⟨W0.heap.size, 0, none⟩) 1 1) 1 (OrdCells o C cc) :=
    ⟨rfl, .inr ⟨W0.heap.size, 1, (OrdCells o C cc).toArray, rfl, z0, World.alloc_heap_new W0 _, Nat.le_refl _, by decide, rfl, by simp; rfl⟩⟩
  have hI : IntsOff (W0.alloc (.cells (OrdCells o C cc).toArray 75)) (fun b => b < BL ∨ w.heap.size ≤ b) C (ordEl o).nums := IntsOff.low (HI.out.1.below (bA.mono (by omega))) (by have := bA.size; omega) (fun b hb => .inl hb)
  exact .inl ⟨[o], some ⟨W0.heap.size, 0, none⟩, 1, [] ++ (ordEl o).cells C cc, rfl, rfl, hown, ElsIn.snoc cc .nil hI, fun q hq => by rw [List.mem_singleton] at hq; rw [hq]; exact HI.out.2, hB0.trans (bA.mono z0)⟩
theorem orBlk_set {w : World} {k : Nat} {o o' : Ord} {C C' : Option Addr} {c c' : Nat} (h : OrBlk w k o C c) (i : Nat) (u : Value) (he : (OrdCells o C c).set i u = OrdCells o' C' c') : OrBlk (w.setCell ⟨k, i, none⟩ u) k o' C' c' := by
  have h1 := heap_setCell_same w k i (OrdCells o C c).toArray 75 u h
  unfold OrBlk
  rw [← he]
  simpa using h1
theorem parts_bad (o : Ord) (C : Option Addr) (cc : Nat) (w : World) (BL : Nat) (hBL : BL ≤ w.heap.size) (h : Ints w BL C o.load) (hf : OrdFits o) (h1 : ¬ o.split ≤ 1) (hl : loadsF o.load o.split = none) :
    Calls Try.prog 28 #[.agg #[.string o.name, .slice C o.load.length cc, .int .i64 o.pick.place, .int .i64 o.pick.opn, .int .i64 o.pick.close, .int .i64 o.pick.service, .int .i64 o.drop.place, .int .i64 o.drop.opn, .int .i64 o.drop.close, .int .i64 o.drop.service, .int .i64 o.skills, .int .i64 o.penalty, .int .i64 o.split, .int .i64 o.last, .int .i64 o.now, .bool o.off]] w (PartsOut w BL none) := by
  obtain ⟨W0, hW0⟩ : ∃ W0, w.alloc (.cells (OrdCells o C cc).toArray 75) = W0 := ⟨_, rfl⟩
  have hB0 : Below w.heap.size w W0 := by rw [← hW0]; exact (Below.refl _ _).alloc (Nat.le_refl _) _
  have z0 := hB0.size
  have hs0 : w.heap.size < W0.heap.size := by rw [← hW0]; simp
  have b0 : OrBlk W0 w.heap.size o C cc := by rw [← hW0]; exact World.alloc_heap_new w _
  have HX := Lib.hid (fun w' (h : Below W0.heap.size W0 w') => orBlk_at ((h.block _ hs0).trans b0))
  have x12 : W0.cell? ⟨w.heap.size, 12, none⟩ = some (.int .i64 o.split) := HX.out _ (Below.refl _ _) 12 _ rfl
  have x1 : W0.cell? ⟨w.heap.size, 1, none⟩ = some (.slice C o.load.length cc) := HX.out _ (Below.refl _ _) 1 _ rfl
  have HI := Lib.hid (And.intro ((h.below (hB0.mono hBL)).more (Nat.le_trans hBL z0)) hf)
  have hW1 : w.alloc (.cells #[.string o.name, .slice C o.load.length cc, .int .i64 o.pick.place, .int .i64 o.pick.opn, .int .i64 o.pick.close, .int .i64 o.pick.service, .int .i64 o.drop.place, .int .i64 o.drop.opn, .int .i64 o.drop.close, .int .i64 o.drop.service, .int .i64 o.skills, .int .i64 o.penalty, .int .i64 o.split, .int .i64 o.last, .int .i64 o.now, .bool o.off] 75) = W0 := hW0
  have HW0 := Lib.hid hW1
  clear hW0 hW1 h hf b0
  have HL := Lib.hid hl
  clear hl
  go_enter Try.func28, Try.ntmps28
  go_upto_region 1 with fail
  rw [HW0.out]
  go_wp2_with fail
  refine (loads_any C cc o.load o.split _ HI.out.1).mono ?_
  rw [HL.out]
  rintro e w1 (⟨ll, A, c, cs, h, -⟩ | ⟨-, rfl, b1⟩)
  · cases h
  go_wp2_with fail
  go_ret2
  exact .inr ⟨rfl, rfl, hB0.trans (b1.mono z0)⟩
set_option maxRecDepth 100000 in
set_option maxHeartbeats 4000000 in
theorem parts_many (o : Ord) (C : Option Addr) (cc : Nat) (n : Nat) (hn : o.split = n) (w : World) (BL : Nat) (hBL : BL ≤ w.heap.size) (h : Ints w BL C o.load) (hf : OrdFits o) (h1 : 2 ≤ n) (h4 : n ≤ 4) (hl : okLd o.load = true) (hnm : o.name.size ≤ 1000000) :
    Calls Try.prog 28 #[.agg #[.string o.name, .slice C o.load.length cc, .int .i64 o.pick.place, .int .i64 o.pick.opn, .int .i64 o.pick.close, .int .i64 o.pick.service, .int .i64 o.drop.place, .int .i64 o.drop.opn, .int .i64 o.drop.close, .int .i64 o.drop.service, .int .i64 o.skills, .int .i64 o.penalty, .int .i64 o.split, .int .i64 o.last, .int .i64 o.now, .bool o.off]] w (PartsOut w BL (some (piecesTo o n))) := by
  obtain ⟨W0, hW0⟩ : ∃ W0, w.alloc (.cells (OrdCells o C cc).toArray 75) = W0 := ⟨_, rfl⟩
  have hB0 : Below w.heap.size w W0 := by rw [← hW0]; exact (Below.refl _ _).alloc (Nat.le_refl _) _
  have z0 := hB0.size
  have hs0 : w.heap.size < W0.heap.size := by rw [← hW0]; simp
  have b0 : OrBlk W0 w.heap.size o C cc := by rw [← hW0]; exact World.alloc_heap_new w _
  have HX := Lib.hid (fun w' (h : Below W0.heap.size W0 w') => orBlk_at ((h.block _ hs0).trans b0))
  have x12 : W0.cell? ⟨w.heap.size, 12, none⟩ = some (.int .i64 o.split) := HX.out _ (Below.refl _ _) 12 _ rfl
  have x1 : W0.cell? ⟨w.heap.size, 1, none⟩ = some (.slice C o.load.length cc) := HX.out _ (Below.refl _ _) 1 _ rfl
  have HI := Lib.hid (And.intro ((h.below (hB0.mono hBL)).more (Nat.le_trans hBL z0)) hf)
  have hW1 : w.alloc (.cells #[.string o.name, .slice C o.load.length cc, .int .i64 o.pick.place, .int .i64 o.pick.opn, .int .i64 o.pick.close, .int .i64 o.pick.service, .int .i64 o.drop.place, .int .i64 o.drop.opn, .int .i64 o.drop.close, .int .i64 o.drop.service, .int .i64 o.skills, .int .i64 o.penalty, .int .i64 o.split, .int .i64 o.last, .int .i64 o.now, .bool o.off] 75) = W0 := hW0
  have HW0 := Lib.hid hW1
  clear hW0 hW1 h hf b0
  rw [hn] at x12 HW0 ⊢
  have HL : Hid (loadsF o.load n = some (partsL o.load n)) := Lib.hid (loadsF_some (by omega) h4 hl)
  have hn1 : ¬ (n : Int) ≤ 1 := by omega
  have HN := Lib.hid hn
  clear hn hl
  go_enter Try.func28, Try.ntmps28
  go_upto_region 1 with fail
  rw [HW0.out]
  clear HW0
  go_wp2_with fail
  refine (loads_any C cc o.load n _ HI.out.1).mono ?_
  rw [HL.out]
  rintro e w1 (⟨ll, A1, c1, cs1, h, rfl, hown1, hE1, b1⟩ | ⟨h, -, -⟩)
  rotate_left
  · cases h
  injection h with h
  subst h
  rw [partsL_len] at hown1 ⊢
  have hR : Rows2 w1 w1.heap.size A1 (partsL o.load n) := hE1.rows2 (c := c1) (by rw [partsL_len]; exact hown1) (by rw [partsL_len]; omega)
  have HR := Lib.hid hR
  have HX1 := Lib.hid (And.intro (hE1.at_ (s := 1) (fun x A c => rfl)).2 hown1)
  clear hR hown1 hE1
  go_wp2_with fail
  have z1 := b1.size
  go_loopw [6, 7, 8, 9, 28] (fun v _ _ _ i wr => ∃ (j : Nat) (B : Option Addr) (cB : Nat) (cs : List Value), j ≤ n ∧ i = .int .i64 j ∧ v = .slice B j cB ∧ ElsIn ordEl wr (fun b => W0.heap.size ≤ b ∧ b < w1.heap.size) cs (piecesTo o j) ∧ wr.ownsRow w1.heap.size 75 16 (.slice B j cB) j cs ∧ Below w1.heap.size w1 wr) (fun _ _ _ _ i _ => n - (intOf i).toNat)
  case atStart => exact ⟨0, none, 0, [], by omega, rfl, rfl, .nil, World.ownsRow_nil _ _ _ _, Below.refl _ _⟩
  case round =>
    obtain ⟨j, B, cB, cs, hj, rfl, rfl, hE, hown, hbel⟩ := hrel
    by_cases hlt : j < n
    · have hj0 : (0 : Int) ≤ (j : Int) := by omega
      have hj4 : (j : Int) ≤ 4 := by omega
      have hjn : (j : Int) < (n : Int) := by omega
      have hzo := hbel.size
      have B0 : Below W0.heap.size W0 wr := b1.trans (hbel.mono z1)
      have HP := Lib.hid (HX.out _ B0)
      obtain ⟨Ai, ci, hio, hcell⟩ := HX1.out.1 j _ (partsL_at o.load hlt)
      obtain ⟨ad, rfl, hadb, hcx0⟩ := own_at HX1.out.2 (show j < n by omega) (hcell 0 _ rfl) hbel
      have hIl : IntsOff wr (fun b => W0.heap.size ≤ b ∧ b < w1.heap.size) Ai (ptL o.load n j) := (hio.weak (fun b hb hp => ⟨hp, hb⟩)).stay (row := none) (Stays.below hbel) (fun b _ _ e => by cases e) (fun b _ h => h)
      have hcx : wr.cell? (ad.add j) = some (.slice Ai (ptL o.load n j).length ci) := hcx0
      clear hcx0 hcell hio
      obtain ⟨m, hm⟩ : ∃ m, (ptL o.load n j).length = m := ⟨_, rfl⟩
      rw [hm] at hcx
      have HE := Lib.hid (And.intro hE (And.intro hown (And.intro hIl hm)))
      clear hE hown hIl hm
      go_upto_region 10 with fail
      go_upto_region 11 with (first
        | ((with_reducible refine wpList_loadG stOrd' _ rfl ⟨w.heap.size, 0, none⟩ (OrdCells o C cc) ?_ ?_ ?_ ?_ ?_); exact rfl; exact rfl; exact HP.out; exact rfl)
        | ((with_reducible refine wpList_storeL stOrd' rfl _ _ rfl wr.heap.size ordZs (OrdCells o C cc) ?_ ?_ ?_ ?_ ?_ (ordCells_one _ _ _) ?_); exact rfl; exact rfl; exact World.alloc_heap_new wr _; exact rfl; exact rfl; intro w2 k1 k2 k3 k4; have K := Lib.hid (And.intro k1 (And.intro k2 (And.intro k3 k4))); clear k1 k2 k3 k4))
      (try simp only [Act.put, List.getElem_toArray, List.getElem_cons_succ, List.getElem_cons_zero, List.setIfInBounds_toArray, List.set_cons_zero, List.set_cons_succ])
      obtain ⟨k1, k2, k3, k4⟩ := K.out
      have b2 : Below wr.heap.size wr w2 := ((Below.refl _ _).alloc (Nat.le_refl _) _).trans k4
      have zz2 : wr.heap.size < w2.heap.size := (Array.getElem?_eq_some_iff.1 k1).1
      obtain ⟨p, hp⟩ : ∃ p, wr.heap.size = p := ⟨_, rfl⟩
      rw [hp] at k1 zz2 hzo ⊢
      have HO2 : Hid (OrBlk w2 p o C cc) := Lib.hid k1
      have HB2 : Hid (Below p wr w2) := Lib.hid (by rw [← hp]; exact b2)
      have p0 : w2.cell? ⟨p, 0, none⟩ = some (.string o.name) := orBlk_at HO2.out 0 _ rfl
      have pf : ∀ i, w2.frozen? ⟨p, i, none⟩ = false := fun i => by simp [World.frozen?, show w2.heap[p]? = _ from k1]
      have B2 : Below W0.heap.size W0 w2 := B0.trans (HB2.out.mono (by omega))
      clear k1 k2 k3 k4 b2 K
      have hj3 : j = 0 ∨ j = 1 ∨ j = 2 ∨ j = 3 := by omega
      go_cut [] (fun wx => OrBlk wx p ⟨(pieceO o j).name, o.load, o.pick, o.drop, o.skills, o.penalty, o.split, o.last, o.now, o.off⟩ C cc ∧ Below p wr wx)
      case first => as_aux_lemma =>
        clear HE HR HP HX HI HL hcx
        have e0 : ((⟨#[95]⟩ : ByteArray) ++ Utf8.encode 49).size = 2 := by decide +kernel
        have e1 : ((⟨#[95]⟩ : ByteArray) ++ Utf8.encode 50).size = 2 := by decide +kernel
        have e2 : ((⟨#[95]⟩ : ByteArray) ++ Utf8.encode 51).size = 2 := by decide +kernel
        have e3 : ((⟨#[95]⟩ : ByteArray) ++ Utf8.encode 52).size = 2 := by decide +kernel
        rcases hj3 with rfl | rfl | rfl | rfl
        all_goals
          go_wp2
          go_meet
          exact ⟨orBlk_set HO2.out 0 _ rfl, HB2.out.setCell (p := ⟨p, 0, none⟩) (Nat.le_refl _) _⟩
      clear p0 pf B2 HO2 HB2 hj3
      obtain ⟨ho3, hb3⟩ := hcut
      have pf3 : ∀ i, wc.frozen? ⟨p, i, none⟩ = false := fun i => by simp [World.frozen?, show wc.heap[p]? = _ from ho3]
      have HO3 := Lib.hid ho3
      have HB3 := Lib.hid hb3
      clear ho3 hb3
      go_upto_region 12 with fail
      go_cut [] (fun wx => OrBlk wx p ⟨(pieceO o j).name, ptL o.load n j, o.pick, o.drop, o.skills, o.penalty, o.split, o.last, o.now, o.off⟩ Ai ci ∧ Below p wr wx)
      case first => as_aux_lemma =>
        have q1 : wc.cell? ⟨p, 1, none⟩ = some (.slice C o.load.length cc) := orBlk_at HO3.out 1 _ rfl
        go_wp2
        go_meet
        refine ⟨orBlk_set HO3.out 1 _ ?_, HB3.out.setCell (p := ⟨p, 1, none⟩) (Nat.le_refl _) _⟩
        rw [← HE.out.2.2.2]
        rfl
      clear pf3 HO3 HB3
      obtain ⟨ho4, hb4⟩ := hcut
      have pf4 : ∀ i, wc.frozen? ⟨p, i, none⟩ = false := fun i => by simp [World.frozen?, show wc.heap[p]? = _ from ho4]
      have HO4 := Lib.hid ho4
      have HB4 := Lib.hid hb4
      clear ho4 hb4
      go_upto_region 13 with fail
      go_cut [] (fun wx => OrBlk wx p ⟨(pieceO o j).name, ptL o.load n j, o.pick, o.drop, o.skills, o.penalty, 1, o.last, o.now, o.off⟩ Ai ci ∧ Below p wr wx)
      case first => as_aux_lemma =>
        have q1 : wc.cell? ⟨p, 12, none⟩ = some (.int .i64 o.split) := orBlk_at HO4.out 12 _ rfl
        go_wp2
        go_meet
        exact ⟨orBlk_set HO4.out 12 _ rfl, HB4.out.setCell (p := ⟨p, 12, none⟩) (Nat.le_refl _) _⟩
      clear pf4 HO4 HB4
      obtain ⟨ho5, hb5⟩ := hcut
      have pf5 : ∀ i, wc.frozen? ⟨p, i, none⟩ = false := fun i => by simp [World.frozen?, show wc.heap[p]? = _ from ho5]
      have HO5 := Lib.hid ho5
      have HB5 := Lib.hid hb5
      clear ho5 hb5
      go_upto_region 14 with fail
      have x11 : wc.cell? ⟨w.heap.size, 11, none⟩ = some (.int .i64 o.penalty) := HX.out _ (B0.trans (HB5.out.mono (by omega))) 11 _ rfl
      have x12b : wc.cell? ⟨w.heap.size, 12, none⟩ = some (.int .i64 n) := by rw [← HN.out]; exact HX.out _ (B0.trans (HB5.out.mono (by omega))) 12 _ rfl
      have q11 : wc.cell? ⟨p, 11, none⟩ = some (.int .i64 o.penalty) := orBlk_at HO5.out 11 _ rfl
      have hpo := HI.out.2.2.2.2.2.1
      have hdv : 0 ≤ o.penalty → o.penalty / (n : Int) ≤ 9223372036854775806 := fun hp0 => by
        have : n = 2 ∨ n = 3 ∨ n = 4 := by omega
        rcases this with rfl | rfl | rfl <;> omega
      have HDV := Lib.hid hdv
      clear hdv
      go_cut [48] (fun v wx => v = .bool (decide (0 ≤ o.penalty)) ∧ wc = wx)
      case first => as_aux_lemma =>
        go_wp2
        go_meet
        exact ⟨rfl, rfl⟩
      obtain ⟨hv48, hwx⟩ := hcut
      subst hv48
      subst hwx
      go_upto_if 48 with fail
      go_cut [] (fun wx => OrBlk wx p (pieceO o j) Ai ci ∧ Below p wr wx)
      case first => as_aux_lemma =>
        by_cases hp0 : 0 ≤ o.penalty
        · go_wp2_with (go_at_call 23; refine (portion_any o.penalty n j hp0 hpo.2 (HDV.out hp0) (by omega) (by omega) hj0 hj4 _).mono ?_; rintro e w' ⟨rfl, rfl⟩)
          go_meet
          refine ⟨orBlk_set HO5.out 11 _ ?_, HB5.out.setCell (p := ⟨p, 11, none⟩) (Nat.le_refl _) _⟩
          unfold pieceO
          rw [if_pos hp0, HN.out]
          rfl
        · go_wp2
          go_meet
          refine ⟨?_, HB5.out⟩
          have h := HO5.out
          unfold pieceO at h ⊢
          rw [if_neg (by omega), HN.out]
          exact h
      clear pf5 HO5 HB5 x11 q11 HDV x12b
      obtain ⟨ho6, hb6⟩ := hcut
      have zz6 : p < wc.heap.size := (Array.getElem?_eq_some_iff.1 ho6).1
      have HO6 := Lib.hid (orBlk_at ho6)
      have hb6' : Below w1.heap.size wr wc := hb6.mono hzo
      have hlo : (pieceO o j).load = ptL o.load n j := by show ptL o.load o.split j = _; rw [HN.out]
      have bA : Below wc.heap.size wc (wc.alloc (.cells (OrdCells (pieceO o j) Ai ci).toArray 75)) := (Below.refl _ _).alloc (Nat.le_refl _) _
      have bC : Below wr.heap.size wr (wc.alloc (.cells (OrdCells (pieceO o j) Ai ci).toArray 75)) := by
        rw [hp]
        exact hb6.trans (bA.mono (by omega))
      have hI7 : IntsOff (wc.alloc (.cells (OrdCells (pieceO o j) Ai ci).toArray 75)) (fun b => W0.heap.size ≤ b ∧ b < w1.heap.size) Ai (ordEl (pieceO o j)).nums := by
        show IntsOff _ _ _ (pieceO o j).load
        rw [hlo]
        exact HE.out.2.2.1.stay (row := none) (Stays.below bC) (fun b _ _ e => by cases e) (fun b _ h => h)
      have H7 := Lib.hid (And.intro (HE.out.1.stay (row := none) (Stays.below bC) (fun b _ _ e => by cases e) (fun b _ h => h)) hI7)
      have HO7 : Hid ((wc.alloc (.cells (OrdCells (pieceO o j) Ai ci).toArray 75)).ownsRow w1.heap.size 75 16 (.slice B j cB) j cs) := Lib.hid (own_below HE.out.2.1 bC)
      have HB7 : Hid (Below w1.heap.size w1 (wc.alloc (.cells (OrdCells (pieceO o j) Ai ci).toArray 75))) := Lib.hid (hbel.trans (bC.mono (by omega)))
      have HS7 : Hid (w1.heap.size ≤ (wc.alloc (.cells (OrdCells (pieceO o j) Ai ci).toArray 75)).heap.size) := Lib.hid HB7.out.size
      clear ho6 hb6 hb6' bA bC hI7 HR
      go_wp2_with (first
        | ((with_reducible refine wpList_loadG stOrd' _ rfl ⟨p, 0, none⟩ (OrdCells (pieceO o j) Ai ci) ?_ ?_ ?_ ?_ ?_); exact rfl; exact rfl; exact HO6.out; exact rfl)
        | ((with_reducible refine wpList_bsliceL ord_elem rfl 1 [(0, .tmp 57)] rfl [(0, .agg (OrdCells (pieceO o j) Ai ci).toArray)] (OrdCells (pieceO o j) Ai ci) ordZs ?_ (by decide) (by decide) ord_zs (ord_fill1 (pieceO o j) Ai ci) ?_); exact rfl)
        | (at_builtin; go_loud (refine wpList_app ord_elem _ _ rfl w1.heap.size B j cB cs rfl HO7.out ⟨wc.heap.size, 0, none⟩ 1 (OrdCells (pieceO o j) Ai ci) rfl rfl (ord_new wc (pieceO o j) Ai ci) (ordCells_one (pieceO o j) Ai ci) (by omega) HS7.out rfl ?_); intro g5 c5 w5 hown5 hg5 hx5; have HK5 := Lib.hid (And.intro hown5 (And.intro hg5 hx5)); clear hown5 hg5 hx5))
      have hst : ∀ b, b < (wc.alloc (.cells (OrdCells (pieceO o j) Ai ci).toArray 75)).heap.size → (W0.heap.size ≤ b ∧ b < w1.heap.size) → some b ≠ (Value.slice B j cB).ownBlock := fun b _ hp e => by
        have := (World.ownsRow.lt HO7.out b e.symm).1
        omega
      have hP := ElsIn.snoc (f := ordEl) ci (H7.out.1.stay (Stays.grown HK5.out.2.1) hst (fun b _ hp => hp)) (H7.out.2.stay (Stays.grown HK5.out.2.1) hst (fun b _ hp => hp))
      rw [← piecesTo_succ] at hP
      exact ⟨⟨j + 1, some ⟨g5, 0, none⟩, c5, _, by omega, by go_num, rfl, hP, HK5.out.1, HB7.out.grown HK5.out.2.1 HS7.out (fun q e => own_base HO7.out q e)⟩, by simp [intOf]; omega⟩
    · have hjn : j = n := by omega
      subst hjn
      clear hlt
      go_wp2
      go_ret2
      have zz1 : w.heap.size ≤ w1.heap.size := by omega
      refine .inl ⟨piecesTo o j, B, cB, cs, rfl, by rw [piecesTo_len]; rfl, by rw [piecesTo_len]; exact own_less hown zz1, ?_, fun q hq => pieces_fits HI.out.2 hnm HN.out h1 h4 hq, (hB0.trans (b1.mono z0)).trans (hbel.mono zz1)⟩
      exact hE.stay (row := none) (Stays.below (Below.refl _ _)) (fun b _ _ e => by cases e) (fun b _ h => .inr (by omega))
theorem loadsF_eq {l : List Int} {n : Int} (h1 : 1 ≤ n) (h4 : n ≤ 4) (hl : okLd l = true) : ∃ ll, loadsF l n = some ll := ⟨_, by unfold loadsF; rw [if_pos ⟨⟨h1, h4⟩, hl⟩]⟩
theorem parts_any (o : Ord) (C : Option Addr) (cc : Nat) (w : World) (BL : Nat) (hBL : BL ≤ w.heap.size) (h : Ints w BL C o.load) (hf : OrdFits o) (hnm : o.name.size ≤ 1000000) :
    Calls Try.prog 28 #[.agg #[.string o.name, .slice C o.load.length cc, .int .i64 o.pick.place, .int .i64 o.pick.opn, .int .i64 o.pick.close, .int .i64 o.pick.service, .int .i64 o.drop.place, .int .i64 o.drop.opn, .int .i64 o.drop.close, .int .i64 o.drop.service, .int .i64 o.skills, .int .i64 o.penalty, .int .i64 o.split, .int .i64 o.last, .int .i64 o.now, .bool o.off]] w (PartsOut w BL (partsF o)) := by
  by_cases h1 : o.split ≤ 1
  · have e : partsF o = some [o] := by unfold partsF; rw [if_pos h1]
    rw [e]
    exact parts_one o C cc w BL hBL h hf h1
  by_cases h4 : o.split ≤ 4 ∧ okLd o.load = true
  · obtain ⟨n, hn⟩ := Int.eq_ofNat_of_zero_le (show 0 ≤ o.split by omega)
    obtain ⟨ll, hl⟩ := loadsF_eq (l := o.load) (n := o.split) (by omega) h4.1 h4.2
    have e : partsF o = some (piecesTo o n) := by unfold partsF; rw [if_neg h1, hl, hn]; rfl
    rw [e]
    exact parts_many o C cc n hn w BL hBL h hf (by omega) (by omega) h4.2 hnm
  · have hl : loadsF o.load o.split = none := by
      unfold loadsF
      rw [if_neg (fun h => h4 ⟨h.1.2, h.2⟩)]
    have e : partsF o = none := by unfold partsF; rw [if_neg h1, hl]
    rw [e]
    exact parts_bad o C cc w BL hBL h hf h1 hl
end Go.Proofs.Ytceceomaheobhaa.spl

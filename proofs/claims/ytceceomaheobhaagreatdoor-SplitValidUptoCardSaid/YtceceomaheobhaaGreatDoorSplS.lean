/- The sample instance. -/
import Derived.Test.YtceceomaheobhaaGreatDoorSplF
import Derived.Test.YtceceomaheobhaaGreatDoorZ4
import Derived.Deep.DeepCutAuto
import Derived.Outline
namespace Go.Proofs.YtceceomaheobhaaGreatDoor.spl
open Go.RowKit
open Go.Proofs.YtceceomaheobhaaGreatDoor.lib Go.Proofs.YtceceomaheobhaaGreatDoor.rd Go.Proofs.YtceceomaheobhaaGreatDoor.app Go.Proofs.YtceceomaheobhaaGreatDoor.els Go.Proofs.YtceceomaheobhaaGreatDoor.loads Go.Proofs.YtceceomaheobhaaGreatDoor.typ Go.Proofs.YtceceomaheobhaaGreatDoor.big Go.Proofs.YtceceomaheobhaaGreatDoor.ins Go.Proofs.YtceceomaheobhaaGreatDoor.ord Go.Proofs.YtceceomaheobhaaGreatDoor.flts
set_option linter.unusedVariables false
set_option linter.unusedSimpArgs false

def smpN (k : Nat) : ByteArray := if k = 0 then ⟨#[111]⟩ else ⟨#[112]⟩
def smpO (k : Nat) : Ord := ⟨smpN k, [7], ⟨-1, 0, 0, 0⟩, ⟨0, 0, 50, 0⟩, 0, 9, 2 - (k : Int), -1, -1, false⟩
def smpT : Ty := ⟨⟨#[118]⟩, 2, 0, 0, [5], 0, 0, 0, 100, 100, 0, 0, 0, 0⟩
def smpI : Ins := ⟨⟨[⟨#[65]⟩], []⟩, [smpT], [smpO 0, smpO 1], [(0, 1)], []⟩
theorem smpT_fits : TyFits smpT := by unfold TyFits smpT; decide
theorem smpO_fits (k : Nat) (h : k < 2) : OrdFits (smpO k) := by
  have : k = 0 ∨ k = 1 := by omega
  rcases this with rfl | rfl
  all_goals unfold OrdFits StpFits smpO; decide
def SampleOut (w : World) (e : Ending) (w' : World) : Prop := ∃ P : InP, e = .returned (InV smpI P) ∧ InAt w' w'.heap.size smpI P ∧ Below w.heap.size w w'
theorem smpT_fill (ad : Addr) : Instr.fill ((#[(0, 1), (1, 1), (2, 1), (3, 1), (4, 1), (5, 1), (6, 1), (7, 1), (8, 1), (9, 1), (10, 1), (11, 1), (12, 1), (13, 1)] : Array (Nat × Nat))[·]?) (Value.agg zTy.toArray).cells [(0, .string ⟨#[118]⟩), (1, .int .i64 2), (4, .slice (some ad) 1 1), (8, .int .i64 100), (9, .int .i64 100)] = some (TyCells smpT (some ad) 1).toArray := by kernel_rfl
theorem smpT_row (ad : Addr) : Instr.fill (fun i => some (i * 14, 14)) zTy.toArray [(0, .agg (TyCells smpT (some ad) 1).toArray)] = some (TyCells smpT (some ad) 1).toArray := by kernel_rfl
theorem smpO_fill (k : Nat) (ad : Addr) : Instr.fill ((#[(0, 1), (1, 1), (2, 4), (6, 4), (10, 1), (11, 1), (12, 1), (13, 1), (14, 1), (15, 1)] : Array (Nat × Nat))[·]?) (Value.agg zOrd.toArray).cells [(0, .string (smpN k)), (1, .slice (some ad) 1 1), (2, .agg #[.int .i64 (-1), .int .i64 0, .int .i64 0, .int .i64 0]), (3, .agg #[.int .i64 0, .int .i64 0, .int .i64 50, .int .i64 0]), (5, .int .i64 9), (6, .int .i64 (2 - (k : Int))), (7, .int .i64 (-1)), (8, .int .i64 (-1))] = some (OrdCells (smpO k) (some ad) 1).toArray := by kernel_rfl
def smpCs (n : Nat) (T : Value) (O : Value) : List Value := [.slice (some ⟨n + 1, 0, none⟩) 1 1, .slice none 0 0, T, O, .slice (some ⟨n + 1 + 1, 0, none⟩) 1 1, .slice none 0 0]
theorem smpCs_one (n : Nat) (T O : Value) (h1 : T.oneCell' = true) (h2 : O.oneCell' = true) : ∀ u ∈ smpCs n T O, u.oneCell' = true := fun u hu => by
  simp only [smpCs, List.mem_cons, List.not_mem_nil, or_false] at hu
  rcases hu with rfl | rfl | rfl | rfl | rfl | rfl
  all_goals first | rfl | assumption
/-- What lies behind the first region. -/
structure SmpA (w wx : World) : Prop where
  res : SixAt wx w.heap.size nilCs
  pl : wx.heap[w.heap.size + 1]? = some (.cells #[.string ⟨#[65]⟩] 9 (0, 0))
  ap : wx.heap[w.heap.size + 1 + 1]? = some (.cells #[.int .i64 0, .int .i64 1] 88 (0, 0))
  box : SixAt wx (w.heap.size + 1 + 1 + 1) (smpCs w.heap.size (.slice none 0 0) (.slice none 0 0))
  bel : Below w.heap.size w wx
  sz : wx.heap.size = w.heap.size + 1 + 1 + 1 + 1
theorem stack4 (w : World) (a b c d : Obj) : ((((w.alloc a).alloc b).alloc c).alloc d).heap[w.heap.size]? = some a ∧ ((((w.alloc a).alloc b).alloc c).alloc d).heap[w.heap.size + 1]? = some b ∧ ((((w.alloc a).alloc b).alloc c).alloc d).heap[w.heap.size + 1 + 1]? = some c ∧ ((((w.alloc a).alloc b).alloc c).alloc d).heap[w.heap.size + 1 + 1 + 1]? = some d ∧ ((((w.alloc a).alloc b).alloc c).alloc d).heap.size = w.heap.size + 1 + 1 + 1 + 1 ∧ Below w.heap.size w ((((w.alloc a).alloc b).alloc c).alloc d) := by
  have e1 : (w.alloc a).heap.size = w.heap.size + 1 := World.size_alloc _ _
  have e2 : ((w.alloc a).alloc b).heap.size = w.heap.size + 1 + 1 := by rw [World.size_alloc, e1]
  have e3 : (((w.alloc a).alloc b).alloc c).heap.size = w.heap.size + 1 + 1 + 1 := by rw [World.size_alloc, e2]
  refine ⟨?_, ?_, ?_, ?_, by rw [World.size_alloc, e3], (((Below.refl _ _).alloc (Nat.le_refl _) _).alloc (by omega) _).alloc (by omega) _ |>.alloc (by omega) _⟩
  · rw [heap_old _ _ _ (by omega), heap_old _ _ _ (by omega), heap_old _ _ _ (by omega)]
    exact World.alloc_heap_new w a
  · rw [heap_old _ _ _ (by omega), heap_old _ _ _ (by omega), ← e1]
    exact World.alloc_heap_new _ b
  · rw [heap_old _ _ _ (by omega), ← e2]
    exact World.alloc_heap_new _ c
  · rw [← e3]
    exact World.alloc_heap_new _ d
theorem stack2 (w : World) (a b : Obj) : ((w.alloc a).alloc b).heap[w.heap.size]? = some a ∧ ((w.alloc a).alloc b).heap[w.heap.size + 1]? = some b ∧ ((w.alloc a).alloc b).heap.size = w.heap.size + 1 + 1 ∧ Below w.heap.size w ((w.alloc a).alloc b) := by
  have e1 : (w.alloc a).heap.size = w.heap.size + 1 := World.size_alloc _ _
  refine ⟨?_, ?_, by rw [World.size_alloc, e1], ((Below.refl _ _).alloc (Nat.le_refl _) _).alloc (by omega) _⟩
  · rw [heap_old _ _ _ (by omega)]
    exact World.alloc_heap_new w a
  · rw [← e1]
    exact World.alloc_heap_new _ b
/-- Where the loop stands: W is its start, p the box. -/
structure SmpS (w W : World) (p T : Nat) (k : Nat) (wr : World) (B : Option Addr) (d : Nat) (cs : List Value) : Prop where
  own : wr.ownsRow W.heap.size 42 16 (.slice B k d) k cs
  els : ElsIn ordEl wr (fun b => some b ≠ (Value.slice B k d).ownBlock ∧ W.heap.size ≤ b) cs ((List.range k).map smpO)
  box : SixAt wr p (smpCs w.heap.size (.slice (some ⟨T, 0, none⟩) 1 1) (.slice B k d))
  keep : ∀ b, b < W.heap.size → b ≠ p → wr.heap[b]? = W.heap[b]?
  bel : Below w.heap.size w wr
  sz : W.heap.size ≤ wr.heap.size
  lo : p < W.heap.size
theorem smp_step {wr Wa Wq w9 : World} {S : Nat} {v : Value} {p : Nat} {bx : List Value} (he : Wa = Wq) (ht : Wq.heap.size = wr.heap.size + 1 + 1 ∧ Below wr.heap.size wr Wq) (hlow : ∀ q, v.ownBlock = some q → S ≤ q ∧ q < wr.heap.size) (hbx : SixAt wr p bx) (hp : p < S) (hg : Wa.grownBy w9 v.ownBlock) : SixAt w9 p bx := by
  subst he
  have hlt : p < wr.heap.size := (Array.getElem?_eq_some_iff.1 hbx).1
  exact (hg.block p (by omega) (fun e => by have := hlow p (by first | exact e | exact e.symm); omega)).trans (hbx.below ht.2)
set_option maxRecDepth 20000 in
set_option maxHeartbeats 2000000 in
theorem sample_any (w : World) : Calls Tryz.prog 41 #[] w (SampleOut w) := by
  go_enter Tryz.func41, Tryz.ntmps41
  go_upto_region 1 with fail
  go_cut [1] (fun p wx => p = .pointer (some ⟨w.heap.size + 1 + 1 + 1, 0, none⟩) ∧ SmpA w wx)
  case first => as_aux_lemma =>
    go_wp2
    go_meet
    obtain ⟨h1, h2, h3, h4, h5, h6⟩ := stack4 w (.cells nilCs.toArray 30) (.cells #[.string ⟨#[65]⟩] 9) (.cells #[.int .i64 0, .int .i64 1] 88) (.cells (smpCs w.heap.size (.slice none 0 0) (.slice none 0 0)).toArray 30)
    exact ⟨rfl, h1, h2, h3, h4, h6, h5⟩
  obtain ⟨h1, hA⟩ := hcut
  subst h1
  have HA := Lib.hid hA
  have x2 : wc.cell? ⟨w.heap.size + 1 + 1 + 1, 2, none⟩ = some (.slice none 0 0) := hA.box.cell (j := 2) rfl
  have f2 : wc.frozen? ⟨w.heap.size + 1 + 1 + 1, 2, none⟩ = false := hA.box.frozen 2
  have hsz := hA.sz
  clear hA
  go_upto_region 2 with fail
  have HSZ := Lib.hid hsz
  have hsz2 : w.heap.size + 1 + 1 + 1 < wc.heap.size := by omega
  obtain ⟨t1, t2, t3, t4⟩ := stack2 wc (.cells #[.int .i64 5] 3) (.cells (TyCells smpT (some ⟨wc.heap.size, 0, none⟩) 1).toArray 53)
  have y2 : ((wc.alloc (.cells #[.int .i64 5] 3)).alloc (.cells (TyCells smpT (some ⟨wc.heap.size, 0, none⟩) 1).toArray 53)).cell? ⟨w.heap.size + 1 + 1 + 1, 2, none⟩ = some (.slice none 0 0) := (t4.cell (p := ⟨w.heap.size + 1 + 1 + 1, 2, none⟩) hsz2).trans x2
  have g2 : ((wc.alloc (.cells #[.int .i64 5] 3)).alloc (.cells (TyCells smpT (some ⟨wc.heap.size, 0, none⟩) 1).toArray 53)).frozen? ⟨w.heap.size + 1 + 1 + 1, 2, none⟩ = false := (t4.frozen (p := ⟨w.heap.size + 1 + 1 + 1, 2, none⟩) hsz2).trans f2
  have HT := Lib.hid (And.intro t1 (And.intro t2 (And.intro t3 t4)))
  clear hsz t1 t2 t3 t4 x2 f2
  go_cut [] (fun wx => wx = ((wc.alloc (.cells #[.int .i64 5] 3)).alloc (.cells (TyCells smpT (some ⟨wc.heap.size, 0, none⟩) 1).toArray 53)).setCell ⟨w.heap.size + 1 + 1 + 1, 2, none⟩ (.slice (some ⟨wc.heap.size + 1, 0, none⟩) 1 1))
  case first => as_aux_lemma =>
    go_wp2_with (first
      | ((with_reducible refine wpList_buildL bTy rfl _ rfl _ (TyCells smpT (some ⟨wc.heap.size, 0, none⟩) 1) ?_ (smpT_fill _) ?_); exact rfl)
      | ((with_reducible refine wpList_bsliceL ty_elem rfl 1 _ rfl _ (TyCells smpT (some ⟨wc.heap.size, 0, none⟩) 1) zTy ?_ (by decide) (by decide) ty_range (smpT_row _) ?_); exact rfl))
    go_meet
    exact rfl
  clear y2 g2
  rename World => W2
  have hW2 := hcut
  clear hcut
  obtain ⟨t1, t2, t3, t4⟩ := HT.out
  have b2 : SixAt W2 (w.heap.size + 1 + 1 + 1) (smpCs w.heap.size (.slice (some ⟨wc.heap.size + 1, 0, none⟩) 1 1) (.slice none 0 0)) := by
    rw [hW2]
    exact (HA.out.box.below t4).set 2 _
  have hk2 : ∀ b, b < wc.heap.size + 1 + 1 → b ≠ w.heap.size + 1 + 1 + 1 → W2.heap[b]? = ((wc.alloc (.cells #[.int .i64 5] 3)).alloc (.cells (TyCells smpT (some ⟨wc.heap.size, 0, none⟩) 1).toArray 53)).heap[b]? := fun b _ hne => by
    rw [hW2]
    exact Below.heap_setCell _ ⟨w.heap.size + 1 + 1 + 1, 2, none⟩ _ b hne
  have hs2 : W2.heap.size = wc.heap.size + 1 + 1 := by rw [hW2]; simp
  have hB2 : Below w.heap.size w W2 := by
    rw [hW2]
    exact (HA.out.bel.trans (t4.mono (by omega))).setCell (p := ⟨w.heap.size + 1 + 1 + 1, 2, none⟩) (by show w.heap.size ≤ w.heap.size + 1 + 1 + 1; omega) _
  obtain ⟨n, hn⟩ : ∃ n, w.heap.size = n := ⟨_, rfl⟩
  have e0 : W2.heap[n]? = some (.cells nilCs.toArray 30 (0, 0)) := by rw [← hn]; exact (hk2 _ (by omega) (by omega)).trans ((t4.block _ (by omega)).trans HA.out.res)
  have e1 : W2.heap[n + 1]? = some (.cells #[.string ⟨#[65]⟩] 9 (0, 0)) := by rw [← hn]; exact (hk2 _ (by omega) (by omega)).trans ((t4.block _ (by omega)).trans HA.out.pl)
  have e2 : W2.heap[n + 1 + 1]? = some (.cells #[.int .i64 0, .int .i64 1] 88 (0, 0)) := by rw [← hn]; exact (hk2 _ (by omega) (by omega)).trans ((t4.block _ (by omega)).trans HA.out.ap)
  have hwc : wc.heap.size = n + 1 + 1 + 1 + 1 := by rw [← hn]; exact HSZ.out
  have e4 : W2.heap[n + 1 + 1 + 1 + 1]? = some (.cells #[.int .i64 5] 3 (0, 0)) := by rw [← hwc]; exact (hk2 _ (by omega) (by omega)).trans t1
  have e5 : W2.heap[n + 1 + 1 + 1 + 1 + 1]? = some (.cells (TyCells smpT (some ⟨n + 1 + 1 + 1 + 1, 0, none⟩) 1).toArray 53 (0, 0)) := by
    rw [← hwc]
    exact (hk2 _ (by omega) (by omega)).trans t2
  rw [hwc] at hs2 b2
  have HE := Lib.hid (And.intro e0 (And.intro e1 (And.intro e2 (And.intro e4 (And.intro e5 (And.intro b2 (And.intro hs2 (And.intro hB2 hn))))))))
  rw [hn]
  clear e0 e1 e2 e4 e5 b2 hk2 t1 t2 t3 t4 hW2 HT HA HSZ hsz2 hs2 hB2 hn hwc
  go_upto_region 4 with fail
  obtain ⟨W3, hW3⟩ : ∃ W3, W2.alloc (.cells #[.string ⟨#[111]⟩, .string ⟨#[112]⟩] 9) = W3 := ⟨_, rfl⟩
  obtain ⟨e0, e1, e2, e4, e5, b2, hs2, hB2, hn⟩ := HE.out
  have hb3 : Below W2.heap.size W2 W3 := by rw [← hW3]; exact (Below.refl _ _).alloc (Nat.le_refl _) _
  have e6 : W3.heap[n + 1 + 1 + 1 + 1 + 1 + 1]? = some (.cells #[.string ⟨#[111]⟩, .string ⟨#[112]⟩] 9 (0, 0)) := by rw [← hW3, ← hs2]; exact World.alloc_heap_new W2 _
  have hs3 : W3.heap.size = n + 1 + 1 + 1 + 1 + 1 + 1 + 1 := by rw [← hW3, World.size_alloc, hs2]
  rw [hn] at b2
  have hS3 : SmpS w W3 (n + 1 + 1 + 1) (n + 1 + 1 + 1 + 1 + 1) 0 W3 none 0 [] := ⟨World.ownsRow_nil _ _ _ _, .nil, by rw [hn]; exact b2.below hb3, fun b _ _ => rfl, hB2.trans (hb3.mono (by omega)), Nat.le_refl _, by omega⟩
  have HS3 := Lib.hid hS3
  have HE3 := Lib.hid (And.intro ((hb3.block _ (by omega)).trans e0) (And.intro ((hb3.block _ (by omega)).trans e1) (And.intro ((hb3.block _ (by omega)).trans e2) (And.intro ((hb3.block _ (by omega)).trans e4) (And.intro ((hb3.block _ (by omega)).trans e5) (And.intro e6 (And.intro hs3 hn)))))))
  rw [hW3, hs2]
  clear e0 e1 e2 e4 e5 e6 b2 hs2 hB2 hn hb3 hs3 hS3 hW3 HE
  go_loopw [2, 3, 15] (fun _ _ i wr => ∃ (k : Nat) (B : Option Addr) (d : Nat) (cs : List Value), k ≤ 2 ∧ i = .int .i64 k ∧ Hid (SmpS w W3 (n + 1 + 1 + 1) (n + 1 + 1 + 1 + 1 + 1) k wr B d cs)) (fun _ _ i _ => 2 - (intOf i).toNat)
  case atStart => exact ⟨0, none, 0, [], by omega, rfl, HS3⟩
  case round =>
    clear HS3
    obtain ⟨k, B, d, cs, hk, rfl, HS⟩ := hrel
    by_cases hlt : k < 2
    · obtain ⟨e0, e1, e2, e4, e5, e6, hs3, hn⟩ := HE3.out
      have c6 : wr.cell? ⟨n + 1 + 1 + 1 + 1 + 1 + 1, k, none⟩ = some (.string (smpN k)) := by
        have h := (HS.out.keep _ (by omega) (by omega)).trans e6
        unfold World.cell?
        rw [h]
        have : k = 0 ∨ k = 1 := by omega
        rcases this with rfl | rfl <;> rfl
      have hz := HS.out.sz
      have hk0 : (0 : Int) ≤ (k : Int) := by omega
      have hk2 : (k : Int) < 2 := by omega
      clear e0 e1 e2 e4 e5 e6
      go_upto_region 6 with fail
      clear c6
      have x3 : wr.cell? ⟨n + 1 + 1 + 1, 3, none⟩ = some (.slice B k d) := HS.out.box.cell (j := 3) rfl
      obtain ⟨Wq, hWq⟩ : ∃ Wq, (wr.alloc (.cells #[.int .i64 7] 3)).alloc (.cells (OrdCells (smpO k) (some ⟨wr.heap.size, 0, none⟩) 1).toArray 42) = Wq := ⟨_, rfl⟩
      obtain ⟨t1, t2, t3, t4⟩ := stack2 wr (.cells #[.int .i64 7] 3) (.cells (OrdCells (smpO k) (some ⟨wr.heap.size, 0, none⟩) 1).toArray 42)
      rw [hWq] at t1 t2 t3 t4
      have hlow : ∀ q, (Value.slice B k d).ownBlock = some q → W3.heap.size ≤ q ∧ q < wr.heap.size := fun q e => World.ownsRow.lt HS.out.own q e
      have hio : IntsOff Wq (fun b => some b ≠ (Value.slice B k d).ownBlock ∧ W3.heap.size ≤ b) (some ⟨wr.heap.size, 0, none⟩) (ordEl (smpO k)).nums := ⟨ints_blk (l := [7]) t1 (by omega) (by decide), fun _ => ⟨_, rfl, fun e => absurd (hlow _ e.symm).2 (Nat.lt_irrefl _), hz⟩⟩
      have hels : ElsIn ordEl Wq (fun b => some b ≠ (Value.slice B k d).ownBlock ∧ W3.heap.size ≤ b) cs ((List.range k).map smpO) := HS.out.els.stay (row := none) (Stays.below t4) (fun b _ _ e => by cases e) (fun b _ h => h)
      have HQ := Lib.hid (And.intro hio (And.intro hels (And.intro hlow (And.intro t3 t4))))
      have HOW : Hid (((wr.alloc (.cells #[.int .i64 7] 3)).alloc (.cells (OrdCells (smpO k) (some ⟨wr.heap.size, 0, none⟩) 1).toArray 42)).ownsRow W3.heap.size 42 16 (.slice B k d) k cs) := Lib.hid (by rw [hWq]; exact own_below HS.out.own t4)
      have HZW : Hid (W3.heap.size ≤ ((wr.alloc (.cells #[.int .i64 7] 3)).alloc (.cells (OrdCells (smpO k) (some ⟨wr.heap.size, 0, none⟩) 1).toArray 42)).heap.size) := Lib.hid (by rw [hWq]; omega)
      have HNW : Hid (∀ j u, (OrdCells (smpO k) (some ⟨wr.heap.size, 0, none⟩) 1)[j]? = some u → ((wr.alloc (.cells #[.int .i64 7] 3)).alloc (.cells (OrdCells (smpO k) (some ⟨wr.heap.size, 0, none⟩) 1).toArray 42)).cell? ((⟨(wr.alloc (.cells #[.int .i64 7] 3)).heap.size, 0, none⟩ : Addr).add j) = some u) := Lib.hid (fun j u hu => by
        rw [hWq, World.size_alloc]
        exact World.news_of_block (w := Wq) (B := wr.heap.size + 1) t2 j u (by simpa using hu))
      have HWQ := Lib.hid hWq
      clear hWq t1 t2 t3 t4 hlow hio hels
      go_wp2_with (first
        | ((with_reducible refine wpList_buildL bOrd rfl _ rfl _ (OrdCells (smpO k) (some ⟨wr.heap.size, 0, none⟩) 1) ?_ (smpO_fill k _) ?_); exact rfl)
        | ((with_reducible refine wpList_bsliceL ord_elem rfl 1 _ rfl _ (OrdCells (smpO k) (some ⟨wr.heap.size, 0, none⟩) 1) ordZs ?_ (by decide) (by decide) ord_zs (ord_fill1 _ _ _) ?_); exact rfl)
        | (at_builtin; go_loud (refine wpList_app ord_elem _ _ rfl W3.heap.size B k d cs rfl HOW.out ⟨(wr.alloc (.cells #[.int .i64 7] 3)).heap.size, 0, none⟩ 1 (OrdCells (smpO k) (some ⟨wr.heap.size, 0, none⟩) 1) rfl rfl HNW.out (ordCells_one _ _ _) (by omega) HZW.out rfl ?_); intro g9 c9 w9 hown9 hg9 hd9; have HK9 := Lib.hid (And.intro hown9 (And.intro hg9 hd9)); clear hown9 hg9 hd9; (go_loud (have HB9 := Lib.hid (smp_step HWQ.out HQ.out.2.2.2 HQ.out.2.2.1 HS.out.box (by omega) HK9.out.2.1))); (go_loud (have x39 : w9.cell? ⟨n + 1 + 1 + 1, 3, none⟩ = some (.slice B k d) := HB9.out.cell (j := 3) rfl)); (go_loud (have f39 : w9.frozen? ⟨n + 1 + 1 + 1, 3, none⟩ = false := HB9.out.frozen 3))))
      have hq := HQ.out
      have hw := HK9.out
      rw [HWQ.out] at hw
      have hE9 := push_els (f := ordEl) (x := smpO k) (v := .slice B k d) 1 hq.2.1 hq.1 hw.2.1 hw.2.2
      have hz9 := hw.2.1.size
      have hp3 : (n + 1 + 1 + 1) < W3.heap.size := by omega
      have hb9 : Below w.heap.size w w9 := (HS.out.bel.trans (hq.2.2.2.2.mono (by have := HS.out.bel.size; omega))).grown hw.2.1 (by have := HS.out.bel.size; omega) (fun q e => by have := hq.2.2.1 q e; omega)
      have hS9 : SmpS w W3 (n + 1 + 1 + 1) (n + 1 + 1 + 1 + 1 + 1) (k + 1) (w9.setCell ⟨n + 1 + 1 + 1, 3, none⟩ (.slice (some ⟨g9, 0, none⟩) (k + 1) c9)) (some ⟨g9, 0, none⟩) c9 (cs ++ OrdCells (smpO k) (some ⟨wr.heap.size, 0, none⟩) 1) := by
        refine ⟨ownsRow_setCell_below (a := ⟨n + 1 + 1 + 1, 3, none⟩) hw.1 hp3 _, ?_, HB9.out.set 3 _, fun b hb hne => ?_, hb9.setCell (p := ⟨n + 1 + 1 + 1, 3, none⟩) (by show w.heap.size ≤ n + 1 + 1 + 1; omega) _, by simp; omega, hp3⟩
        · rw [List.range_succ, List.map_append]
          refine ElsIn.keep hE9 (by simp) (fun b _ hp => ⟨hp, Below.heap_setCell _ ⟨n + 1 + 1 + 1, 3, none⟩ _ b (by show b ≠ n + 1 + 1 + 1; omega)⟩)
        · refine (Below.heap_setCell _ ⟨n + 1 + 1 + 1, 3, none⟩ _ b hne).trans ((hw.2.1.block b (by omega) (fun e => by have := hq.2.2.1 b (by first | exact e | exact e.symm); omega)).trans ((hq.2.2.2.2.block b (by omega)).trans (HS.out.keep b hb hne)))
      exact ⟨⟨k + 1, _, _, _, by omega, by go_num, Lib.hid hS9⟩, by simp [intOf]; omega⟩
    · have hk2 : k = 2 := by omega
      subst hk2
      clear hlt
      obtain ⟨e0, e1, e2, e4, e5, e6, hs3, hn⟩ := HE3.out
      have hrs : SixAt wr n nilCs := (HS.out.keep n (by omega) (by omega)).trans e0
      have HRS := Lib.hid hrs
      have HONE : Hid (∀ A n c, (Value.slice A n c).oneCell' = true) := Lib.hid (fun _ _ _ => rfl)
      clear e0 e1 e2 e4 e5 e6 hrs
      go_wp2_with (first
        | ((with_reducible refine wpList_loadG stIns _ rfl ⟨n + 1 + 1 + 1, 0, none⟩ (smpCs w.heap.size (.slice (some ⟨n + 1 + 1 + 1 + 1 + 1, 0, none⟩) 1 1) (.slice B 2 d)) ?_ ?_ ?_ ?_ ?_); exact rfl; exact rfl; exact HS.out.box.cells; exact rfl)
        | ((with_reducible refine wpList_storeL stIns rfl _ _ rfl n nilCs (smpCs w.heap.size (.slice (some ⟨n + 1 + 1 + 1 + 1 + 1, 0, none⟩) 1 1) (.slice B 2 d)) ?_ ?_ ?_ ?_ ?_ (smpCs_one _ _ _ (HONE.out _ _ _) (HONE.out _ _ _)) ?_); exact rfl; exact rfl; exact HRS.out; exact rfl; exact rfl; intro w4 k1 k2 k3 k4; have K := Lib.hid (And.intro k1 (And.intro k2 (And.intro k3 k4))); clear k1 k2 k3 k4))
      obtain ⟨k1, k2, k3, k4⟩ := K.out
      have hsix : SixAt w4 n (smpCs w.heap.size (.slice (some ⟨n + 1 + 1 + 1 + 1 + 1, 0, none⟩) 1 1) (.slice B 2 d)) := k1
      have c0 : w4.cell? ⟨n, 0, none⟩ = some (.slice (some ⟨w.heap.size + 1, 0, none⟩) 1 1) := hsix.cell (j := 0) rfl
      have c1 : w4.cell? ⟨n, 1, none⟩ = some (.slice none 0 0) := hsix.cell (j := 1) rfl
      have c2 : w4.cell? ⟨n, 2, none⟩ = some (.slice (some ⟨n + 1 + 1 + 1 + 1 + 1, 0, none⟩) 1 1) := hsix.cell (j := 2) rfl
      have c3 : w4.cell? ⟨n, 3, none⟩ = some (.slice B 2 d) := hsix.cell (j := 3) rfl
      have c4 : w4.cell? ⟨n, 4, none⟩ = some (.slice (some ⟨w.heap.size + 1 + 1, 0, none⟩) 1 1) := hsix.cell (j := 4) rfl
      have c5 : w4.cell? ⟨n, 5, none⟩ = some (.slice none 0 0) := hsix.cell (j := 5) rfl
      refine bodyPost_ret (v := InV smpI ⟨some ⟨w.heap.size + 1, 0, none⟩, 1, none, 0, some ⟨n + 1 + 1 + 1 + 1 + 1, 0, none⟩, 1, B, d, some ⟨w.heap.size + 1 + 1, 0, none⟩, 1, none, 0⟩) (by simp [results, Tryz.results41, go_sem, InV, smpI, c0, c1, c2, c3, c4, c5]) rfl ?_
      obtain ⟨e0, e1, e2, e4, e5, e6, -, -⟩ := HE3.out
      have K : ∀ b, b < W3.heap.size → b ≠ n + 1 + 1 + 1 → b ≠ n → w4.heap[b]? = W3.heap[b]? := fun b h1 h2 h3 => (k2 b h3).trans (HS.out.keep b h1 h2)
      have hzr := HS.out.sz
      have f1 := (K (n + 1) (by omega) (by omega) (by omega)).trans e1
      have f2 := (K (n + 1 + 1) (by omega) (by omega) (by omega)).trans e2
      have f4 := (K (n + 1 + 1 + 1 + 1) (by omega) (by omega) (by omega)).trans e4
      have f5 := (K (n + 1 + 1 + 1 + 1 + 1) (by omega) (by omega) (by omega)).trans e5
      have hE4 : ElsIn ordEl w4 (fun b => some b ≠ (Value.slice B 2 d).ownBlock ∧ W3.heap.size ≤ b) cs [smpO 0, smpO 1] := ElsIn.keep HS.out.els (by omega) (fun b _ hp => ⟨hp, k2 b (by omega)⟩)
      have hO4 := own_other HS.out.own k2 (by omega)
      have hB4 : Below w.heap.size w w4 := HS.out.bel.trans (k4.mono (by omega))
      refine ⟨_, rfl, ⟨?_, RowAt.nil, ?_, ?_, ?_, RowAt.nil, Nat.le_refl 1, own_len_cap hO4, Nat.le_refl 1, Nat.le_refl 0⟩, hB4⟩
      · rw [hn]
        exact row_blk (r := rStr) (cs := [.string ⟨#[65]⟩]) f1 (by omega) ⟨rfl, by decide⟩
      · exact row_blk (r := rTy) f5 (by omega) (rTy_mk (ints_blk (l := [5]) f4 (by omega) (by decide)) smpT_fits)
      · exact hE4.row (r := rOrd) (fun o A c => rfl) hO4 (fun o ho A c hi => rOrd_mk hi (by
          simp only [List.mem_cons, List.not_mem_nil, or_false] at ho
          rcases ho with rfl | rfl
          · exact smpO_fits 0 (by decide)
          · exact smpO_fits 1 (by decide))) (by decide)
      · rw [hn]
        exact row_blk (r := rPair rInt rInt) (cs := [.int .i64 0] ++ [.int .i64 1]) f2 (by omega) ⟨_, _, rfl, ⟨rfl, by decide⟩, ⟨rfl, by decide⟩⟩
end Go.Proofs.YtceceomaheobhaaGreatDoor.spl

import Derived.Test.YtceceomaheobhaaSplF
import Derived.Test.YtceceomaheobhaaInsG
import Derived.Deep.DeepCutAuto
import Derived.Outline
import Derived.Test.YtceceomaheobhaaBase
import Derived.Test.YtceceomaheobhaaSplJ
import Derived.Test.YtceceomaheobhaaSplN
import Derived.Deep.CutBlock
import Derived.Test.YtceceomaheobhaaSplA
import Derived.Test.YtceceomaheobhaaFitW
import Derived.Deep.RegionWith
import Derived.Deep.RegionHeld3
import Derived.ProofKit
import Derived.OpenShut
import Derived.SizedLaws
import Derived.ShutString
import Derived.ChangeOld
import Derived.Below
import Derived.Lib.SmallJoins
import Derived.Deep.Slices
import Derived.Carry
/- The sample instance. -/
namespace Go.Proofs.Ytceceomaheobhaa.spl
open Go.RowKit
open Go.Proofs.Ytceceomaheobhaa.lib Go.Proofs.Ytceceomaheobhaa.rd Go.Proofs.Ytceceomaheobhaa.app Go.Proofs.Ytceceomaheobhaa.els Go.Proofs.Ytceceomaheobhaa.loads Go.Proofs.Ytceceomaheobhaa.typ Go.Proofs.Ytceceomaheobhaa.big Go.Proofs.Ytceceomaheobhaa.ins Go.Proofs.Ytceceomaheobhaa.ord Go.Proofs.Ytceceomaheobhaa.flts
set_option linter.unusedVariables false
set_option linter.unusedSimpArgs false

def smpN (k : Nat) : ByteArray := if k = 0 then ⟨#[111]⟩ else ⟨#[112]⟩
def smpO (k : Nat) : Ord := ⟨smpN k, [7], ⟨-1, 0, 0, 0⟩, ⟨0, 0, 50, 0⟩, 0, 9, 2 - (k : Int), -1, -1, false⟩
def smpT : Ty := ⟨⟨#[118]⟩, 2, 0, 0, [5], 0, 0, 0, 100, 100, 0, 0, 0, 0⟩
def smpI : Ins := ⟨⟨[⟨#[65]⟩], []⟩, [smpT], [smpO 0, smpO 1], [(0, 1)], []⟩
theorem smpT_fits : TyFits smpT := by unfold TyFits smpT; decide
theorem smpO_fits (k : Nat) (h : k < 2) : OrdFits (smpO k) := by
  have : k = 0 ∨ k = 1 := by omega
  rcases this with rfl | rfl
  all_goals unfold OrdFits StpFits smpO; decide
def SampleOut (w : World) (e : Ending) (w' : World) : Prop := ∃ P : InP, e = .returned (InV smpI P) ∧ InAt w' w'.heap.size smpI P ∧ Below w.heap.size w w'
theorem smpT_fill (ad : Addr) : Instr.fill ((#[(0, 1), (1, 1), (2, 1), (3, 1), (4, 1), (5, 1), (6, 1), (7, 1), (8, 1), (9, 1), (10, 1), (11, 1), (12, 1), (13, 1)] : Array (Nat × Nat))[·]?) (Value.agg zTy.toArray).cells [(0, .string ⟨#[118]⟩), (1, .int .i64 2), (4, .slice (some ad) 1 1), (8, .int .i64 100), (9, .int .i64 100)] = some (TyCells smpT (some ad) 1).toArray := by kernel_rfl
theorem smpT_row (ad : Addr) : Instr.fill (fun i => some (i * 14, 14)) zTy.toArray [(0, .agg (TyCells smpT (some ad) 1).toArray)] = some (TyCells smpT (some ad) 1).toArray := by kernel_rfl
theorem smpO_fill (k : Nat) (ad : Addr) : Instr.fill ((#[(0, 1), (1, 1), (2, 4), (6, 4), (10, 1), (11, 1), (12, 1), (13, 1), (14, 1), (15, 1)] : Array (Nat × Nat))[·]?) (Value.agg zOrd.toArray).cells [(0, .string (smpN k)), (1, .slice (some ad) 1 1), (2, .agg #[.int .i64 (-1), .int .i64 0, .int .i64 0, .int .i64 0]), (3, .agg #[.int .i64 0, .int .i64 0, .int .i64 50, .int .i64 0]), (5, .int .i64 9), (6, .int .i64 (2 - (k : Int))), (7, .int .i64 (-1)), (8, .int .i64 (-1))] = some (OrdCells (smpO k) (some ad) 1).toArray := by kernel_rfl
def smpCs (n : Nat) (T : Value) (O : Value) : List Value := [.slice (some ⟨n + 1, 0, none⟩) 1 1, .slice none 0 0, T, O, .slice (some ⟨n + 1 + 1, 0, none⟩) 1 1, .slice none 0 0]
theorem smpCs_one (n : Nat) (T O : Value) (h1 : T.oneCell' = true) (h2 : O.oneCell' = true) : ∀ u ∈ smpCs n T O, u.oneCell' = true := fun u hu => by
  simp only [smpCs, List.mem_cons, List.not_mem_nil, or_false] at hu
  rcases hu with rfl | rfl | rfl | rfl | rfl | rfl
  all_goals first | rfl | assumption
/-- What lies behind the first region. -/
structure SmpA (w wx : World) : Prop where
  res : SixAt wx w.heap.size nilCs
  pl : wx.heap[w.heap.size + 1]? = some (.cells #[.string ⟨#[65]⟩] 9 (0, 0))
  ap : wx.heap[w.heap.size + 1 + 1]? = some (.cells #[.int .i64 0, .int .i64 1] 76 (0, 0))
  box : SixAt wx (w.heap.size + 1 + 1 + 1) (smpCs w.heap.size (.slice none 0 0) (.slice none 0 0))
  bel : Below w.heap.size w wx
  sz : wx.heap.size = w.heap.size + 1 + 1 + 1 + 1
theorem stack4 (w : World) (a b c d : Obj) : ((((w.alloc a).alloc b).alloc c).alloc d).heap[w.heap.size]? = some a ∧ ((((w.alloc a).alloc b).alloc c).alloc d).heap[w.heap.size + 1]? = some b ∧ ((((w.alloc a).alloc b).alloc c).alloc d).heap[w.heap.size + 1 + 1]? = some c ∧ ((((w.alloc a).alloc b).alloc c).alloc d).heap[w.heap.size + 1 + 1 + 1]? = some d ∧ ((((w.alloc a).alloc b).alloc c).alloc d).heap.size = w.heap.size + 1 + 1 + 1 + 1 ∧ Below w.heap.size w ((((w.alloc a).alloc b).alloc c).alloc d) := by
  have e1 : (w.alloc a).heap.size = w.heap.size + 1 := World.size_alloc _ _
  have e2 : ((w.alloc a).alloc b).heap.size = w.heap.size + 1 + 1 := by rw [World.size_alloc, e1]
  have e3 : (((w.alloc a).alloc b).alloc c).heap.size = w.heap.size + 1 + 1 + 1 := by rw [World.size_alloc, e2]
  refine ⟨?_, ?_, ?_, ?_, by rw [World.size_alloc, e3], (((Below.refl _ _).alloc (Nat.le_refl _) _).alloc (by omega) _).alloc (by omega) _ |>.alloc (by omega) _⟩
  · rw [heap_old _ _ _ (by omega), heap_old _ _ _ (by omega), heap_old _ _ _ (by omega)]
    exact World.alloc_heap_new w a
  · rw [heap_old _ _ _ (by omega), heap_old _ _ _ (by omega), ← e1]
    exact World.alloc_heap_new _ b
  · rw [heap_old _ _ _ (by omega), ← e2]
    exact World.alloc_heap_new _ c
  · rw [← e3]
    exact World.alloc_heap_new _ d
theorem stack2 (w : World) (a b : Obj) : ((w.alloc a).alloc b).heap[w.heap.size]? = some a ∧ ((w.alloc a).alloc b).heap[w.heap.size + 1]? = some b ∧ ((w.alloc a).alloc b).heap.size = w.heap.size + 1 + 1 ∧ Below w.heap.size w ((w.alloc a).alloc b) := by
  have e1 : (w.alloc a).heap.size = w.heap.size + 1 := World.size_alloc _ _
  refine ⟨?_, ?_, by rw [World.size_alloc, e1], ((Below.refl _ _).alloc (Nat.le_refl _) _).alloc (by omega) _⟩
  · rw [heap_old _ _ _ (by omega)]
    exact World.alloc_heap_new w a
  · rw [← e1]
    exact World.alloc_heap_new _ b
/-- Where the loop stands: W is its start, p the box. -/
structure SmpS (w W : World) (p T : Nat) (k : Nat) (wr : World) (B : Option Addr) (d : Nat) (cs : List Value) : Prop where
  own : wr.ownsRow W.heap.size 75 16 (.slice B k d) k cs
  els : ElsIn ordEl wr (fun b => some b ≠ (Value.slice B k d).ownBlock ∧ W.heap.size ≤ b) cs ((List.range k).map smpO)
  box : SixAt wr p (smpCs w.heap.size (.slice (some ⟨T, 0, none⟩) 1 1) (.slice B k d))
  keep : ∀ b, b < W.heap.size → b ≠ p → wr.heap[b]? = W.heap[b]?
  bel : Below w.heap.size w wr
  sz : W.heap.size ≤ wr.heap.size
  lo : p < W.heap.size
theorem smp_step {wr Wa Wq w9 : World} {S : Nat} {v : Value} {p : Nat} {bx : List Value} (he : Wa = Wq) (ht : Wq.heap.size = wr.heap.size + 1 + 1 ∧ Below wr.heap.size wr Wq) (hlow : ∀ q, v.ownBlock = some q → S ≤ q ∧ q < wr.heap.size) (hbx : SixAt wr p bx) (hp : p < S) (hg : Wa.grownBy w9 v.ownBlock) : SixAt w9 p bx := by
  subst he
  have hlt : p < wr.heap.size := (Array.getElem?_eq_some_iff.1 hbx).1
  exact (hg.block p (by omega) (fun e => by have := hlow p (by first | exact e | exact e.symm); omega)).trans (hbx.below ht.2)
set_option maxRecDepth 20000 in
set_option maxHeartbeats 2000000 in
theorem sample_any (w : World) : Calls Try.prog 26 #[] w (SampleOut w) := by
  go_enter Try.func26, Try.ntmps26
  go_upto_region 1 with fail
  go_cut [1] (fun p wx => p = .pointer (some ⟨w.heap.size + 1 + 1 + 1, 0, none⟩) ∧ SmpA w wx)
  case first => as_aux_lemma =>
    go_wp2
    go_meet
    obtain ⟨h1, h2, h3, h4, h5, h6⟩ := stack4 w (.cells nilCs.toArray 38) (.cells #[.string ⟨#[65]⟩] 9) (.cells #[.int .i64 0, .int .i64 1] 76) (.cells (smpCs w.heap.size (.slice none 0 0) (.slice none 0 0)).toArray 38)
    exact ⟨rfl, h1, h2, h3, h4, h6, h5⟩
  obtain ⟨h1, hA⟩ := hcut
  subst h1
  have HA := Lib.hid hA
  have x2 : wc.cell? ⟨w.heap.size + 1 + 1 + 1, 2, none⟩ = some (.slice none 0 0) := hA.box.cell (j := 2) rfl
  have f2 : wc.frozen? ⟨w.heap.size + 1 + 1 + 1, 2, none⟩ = false := hA.box.frozen 2
  have hsz := hA.sz
  clear hA
  go_upto_region 2 with fail
  have HSZ := Lib.hid hsz
  have hsz2 : w.heap.size + 1 + 1 + 1 < wc.heap.size := by omega
  obtain ⟨t1, t2, t3, t4⟩ := stack2 wc (.cells #[.int .i64 5] 3) (.cells (TyCells smpT (some ⟨wc.heap.size, 0, none⟩) 1).toArray 94)
  have y2 : ((wc.alloc (.cells #[.int .i64 5] 3)).alloc (.cells (TyCells smpT (some ⟨wc.heap.size, 0, none⟩) 1).toArray 94)).cell? ⟨w.heap.size + 1 + 1 + 1, 2, none⟩ = some (.slice none 0 0) := (t4.cell (p := ⟨w.heap.size + 1 + 1 + 1, 2, none⟩) hsz2).trans x2
  have g2 : ((wc.alloc (.cells #[.int .i64 5] 3)).alloc (.cells (TyCells smpT (some ⟨wc.heap.size, 0, none⟩) 1).toArray 94)).frozen? ⟨w.heap.size + 1 + 1 + 1, 2, none⟩ = false := (t4.frozen (p := ⟨w.heap.size + 1 + 1 + 1, 2, none⟩) hsz2).trans f2
  have HT := Lib.hid (And.intro t1 (And.intro t2 (And.intro t3 t4)))
  clear hsz t1 t2 t3 t4 x2 f2
  go_cut [] (fun wx => wx = ((wc.alloc (.cells #[.int .i64 5] 3)).alloc (.cells (TyCells smpT (some ⟨wc.heap.size, 0, none⟩) 1).toArray 94)).setCell ⟨w.heap.size + 1 + 1 + 1, 2, none⟩ (.slice (some ⟨wc.heap.size + 1, 0, none⟩) 1 1))
  case first => as_aux_lemma =>
    go_wp2_with (first
      | ((with_reducible refine wpList_buildL bTy rfl _ rfl _ (TyCells smpT (some ⟨wc.heap.size, 0, none⟩) 1) ?_ (smpT_fill _) ?_); exact rfl)
      | ((with_reducible refine wpList_bsliceL ty_elem rfl 1 _ rfl _ (TyCells smpT (some ⟨wc.heap.size, 0, none⟩) 1) zTy ?_ (by decide) (by decide) ty_range (smpT_row _) ?_); exact rfl))
    go_meet
    exact rfl
  clear y2 g2
  rename World => W2
  have hW2 := hcut
  clear hcut
  obtain ⟨t1, t2, t3, t4⟩ := HT.out
  have b2 : SixAt W2 (w.heap.size + 1 + 1 + 1) (smpCs w.heap.size (.slice (some ⟨wc.heap.size + 1, 0, none⟩) 1 1) (.slice none 0 0)) := by
    rw [hW2]
    exact (HA.out.box.below t4).set 2 _
  have hk2 : ∀ b, b < wc.heap.size + 1 + 1 → b ≠ w.heap.size + 1 + 1 + 1 → W2.heap[b]? = ((wc.alloc (.cells #[.int .i64 5] 3)).alloc (.cells (TyCells smpT (some ⟨wc.heap.size, 0, none⟩) 1).toArray 94)).heap[b]? := fun b _ hne => by
    rw [hW2]
    exact Below.heap_setCell _ ⟨w.heap.size + 1 + 1 + 1, 2, none⟩ _ b hne
  have hs2 : W2.heap.size = wc.heap.size + 1 + 1 := by rw [hW2]; simp
  have hB2 : Below w.heap.size w W2 := by
    rw [hW2]
    exact (HA.out.bel.trans (t4.mono (by omega))).setCell (p := ⟨w.heap.size + 1 + 1 + 1, 2, none⟩) (by show w.heap.size ≤ w.heap.size + 1 + 1 + 1; omega) _
  obtain ⟨n, hn⟩ : ∃ n, w.heap.size = n := ⟨_, rfl⟩
  have e0 : W2.heap[n]? = some (.cells nilCs.toArray 38 (0, 0)) := by rw [← hn]; exact (hk2 _ (by omega) (by omega)).trans ((t4.block _ (by omega)).trans HA.out.res)
  have e1 : W2.heap[n + 1]? = some (.cells #[.string ⟨#[65]⟩] 9 (0, 0)) := by rw [← hn]; exact (hk2 _ (by omega) (by omega)).trans ((t4.block _ (by omega)).trans HA.out.pl)
  have e2 : W2.heap[n + 1 + 1]? = some (.cells #[.int .i64 0, .int .i64 1] 76 (0, 0)) := by rw [← hn]; exact (hk2 _ (by omega) (by omega)).trans ((t4.block _ (by omega)).trans HA.out.ap)
  have hwc : wc.heap.size = n + 1 + 1 + 1 + 1 := by rw [← hn]; exact HSZ.out
  have e4 : W2.heap[n + 1 + 1 + 1 + 1]? = some (.cells #[.int .i64 5] 3 (0, 0)) := by rw [← hwc]; exact (hk2 _ (by omega) (by omega)).trans t1
  have e5 : W2.heap[n + 1 + 1 + 1 + 1 + 1]? = some (.cells (TyCells smpT (some ⟨n + 1 + 1 + 1 + 1, 0, none⟩) 1).toArray 94 (0, 0)) := by
    rw [← hwc]
    exact (hk2 _ (by omega) (by omega)).trans t2
  rw [hwc] at hs2 b2
  have HE := Lib.hid (And.intro e0 (And.intro e1 (And.intro e2 (And.intro e4 (And.intro e5 (And.intro b2 (And.intro hs2 (And.intro hB2 hn))))))))
  rw [hn]
  clear e0 e1 e2 e4 e5 b2 hk2 t1 t2 t3 t4 hW2 HT HA HSZ hsz2 hs2 hB2 hn hwc
  go_upto_region 4 with fail
  obtain ⟨W3, hW3⟩ : ∃ W3, W2.alloc (.cells #[.string ⟨#[111]⟩, .string ⟨#[112]⟩] 9) = W3 := ⟨_, rfl⟩
  obtain ⟨e0, e1, e2, e4, e5, b2, hs2, hB2, hn⟩ := HE.out
  have hb3 : Below W2.heap.size W2 W3 := by rw [← hW3]; exact (Below.refl _ _).alloc (Nat.le_refl _) _
  have e6 : W3.heap[n + 1 + 1 + 1 + 1 + 1 + 1]? = some (.cells #[.string ⟨#[111]⟩, .string ⟨#[112]⟩] 9 (0, 0)) := by rw [← hW3, ← hs2]; exact World.alloc_heap_new W2 _
  have hs3 : W3.heap.size = n + 1 + 1 + 1 + 1 + 1 + 1 + 1 := by rw [← hW3, World.size_alloc, hs2]
  rw [hn] at b2
  have hS3 : SmpS w W3 (n + 1 + 1 + 1) (n + 1 + 1 + 1 + 1 + 1) 0 W3 none 0 [] := ⟨World.ownsRow_nil _ _ _ _, .nil, by rw [hn]; exact b2.below hb3, fun b _ _ => rfl, hB2.trans (hb3.mono (by omega)), Nat.le_refl _, by omega⟩
  have HS3 := Lib.hid hS3
  have HE3 := Lib.hid (And.intro ((hb3.block _ (by omega)).trans e0) (And.intro ((hb3.block _ (by omega)).trans e1) (And.intro ((hb3.block _ (by omega)).trans e2) (And.intro ((hb3.block _ (by omega)).trans e4) (And.intro ((hb3.block _ (by omega)).trans e5) (And.intro e6 (And.intro hs3 hn)))))))
  rw [hW3, hs2]
  clear e0 e1 e2 e4 e5 e6 b2 hs2 hB2 hn hb3 hs3 hS3 hW3 HE
  go_loopw [2, 3, 15] (fun _ _ i wr => ∃ (k : Nat) (B : Option Addr) (d : Nat) (cs : List Value), k ≤ 2 ∧ i = .int .i64 k ∧ Hid (SmpS w W3 (n + 1 + 1 + 1) (n + 1 + 1 + 1 + 1 + 1) k wr B d cs)) (fun _ _ i _ => 2 - (intOf i).toNat)
  case atStart => exact ⟨0, none, 0, [], by omega, rfl, HS3⟩
  case round =>
    clear HS3
    obtain ⟨k, B, d, cs, hk, rfl, HS⟩ := hrel
    by_cases hlt : k < 2
    · obtain ⟨e0, e1, e2, e4, e5, e6, hs3, hn⟩ := HE3.out
      have c6 : wr.cell? ⟨n + 1 + 1 + 1 + 1 + 1 + 1, k, none⟩ = some (.string (smpN k)) := by
        have h := (HS.out.keep _ (by omega) (by omega)).trans e6
        unfold World.cell?
        rw [h]
        have : k = 0 ∨ k = 1 := by omega
        rcases this with rfl | rfl <;> rfl
      have hz := HS.out.sz
      have hk0 : (0 : Int) ≤ (k : Int) := by omega
      have hk2 : (k : Int) < 2 := by omega
      clear e0 e1 e2 e4 e5 e6
      go_upto_region 6 with fail
      clear c6
      have x3 : wr.cell? ⟨n + 1 + 1 + 1, 3, none⟩ = some (.slice B k d) := HS.out.box.cell (j := 3) rfl
      obtain ⟨Wq, hWq⟩ : ∃ Wq, (wr.alloc (.cells #[.int .i64 7] 3)).alloc (.cells (OrdCells (smpO k) (some ⟨wr.heap.size, 0, none⟩) 1).toArray 75) = Wq := ⟨_, rfl⟩
      obtain ⟨t1, t2, t3, t4⟩ := stack2 wr (.cells #[.int .i64 7] 3) (.cells (OrdCells (smpO k) (some ⟨wr.heap.size, 0, none⟩) 1).toArray 75)
      rw [hWq] at t1 t2 t3 t4
      have hlow : ∀ q, (Value.slice B k d).ownBlock = some q → W3.heap.size ≤ q ∧ q < wr.heap.size := fun q e => World.ownsRow.lt HS.out.own q e
      have hio : IntsOff Wq (fun b => some b ≠ (Value.slice B k d).ownBlock ∧ W3.heap.size ≤ b) (some ⟨wr.heap.size, 0, none⟩) (ordEl (smpO k)).nums := ⟨ints_blk (l := [7]) t1 (by omega) (by decide), fun _ => ⟨_, rfl, fun e => absurd (hlow _ e.symm).2 (Nat.lt_irrefl _), hz⟩⟩
      have hels : ElsIn ordEl Wq (fun b => some b ≠ (Value.slice B k d).ownBlock ∧ W3.heap.size ≤ b) cs ((List.range k).map smpO) := HS.out.els.stay (row := none) (Stays.below t4) (fun b _ _ e => by cases e) (fun b _ h => h)
      have HQ := Lib.hid (And.intro hio (And.intro hels (And.intro hlow (And.intro t3 t4))))
      have HOW : Hid (((wr.alloc (.cells #[.int .i64 7] 3)).alloc (.cells (OrdCells (smpO k) (some ⟨wr.heap.size, 0, none⟩) 1).toArray 75)).ownsRow W3.heap.size 75 16 (.slice B k d) k cs) := Lib.hid (by rw [hWq]; exact own_below HS.out.own t4)
      have HZW : Hid (W3.heap.size ≤ ((wr.alloc (.cells #[.int .i64 7] 3)).alloc (.cells (OrdCells (smpO k) (some ⟨wr.heap.size, 0, none⟩) 1).toArray 75)).heap.size) := Lib.hid (by rw [hWq]; omega)
      have HNW : Hid (∀ j u, (OrdCells (smpO k) (some ⟨wr.heap.size, 0, none⟩) 1)[j]? = some u → ((wr.alloc (.cells #[.int .i64 7] 3)).alloc (.cells (OrdCells (smpO k) (some ⟨wr.heap.size, 0, none⟩) 1).toArray 75)).cell? ((⟨(wr.alloc (.cells #[.int .i64 7] 3)).heap.size, 0, none⟩ : Addr).add j) = some u) := Lib.hid (fun j u hu => by
        rw [hWq, World.size_alloc]
        exact World.news_of_block (w := Wq) (B := wr.heap.size + 1) t2 j u (by simpa using hu))
      have HWQ := Lib.hid hWq
      clear hWq t1 t2 t3 t4 hlow hio hels
      go_wp2_with (first
        | ((with_reducible refine wpList_buildL bOrd rfl _ rfl _ (OrdCells (smpO k) (some ⟨wr.heap.size, 0, none⟩) 1) ?_ (smpO_fill k _) ?_); exact rfl)
        | ((with_reducible refine wpList_bsliceL ord_elem rfl 1 _ rfl _ (OrdCells (smpO k) (some ⟨wr.heap.size, 0, none⟩) 1) ordZs ?_ (by decide) (by decide) ord_zs (ord_fill1 _ _ _) ?_); exact rfl)
        | (at_builtin; go_loud (refine wpList_app ord_elem _ _ rfl W3.heap.size B k d cs rfl HOW.out ⟨(wr.alloc (.cells #[.int .i64 7] 3)).heap.size, 0, none⟩ 1 (OrdCells (smpO k) (some ⟨wr.heap.size, 0, none⟩) 1) rfl rfl HNW.out (ordCells_one _ _ _) (by omega) HZW.out rfl ?_); intro g9 c9 w9 hown9 hg9 hd9; have HK9 := Lib.hid (And.intro hown9 (And.intro hg9 hd9)); clear hown9 hg9 hd9; (go_loud (have HB9 := Lib.hid (smp_step HWQ.out HQ.out.2.2.2 HQ.out.2.2.1 HS.out.box (by omega) HK9.out.2.1))); (go_loud (have x39 : w9.cell? ⟨n + 1 + 1 + 1, 3, none⟩ = some (.slice B k d) := HB9.out.cell (j := 3) rfl)); (go_loud (have f39 : w9.frozen? ⟨n + 1 + 1 + 1, 3, none⟩ = false := HB9.out.frozen 3))))
      have hq := HQ.out
      have hw := HK9.out
      rw [HWQ.out] at hw
      have hE9 := push_els (f := ordEl) (x := smpO k) (v := .slice B k d) 1 hq.2.1 hq.1 hw.2.1 hw.2.2
      have hz9 := hw.2.1.size
      have hp3 : (n + 1 + 1 + 1) < W3.heap.size := by omega
      have hb9 : Below w.heap.size w w9 := (HS.out.bel.trans (hq.2.2.2.2.mono (by have := HS.out.bel.size; omega))).grown hw.2.1 (by have := HS.out.bel.size; omega) (fun q e => by have := hq.2.2.1 q e; omega)
      have hS9 : SmpS w W3 (n + 1 + 1 + 1) (n + 1 + 1 + 1 + 1 + 1) (k + 1) (w9.setCell ⟨n + 1 + 1 + 1, 3, none⟩ (.slice (some ⟨g9, 0, none⟩) (k + 1) c9)) (some ⟨g9, 0, none⟩) c9 (cs ++ OrdCells (smpO k) (some ⟨wr.heap.size, 0, none⟩) 1) := by
        refine ⟨ownsRow_setCell_below (a := ⟨n + 1 + 1 + 1, 3, none⟩) hw.1 hp3 _, ?_, HB9.out.set 3 _, fun b hb hne => ?_, hb9.setCell (p := ⟨n + 1 + 1 + 1, 3, none⟩) (by show w.heap.size ≤ n + 1 + 1 + 1; omega) _, by simp; omega, hp3⟩
        · rw [List.range_succ, List.map_append]
          refine ElsIn.keep hE9 (by simp) (fun b _ hp => ⟨hp, Below.heap_setCell _ ⟨n + 1 + 1 + 1, 3, none⟩ _ b (by show b ≠ n + 1 + 1 + 1; omega)⟩)
        · refine (Below.heap_setCell _ ⟨n + 1 + 1 + 1, 3, none⟩ _ b hne).trans ((hw.2.1.block b (by omega) (fun e => by have := hq.2.2.1 b (by first | exact e | exact e.symm); omega)).trans ((hq.2.2.2.2.block b (by omega)).trans (HS.out.keep b hb hne)))
      exact ⟨⟨k + 1, _, _, _, by omega, by go_num, Lib.hid hS9⟩, by simp [intOf]; omega⟩
    · have hk2 : k = 2 := by omega
      subst hk2
      clear hlt
      obtain ⟨e0, e1, e2, e4, e5, e6, hs3, hn⟩ := HE3.out
      have hrs : SixAt wr n nilCs := (HS.out.keep n (by omega) (by omega)).trans e0
      have HRS := Lib.hid hrs
      have HONE : Hid (∀ A n c, (Value.slice A n c).oneCell' = true) := Lib.hid (fun _ _ _ => rfl)
      clear e0 e1 e2 e4 e5 e6 hrs
      go_wp2_with (first
        | ((with_reducible refine wpList_loadG stIns _ rfl ⟨n + 1 + 1 + 1, 0, none⟩ (smpCs w.heap.size (.slice (some ⟨n + 1 + 1 + 1 + 1 + 1, 0, none⟩) 1 1) (.slice B 2 d)) ?_ ?_ ?_ ?_ ?_); exact rfl; exact rfl; exact HS.out.box.cells; exact rfl)
        | ((with_reducible refine wpList_storeL stIns rfl _ _ rfl n nilCs (smpCs w.heap.size (.slice (some ⟨n + 1 + 1 + 1 + 1 + 1, 0, none⟩) 1 1) (.slice B 2 d)) ?_ ?_ ?_ ?_ ?_ (smpCs_one _ _ _ (HONE.out _ _ _) (HONE.out _ _ _)) ?_); exact rfl; exact rfl; exact HRS.out; exact rfl; exact rfl; intro w4 k1 k2 k3 k4; have K := Lib.hid (And.intro k1 (And.intro k2 (And.intro k3 k4))); clear k1 k2 k3 k4))
      obtain ⟨k1, k2, k3, k4⟩ := K.out
      have hsix : SixAt w4 n (smpCs w.heap.size (.slice (some ⟨n + 1 + 1 + 1 + 1 + 1, 0, none⟩) 1 1) (.slice B 2 d)) := k1
      have c0 : w4.cell? ⟨n, 0, none⟩ = some (.slice (some ⟨w.heap.size + 1, 0, none⟩) 1 1) := hsix.cell (j := 0) rfl
      have c1 : w4.cell? ⟨n, 1, none⟩ = some (.slice none 0 0) := hsix.cell (j := 1) rfl
      have c2 : w4.cell? ⟨n, 2, none⟩ = some (.slice (some ⟨n + 1 + 1 + 1 + 1 + 1, 0, none⟩) 1 1) := hsix.cell (j := 2) rfl
      have c3 : w4.cell? ⟨n, 3, none⟩ = some (.slice B 2 d) := hsix.cell (j := 3) rfl
      have c4 : w4.cell? ⟨n, 4, none⟩ = some (.slice (some ⟨w.heap.size + 1 + 1, 0, none⟩) 1 1) := hsix.cell (j := 4) rfl
      have c5 : w4.cell? ⟨n, 5, none⟩ = some (.slice none 0 0) := hsix.cell (j := 5) rfl
      refine bodyPost_ret (v := InV smpI ⟨some ⟨w.heap.size + 1, 0, none⟩, 1, none, 0, some ⟨n + 1 + 1 + 1 + 1 + 1, 0, none⟩, 1, B, d, some ⟨w.heap.size + 1 + 1, 0, none⟩, 1, none, 0⟩) (by simp [results, Try.results26, go_sem, InV, smpI, c0, c1, c2, c3, c4, c5]) rfl ?_
      obtain ⟨e0, e1, e2, e4, e5, e6, -, -⟩ := HE3.out
      have K : ∀ b, b < W3.heap.size → b ≠ n + 1 + 1 + 1 → b ≠ n → w4.heap[b]? = W3.heap[b]? := fun b h1 h2 h3 => (k2 b h3).trans (HS.out.keep b h1 h2)
      have hzr := HS.out.sz
      have f1 := (K (n + 1) (by omega) (by omega) (by omega)).trans e1
      have f2 := (K (n + 1 + 1) (by omega) (by omega) (by omega)).trans e2
      have f4 := (K (n + 1 + 1 + 1 + 1) (by omega) (by omega) (by omega)).trans e4
      have f5 := (K (n + 1 + 1 + 1 + 1 + 1) (by omega) (by omega) (by omega)).trans e5
      have hE4 : ElsIn ordEl w4 (fun b => some b ≠ (Value.slice B 2 d).ownBlock ∧ W3.heap.size ≤ b) cs [smpO 0, smpO 1] := ElsIn.keep HS.out.els (by omega) (fun b _ hp => ⟨hp, k2 b (by omega)⟩)
      have hO4 := own_other HS.out.own k2 (by omega)
      have hB4 : Below w.heap.size w w4 := HS.out.bel.trans (k4.mono (by omega))
      refine ⟨_, rfl, ⟨?_, RowAt.nil, ?_, ?_, ?_, RowAt.nil, Nat.le_refl 1, own_len_cap hO4, Nat.le_refl 1, Nat.le_refl 0⟩, hB4⟩
      · rw [hn]
        exact row_blk (r := rStr) (cs := [.string ⟨#[65]⟩]) f1 (by omega) ⟨rfl, by decide⟩
      · exact row_blk (r := rTy) f5 (by omega) (rTy_mk (ints_blk (l := [5]) f4 (by omega) (by decide)) smpT_fits)
      · exact hE4.row (r := rOrd) (fun o A c => rfl) hO4 (fun o ho A c hi => rOrd_mk hi (by
          simp only [List.mem_cons, List.not_mem_nil, or_false] at ho
          rcases ho with rfl | rfl
          · exact smpO_fits 0 (by decide)
          · exact smpO_fits 1 (by decide))) (by decide)
      · rw [hn]
        exact row_blk (r := rPair rInt rInt) (cs := [.int .i64 0] ++ [.int .i64 1]) f2 (by omega) ⟨_, _, rfl, ⟨rfl, by decide⟩, ⟨rfl, by decide⟩⟩
end Go.Proofs.Ytceceomaheobhaa.spl

/- Routes and plans, read from memory; what a route has beside its visits is not read. -/
namespace Go.Proofs.Ytceceomaheobhaa.typ
open Go.RowKit
open Go.ChangeShapes Go.WideShapes Go.ChangeAt Go.Deep
open Go.Proofs.Ytceceomaheobhaa.lib Go.Proofs.Ytceceomaheobhaa.rd Go.Proofs.Ytceceomaheobhaa.big
set_option linter.unusedVariables false

/-- A cell of which nothing is asked. -/
def rOpq : Rd Unit where
  size := 1
  at_ _ _ cs x := ∃ v : Value, cs = [v] ∧ v.oneCell' = true
  len h := by obtain ⟨v, rfl, _⟩ := h; rfl
  keep _ h := h
  more _ h := h
theorem opens_opq {t e : TypeId} (ht : Try.prog.underlying t = some (.slice e)) : Opens t rOpq := fun H enc W fuel cs y h hw => by
  rcases open_slice ht h with ⟨rfl, rfl⟩ | ⟨a, len, cap, m, n, D, Pl, rfl, _⟩
  · exact ⟨(), _, rfl, rfl⟩
  · exact ⟨(), _, rfl, rfl⟩
structure Rou where
  typ : Int
  start : Int
  visits : List Vis
def rRou : Rd Rou := rMap (rPair rInt (rPair rInt (rPair rOpq (rSlice rVis)))) fun x => ⟨x.1, x.2.1, x.2.2.2⟩
def RouCells (r : Rou) (v : Value) (C : Option Addr) (c : Nat) : List Value := [.int .i64 r.typ, .int .i64 r.start, v, .slice C r.visits.length c]
theorem rRou_at {w : World} {B : Nat} {cs : List Value} {r : Rou} (h : rRou.at_ w B cs r) : ∃ v C c, cs = RouCells r v C c ∧ RowAt rVis w B C r.visits ∧ v.oneCell' = true := by
  obtain ⟨⟨f0, f1, f2, f3⟩, rfl, _, _, rfl, ⟨rfl, hf0⟩, _, _, rfl, ⟨rfl, hf1⟩, _, _, rfl, ⟨v, rfl, hv⟩, C, c, rfl, hr⟩ := h
  exact ⟨v, C, c, rfl, hr, hv⟩
theorem rRou_mk {w : World} {B : Nat} {r : Rou} {v : Value} {C : Option Addr} {c : Nat} (h : RowAt rVis w B C r.visits) (hv : v.oneCell' = true) (h1 : -9223372036854775808 ≤ r.typ ∧ r.typ ≤ 9223372036854775807) (h2 : -9223372036854775808 ≤ r.start ∧ r.start ≤ 9223372036854775807) : rRou.at_ w B (RouCells r v C c) r :=
  ⟨(r.typ, r.start, (), r.visits), rfl, _, _, rfl, ⟨rfl, h1⟩, _, _, rfl, ⟨rfl, h2⟩, _, _, rfl, ⟨v, rfl, hv⟩, C, c, rfl, h⟩
set_option maxRecDepth 20000 in
theorem opens_Rou : Opens 66 rRou := opens_map _ (opens_struct Try.underlying66 (by kernel_rfl) (fieldsOpen_cons rfl (by kernel_rfl) (opens_int Try.underlying3) (fieldsOpen_cons rfl (by kernel_rfl) (opens_int Try.underlying3) (fieldsOpen_cons rfl (by kernel_rfl) (opens_opq Try.underlying64) (fieldsOpen_one rfl (by kernel_rfl) (opens_slice Try.underlying63 (by kernel_rfl) (by decide) (of_decide_eq_true (by kernel_rfl)) opens_Vis))))))
structure Pla where
  routes : List Rou
  unserved : List Int
def rPla : Rd Pla := rMap (rPair (rSlice rRou) rInts) fun x => ⟨x.1, x.2⟩
theorem rPla_at {w : World} {B : Nat} {cs : List Value} {p : Pla} (h : rPla.at_ w B cs p) : ∃ A c A' c', cs = [.slice A p.routes.length c, .slice A' p.unserved.length c'] ∧ RowAt rRou w B A p.routes ∧ Ints w B A' p.unserved := by
  obtain ⟨⟨f0, f1⟩, rfl, _, _, rfl, ⟨A, c, rfl, h1⟩, ⟨A', c', rfl, h2⟩⟩ := h
  exact ⟨A, c, A', c', rfl, h1, h2⟩
set_option maxRecDepth 20000 in
theorem opens_Pla : Opens 46 rPla := opens_map _ (opens_struct Try.underlying46 (by kernel_rfl) (fieldsOpen_cons rfl (by kernel_rfl) (opens_slice Try.underlying44 (by kernel_rfl) (by decide) (of_decide_eq_true (by kernel_rfl)) opens_Rou) (fieldsOpen_one rfl (by kernel_rfl) (opens_ints Try.underlying22 Try.underlying3 (by kernel_rfl) (by rw [show Try.prog.bytesOf 3 = 8 by kernel_rfl]; omega)))))
theorem stRou : StructOf 66 4 := ⟨⟨_, Try.underlying66⟩, by kernel_rfl⟩
theorem rouCells_one (r : Rou) {v : Value} (C : Option Addr) (c : Nat) (hv : v.oneCell' = true) : ∀ u ∈ RouCells r v C c, u.oneCell' = true := fun u hu => by
  simp only [RouCells, List.mem_cons, List.not_mem_nil, or_false] at hu
  rcases hu with rfl | rfl | rfl | rfl
  all_goals first | rfl | exact hv
end Go.Proofs.Ytceceomaheobhaa.typ

/- split.Merge. -/
namespace Go.Proofs.Ytceceomaheobhaa.spl
open Go.RowKit
open Go.Proofs.Ytceceomaheobhaa.lib Go.Proofs.Ytceceomaheobhaa.rd Go.Proofs.Ytceceomaheobhaa.app Go.Proofs.Ytceceomaheobhaa.els Go.Proofs.Ytceceomaheobhaa.loads Go.Proofs.Ytceceomaheobhaa.typ Go.Proofs.Ytceceomaheobhaa.big Go.Proofs.Ytceceomaheobhaa.ins Go.Proofs.Ytceceomaheobhaa.ord Go.Proofs.Ytceceomaheobhaa.flts Go.Proofs.Ytceceomaheobhaa.off Go.Proofs.Ytceceomaheobhaa.eqs
set_option linter.unusedVariables false
set_option linter.unusedSimpArgs false

def mgGo (f : Rou → Option (List Sha)) : List Rou → List (List Sha) → Option (List (List Sha))
  | [], acc => some acc
  | r :: rs, acc => match f r with
    | none => none
    | some l => mgGo f rs (acc ++ [l])
def mgEnd : Option (List (List Sha)) → Except Int (List (List Sha))
  | some ll => .ok ll
  | none => .error 2
def mgF (y : Ins) (want : List Int) (r : Rou) : Option (List Sha) := shF y.orders want r.visits
def mergeG (org : List Int) (rs : List Rou) : Except Int (Ins × List Int) → Except Int (List (List Sha))
  | .error e => .error e
  | .ok (y, want) => if org = want then mgEnd (mgGo (mgF y want) rs []) else .error 2
/-- What Merge answers. -/
def mergeF (x : Ins) (org : List Int) (rs : List Rou) : Except Int (List (List Sha)) := mergeG org rs (expF x)
theorem mgGo_at {f : Rou → Option (List Sha)} {rs : List Rou} {k : Nat} {r : Rou} {acc : List (List Sha)} (h : rs[k]? = some r) : mgGo f (rs.drop k) acc = match f r with | none => none | some l => mgGo f (rs.drop (k + 1)) (acc ++ [l]) := by
  rw [drop_at' h, mgGo]
/-- What an expanded instance is like. -/
structure ExpGood (y : Ins) (want : List Int) : Prop where
  len : want.length = y.orders.length
  few : y.orders.length ≤ 1000
  load : ∀ o ∈ y.orders, BdL 1000 o.load
  dims : ∀ o ∈ y.orders, o.load.length ≤ 1000000
  org : ∀ g ∈ want, -9223372036854775808 ≤ g ∧ g ≤ 9223372036854775807
def MergeOut (w : World) (r : Except Int (List (List Sha))) (e : Ending) (w' : World) : Prop := match r with
  | .error k => e = .returned (.tuple #[.slice none 0 0, .int .i64 k]) ∧ Below w.heap.size w w'
  | .ok ll => ∃ A c cs, e = .returned (.tuple #[.slice A ll.length c, .int .i64 0]) ∧ w'.ownsRow w.heap.size 50 1 (.slice A ll.length c) ll.length cs ∧ EG (oSlice oSha) w' (fun b => w.heap.size ≤ b) cs ll ∧ Below w.heap.size w w'
theorem shs_elem : ElemOf 47 50 (.slice none 0 0) 1 24 := ⟨Try.underlying47, by kernel_rfl, rfl, by decide, by decide⟩
/-- Where Merge stands. -/
structure MgSt (W : World) (ll : List (List Sha)) (wr : World) (B : Option Addr) (d : Nat) (cs : List Value) : Prop where
  own : wr.ownsRow W.heap.size 50 1 (.slice B ll.length d) ll.length cs
  els : EG (oSlice oSha) wr (fun b => some b ≠ (Value.slice B ll.length d).ownBlock ∧ W.heap.size ≤ b) cs ll
  bel : Below W.heap.size W wr
section
variable {W : World} {ll : List (List Sha)} {wr wx : World} {B : Option Addr} {d : Nat} {cs : List Value}
theorem MgSt.nil (W : World) : MgSt W [] W none 0 [] := ⟨World.ownsRow_nil _ _ _ _, EG.nil, Below.refl _ _⟩
theorem MgSt.below (h : MgSt W ll wr B d cs) (hb : Below wr.heap.size wr wx) : MgSt W ll wx B d cs := ⟨own_below h.own hb, h.els.below hb, h.bel.trans (hb.mono h.bel.size)⟩
theorem MgSt.push (h : MgSt W ll wr B d cs) {l : List Sha} {C : Option Addr} {c0 g c : Nat} (hI : RowOff oSha wr (fun b => some b ≠ (Value.slice B ll.length d).ownBlock ∧ W.heap.size ≤ b) C l)
    (hown : wx.ownsRow W.heap.size 50 1 (.slice (some ⟨g, 0, none⟩) (ll.length + 1) c) (ll.length + 1) (cs ++ [.slice C l.length c0])) (hg : wr.grownBy wx (Value.slice B ll.length d).ownBlock) (hd : (Value.slice B ll.length d).ownBlock = some g ∨ wr.heap.size ≤ g) :
    MgSt W (ll ++ [l]) wx (some ⟨g, 0, none⟩) c (cs ++ [.slice C l.length c0]) := by
  refine ⟨by rw [List.length_append]; exact hown, ?_, h.bel.grown hg h.bel.size (fun q e => (World.ownsRow.lt h.own q e).1)⟩
  exact h.els.push ⟨C, c0, rfl, hI⟩ hg hd
end
theorem shF_len {os : List Ord} {org : List Int} {vs : List Vis} {l : List Sha} (h : shF os org vs = some l) : l.length ≤ os.length := by
  unfold shF at h
  split at h
  · injection h with h
    rw [← h]
    exact shTo_len _ _ _ _
  · cases h
theorem namedE_pos {os out : List Ord} {nm : ByteArray} : 0 ≤ namedE os out nm := by unfold namedE; split <;> (try split) <;> omega
theorem expPs_err {os : List Ord} {i : Int} {sp : Bool} : ∀ {ps out : List Ord} {org : List Int} {k : Int}, expPs os i sp ps out org = .error k → k ≠ 0
  | [], _, _, _, h => by simp [expPs] at h
  | p :: ps, out, org, k, h => by
    rw [expPs] at h
    split at h
    · rename_i h1
      injection h with h
      rw [← h]
      exact h1.2
    · exact expPs_err h
theorem expOs_err {os : List Ord} : ∀ {rest : List Ord} {i : Nat} {out : List Ord} {org : List Int} {k : Int}, expOs os rest i out org = .error k → k ≠ 0
  | [], _, _, _, _, h => by simp [expOs] at h
  | o :: rest, i, out, org, k, h => by
    rw [expOs] at h
    split at h
    · injection h with h
      omega
    · split at h
      · rename_i e he
        injection h with h
        subst h
        exact expPs_err he
      · exact expOs_err h
theorem expF_err {x : Ins} {k : Int} (h : expF x = .error k) : k ≠ 0 := by
  unfold expF at h
  split at h
  · injection h with h; omega
  · unfold expFin at h
    split at h
    · rename_i e he
      injection h with h
      subst h
      exact expOs_err he
    · split at h
      · injection h with h; omega
      · cases h
set_option maxRecDepth 100000 in
set_option maxHeartbeats 4000000 in
theorem merge_any (x : Ins) (P : InP) (A' : Option Addr) (c' : Nat) (org : List Int) (AR : Option Addr) (cR : Nat) (rs : List Rou) (u1 : Value) (w : World)
    (h : InAt w w.heap.size x P) (hl : ExpLim x) (hO : Ints w w.heap.size A' org) (hV : RowAt rRou w w.heap.size AR rs) (hrs : rs.length ≤ 1000000) (hg : ∀ y want, expF x = .ok (y, want) → ExpGood y want) :
    Calls Try.prog 18 #[InV x P, .slice A' org.length c', .agg #[.slice AR rs.length cR, u1]] w (MergeOut w (mergeF x org rs)) := by
  obtain ⟨W0, hW0⟩ : ∃ W0, (w.alloc (.cells (insCs x P).toArray 38)).alloc (.cells #[.slice AR rs.length cR, u1] 46) = W0 := ⟨_, rfl⟩
  have hB0 : Below w.heap.size w W0 := by rw [← hW0]; exact ((Below.refl _ _).alloc (Nat.le_refl _) _).alloc (by simp) _
  have z0 := hB0.size
  have hs0 : w.heap.size + 1 < W0.heap.size := by rw [← hW0]; simp
  have b0 : SixAt W0 w.heap.size (insCs x P) := by
    rw [← hW0]
    unfold SixAt
    rw [Below.heap_alloc _ _ _ (by simp)]
    exact World.alloc_heap_new w _
  have v0 : W0.cell? ⟨w.heap.size + 1, 0, none⟩ = some (.slice AR rs.length cR) := by
    rw [← hW0]
    have h := World.alloc_heap_new (w.alloc (.cells (insCs x P).toArray 38)) (.cells #[.slice AR rs.length cR, u1] 46)
    rw [show (w.alloc (.cells (insCs x P).toArray 38)).heap.size = w.heap.size + 1 by simp] at h
    unfold World.cell?
    rw [h]
    rfl
  have HX := Lib.hid (fun w' (h' : Below W0.heap.size W0 w') => (And.intro (b0.below h') (And.intro (h.below (hB0.trans (h'.mono z0))) (And.intro (hO.below (hB0.trans (h'.mono z0))) (hV.below (hB0.trans (h'.mono z0)))))))
  have hW1 : (w.alloc (.cells #[.slice P.a0 x.net.places.length P.c0, .slice P.a1 x.net.arcs.length P.c1, .slice P.a2 x.types.length P.c2, .slice P.a3 x.orders.length P.c3, .slice P.a4 x.apart.length P.c4, .slice P.a5 x.before.length P.c5] 38)).alloc (.cells #[.slice AR rs.length cR, u1] 46) = W0 := hW0
  have HW1 := Lib.hid hW1
  have HL := Lib.hid (And.intro hl hg)
  have B00 : Below W0.heap.size W0 W0 := Below.refl _ _
  have HXI : Hid (InAt W0 W0.heap.size x P) := Lib.hid ((HX.out _ B00).2.1.more z0)
  clear hW0 hW1 h hO hV b0 hl hg
  simp only [InV]
  go_enter Try.func18, Try.ntmps18
  go_upto_region 1 with fail
  rw [HW1.out]
  clear HW1
  go_wp2_with ((with_reducible refine wpList_loadG stIns _ rfl ⟨w.heap.size, 0, none⟩ (insCs (x) P) ?_ ?_ ?_ ?_ ?_); exact rfl; exact rfl; exact (HX.out _ B00).1.cells; exact rfl)
  refine (expand_any x P W0 HXI.out HL.out.1).mono ?_
  obtain ⟨ER, hER⟩ : ∃ ER, expF x = ER := ⟨_, rfl⟩
  have HME : Hid (mergeF x org rs = mergeG org rs ER) := Lib.hid (by unfold mergeF; rw [hER])
  have HGD : Hid (∀ y want, ER = .ok (y, want) → ExpGood y want) := Lib.hid (by rw [← hER]; exact HL.out.2)
  have HNZ : Hid (∀ k, ER = .error k → k ≠ 0) := Lib.hid (fun k e => expF_err (hER.trans e))
  rw [hER]
  clear hER
  obtain ⟨m, hm⟩ : ∃ m, rs.length = m := ⟨_, rfl⟩
  have HM := Lib.hid hm
  rw [hm] at v0 hrs
  clear hm
  rcases ER with k | ⟨y, want⟩
  · rintro e w1 ⟨rfl, b1⟩
    have hk0 := HNZ.out k rfl
    have hk1 : (k != 0) = true := by simp [hk0]
    have hk2 : (k == 0) = false := by simp [hk0]
    have z1 := b1.size
    clear hk0 v0
    go_wp2_with ((with_reducible refine wpList_storeL stIns rfl _ _ rfl w1.heap.size nilCs nilCs ?_ ?_ ?_ ?_ ?_ nilCs_one ?_); exact rfl; exact rfl; exact World.alloc_heap_new w1 _; exact rfl; exact rfl; intro w2 k1 k2 k3 k4; have K := Lib.hid (And.intro k1 (And.intro k2 (And.intro k3 k4))); clear k1 k2 k3 k4)
    go_ret2
    rw [HME.out]
    obtain ⟨k1, k2, k3, k4⟩ := K.out
    exact ⟨rfl, hB0.trans ((b1.trans ((((Below.refl _ _).alloc (Nat.le_refl _) _).trans k4).mono z1)).mono z0)⟩
  · rintro e w1 ⟨Q, A3, c3, rfl, hI1, hw1, b1⟩
    have z1 := b1.size
    have HI1 := Lib.hid (And.intro hI1 hw1)
    obtain ⟨hg1, hg2, hg3, hg4, hg5⟩ := HGD.out y want rfl
    have HGG := Lib.hid (And.intro hg1 (And.intro hg2 (And.intro hg3 (And.intro hg4 hg5))))
    clear hI1 hw1 hg1 hg2 hg3 hg4 hg5
    go_upto_region 2 with ((with_reducible refine wpList_storeL stIns rfl _ _ rfl w1.heap.size nilCs (insCs y Q) ?_ ?_ ?_ ?_ ?_ (insCs_one _ _) ?_); exact rfl; exact rfl; exact World.alloc_heap_new w1 _; exact rfl; exact rfl; intro w2 k1 k2 k3 k4; have K := Lib.hid (And.intro k1 (And.intro k2 (And.intro k3 k4))); clear k1 k2 k3 k4)
    obtain ⟨k1, k2, k3, k4⟩ := K.out
    have b2 : Below w1.heap.size w1 w2 := ((Below.refl _ _).alloc (Nat.le_refl _) _).trans k4
    have hp2 : w1.heap.size < w2.heap.size := (Array.getElem?_eq_some_iff.1 k1).1
    have HY2 : Hid (SixAt w2 w1.heap.size (insCs y Q)) := Lib.hid k1
    obtain ⟨p, hp⟩ : ∃ p, w1.heap.size = p := ⟨_, rfl⟩
    have HI2 := Lib.hid (And.intro (HI1.out.1.go b2) ((HI1.out.2.below b2).more b2.size))
    rw [hp] at HY2 hp2 b2 z1 ⊢
    have bW2 : Below W0.heap.size W0 w2 := b1.trans (b2.mono (by omega))
    have v2 : w2.cell? ⟨w.heap.size + 1, 0, none⟩ = some (.slice AR m cR) := (bW2.cell (p := ⟨w.heap.size + 1, 0, none⟩) hs0).trans v0
    have HO2 : Hid (Ints w2 w2.heap.size A' org) := Lib.hid ((HX.out _ bW2).2.2.1.more (Nat.le_trans z0 bW2.size))
    have HB2 := Lib.hid bW2
    clear k1 k2 k3 k4 b1 b2 K hp HI1 v0 bW2 HXI
    go_wp2_with fail
    refine (equal_any A' c' org _ rfl A3 c3 want _ rfl w2 _ _ (Nat.le_refl _) (Nat.le_refl _) HO2.out HI2.out.2).mono ?_
    rintro e w3 ⟨rfl, b3⟩
    have z3 := b3.size
    by_cases heq : org = want
    · have hsb : eqs.sameB org want = true := by unfold eqs.sameB; rw [heq]; simp
      have HMG : Hid (mergeF x org rs = mgEnd (mgGo (mgF y want) (rs.drop 0) [])) := Lib.hid (by rw [HME.out]; show (if org = want then mgEnd (mgGo (mgF y want) rs []) else .error 2) = _; rw [if_pos heq]; rfl)
      rw [hsb]
      subst heq
      have v3 : w3.cell? ⟨w.heap.size + 1, 0, none⟩ = some (.slice AR m cR) := (b3.cell (p := ⟨w.heap.size + 1, 0, none⟩) (by show w.heap.size + 1 < _; omega)).trans v2
      have HI3 := Lib.hid (fun w' (h' : Below w3.heap.size w3 w') => And.intro (HI2.out.1.go (b3.trans (h'.mono z3))) (And.intro (HY2.out.below (b3.trans (h'.mono z3))) (And.intro (((HX.out _ ((HB2.out.trans (b3.mono HB2.out.size)).trans (h'.mono (by omega)))).2.2.2)) ((HX.out _ ((HB2.out.trans (b3.mono HB2.out.size)).trans (h'.mono (by omega)))).2.2.1))))
      have hBW : Below w.heap.size w w3 := hB0.trans ((HB2.out.trans (b3.mono HB2.out.size)).mono z0)
      clear hsb v2 HO2 HME b3 HX HY2 HI2
      go_upto_region 8 with fail
      clear v3
      have zw := hBW.size
      go_loopw [11, 13, 14, 15, 32] (fun v _ _ _ i wr => ∃ (j : Nat) (ll : List (List Sha)) (B : Option Addr) (d : Nat) (cs : List Value), j ≤ m ∧ i = .int .i64 j ∧ Hid (mergeF x org rs = mgEnd (mgGo (mgF y org) (rs.drop j) ll)) ∧ Hid (ll.length = j) ∧ v = .slice B j d ∧ Hid (MgSt w3 ll wr B d cs)) (fun _ _ _ _ i _ => m - (intOf i).toNat)
      case atStart => exact ⟨0, [], none, 0, [], by omega, rfl, HMG, Lib.hid rfl, rfl, Lib.hid (MgSt.nil _)⟩
      case round =>
        clear HMG
        obtain ⟨j, ll, B, d, cs, hj, rfl, hmg, hlj, rfl, HS⟩ := hrel
        by_cases hlt : j < m
        · obtain ⟨r, hr⟩ : ∃ r, rs[j]? = some r := ⟨_, List.getElem?_eq_getElem (by rw [HM.out]; exact hlt)⟩
          obtain ⟨ad, cs0, rfl, hadb, hat, hcs⟩ := ((HI3.out _ HS.out.bel).2.2.1).elem hr
          obtain ⟨v0, C, c, rfl, hvis, hv1⟩ := rRou_at hat
          have HT := Lib.hid (mgGo_at (f := mgF y org) (acc := ll) hr)
          have HC := Lib.hid hcs
          have HV := Lib.hid hvis
          have hzr := HS.out.bel.size
          have hj0 : (0 : Int) ≤ (j : Int) := by omega
          have hjn : (j : Int) < (m : Int) := by omega
          clear hr hat hcs hvis
          go_upto_region 10 with (first
            | ((with_reducible refine wpList_loadG stRou _ rfl (ad.add (j * 4)) (RouCells r v0 C c) ?_ ?_ ?_ ?_ ?_); exact rfl; exact rfl; exact HC.out; exact rfl)
            | ((with_reducible refine wpList_storeL stRou rfl _ _ rfl wr.heap.size [.int .i64 0, .int .i64 0, .slice none 0 0, .slice none 0 0] (RouCells r v0 C c) ?_ ?_ ?_ ?_ ?_ (rouCells_one _ _ _ hv1) ?_); exact rfl; exact rfl; exact World.alloc_heap_new wr _; exact rfl; exact rfl; intro w4 k1 k2 k3 k4; have K := Lib.hid (And.intro k1 (And.intro k2 (And.intro k3 k4))); clear k1 k2 k3 k4))
          (try simp only [Act.put, List.getElem_toArray, List.getElem_cons_succ, List.getElem_cons_zero, List.setIfInBounds_toArray, List.set_cons_zero, List.set_cons_succ])
          obtain ⟨k1, k2, k3, k4⟩ := K.out
          have b4 : Below wr.heap.size wr w4 := ((Below.refl _ _).alloc (Nat.le_refl _) _).trans k4
          have z4 := b4.size
          have HR4 : Hid (CellsAt w4 ⟨wr.heap.size, 0, none⟩ (RouCells r v0 C c)) := Lib.hid (fun jj u hu => World.news_of_block (w := w4) (B := wr.heap.size) k1 jj u (by simpa using hu))
          have HS4 := Lib.hid (HS.out.below b4)
          have HI4 := Lib.hid (HI3.out _ HS4.out.bel)
          have HV4 : Hid (RowAt rVis w4 w4.heap.size C r.visits) := Lib.hid ((HV.out.below (b4.mono (by omega))).more (by omega))
          obtain ⟨q, hq⟩ : ∃ q, wr.heap.size = q := ⟨_, rfl⟩
          rw [hq] at HR4 hzr z4 ⊢
          clear k1 k2 k3 k4 b4 K HC HV hq hadb
          go_wp2_with (first
            | ((with_reducible refine wpList_loadG stIns _ rfl ⟨p, 0, none⟩ (insCs (y) Q) ?_ ?_ ?_ ?_ ?_); exact rfl; exact rfl; exact HI4.out.2.1.cells; exact rfl)
            | ((with_reducible refine wpList_loadG stRou _ rfl ⟨q, 0, none⟩ (RouCells r v0 C c) ?_ ?_ ?_ ?_ ?_); exact rfl; exact rfl; exact HR4.out; exact rfl))
          refine (shares_any y Q A' c' org _ _ _ C c r.visits w4 HI4.out.1 (HI4.out.2.2.2.more (by omega)) HV4.out HGG.out.1 HGG.out.2.1 HGG.out.2.2.1 HGG.out.2.2.2.1 HGG.out.2.2.2.2).mono ?_
          obtain ⟨SR, hSR⟩ : ∃ SR, shF y.orders org r.visits = SR := ⟨_, rfl⟩
          have HSR : Hid (mgF y org r = SR) := Lib.hid hSR
          rw [hSR]
          clear hSR
          rcases SR with _ | l
          · rintro e w5 ⟨rfl, b5⟩
            have HE : Hid (mergeF x org rs = .error 2) := Lib.hid (by rw [hmg.out, HT.out, HSR.out]; rfl)
            have b45 := HS4.out.bel.trans (b5.mono HS4.out.bel.size)
            have HB5 := Lib.hid b45
            clear b45 b5
            go_wp2_with fail
            go_ret2
            rw [HE.out]
            exact ⟨rfl, hBW.trans (HB5.out.mono zw)⟩
          · rintro e w5 ⟨A5, c5, cs5, rfl, hown5, hels5, b5⟩
            have hll := shF_len HSR.out
            have z5 := b5.size
            have hlow : ∀ q', (Value.slice B ll.length d).ownBlock = some q' → q' < w4.heap.size := fun q' e => (World.ownsRow.lt HS4.out.own q' e).2
            have hro : RowOff oSha w5 (fun b => some b ≠ (Value.slice B ll.length d).ownBlock ∧ w3.heap.size ≤ b) A5 l := hels5.off hown5 (by have := HGG.out.2.1; omega) (fun b _ hb => ⟨fun e => by have := hlow b e.symm; omega, by omega⟩) (fun b hb => ⟨fun e => by have := hlow b e.symm; omega, by omega⟩)
            have bl : Below w5.heap.size w5 (w5.alloc (.cells #[.slice A5 l.length c5] 50)) := (Below.refl _ _).alloc (Nat.le_refl _) _
            have HS6 := Lib.hid ((HS4.out.below b5).below bl)
            have HR6 := Lib.hid (hro.below bl)
            have z6 : w3.heap.size ≤ (w5.alloc (.cells #[.slice A5 l.length c5] 50)).heap.size := Nat.le_trans (by omega) bl.size
            have HE : Hid (mergeF x org rs = mgEnd (mgGo (mgF y org) (rs.drop (j + 1)) (ll ++ [l]))) := Lib.hid (by rw [hmg.out, HT.out, HSR.out])
            clear hown5 hels5 b5 hlow hro bl
            go_wp2_with (at_builtin; go_loud (refine wpList_app shs_elem _ _ rfl w3.heap.size B j d cs rfl (by rw [← hlj.out]; exact HS6.out.own) ⟨w5.heap.size, 0, none⟩ 1 [.slice A5 l.length c5] rfl rfl (cell_one_new _ _ _) (fun u hu => by rw [List.mem_singleton] at hu; rw [hu]; rfl) (by omega) z6 rfl ?_); intro g7 c7 w7 hown7 hg7 hx7; have HK7 := Lib.hid (And.intro hown7 (And.intro hg7 hx7)); clear hown7 hg7 hx7)
            have h7 := HK7.out
            rw [← hlj.out] at h7
            have HS7 := Lib.hid (HS6.out.push (c0 := c5) HR6.out h7.1 h7.2.1 h7.2.2)
            refine ⟨⟨j + 1, ll ++ [l], some ⟨g7, 0, none⟩, c7, _, by omega, by go_num, HE, Lib.hid (by rw [List.length_append, hlj.out]; rfl), rfl, HS7⟩, by simp [intOf]; omega⟩
        · have hjm : j = m := by omega
          subst hjm
          clear hlt
          go_wp2
          go_ret2
          have e : mergeF x org rs = .ok ll := by rw [hmg.out, List.drop_of_length_le (by rw [HM.out]; exact Nat.le_refl _)]; rfl
          rw [e]
          have hs := HS.out
          refine ⟨B, d, cs, by rw [hlj.out]; rfl, own_less hs.own zw, hs.els.weak (fun b _ hp => by have := hp.2; omega), hBW.trans (hs.bel.mono zw)⟩
    · have hsb : eqs.sameB org want = false := by unfold eqs.sameB; exact decide_eq_false heq
      have HMG : Hid (mergeF x org rs = .error 2) := Lib.hid (by rw [HME.out]; show (if org = want then mgEnd (mgGo (mgF y want) rs []) else .error 2) = _; rw [if_neg heq])
      rw [hsb]
      clear hsb heq
      go_wp2_with fail
      go_ret2
      rw [HMG.out]
      exact ⟨rfl, hB0.trans ((HB2.out.trans (b3.mono HB2.out.size)).mono z0)⟩
end Go.Proofs.Ytceceomaheobhaa.spl

/- The law's comparison of lists of numbers. -/
namespace Go.Proofs.Ytceceomaheobhaa.spl
open Go.RowKit
open Go.Proofs.Ytceceomaheobhaa.lib Go.Proofs.Ytceceomaheobhaa.rd Go.Proofs.Ytceceomaheobhaa.eqs
set_option linter.unusedVariables false
set_option linter.unusedSimpArgs false

set_option maxHeartbeats 1000000 in
theorem ints_any (A : Option Addr) (c : Nat) (a : List Int) (n : Nat) (hn : a.length = n) (A' : Option Addr) (c' : Nat) (b : List Int) (m : Nat) (hm : b.length = m) (w : World) (B B' : Nat) (hB : B ≤ w.heap.size) (hB' : B' ≤ w.heap.size) (ha : Ints w B A a) (hb : Ints w B' A' b) :
    Calls Try.prog 15 #[.slice A n c, .slice A' m c'] w fun e w' => e = .returned (.bool (sameB a b)) ∧ Below w.heap.size w w' := by
  have hlen := ha.len
  rw [hn] at hlen
  by_cases h : n = m
  · subst h
    have HN := Lib.hid hn
    have HM := Lib.hid hm
    clear hn hm
    go_enter Try.func15, Try.ntmps15
    go_wp2
    go_loopw [5, 13] (fun _ i wr => ∃ k : Nat, k ≤ n ∧ i = .int .i64 k ∧ Hid (sameB a b = decide (a.drop k = b.drop k)) ∧ Below w.heap.size w wr) (fun _ i _ => n - (intOf i).toNat)
    case atStart => exact ⟨0, by omega, rfl, Lib.hid rfl, Below.refl _ _⟩
    case round =>
      obtain ⟨k, hk, rfl, hr, hbel⟩ := hrel
      by_cases hlt : k < n
      · obtain ⟨ad, x, rfl, hadb, hx, hcx⟩ := (ha.below (hbel.mono hB)).at_ (k := k) (by rw [HN.out]; exact hlt)
        obtain ⟨ad', y, rfl, hadb', hy, hcy⟩ := (hb.below (hbel.mono hB')).at_ (k := k) (by rw [HM.out]; exact hlt)
        have HX := Lib.hid (same_step hx hy)
        have hk0 : (0 : Int) ≤ (k : Int) := by omega
        have hkn : (k : Int) < (n : Int) := by omega
        clear hx hy
        by_cases hxy : x = y
        · subst hxy
          go_wp2
          go_quiet (fail)
          go_wp2
          go_roundw
          case rel => exact ⟨k + 1, by omega, by go_num, Lib.hid (by rw [hr.out, HX.out]; simp), bel_drewN hbel _⟩
          case measure => simp [intOf]; omega
        · have h1 : (x == y) = false := by simp [hxy]
          have h2 : (x != y) = true := by simp [hxy]
          have HF := Lib.hid (decide_eq_false hxy)
          clear hxy
          go_wp2
          go_quiet (fail)
          go_wp2
          go_ret
          exact ⟨ret_bool (by rw [hr.out, HX.out, HF.out]; rfl), bel_drewN hbel _⟩
      · have hkn : k = n := by omega
        subst hkn
        clear hlt
        go_wp2
        go_ret
        exact ⟨ret_bool (by rw [hr.out, List.drop_of_length_le (by rw [HN.out]; exact Nat.le_refl _), List.drop_of_length_le (by rw [HM.out]; exact Nat.le_refl _)]; simp), hbel⟩
  · have hd2 : ((n : Int) == (m : Int)) = false := by simp; omega
    have hd3 : ((n : Int) != (m : Int)) = true := by simp; omega
    have HD : Hid (sameB a b = false) := Lib.hid (by unfold sameB; rw [decide_eq_false]; intro e; rw [e] at hn; omega)
    clear h hn hm
    go_enter Try.func15, Try.ntmps15
    go_wp2
    go_ret
    exact ⟨ret_bool (by rw [HD.out]), Below.refl _ _⟩
end Go.Proofs.Ytceceomaheobhaa.spl

/- The examples: plain facts. -/
namespace Go.Proofs.Ytceceomaheobhaa.spl
open Go.RowKit
open Go.Proofs.Ytceceomaheobhaa.lib Go.Proofs.Ytceceomaheobhaa.rd Go.Proofs.Ytceceomaheobhaa.app Go.Proofs.Ytceceomaheobhaa.els Go.Proofs.Ytceceomaheobhaa.loads Go.Proofs.Ytceceomaheobhaa.typ Go.Proofs.Ytceceomaheobhaa.big Go.Proofs.Ytceceomaheobhaa.ins Go.Proofs.Ytceceomaheobhaa.ord Go.Proofs.Ytceceomaheobhaa.flts Go.Proofs.Ytceceomaheobhaa.off
set_option linter.unusedVariables false
set_option linter.unusedSimpArgs false

def exO (k : Nat) : Ord := ⟨if k = 1 then ⟨#[111, 95, 49]⟩ else ⟨#[111, 95, 50]⟩, [if k = 1 then 4 else 3], ⟨-1, 0, 0, 0⟩, ⟨0, 0, 50, 0⟩, 0, if k = 1 then 5 else 4, 1, -1, -1, false⟩
def exI : Ins := ⟨⟨[⟨#[65]⟩], []⟩, [smpT], [exO 1, exO 2, smpO 1], [(0, 2), (1, 2)], []⟩
theorem ex_loads : loadsF [7, 2] 3 = some [[3, 1], [2, 1], [2, 0]] := by kernel_rfl
theorem ex_exp : expF smpI = .ok (exI, [0, 0, 1]) := by kernel_rfl
def exR : List Rou := [⟨0, 0, [⟨0, true⟩]⟩, ⟨0, 0, [⟨2, true⟩]⟩]
theorem ex_merge : mergeF smpI [0, 0, 1] exR = .ok [[⟨0, [4]⟩], [⟨1, [7]⟩]] := by kernel_rfl
theorem ex_whole : wholeF smpI.orders [⟨0, [4]⟩, ⟨1, [7]⟩] [0] = 0 := by kernel_rfl
theorem ex_miss : wholeF smpI.orders [⟨0, [4]⟩, ⟨1, [7]⟩] [] = 23 := by kernel_rfl
theorem ex_lim : ExpLim smpI := by
  refine ⟨by decide, fun o ho => ?_, by decide, by decide⟩
  simp only [smpI, List.mem_cons, List.not_mem_nil, or_false] at ho
  rcases ho with rfl | rfl
  all_goals (unfold smpO; decide)
theorem ex_good : ∀ y want, expF smpI = .ok (y, want) → ExpGood y want := fun y want h => by
  rw [ex_exp] at h
  injection h with h
  injection h with h1 h2
  subst h1
  subst h2
  have hm : ∀ o ∈ exI.orders, o = exO 1 ∨ o = exO 2 ∨ o = smpO 1 := fun o ho => by simpa [exI] using ho
  refine ⟨rfl, by decide, fun o ho => ?_, fun o ho => ?_, fun g hg => ?_⟩
  · rcases hm o ho with rfl | rfl | rfl
    all_goals
      intro v hv
      simp [exO, smpO] at hv
      omega
  · rcases hm o ho with rfl | rfl | rfl
    all_goals decide
  · simp at hg
    omega
/-- Equal lists. -/
theorem ints_yes (l : List Int) (n : Nat) (hn : l.length = n) (A : Option Addr) (c : Nat) (A' : Option Addr) (c' : Nat) (w : World) (ha : Ints w w.heap.size A l) (hb : Ints w w.heap.size A' l) :
    Calls Try.prog 15 #[.slice A n c, .slice A' n c'] w fun e w' => e = .returned (.bool true) ∧ Below w.heap.size w w' := by
  have h := ints_any A c l n hn A' c' l n hn w _ _ (Nat.le_refl _) (Nat.le_refl _) ha hb
  rw [show eqs.sameB l l = true by unfold eqs.sameB; simp] at h
  exact h
/-- The rows of Loads, as cells. -/
theorem els_cell {X : Type} {f : X → El} {s : Nat} (hs : ∀ x A c, ((f x).cells A c).length = s) {w : World} {base n c : Nat} {e : TypeId} {A : Option Addr} {P : Nat → Prop} {cs : List Value} {xs : List X} (h : ElsIn f w P cs xs) (hown : w.ownsRow base e s (.slice A n c) n cs) (hn : xs.length = n) {i : Nat} {x : X} (hi : xs[i]? = some x) : ∃ g C d, A = some ⟨g, 0, none⟩ ∧ g < w.heap.size ∧ Ints w w.heap.size C (f x).nums ∧ ∀ (j : Nat) u, ((f x).cells C d)[j]? = some u → w.cell? ⟨g, i * s + j, none⟩ = some u := by
  obtain ⟨hl, h2⟩ := h.at_ hs
  obtain ⟨C, d, h3, h4⟩ := h2 i x hi
  have hin := (List.getElem?_eq_some_iff.1 hi).1
  rcases hown.2 with ⟨h5, h6⟩ | ⟨g, cap, cur, h5, h6, h7, h8⟩
  · omega
  injection h5 with h5 _ _
  subst h5
  refine ⟨g, C, d, rfl, (Array.getElem?_eq_some_iff.1 h7).1, h3.1, fun j u hu => ?_⟩
  have e1 := h4 j u hu
  have e2 := hown.cellAt (i * s + j) (by have h := (List.getElem?_eq_some_iff.1 e1).1; rw [hown.1] at h; exact h)
  rw [e2]
  exact e1
end Go.Proofs.Ytceceomaheobhaa.spl

/- The examples, walked. -/
namespace Go.Proofs.Ytceceomaheobhaa.spl
open Go.RowKit
open Go.Proofs.Ytceceomaheobhaa.lib Go.Proofs.Ytceceomaheobhaa.rd Go.Proofs.Ytceceomaheobhaa.app Go.Proofs.Ytceceomaheobhaa.els Go.Proofs.Ytceceomaheobhaa.loads Go.Proofs.Ytceceomaheobhaa.typ Go.Proofs.Ytceceomaheobhaa.big Go.Proofs.Ytceceomaheobhaa.ins Go.Proofs.Ytceceomaheobhaa.ord Go.Proofs.Ytceceomaheobhaa.flts Go.Proofs.Ytceceomaheobhaa.off Go.Proofs.Ytceceomaheobhaa.eqg
set_option linter.unusedVariables false
set_option linter.unusedSimpArgs false

/-- What Loads gave, in every later world. -/
def ExL (w1 : World) (g : Nat) (C0 : Option Addr) (d0 : Nat) (C1 : Option Addr) (d1 : Nat) (C2 : Option Addr) (d2 : Nat) : Prop :=
  g < w1.heap.size ∧ (w1.cell? ⟨g, 0, none⟩ = some (.slice C0 2 d0) ∧ w1.cell? ⟨g, 1, none⟩ = some (.slice C1 2 d1) ∧ w1.cell? ⟨g, 2, none⟩ = some (.slice C2 2 d2)) ∧ Ints w1 w1.heap.size C0 [3, 1] ∧ Ints w1 w1.heap.size C1 [2, 1] ∧ Ints w1 w1.heap.size C2 [2, 0]
theorem ExL.below {w1 w2 : World} {g : Nat} {C0 : Option Addr} {d0 : Nat} {C1 : Option Addr} {d1 : Nat} {C2 : Option Addr} {d2 : Nat} (h : ExL w1 g C0 d0 C1 d1 C2 d2) (hb : Below w1.heap.size w1 w2) : ExL w2 g C0 d0 C1 d1 C2 d2 := by
  obtain ⟨h1, ⟨h2, h3, h4⟩, h5, h6, h7⟩ := h
  have k := fun o => hb.cell (p := ⟨g, o, none⟩) h1
  exact ⟨Nat.lt_of_lt_of_le h1 hb.size, ⟨(k 0).trans h2, (k 1).trans h3, (k 2).trans h4⟩, (h5.below hb).more hb.size, (h6.below hb).more hb.size, (h7.below hb).more hb.size⟩
theorem bVis : BuildOf 68 (.agg #[.int .i64 0, .bool false]) #[(0, 1), (1, 1)] := ⟨⟨_, Try.underlying68, fun w => by kernel_rfl⟩, fun w => by kernel_rfl⟩
def rouZs : List Value := [.int .i64 0, .int .i64 0, .slice none 0 0, .slice none 0 0]
theorem bRou : BuildOf 66 (.agg rouZs.toArray) #[(0, 1), (1, 1), (2, 1), (3, 1)] := ⟨⟨_, Try.underlying66, fun w => by kernel_rfl⟩, fun w => by kernel_rfl⟩
theorem rou_elem : ElemOf 44 66 (.agg rouZs.toArray) 4 64 := ⟨Try.underlying44, by kernel_rfl, rfl, by decide, by decide⟩
theorem rou_range : (List.range (2 * 4)).map (fun i => (Value.agg rouZs.toArray).cells[i % (Value.agg rouZs.toArray).cells.size]!) = rouZs ++ rouZs := by kernel_rfl
def exPlan (w : World) : World := ((((w.alloc (.cells #[.int .i64 0, .bool true] 68)).alloc (.cells #[.int .i64 2, .bool true] 68)).alloc (.cells #[.int .i64 0, .int .i64 0, .slice none 0 0, .slice (some ⟨w.heap.size, 0, none⟩) 1 1, .int .i64 0, .int .i64 0, .slice none 0 0, .slice (some ⟨w.heap.size + 1, 0, none⟩) 1 1] 66)).alloc (.cells #[.int .i64 1] 3)).alloc (.cells #[.slice (some ⟨w.heap.size + 1 + 1, 0, none⟩) 2 2, .slice (some ⟨w.heap.size + 1 + 1 + 1, 0, none⟩) 1 1] 46)
theorem exPlan_at (w : World) : w.heap.size + 1 + 1 + 1 + 1 < (exPlan w).heap.size ∧ ((exPlan w).cell? ⟨w.heap.size + 1 + 1 + 1 + 1, 0, none⟩ = some (.slice (some ⟨w.heap.size + 1 + 1, 0, none⟩) 2 2) ∧ (exPlan w).cell? ⟨w.heap.size + 1 + 1 + 1 + 1, 1, none⟩ = some (.slice (some ⟨w.heap.size + 1 + 1 + 1, 0, none⟩) 1 1)) ∧ RowAt rRou (exPlan w) (exPlan w).heap.size (some ⟨w.heap.size + 1 + 1, 0, none⟩) exR ∧ Below w.heap.size w (exPlan w) := by
  obtain ⟨t1, t2, t3, t4, t5, t6⟩ := stack4 w (.cells #[.int .i64 0, .bool true] 68) (.cells #[.int .i64 2, .bool true] 68) (.cells #[.int .i64 0, .int .i64 0, .slice none 0 0, .slice (some ⟨w.heap.size, 0, none⟩) 1 1, .int .i64 0, .int .i64 0, .slice none 0 0, .slice (some ⟨w.heap.size + 1, 0, none⟩) 1 1] 66) (.cells #[.int .i64 1] 3)
  unfold exPlan
  generalize (((w.alloc (.cells #[.int .i64 0, .bool true] 68)).alloc (.cells #[.int .i64 2, .bool true] 68)).alloc (.cells #[.int .i64 0, .int .i64 0, .slice none 0 0, .slice (some ⟨w.heap.size, 0, none⟩) 1 1, .int .i64 0, .int .i64 0, .slice none 0 0, .slice (some ⟨w.heap.size + 1, 0, none⟩) 1 1] 66)).alloc (.cells #[.int .i64 1] 3) = W4 at *
  have hz : (W4.alloc (.cells #[.slice (some ⟨w.heap.size + 1 + 1, 0, none⟩) 2 2, .slice (some ⟨w.heap.size + 1 + 1 + 1, 0, none⟩) 1 1] 46)).heap.size = w.heap.size + 1 + 1 + 1 + 1 + 1 := by rw [World.size_alloc, t5]
  have hb : Below W4.heap.size W4 (W4.alloc (.cells #[.slice (some ⟨w.heap.size + 1 + 1, 0, none⟩) 2 2, .slice (some ⟨w.heap.size + 1 + 1 + 1, 0, none⟩) 1 1] 46)) := (Below.refl _ _).alloc (Nat.le_refl _) _
  have c0 := two_new W4 (.slice (some ⟨w.heap.size + 1 + 1, 0, none⟩) 2 2) (.slice (some ⟨w.heap.size + 1 + 1 + 1, 0, none⟩) 1 1) 46 0 _ rfl
  have c1 := two_new W4 (.slice (some ⟨w.heap.size + 1 + 1, 0, none⟩) 2 2) (.slice (some ⟨w.heap.size + 1 + 1 + 1, 0, none⟩) 1 1) 46 1 _ rfl
  rw [t5] at c0 c1
  generalize W4.alloc (.cells #[.slice (some ⟨w.heap.size + 1 + 1, 0, none⟩) 2 2, .slice (some ⟨w.heap.size + 1 + 1 + 1, 0, none⟩) 1 1] 46) = W5 at *
  have n1 := (hb.block _ (show w.heap.size < _ by omega)).trans t1
  have n2 := (hb.block _ (show w.heap.size + 1 < _ by omega)).trans t2
  have n3 := (hb.block _ (show w.heap.size + 1 + 1 < _ by omega)).trans t3
  have r1 : RowAt rVis W5 W5.heap.size (some ⟨w.heap.size, 0, none⟩) [⟨0, true⟩] := row_blk (r := rVis) (cs := VisCells ⟨0, true⟩) n1 (by omega) (rVis_mk (by unfold VisFits; decide))
  have r2 : RowAt rVis W5 W5.heap.size (some ⟨w.heap.size + 1, 0, none⟩) [⟨2, true⟩] := row_blk (r := rVis) (cs := VisCells ⟨2, true⟩) n2 (by omega) (rVis_mk (by unfold VisFits; decide))
  have q1 : rRou.at_ W5 W5.heap.size (RouCells ⟨0, 0, [⟨0, true⟩]⟩ (.slice none 0 0) (some ⟨w.heap.size, 0, none⟩) 1) ⟨0, 0, [⟨0, true⟩]⟩ := rRou_mk r1 rfl (by decide) (by decide)
  have q2 : rRou.at_ W5 W5.heap.size (RouCells ⟨0, 0, [⟨2, true⟩]⟩ (.slice none 0 0) (some ⟨w.heap.size + 1, 0, none⟩) 1) ⟨0, 0, [⟨2, true⟩]⟩ := rRou_mk r2 rfl (by decide) (by decide)
  exact ⟨by omega, ⟨c0, c1⟩, row_blk2 (r := rRou) n3 (by omega) q1 q2, t6.trans (hb.mono (by omega))⟩
theorem ex_dims : ∀ o ∈ smpI.orders, o.load.length ≤ 1000000 := fun o ho => by
  simp only [smpI, List.mem_cons, List.not_mem_nil, or_false] at ho
  rcases ho with rfl | rfl
  all_goals decide
theorem two_same (a b : Int) (w : World) : (Op.equalIn 10000 76 (.agg #[.int .i64 a, .int .i64 b]) (.agg #[.int .i64 a, .int .i64 b])).run Try.prog w = .ok true w := by
  obtain ⟨i0, hi, _⟩ := info_parts int_info
  have h := arr.run_eq_ints (t := 76) w 9998 Try.underlying76 hi [a, b] [a, b] rfl rfl
  rw [show decide ([a, b] = [a, b]) = true by simp] at h
  exact h
/-- What Merge gave. -/
def ExM (w : World) (g : Nat) (M0 : Option Addr) (e0 : Nat) (M1 : Option Addr) (e1 : Nat) (ad0 : Addr) (K0 : Option Addr) (f0 : Nat) (ad1 : Addr) : Prop :=
  w.cell? ⟨g, 0, none⟩ = some (.slice M0 1 e0) ∧ w.cell? ⟨g, 1, none⟩ = some (.slice M1 1 e1) ∧ g < w.heap.size ∧ RowAt (rSlice rSha) w w.heap.size (some ⟨g, 0, none⟩) [[⟨0, [4]⟩], [⟨1, [7]⟩]] ∧ M0 = some ad0 ∧ M1 = some ad1 ∧ w.cell? ⟨ad0.block, ad0.off + 1, none⟩ = some (.slice K0 1 f0) ∧ w.cell? ad1 = some (.int .i64 1) ∧ Ints w w.heap.size K0 [4] ∧ ad0.block < w.heap.size ∧ ad1.block < w.heap.size
theorem exM_of {w0 w : World} {A8 : Option Addr} {c8 : Nat} {cs : List Value} {P : Nat → Prop} (hown : w.ownsRow w0.heap.size 50 1 (.slice A8 2 c8) 2 cs) (hels : EG (oSlice oSha) w P cs [[⟨0, [4]⟩], [⟨1, [7]⟩]]) : ∃ g M0 e0 M1 e1 ad0 K0 f0 ad1, A8 = some ⟨g, 0, none⟩ ∧ ExM w g M0 e0 M1 e1 ad0 K0 f0 ad1 := by
  have hr := hels.row (r := oSlice oSha) (e := 50) hown (by decide)
  have add0 : ∀ a : Addr, a.add 0 = a := fun a => by unfold Addr.add; simp
  rcases hown.2 with ⟨h5, h6⟩ | ⟨g, cap, cur, h5, h6, h7, h8⟩
  · cases h6
  injection h5 with h5 _ _
  subst h5
  obtain ⟨ad, c1, hA, hb1, ⟨M0, e0, rfl, r0⟩, k0⟩ := hr.elem (i := 0) rfl
  obtain ⟨ad', c2, hA', hb2, ⟨M1, e1, rfl, r1⟩, k1⟩ := hr.elem (i := 1) rfl
  injection hA with hA
  subst hA
  injection hA' with hA'
  subst hA'
  obtain ⟨ad0, C0, d0, hM0, hb0, ⟨m0, m1⟩, hi0, -⟩ := row_Sha r0 (i := 0) rfl
  obtain ⟨ad1, C1, d1, hM1, hb1', ⟨n0, n1⟩, hi1, -⟩ := row_Sha r1 (i := 0) rfl
  rw [Nat.zero_mul, add0] at m0 m1 n0 n1
  exact ⟨g, M0, e0, M1, e1, ad0, C0, d0, ad1, rfl, k0 0 _ rfl, k1 0 _ rfl, hb1, hr, hM0, hM1, m1, n0, hi0, hb0, hb1'⟩
theorem ExM.below {w w' : World} {g : Nat} {M0 : Option Addr} {e0 : Nat} {M1 : Option Addr} {e1 : Nat} {ad0 : Addr} {K0 : Option Addr} {f0 : Nat} {ad1 : Addr} (h : ExM w g M0 e0 M1 e1 ad0 K0 f0 ad1) (hb : Below w.heap.size w w') : ExM w' g M0 e0 M1 e1 ad0 K0 f0 ad1 := by
  obtain ⟨h1, h2, h3, h4, h5, h6, h7, h8, h9, h10, h11⟩ := h
  exact ⟨(hb.cell (p := ⟨g, 0, none⟩) h3).trans h1, (hb.cell (p := ⟨g, 1, none⟩) h3).trans h2, Nat.lt_of_lt_of_le h3 hb.size, (h4.below hb).more hb.size, h5, h6, (hb.cell (p := ⟨ad0.block, ad0.off + 1, none⟩) h10).trans h7, (hb.cell h11).trans h8, (h9.below hb).more hb.size, Nat.lt_of_lt_of_le h10 hb.size, Nat.lt_of_lt_of_le h11 hb.size⟩
set_option maxRecDepth 20000 in
set_option maxHeartbeats 4000000 in
theorem examples_any (w : World) : Calls Try.prog 11 #[] w fun e w' => e = .returned (.bool true) ∧ Below w.heap.size w w' := by
  go_enter Try.func11, Try.ntmps11
  go_upto_region 1 with fail
  go_cut [1, 2] (fun l e wx => ∃ g c C0 d0 C1 d1 C2 d2, l = .slice (some ⟨g, 0, none⟩) 3 c ∧ e = .int .i64 0 ∧ ExL wx g C0 d0 C1 d1 C2 d2 ∧ Below w.heap.size w wx)
  case first => as_aux_lemma =>
    have HI : Hid (Ints (w.alloc (.cells #[.int .i64 7, .int .i64 2] 3)) (w.alloc (.cells #[.int .i64 7, .int .i64 2] 3)).heap.size (some ⟨w.heap.size, 0, none⟩) [7, 2]) := Lib.hid ((Ints.lit w [7, 2] (by decide)).more (by simp))
    go_wp2_with fail
    refine (loads_any (some ⟨w.heap.size, 0, none⟩) 2 [7, 2] 3 _ HI.out).mono ?_
    rw [ex_loads]
    rintro e w1 (⟨ll, A1, c1, cs1, h, rfl, hown1, hels1, b1⟩ | ⟨h, -⟩)
    rotate_left
    · cases h
    injection h with h
    subst h
    obtain ⟨g, C0, d0, rfl, hg, i0, k0⟩ := els_cell (s := 1) (fun x A c => rfl) hels1 hown1 rfl (i := 0) rfl
    obtain ⟨g1, C1, d1, e1, -, i1, k1⟩ := els_cell (s := 1) (fun x A c => rfl) hels1 hown1 rfl (i := 1) rfl
    obtain ⟨g2, C2, d2, e2, -, i2, k2⟩ := els_cell (s := 1) (fun x A c => rfl) hels1 hown1 rfl (i := 2) rfl
    injection e1 with e1
    injection e1 with e1
    subst e1
    injection e2 with e2
    injection e2 with e2
    subst e2
    have H := Lib.hid (show ExL w1 g C0 d0 C1 d1 C2 d2 from ⟨hg, ⟨k0 0 _ rfl, k1 0 _ rfl, k2 0 _ rfl⟩, i0, i1, i2⟩)
    clear hown1 hels1 i0 k0 i1 k1 i2 k2
    go_wp2_with fail
    go_meet
    exact ⟨g, c1, C0, d0, C1, d1, C2, d2, rfl, rfl, H.out, ((Below.refl _ _).alloc (Nat.le_refl _) _).trans (b1.mono (by simp))⟩
  obtain ⟨g, c, C0, d0, C1, d1, C2, d2, h1, h2, hL, hB⟩ := hcut
  subst h1
  subst h2
  have HL := Lib.hid hL
  have HB := Lib.hid hB
  have z1 := hB.size
  clear hL hB
  go_upto_region 2 with fail
  go_cut [3] (fun p wx => ∃ P k, p = .pointer (some ⟨k, 0, none⟩) ∧ SixAt wx k (insCs smpI P) ∧ InAt wx wx.heap.size smpI P ∧ Below wc.heap.size wc wx)
  case first => as_aux_lemma =>
    go_wp2_with (first
      | (go_at_call 26; refine (sample_any _).mono ?_; rintro e w1 ⟨P, rfl, hI, hb⟩; have HI := Lib.hid hI; clear hI)
      | ((with_reducible refine wpList_storeL sIns rfl _ _ rfl w1.heap.size nilCs (insCs smpI P) ?_ ?_ ?_ ?_ ?_ (insCs_one _ _) ?_); exact rfl; exact rfl; exact World.alloc_heap_new w1 _; exact rfl; exact rfl; intro w2 k1 k2 k3 k4; have K := Lib.hid (And.intro k1 (And.intro k2 (And.intro k3 k4))); clear k1 k2 k3 k4))
    go_meet
    obtain ⟨k1, k2, k3, k4⟩ := K.out
    have hb2 : Below w1.heap.size w1 w2 := ((Below.refl _ _).alloc (Nat.le_refl _) _).trans k4
    exact ⟨P, w1.heap.size, rfl, k1, HI.out.go hb2, hb.trans (hb2.mono hb.size)⟩
  obtain ⟨P, px, h3, hx, hI, hb⟩ := hcut
  subst h3
  have HX := Lib.hid (And.intro hx hI)
  have hpx : px < wc.heap.size := (Array.getElem?_eq_some_iff.1 hx).1
  have HL2 := Lib.hid (HL.out.below hb)
  have HB2 := Lib.hid (HB.out.trans (hb.mono z1))
  have z2 := HB2.out.size
  clear HL HB z1 hx hI hb
  go_upto_region 3 with fail
  go_cut [4, 5, 6] (fun p l e wx => ∃ Q k A c, p = .pointer (some ⟨k, 0, none⟩) ∧ l = .slice A 3 c ∧ e = .int .i64 0 ∧ SixAt wx k (insCs exI Q) ∧ InAt wx wx.heap.size exI Q ∧ Ints wx wx.heap.size A [0, 0, 1] ∧ Below wc.heap.size wc wx)
  case first => as_aux_lemma =>
    go_wp2_with ((with_reducible refine wpList_loadG stIns _ rfl ⟨px, 0, none⟩ (insCs (smpI) P) ?_ ?_ ?_ ?_ ?_); exact rfl; exact rfl; exact HX.out.1.cells; exact rfl)
    refine (expand_any smpI P wc HX.out.2 ex_lim).mono ?_
    rw [ex_exp]
    rintro e w1 ⟨Q, A, c, rfl, hI1, hi1, hb1⟩
    have HI1 := Lib.hid (And.intro hI1 hi1)
    clear hI1 hi1
    go_wp2_with ((with_reducible refine wpList_storeL stIns rfl _ _ rfl w1.heap.size nilCs (insCs exI Q) ?_ ?_ ?_ ?_ ?_ (insCs_one _ _) ?_); exact rfl; exact rfl; exact World.alloc_heap_new w1 _; exact rfl; exact rfl; intro w2 k1 k2 k3 k4; have K := Lib.hid (And.intro k1 (And.intro k2 (And.intro k3 k4))); clear k1 k2 k3 k4)
    go_meet
    obtain ⟨k1, k2, k3, k4⟩ := K.out
    have hb2 : Below w1.heap.size w1 w2 := ((Below.refl _ _).alloc (Nat.le_refl _) _).trans k4
    exact ⟨Q, w1.heap.size, A, c, rfl, rfl, rfl, k1, HI1.out.1.go hb2, (HI1.out.2.below hb2).more hb2.size, hb1.trans (hb2.mono hb1.size)⟩
  obtain ⟨Q, py, A, cA, h4, h5, h6, hy, hI, hi, hb⟩ := hcut
  subst h4
  subst h5
  subst h6
  have HY := Lib.hid (And.intro hy (And.intro hI hi))
  have hpy : py < wc.heap.size := (Array.getElem?_eq_some_iff.1 hy).1
  have HX3 := Lib.hid (And.intro (HX.out.1.below hb) (HX.out.2.go hb))
  have HL3 := Lib.hid (HL2.out.below hb)
  have HB3 := Lib.hid (HB2.out.trans (hb.mono z2))
  have z3 := HB3.out.size
  have hpx3 : px < wc.heap.size := Nat.lt_of_lt_of_le hpx hb.size
  clear HL2 HB2 z2 HX hpx hy hI hi hb
  go_upto_region 4 with fail
  go_cut [74] (fun v wx => v = .bool false ∧ Below wc.heap.size wc wx)
  case first => as_aux_lemma =>
    obtain ⟨q0, q1, q2⟩ := HL3.out.2.1
    go_wp2_with fail
    have b0w5 : Below wc.heap.size wc (wc.alloc (.cells (([3, 1] : List Int).map (.int .i64)).toArray 3)) := (Below.refl _ _).alloc (Nat.le_refl _) _
    refine (ints_yes [3, 1] 2 rfl C0 d0 (some ⟨wc.heap.size, 0, none⟩) 2 _ ((HL3.out.below b0w5).2.2.1) ((Ints.lit wc [3, 1] (by decide)).more (by simp))).mono ?_
    rintro e w5 ⟨rfl, b1w5⟩
    have bw5 : Below wc.heap.size wc w5 := b0w5.trans (b1w5.mono b0w5.size)
    clear b0w5 b1w5
    have HL5 := Lib.hid (HL3.out.below bw5)
    clear q0 q1 q2
    obtain ⟨q0, q1, q2⟩ := HL5.out.2.1
    have HB5 := Lib.hid bw5
    clear bw5
    go_wp2_with fail
    have b0w6 : Below w5.heap.size w5 (w5.alloc (.cells (([2, 1] : List Int).map (.int .i64)).toArray 3)) := (Below.refl _ _).alloc (Nat.le_refl _) _
    refine (ints_yes [2, 1] 2 rfl C1 d1 (some ⟨w5.heap.size, 0, none⟩) 2 _ ((HL5.out.below b0w6).2.2.2.1) ((Ints.lit w5 [2, 1] (by decide)).more (by simp))).mono ?_
    rintro e w6 ⟨rfl, b1w6⟩
    have bw6 : Below w5.heap.size w5 w6 := b0w6.trans (b1w6.mono b0w6.size)
    clear b0w6 b1w6
    have HL6 := Lib.hid (HL5.out.below bw6)
    clear q0 q1 q2
    obtain ⟨q0, q1, q2⟩ := HL6.out.2.1
    have HB6 := Lib.hid (HB5.out.trans (bw6.mono HB5.out.size))
    clear bw6
    go_wp2_with fail
    have b0w7 : Below w6.heap.size w6 (w6.alloc (.cells (([2, 0] : List Int).map (.int .i64)).toArray 3)) := (Below.refl _ _).alloc (Nat.le_refl _) _
    refine (ints_yes [2, 0] 2 rfl C2 d2 (some ⟨w6.heap.size, 0, none⟩) 2 _ ((HL6.out.below b0w7).2.2.2.2) ((Ints.lit w6 [2, 0] (by decide)).more (by simp))).mono ?_
    rintro e w7 ⟨rfl, b1w7⟩
    have bw7 : Below w6.heap.size w6 w7 := b0w7.trans (b1w7.mono b0w7.size)
    clear b0w7 b1w7
    clear q0 q1 q2
    have HB7 := Lib.hid (HB6.out.trans (bw7.mono HB6.out.size))
    have HA7 : Hid (Ints w7 w7.heap.size A [0, 0, 1]) := Lib.hid ((HY.out.2.2.below HB7.out).more HB7.out.size)
    clear bw7
    go_wp2_with fail
    have b0w8 : Below w7.heap.size w7 (w7.alloc (.cells (([0, 0, 1] : List Int).map (.int .i64)).toArray 3)) := (Below.refl _ _).alloc (Nat.le_refl _) _
    refine (ints_yes [0, 0, 1] 3 rfl A cA (some ⟨w7.heap.size, 0, none⟩) 3 _ ((HA7.out.below b0w8).more b0w8.size) ((Ints.lit w7 [0, 0, 1] (by decide)).more (by simp))).mono ?_
    rintro e w8 ⟨rfl, b1w8⟩
    have bw8 : Below w7.heap.size w7 w8 := b0w8.trans (b1w8.mono b0w8.size)
    clear b0w8 b1w8
    have HB8 := Lib.hid (HB7.out.trans (bw8.mono HB7.out.size))
    have hy8 := HY.out.1.below HB8.out
    have y3 : w8.cell? ⟨py, 3, none⟩ = some (.slice Q.a3 3 Q.c3) := hy8.cell (j := 3) rfl
    have y4 : w8.cell? ⟨py, 4, none⟩ = some (.slice Q.a4 2 Q.c4) := hy8.cell (j := 4) rfl
    clear bw8 hy8
    go_wp2_with fail
    go_meet
    exact ⟨rfl, HB8.out⟩
  obtain ⟨h74, hb⟩ := hcut
  subst h74
  have HY4 := Lib.hid (And.intro (HY.out.1.below hb) (And.intro (HY.out.2.1.go hb) ((HY.out.2.2.below hb).more hb.size)))
  have HX4 := Lib.hid (And.intro (HX3.out.1.below hb) (HX3.out.2.go hb))
  have HB4 := Lib.hid (HB3.out.trans (hb.mono z3))
  have z4 := HB4.out.size
  have hpx4 : px < wc.heap.size := Nat.lt_of_lt_of_le hpx3 hb.size
  have hpy4 : py < wc.heap.size := Nat.lt_of_lt_of_le hpy hb.size
  clear HY HX3 HB3 z3 hpx3 hpy HL3 hb
  go_upto_region 6 with fail
  go_cut [7] (fun p wx => ∃ kp AR AU, p = .pointer (some ⟨kp, 0, none⟩) ∧ kp < wx.heap.size ∧ (wx.cell? ⟨kp, 0, none⟩ = some (.slice AR 2 2) ∧ wx.cell? ⟨kp, 1, none⟩ = some (.slice AU 1 1)) ∧ RowAt rRou wx wx.heap.size AR exR ∧ Below wc.heap.size wc wx)
  case first => as_aux_lemma =>
    go_wp2_with (first
      | ((with_reducible refine wpList_buildL bVis rfl _ rfl [(0, .int .i64 0), (1, .bool true)] [.int .i64 0, .bool true] ?_ (by kernel_rfl) ?_); exact rfl)
      | ((with_reducible refine wpList_buildL bVis rfl _ rfl [(0, .int .i64 2), (1, .bool true)] [.int .i64 2, .bool true] ?_ (by kernel_rfl) ?_); exact rfl)
      | ((with_reducible refine wpList_buildL bRou rfl _ rfl [(3, .slice (some ⟨wc.heap.size, 0, none⟩) 1 1)] [.int .i64 0, .int .i64 0, .slice none 0 0, .slice (some ⟨wc.heap.size, 0, none⟩) 1 1] ?_ (by kernel_rfl) ?_); exact rfl)
      | ((with_reducible refine wpList_buildL bRou rfl _ rfl [(3, .slice (some ⟨wc.heap.size + 1, 0, none⟩) 1 1)] [.int .i64 0, .int .i64 0, .slice none 0 0, .slice (some ⟨wc.heap.size + 1, 0, none⟩) 1 1] ?_ (by kernel_rfl) ?_); exact rfl)
      | ((with_reducible refine wpList_bsliceL rou_elem rfl 2 _ rfl [(0, .agg #[.int .i64 0, .int .i64 0, .slice none 0 0, .slice (some ⟨wc.heap.size, 0, none⟩) 1 1]), (1, .agg #[.int .i64 0, .int .i64 0, .slice none 0 0, .slice (some ⟨wc.heap.size + 1, 0, none⟩) 1 1])] [.int .i64 0, .int .i64 0, .slice none 0 0, .slice (some ⟨wc.heap.size, 0, none⟩) 1 1, .int .i64 0, .int .i64 0, .slice none 0 0, .slice (some ⟨wc.heap.size + 1, 0, none⟩) 1 1] (rouZs ++ rouZs) ?_ (by decide) (by decide) rou_range (by kernel_rfl) ?_); exact rfl))
    go_meet
    have H := exPlan_at wc
    exact ⟨wc.heap.size + 1 + 1 + 1 + 1, some ⟨wc.heap.size + 1 + 1, 0, none⟩, some ⟨wc.heap.size + 1 + 1 + 1, 0, none⟩, rfl, H.1, H.2.1, H.2.2.1, H.2.2.2⟩
  obtain ⟨kp, AR, AU, h7, hkp, ⟨hp0, hp1⟩, hR, hb⟩ := hcut
  subst h7
  have HR5 := Lib.hid hR
  have HY5 := Lib.hid (And.intro (HY4.out.1.below hb) (And.intro (HY4.out.2.1.go hb) ((HY4.out.2.2.below hb).more hb.size)))
  have HX5 := Lib.hid (And.intro (HX4.out.1.below hb) (HX4.out.2.go hb))
  have HB5 := Lib.hid (HB4.out.trans (hb.mono z4))
  have z5 := HB5.out.size
  have hpx5 : px < wc.heap.size := Nat.lt_of_lt_of_le hpx4 hb.size
  have hpy5 : py < wc.heap.size := Nat.lt_of_lt_of_le hpy4 hb.size
  clear HY4 HX4 HB4 z4 hpx4 hpy4 hb hR
  go_upto_region 7 with fail
  go_cut [8, 9] (fun l e wx => ∃ A8 c8 cs, l = .slice A8 2 c8 ∧ e = .int .i64 0 ∧ wx.ownsRow wc.heap.size 50 1 (.slice A8 2 c8) 2 cs ∧ EG (oSlice oSha) wx (fun b => wc.heap.size ≤ b) cs [[⟨0, [4]⟩], [⟨1, [7]⟩]] ∧ Below wc.heap.size wc wx)
  case first => as_aux_lemma =>
    go_wp2_with ((with_reducible refine wpList_loadG stIns _ rfl ⟨px, 0, none⟩ (insCs (smpI) P) ?_ ?_ ?_ ?_ ?_); exact rfl; exact rfl; exact HX5.out.1.cells; exact rfl)
    refine (merge_any smpI P A cA [0, 0, 1] AR 2 exR _ wc HX5.out.2 ex_lim HY5.out.2.2 HR5.out (by decide) ex_good).mono ?_
    rw [ex_merge]
    rintro e w1 ⟨A8, c8, cs, rfl, hown, hels, hb1⟩
    have HK := Lib.hid (And.intro hown (And.intro hels hb1))
    clear hown hels hb1
    go_wp2_with fail
    go_meet
    exact ⟨A8, c8, cs, rfl, rfl, HK.out.1, HK.out.2.1, HK.out.2.2⟩
  obtain ⟨A8, c8, cs8, h8, h9, hown, hels, hb⟩ := hcut
  subst h8
  subst h9
  have HY6 := Lib.hid (And.intro (HY5.out.1.below hb) (HY5.out.2.1.go hb))
  have HX6 := Lib.hid (And.intro (HX5.out.1.below hb) (HX5.out.2.go hb))
  have HB6 := Lib.hid (HB5.out.trans (hb.mono z5))
  have z6 := HB6.out.size
  have hpx6 : px < wc.heap.size := Nat.lt_of_lt_of_le hpx5 hb.size
  have hpy6 : py < wc.heap.size := Nat.lt_of_lt_of_le hpy5 hb.size
  obtain ⟨g8, M0, e0, M1, e1, ad0, K0, f0, ad1, hA8, HM⟩ := exM_of hown hels
  subst hA8
  have HM6 := Lib.hid HM
  clear HY5 HX5 HB5 z5 hpx5 hpy5 hb hown hels HM HR5 hp0 hp1
  go_upto_region 8 with fail
  go_cut [131] (fun v wx => v = .bool false ∧ Below wc.heap.size wc wx)
  case first => as_aux_lemma =>
    obtain ⟨q0, q1, -, -, hM0, hM1, q2, q3, q4, -⟩ := HM6.out
    subst hM0
    subst hM1
    go_wp2_with fail
    have hb0 : Below wc.heap.size wc (wc.alloc (.cells (([4] : List Int).map (.int .i64)).toArray 3)) := (Below.refl _ _).alloc (Nat.le_refl _) _
    refine (ints_yes [4] 1 rfl K0 f0 (some ⟨wc.heap.size, 0, none⟩) 1 _ (HM6.out.below hb0).2.2.2.2.2.2.2.2.1 ((Ints.lit wc [4] (by decide)).more (by simp))).mono ?_
    rintro e w5 ⟨rfl, hb1⟩
    have hb5 : Below wc.heap.size wc w5 := hb0.trans (hb1.mono hb0.size)
    have HB7 := Lib.hid hb5
    have HM7 := Lib.hid (HM6.out.below hb5)
    clear q0 q1 q2 q3 q4 hb0 hb1 hb5
    obtain ⟨q0, q1, -, -, -, -, q2, q3, q4, -⟩ := HM7.out
    go_wp2_with fail
    go_meet
    exact ⟨rfl, HB7.out⟩
  obtain ⟨h131, hb⟩ := hcut
  subst h131
  have HM8 := Lib.hid (HM6.out.below hb)
  have HY8 := Lib.hid (And.intro (HY6.out.1.below hb) (HY6.out.2.go hb))
  have HX8 := Lib.hid (And.intro (HX6.out.1.below hb) (HX6.out.2.go hb))
  have HB8 := Lib.hid (HB6.out.trans (hb.mono z6))
  have z8 := HB8.out.size
  clear HM6 HY6 HX6 HB6 z6 hb
  go_upto_region 10 with fail
  have y3 : wc.cell? ⟨py, 3, none⟩ = some (.slice Q.a3 3 Q.c3) := HY8.out.1.cell (j := 3) rfl
  have y4 : wc.cell? ⟨py, 4, none⟩ = some (.slice Q.a4 2 Q.c4) := HY8.out.1.cell (j := 4) rfl
  obtain ⟨ao, D0, k0, hQ3, hbo, ⟨m0, m1, m2, m3, m4, m5, m6, m7, m8, m9, m10, m11, -⟩, -, -⟩ := row_Ord HY8.out.2.orders (i := 0) rfl
  obtain ⟨ao', D1, k1, hQ3', -, ⟨n0, -⟩, -, -⟩ := row_Ord HY8.out.2.orders (i := 1) rfl
  obtain ⟨ap, hQ4, hbp, ⟨p0, p1⟩, -⟩ := row_Two HY8.out.2.apart (i := 1) rfl
  rw [hQ3] at hQ3'
  injection hQ3' with hQ3'
  subst hQ3'
  have add0 : ∀ a : Addr, a.add 0 = a := fun a => by unfold Addr.add; simp
  rw [Nat.zero_mul, add0] at m11
  have m11' : wc.cell? ⟨ao.block, ao.off + 11, none⟩ = some (.int .i64 5) := m11
  have n0' : wc.cell? ⟨ao.block, ao.off + 16, none⟩ = some (.string ⟨#[111, 95, 50]⟩) := n0
  have p0' : wc.cell? ⟨ap.block, ap.off + 2, none⟩ = some (.int .i64 1) := p0
  have p1' : wc.cell? ⟨ap.block, ap.off + 2 + 1, none⟩ = some (.int .i64 2) := p1
  have p1'' : wc.cell? ⟨ap.block, ap.off + 3, none⟩ = some (.int .i64 2) := p1
  have HQ := Lib.hid (And.intro hQ3 hQ4)
  have heq2 := two_same 1 2 wc
  rw [hQ3] at y3
  rw [hQ4] at y4
  have hW0 := ex_whole
  clear m0 m1 m2 m3 m4 m5 m6 m7 m8 m9 m10 m11 n0 p0 p1 add0 hQ3 hQ4 hW0
  go_wp2_with ((with_reducible refine wpList_loadG stIns _ rfl ⟨px, 0, none⟩ (insCs (smpI) P) ?_ ?_ ?_ ?_ ?_); exact rfl; exact rfl; exact HX8.out.1.cells; exact rfl)
  have hb0 : Below wc.heap.size wc (wc.alloc (.cells (([0] : List Int).map (.int .i64)).toArray 3)) := (Below.refl _ _).alloc (Nat.le_refl _) _
  have HW9 := Lib.hid (whole_any smpI P (some ⟨g8, 0, none⟩) c8 [[⟨0, [4]⟩], [⟨1, [7]⟩]] (some ⟨wc.heap.size, 0, none⟩) 1 [0] (wc.alloc (.cells (([0] : List Int).map (.int .i64)).toArray 3)) (HX8.out.2.go hb0) (HM8.out.below hb0).2.2.2.1 ((Ints.lit wc [0] (by decide)).more (by simp)) (by decide) ex_dims (by decide) (by decide))
  refine HW9.out.mono ?_
  rintro e w9 ⟨he, hb9'⟩
  rw [show ([[⟨0, [4]⟩], [⟨1, [7]⟩]] : List (List Sha)).flatten = [⟨0, [4]⟩, ⟨1, [7]⟩] from rfl, ex_whole] at he
  subst he
  have hb9 : Below wc.heap.size wc w9 := hb0.trans (hb9'.mono hb0.size)
  have HB9 := Lib.hid hb9
  have HX9 := Lib.hid (And.intro (HX8.out.1.below hb9) (HX8.out.2.go hb9))
  have HM9 := Lib.hid (HM8.out.below hb9)
  clear hb0 hb9 hb9' HW9 m11' n0' p0' p1' p1'' y3 y4 heq2
  go_wp2_with ((with_reducible refine wpList_loadG stIns _ rfl ⟨px, 0, none⟩ (insCs (smpI) P) ?_ ?_ ?_ ?_ ?_); exact rfl; exact rfl; exact HX9.out.1.cells; exact rfl)
  refine (whole_any smpI P (some ⟨g8, 0, none⟩) c8 [[⟨0, [4]⟩], [⟨1, [7]⟩]] none 0 [] w9 HX9.out.2 HM9.out.2.2.2.1 Ints.nil (by decide) ex_dims (by decide) (by decide)).mono ?_
  rintro e w10 ⟨he, hb10⟩
  rw [show ([[⟨0, [4]⟩], [⟨1, [7]⟩]] : List (List Sha)).flatten = [⟨0, [4]⟩, ⟨1, [7]⟩] from rfl, ex_miss] at he
  subst he
  go_wp2_with fail
  go_ret
  exact ⟨rfl, HB8.out.trans ((HB9.out.trans (hb10.mono HB9.out.size)).mono z8)⟩
end Go.Proofs.Ytceceomaheobhaa.spl

/- The law's comparison of lists of lists; the reference's part, Loads. -/
namespace Go.Proofs.Ytceceomaheobhaa.spl
open Go.RowKit
open Go.Proofs.Ytceceomaheobhaa.lib Go.Proofs.Ytceceomaheobhaa.rd Go.Proofs.Ytceceomaheobhaa.app Go.Proofs.Ytceceomaheobhaa.els Go.Proofs.Ytceceomaheobhaa.loads
set_option linter.unusedVariables false
set_option linter.unusedSimpArgs false

def listsB (a b : List (List Int)) : Bool := decide (a = b)
theorem lists_step {a b : List (List Int)} {k : Nat} {x y : List Int} (hx : a[k]? = some x) (hy : b[k]? = some y) : decide (a.drop k = b.drop k) = (eqs.sameB x y && decide (a.drop (k + 1) = b.drop (k + 1))) := by
  rw [drop_at' hx, drop_at' hy, Bool.eq_iff_iff]
  unfold eqs.sameB
  simp
set_option maxRecDepth 20000 in
set_option maxHeartbeats 1000000 in
theorem lists_any (A : Option Addr) (c : Nat) (a : List (List Int)) (n : Nat) (hn : a.length = n) (A' : Option Addr) (c' : Nat) (b : List (List Int)) (m : Nat) (hm : b.length = m) (w : World) (ha : Rows2 w w.heap.size A a) (hb : Rows2 w w.heap.size A' b) :
    Calls Try.prog 10 #[.slice A n c, .slice A' m c'] w fun e w' => e = .returned (.bool (listsB a b)) ∧ Below w.heap.size w w' := by
  have hlen : n ≤ 17592186043904 := by rw [← hn]; exact ha.1
  by_cases h : n = m
  · subst h
    have HN := Lib.hid hn
    have HM := Lib.hid hm
    clear hn hm
    go_enter Try.func10, Try.ntmps10
    go_wp2
    go_loopw [5, 13] (fun _ i wr => ∃ k : Nat, k ≤ n ∧ i = .int .i64 k ∧ Hid (listsB a b = decide (a.drop k = b.drop k)) ∧ Below w.heap.size w wr) (fun _ i _ => n - (intOf i).toNat)
    case atStart => exact ⟨0, by omega, rfl, Lib.hid rfl, Below.refl _ _⟩
    case round =>
      obtain ⟨k, hk, rfl, hr, hbel⟩ := hrel
      by_cases hlt : k < n
      · obtain ⟨ad, x, C, c0, rfl, hadb, hx, hcx, hix⟩ := (ha.below hbel).at_ (k := k) (by rw [HN.out]; exact hlt)
        obtain ⟨ad', y, D, d0, rfl, hadb', hy, hcy, hiy⟩ := (hb.below hbel).at_ (k := k) (by rw [HM.out]; exact hlt)
        have HX := Lib.hid (lists_step hx hy)
        have HI := Lib.hid (And.intro hix hiy)
        have hz := hbel.size
        have hk0 : (0 : Int) ≤ (k : Int) := by omega
        have hkn : (k : Int) < (n : Int) := by omega
        clear hx hy hix hiy
        obtain ⟨p, hp⟩ : ∃ p, x.length = p := ⟨_, rfl⟩
        obtain ⟨q, hq⟩ : ∃ p, y.length = p := ⟨_, rfl⟩
        have HP := Lib.hid (And.intro hp hq)
        rw [hp] at hcx
        rw [hq] at hcy
        clear hp hq
        obtain ⟨s, hs⟩ : ∃ s, eqs.sameB x y = s := ⟨_, rfl⟩
        have HS := Lib.hid hs
        clear hs
        go_upto_region 6 with fail
        go_cut [25] (fun v wx => v = .bool (!s) ∧ Below w.heap.size w wx)
        case first => as_aux_lemma =>
          (refine wp_region_held_drew (S := (fun w' => w'.cell? (ad.add k) = some (.slice C p c0) ∧ w'.cell? (ad'.add k) = some (.slice D q d0))) (by kernel_rfl) ?_ (fun hHeld => ?_))
          · exact ⟨hcx, hcy⟩
          (refine wpAnyH_take (i := 0) (v := ?_) rfl (by kernel_rfl) (by kernel_rfl) (by kernel_rfl) (fun _ _ _ h => h) (Or.inl ⟨by kernel_rfl, ?_⟩) (by assumption) ?_; rotate_left; (focus (intro w hSw; (try dsimp only at hSw); go_simp; all_goals with_reducible rfl)); (try simp only [Act.put, List.getElem_toArray, List.getElem_cons_succ, List.getElem_cons_zero, List.setIfInBounds_toArray, List.set_cons_zero, List.set_cons_succ]))
          (refine wpAnyH_take (i := 1) (v := ?_) rfl (by kernel_rfl) (by kernel_rfl) (by kernel_rfl) (fun _ _ _ h => h) (Or.inl ⟨by kernel_rfl, ?_⟩) (by assumption) ?_; rotate_left; (focus (intro w hSw; (try dsimp only at hSw); go_simp; all_goals with_reducible rfl)); (try simp only [Act.put, List.getElem_toArray, List.getElem_cons_succ, List.getElem_cons_zero, List.setIfInBounds_toArray, List.set_cons_zero, List.set_cons_succ]))
          (refine wpAnyH_take (i := 2) (v := ?_) rfl (by kernel_rfl) (by kernel_rfl) (by kernel_rfl) (fun _ _ _ h => h) (Or.inl ⟨by kernel_rfl, ?_⟩) (by assumption) ?_; rotate_left; (focus (intro w hSw; (try dsimp only at hSw); go_simp; all_goals with_reducible rfl)); (try simp only [Act.put, List.getElem_toArray, List.getElem_cons_succ, List.getElem_cons_zero, List.setIfInBounds_toArray, List.set_cons_zero, List.set_cons_succ]))
          (refine wpAnyH_take (i := 3) (v := ?_) rfl (by kernel_rfl) (by kernel_rfl) (by kernel_rfl) (fun _ _ _ h => h) (Or.inl ⟨by kernel_rfl, ?_⟩) (by assumption) ?_; rotate_left; (focus (intro w hSw; (try dsimp only at hSw); go_simp; all_goals with_reducible rfl)); (try simp only [Act.put, List.getElem_toArray, List.getElem_cons_succ, List.getElem_cons_zero, List.setIfInBounds_toArray, List.set_cons_zero, List.set_cons_succ]))
          (refine wpAnyH_take (i := 4) (v := ?_) rfl (by kernel_rfl) (by kernel_rfl) (by kernel_rfl) (fun _ _ _ h => h) (Or.inl ⟨by kernel_rfl, ?_⟩) (by assumption) ?_; rotate_left; (focus (intro w hSw; (try dsimp only at hSw); go_simp; all_goals with_reducible rfl)); (try simp only [Act.put, List.getElem_toArray, List.getElem_cons_succ, List.getElem_cons_zero, List.setIfInBounds_toArray, List.set_cons_zero, List.set_cons_succ]))
          (refine wpAnyH_take (i := 5) (v := ?_) rfl (by kernel_rfl) (by kernel_rfl) (by kernel_rfl) (fun _ _ _ h => h) (Or.inl ⟨by kernel_rfl, ?_⟩) (by assumption) ?_; rotate_left; (focus (intro w hSw; (try dsimp only at hSw); go_simp; all_goals with_reducible rfl)); (try simp only [Act.put, List.getElem_toArray, List.getElem_cons_succ, List.getElem_cons_zero, List.setIfInBounds_toArray, List.set_cons_zero, List.set_cons_succ]))
          (refine wpAnyH_take (i := 6) (v := ?_) rfl (by kernel_rfl) (by kernel_rfl) (by kernel_rfl) (fun _ _ _ h => h) (Or.inl ⟨by kernel_rfl, ?_⟩) (by assumption) ?_; rotate_left; (focus (intro w hSw; (try dsimp only at hSw); go_simp; all_goals with_reducible rfl)); (try simp only [Act.put, List.getElem_toArray, List.getElem_cons_succ, List.getElem_cons_zero, List.setIfInBounds_toArray, List.set_cons_zero, List.set_cons_succ]))
          (refine wpAnyH_take (i := 7) (v := ?_) rfl (by kernel_rfl) (by kernel_rfl) (by kernel_rfl) (fun _ _ _ h => h) (Or.inl ⟨by kernel_rfl, ?_⟩) (by assumption) ?_; rotate_left; (focus (intro w hSw; (try dsimp only at hSw); go_simp; all_goals with_reducible rfl)); (try simp only [Act.put, List.getElem_toArray, List.getElem_cons_succ, List.getElem_cons_zero, List.setIfInBounds_toArray, List.set_cons_zero, List.set_cons_succ]))
          (refine wpAnyH_ready (rs := [8]) (by kernel_rfl) (by simp) ?_; refine AllReadyH.cons rfl (fun K hK => ?_) AllReadyH.nil)
          go_simp
          refine (ints_any C c0 x p HP.out.1 D d0 y q HP.out.2 wr.drew w.heap.size w.heap.size (show w.heap.size ≤ wr.drew.heap.size from hz) (show w.heap.size ≤ wr.drew.heap.size from hz) (show Ints wr.drew w.heap.size C x from HI.out.1) (show Ints wr.drew w.heap.size D y from HI.out.2)).mono ?_
          rw [HS.out]
          rintro e w1 ⟨rfl, b1'⟩
          have b1 : Below wr.heap.size wr w1 := ((Below.refl _ _).drew).trans b1'
          have c1 : w1.cell? (ad.add k) = some (.slice C p c0) := (b1.cell (by rw [block_of_add]; omega)).trans hcx
          have c2 : w1.cell? (ad'.add k) = some (.slice D q d0) := (b1.cell (by rw [block_of_add]; omega)).trans hcy
          have HB := Lib.hid (hbel.trans (b1.mono hz))
          clear b1 b1'
          refine hK.out _ _ ((⟨c1, c2⟩)) (fun hHeld => ?_)
          clear hK K
          (try simp only [Act.put, List.getElem_toArray, List.getElem_cons_succ, List.getElem_cons_zero, List.setIfInBounds_toArray, List.set_cons_zero, List.set_cons_succ])
          (refine wpAnyH_take (i := 9) (v := ?_) rfl (by kernel_rfl) (by kernel_rfl) (by kernel_rfl) (fun _ _ _ h => h) (Or.inl ⟨by kernel_rfl, ?_⟩) (by assumption) ?_; rotate_left; (focus (intro w hSw; (try dsimp only at hSw); go_simp; all_goals with_reducible rfl)); (try simp only [Act.put, List.getElem_toArray, List.getElem_cons_succ, List.getElem_cons_zero, List.setIfInBounds_toArray, List.set_cons_zero, List.set_cons_succ]))
          (refine wpAnyH_done (by kernel_rfl) ?_ _)
          go_wp2
          go_meet
          exact ⟨rfl, HB.out⟩
        obtain ⟨h25, hb1⟩ := hcut
        subst h25
        clear hcx hcy
        cases s
        · have HF : Hid (listsB a b = false) := Lib.hid (by rw [hr.out, HX.out, HS.out]; rfl)
          go_wp2
          go_ret
          exact ⟨ret_bool HF.out.symm, hb1⟩
        · go_wp2
          go_roundw
          case rel => exact ⟨k + 1, by omega, by go_num, Lib.hid (by rw [hr.out, HX.out, HS.out]; rfl), hb1⟩
          case measure => simp [intOf]; omega
      · have hkn : k = n := by omega
        subst hkn
        clear hlt
        go_wp2
        go_ret
        exact ⟨ret_bool (by rw [hr.out, List.drop_of_length_le (by rw [HN.out]; exact Nat.le_refl _), List.drop_of_length_le (by rw [HM.out]; exact Nat.le_refl _)]; simp), hbel⟩
  · have hd2 : ((n : Int) == (m : Int)) = false := by simp; omega
    have hd3 : ((n : Int) != (m : Int)) = true := by simp; omega
    have HD : Hid (listsB a b = false) := Lib.hid (by unfold listsB; rw [decide_eq_false]; intro e; rw [e] at hn; omega)
    clear h hn hm
    go_enter Try.func10, Try.ntmps10
    go_wp2
    go_ret
    exact ⟨ret_bool (by rw [HD.out]), Below.refl _ _⟩
/-- The reference's part. -/
theorem part_any (q n k : Int) (h0 : 0 ≤ q) (hq : q ≤ 1000000) (hn : 1 ≤ n) (hn4 : n ≤ 1000000) (hk : 1 ≤ k) (hk4 : k ≤ 1000000) (w : World) :
    Calls Try.prog 25 #[.int .i64 q, .int .i64 n, .int .i64 k] w fun e w' => e = .returned (.int .i64 (cntI q n k)) ∧ w = w' := by
  go_enter Try.func25, Try.ntmps25
  go_wp2
  go_loop [7, 8] (fun g i => ∃ (got at_ : Int), i = .int .i64 at_ ∧ g = .int .i64 got ∧ (1 ≤ at_ ∧ at_ ≤ 2000000) ∧ (0 ≤ got ∧ got < at_) ∧ Hid (got + cntI q n at_ = cntI q n k)) (fun _ i => (q + 1 - intOf i).toNat)
  case atStart => exact ⟨0, k, rfl, rfl, by omega, by omega, Lib.hid (by omega)⟩
  case round =>
    obtain ⟨got, at_, rfl, rfl, ⟨ha1, ha2⟩, ⟨hg1, hg2⟩, hr⟩ := hrel
    by_cases hlt : at_ ≤ q
    · have HT : Hid (cntI q n at_ = 1 + cntI q n (at_ + n)) := Lib.hid (cnt_step hn hlt)
      go_wp2
      exact ⟨⟨got + 1, at_ + n, by first | rfl | go_num, by first | rfl | go_num, by omega, by omega, Lib.hid (by rw [← hr.out, HT.out]; omega)⟩, by simp [intOf]; omega⟩
    · have HT : Hid (cntI q n at_ = 0) := Lib.hid (cnt_end hlt)
      go_wp2
      go_ret
      exact ⟨ret_int (by rw [← hr.out, HT.out]; omega), rfl⟩
end Go.Proofs.Ytceceomaheobhaa.spl

/- The reference's Loads. -/
namespace Go.Proofs.Ytceceomaheobhaa.spl
open Go.RowKit
open Go.Proofs.Ytceceomaheobhaa.lib Go.Proofs.Ytceceomaheobhaa.rd Go.Proofs.Ytceceomaheobhaa.app Go.Proofs.Ytceceomaheobhaa.els Go.Proofs.Ytceceomaheobhaa.loads
set_option linter.unusedVariables false
set_option linter.unusedSimpArgs false

theorem rloads_bad (A : Option Addr) (c : Nat) (l : List Int) (n : Int) (w : World) (h : Ints w w.heap.size A l) (hb : n < 1 ∨ 4 < n ∨ okLd l = false) :
    Calls Try.prog 9 #[.slice A l.length c, .int .i64 n] w (LoadsOut w none) := by
  have hlen := h.len
  have HI := Lib.hid h
  by_cases h1 : n < 1
  · go_enter Try.func9, Try.ntmps9
    go_wp2
    go_ret2
    exact .inr ⟨rfl, rfl, Below.refl _ _⟩
  by_cases h4 : 4 < n
  · go_enter Try.func9, Try.ntmps9
    go_wp2
    go_ret2
    exact .inr ⟨rfl, rfl, Below.refl _ _⟩
  by_cases h3 : 3 < l.length
  · have h3' : (3 : Int) < (l.length : Int) := by omega
    go_enter Try.func9, Try.ntmps9
    go_wp2
    go_ret2
    exact .inr ⟨rfl, rfl, Below.refl _ _⟩
  have hr : rightB l l.length = false := by
    rcases hb with hb | hb | hb
    · omega
    · omega
    · unfold okLd at hb
      rw [decide_eq_true (by omega), Bool.true_and] at hb
      exact hb
  have h3' : ¬ (3 : Int) < (l.length : Int) := by omega
  clear hb h
  go_enter Try.func9, Try.ntmps9
  go_wp2_with (go_at_call 24; refine (rright_any A c l l.length _ _ HI.out).mono ?_; rintro e w' ⟨rfl, rfl⟩)
  go_ret2
  exact .inr ⟨rfl, rfl, Below.refl _ _⟩
set_option maxRecDepth 20000 in
set_option maxHeartbeats 2000000 in
theorem rloads_good (A : Option Addr) (c : Nat) (l : List Int) (n : Nat) (w : World) (h : Ints w w.heap.size A l) (h1 : 1 ≤ n) (h4 : n ≤ 4) (hok : okLd l = true) :
    Calls Try.prog 9 #[.slice A l.length c, .int .i64 n] w (LoadsOut w (some (partsL l n))) := by
  have HI := Lib.hid h
  have HK := Lib.hid (fun x hx => okLd_at hok (x := x) hx)
  have h3 := okLd_len hok
  have hr : rightB l l.length = true := by
    unfold okLd at hok
    rw [decide_eq_true (by omega), Bool.true_and] at hok
    exact hok
  obtain ⟨m, hm⟩ : ∃ m, l.length = m := ⟨_, rfl⟩
  rw [hm] at h3 hr ⊢
  have HM := Lib.hid hm
  have hn1 : (1 : Int) ≤ (n : Int) := by omega
  have hn4 : (n : Int) ≤ 4 := by omega
  have h3' : (m : Int) ≤ 3 := by omega
  clear h hok hm
  go_enter Try.func9, Try.ntmps9
  go_wp2_with (go_at_call 24; rw [← HM.out]; refine (rright_any A c l l.length _ _ HI.out).mono ?_; rw [HM.out]; rintro e w' ⟨rfl, rfl⟩)
  go_loopw [6, 7, 8, 9] (fun v i _ _ wr => ∃ (j : Nat) (B : Option Addr) (cB : Nat) (cs : List Value), j ≤ n ∧ i = .int .i64 ((j : Int) + 1) ∧ v = .slice B j cB ∧ Hid (ElsIn elL wr (fun b => some b ≠ (Value.slice B j cB).ownBlock ∧ w.heap.size ≤ b) cs (partsTo l n j) ∧ wr.ownsRow w.heap.size 22 1 (.slice B j cB) j cs ∧ Below w.heap.size w wr)) (fun _ i _ _ _ => n + 1 - (intOf i).toNat)
  case atStart => exact ⟨0, none, 0, [], by omega, by first | rfl | go_num, rfl, Lib.hid ⟨.nil, World.ownsRow_nil _ _ _ _, Below.refl _ _⟩⟩
  case round =>
    obtain ⟨j, B, cB, cs, hj, rfl, rfl, HE⟩ := hrel
    have hj0 : (0 : Int) ≤ (j : Int) := by omega
    by_cases hlt : j < n
    · have hj4 : (j : Int) ≤ 4 := by omega
      have hjn : (j : Int) + 1 ≤ (n : Int) := by omega
      rename World => wo
      have HZ : Hid ((ptL l n j).length = m) := Lib.hid (by rw [ptL_len, HM.out])
      have hzo := HE.out.2.2.size
      obtain ⟨S, hS⟩ : ∃ S, wo.heap.size = S := ⟨_, rfl⟩
      rw [hS] at hzo
      go_upto_region 9 with fail
      go_loopw [8, 9] (fun v i wr => ∃ (k : Nat) (E : Option Addr) (e : Nat), k ≤ m ∧ i = .int .i64 k ∧ v = .slice E k e ∧ Hid (wr.ownsRow S 3 1 (.slice E k e) k (((ptL l n j).take k).map (.int .i64)) ∧ Below S wo wr)) (fun _ i _ => m - (intOf i).toNat)
      case atStart => exact ⟨0, none, 0, by omega, rfl, rfl, Lib.hid ⟨World.ownsRow_nil _ _ _ _, Below.refl _ _⟩⟩
      case round =>
        obtain ⟨k, E, e, hk, rfl, rfl, HO⟩ := hrel
        have hzr := HO.out.2.size
        by_cases hlk : k < m
        · obtain ⟨ad, x, rfl, hadb, hx, hcx⟩ := (HI.out.below (HE.out.2.2.trans (HO.out.2.mono hzo))).at_ (k := k) (by rw [HM.out]; exact hlk)
          obtain ⟨x0, x1⟩ := HK.out x (List.mem_of_getElem? hx)
          have HX : Hid ((ptL l n j).take (k + 1) = (ptL l n j).take k ++ [porI x n j]) := Lib.hid (by
            have h1 := ptL_at hx n j
            obtain ⟨h2, h3⟩ := List.getElem?_eq_some_iff.1 h1
            rw [List.take_succ_eq_append_getElem h2, h3])
          have HC : Hid (cntI x n ((j : Int) + 1) = porI x n j) := Lib.hid (cnt_por x0 h1 h4 hlt)
          have hk0 : (0 : Int) ≤ (k : Int) := by omega
          have hkn : (k : Int) < (m : Int) := by omega
          clear hx
          go_wp2_with (first
            | (go_at_call 25; refine (part_any x n ((j : Int) + 1) x0 (by omega) hn1 (by omega) (by omega) (by omega) _).mono ?_; rw [HC.out]; rintro e w' ⟨rfl, rfl⟩)
            | (at_builtin; refine push_int rfl _ _ rfl S (.slice E k e) k ((ptL l n j).take k) rfl HO.out.1 (porI x n j) rfl (by omega) (by omega) ?_; intro E2 e2 w2 hown2 hb2 hz2; have HK2 := Lib.hid (And.intro hown2 hb2); clear hown2 hb2))
          exact ⟨⟨k + 1, E2, e2, by omega, by go_num, rfl, Lib.hid ⟨by rw [HX.out]; exact HK2.out.1, HO.out.2.trans HK2.out.2⟩⟩, by simp [intOf]; omega⟩
        · have hkm : k = m := by omega
          subst hkm
          clear hlk hk
          have hown : (wr.ownsRow S 3 1 (.slice E k e) k ((ptL l n j).map (.int .i64))) := by
            have h := HO.out.1
            rw [List.take_of_length_le (by rw [HZ.out]; exact Nat.le_refl _)] at h
            exact h
          have hbel := HO.out.2
          have hvS : ∀ q, (Value.slice B j cB).ownBlock = some q → q < S := fun q hq => by rw [← hS]; exact (HE.out.2.1.lt q hq).2
          have hbelo : Below wo.heap.size wo wr := by rw [hS]; exact hbel
          have hE3 : ElsIn elL wr (fun b => some b ≠ (Value.slice B j cB).ownBlock ∧ w.heap.size ≤ b) cs (partsTo l n j) := HE.out.1.stay (row := none) (Stays.below hbelo) (fun b _ _ e => by cases e) (fun b _ h => h)
          have hI3 : IntsOff wr (fun b => some b ≠ (Value.slice B j cB).ownBlock ∧ w.heap.size ≤ b) E (ptL l n j) := by
            refine IntsOff.own (c := e) (base := S) (e := 3) ?_ (by rw [HZ.out]; omega) (fun b hb => ⟨fun e => ?_, by omega⟩)
            · rw [HZ.out]; exact hown
            · have := hvS b e.symm
              omega
          have bA : Below wr.heap.size wr (wr.alloc (.cells #[.slice E k e] 22)) := (Below.refl _ _).alloc (Nat.le_refl _) _
          have H4 := Lib.hid (And.intro (hE3.stay (row := none) (Stays.below bA) (fun b _ _ e => by cases e) (fun b _ h => h)) (hI3.stay (row := none) (Stays.below bA) (fun b _ _ e => by cases e) (fun b _ h => h)))
          have HO4 : Hid ((wr.alloc (.cells #[.slice E k e] 22)).ownsRow w.heap.size 22 1 (.slice B j cB) j cs) := Lib.hid (own_below (own_below HE.out.2.1 hbelo) bA)
          have HB4 : Hid (Below w.heap.size w (wr.alloc (.cells #[.slice E k e] 22))) := Lib.hid ((HE.out.2.2.trans (hbel.mono hzo)).trans (bA.mono (by omega)))
          have HS4 : Hid (w.heap.size ≤ (wr.alloc (.cells #[.slice E k e] 22)).heap.size) := Lib.hid HB4.out.size
          clear hown hbel hE3 hI3 hbelo bA hvS
          go_wp2_with (at_builtin; go_loud (refine wpList_app ints_elem _ _ rfl w.heap.size B j cB cs rfl HO4.out ⟨wr.heap.size, 0, none⟩ 1 [.slice E k e] rfl rfl (cell_one_new _ _ _) (fun u hu => by rw [List.mem_singleton] at hu; rw [hu]; rfl) (by omega) HS4.out rfl ?_); intro g5 c5 w5 hown5 hg5 hx5; have HK5 := Lib.hid (And.intro hown5 (And.intro hg5 hx5)); clear hown5 hg5 hx5)
          have hP := push_els (f := elL) (x := ptL l n j) e H4.out.1 H4.out.2 HK5.out.2.1 HK5.out.2.2
          rw [show (elL (ptL l n j)).cells E e = [Value.slice E k e] by unfold El.cells elL; rw [HZ.out]; rfl, ← partsTo_succ] at hP
          exact ⟨⟨j + 1, some ⟨g5, 0, none⟩, c5, _, by omega, by go_num, rfl, Lib.hid ⟨hP, HK5.out.1, HB4.out.grown HK5.out.2.1 HS4.out (fun q e => own_base HO4.out q e)⟩⟩, by simp [intOf]; omega⟩
    · have hjn : j = n := by omega
      subst hjn
      clear hlt
      go_wp2
      go_ret2
      refine .inl ⟨partsL l j, B, cB, cs, rfl, by rw [partsL_len]; rfl, by rw [partsL_len]; exact HE.out.2.1, ?_, HE.out.2.2⟩
      exact HE.out.1.stay (row := none) (Stays.below (Below.refl _ _)) (fun b _ _ e => by cases e) (fun b _ h => h.2)
theorem rloads_any (A : Option Addr) (c : Nat) (l : List Int) (n : Int) (w : World) (h : Ints w w.heap.size A l) :
    Calls Try.prog 9 #[.slice A l.length c, .int .i64 n] w (LoadsOut w (loadsF l n)) := by
  by_cases hb : n < 1 ∨ 4 < n
  · rw [loadsF_num hb]
    exact rloads_bad A c l n w h (by omega)
  cases ho : okLd l
  · rw [loadsF_bad ho]
    exact rloads_bad A c l n w h (.inr (.inr ho))
  · obtain ⟨k, rfl⟩ := Int.eq_ofNat_of_zero_le (show 0 ≤ n by omega)
    rw [loadsF_some (by omega) (by omega) ho]
    exact rloads_good A c l k w h (by omega) (by omega) ho
end Go.Proofs.Ytceceomaheobhaa.spl

/- A slice of numbers among a call's arguments. Portable. -/
namespace Go.Proofs.Ytceceomaheobhaa.rd
open Go.RowKit Go.ChangeShapes Go.WideShapes Go.ChangeAt Go.Deep
open Go.Proofs.Ytceceomaheobhaa.lib
set_option linter.unusedVariables false

set_option maxRecDepth 20000 in
theorem arg_ints {t e : TypeId} (ht : Try.prog.underlying t = some (.slice e)) (he : Try.prog.underlying e = some (.int .i64)) (hC : Try.prog.cellsOf e = 1) (h8 : 8 ≤ Try.prog.bytesOf e) {H : Type} {enc : TypeId × Value → H} {W : World} {base : Nat} {v : Value} {d : DataW H} {p : List MemPlace}
    (hv : Value.okWide Try.prog W .any base t v) (h : DataW.Trod enc Try.prog W 0 (fun _ => true) true t v d p) (hw : ∀ n ∈ d.weights Try.prog t, n ≤ reachBytes) :
    ∃ A c l, v = .slice A l.length c ∧ Ints W W.heap.size A l ∧ l.length ≤ c := by
  obtain ⟨A, n, c, rfl⟩ := okWide_slice ht hv
  obtain ⟨fuel, hf⟩ := h
  obtain ⟨l, A', c', hcs0, hI⟩ := opens_ints ht he hC h8 H enc W fuel _ _ hf hw
  simp [Value.cells] at hcs0
  obtain ⟨rfl, rfl, rfl⟩ := hcs0
  refine ⟨A, c, l, rfl, hI, ?_⟩
  rcases open_slice ht hf with ⟨hcs, _⟩ | ⟨a, len, cap, m, k, D, Pl, hcs, _, hl, hm, _⟩
  · simp [Value.cells] at hcs
    obtain ⟨_, h2, h3⟩ := hcs
    rw [h2, h3]
    exact Nat.le_refl _
  · simp [Value.cells] at hcs
    obtain ⟨_, h2, h3⟩ := hcs
    rw [h2, h3]
    exact hl
end Go.Proofs.Ytceceomaheobhaa.rd

/- The law SplitLoads, walked. -/
namespace Go.Proofs.Ytceceomaheobhaa.spl
open Go.RowKit
open Go.Proofs.Ytceceomaheobhaa.lib Go.Proofs.Ytceceomaheobhaa.rd Go.Proofs.Ytceceomaheobhaa.app Go.Proofs.Ytceceomaheobhaa.els Go.Proofs.Ytceceomaheobhaa.loads
set_option linter.unusedVariables false
set_option linter.unusedSimpArgs false

theorem LoadsOut.gen {w w' : World} {r : Option (List (List Int))} {e : Ending} (h : LoadsOut w r e w') (hr : ∀ ll, r = some ll → ll.length ≤ 1000) : ∃ A n c k, e = .returned (.tuple #[.slice A n c, .int .i64 k]) ∧ n = (r.getD []).length ∧ Rows2 w' w'.heap.size A (r.getD []) ∧ Below w.heap.size w w' ∧ (k = 0 ∨ k = 2) ∧ (k = 0 ↔ r.isSome = true) := by
  rcases h with ⟨ll, A, c, cs, rfl, rfl, hown, hels, hb⟩ | ⟨rfl, rfl, hb⟩
  · have hl : ll.length ≤ 17592186043904 := by have := hr ll rfl; omega
    exact ⟨A, _, c, 0, rfl, rfl, hels.rows2 hown hl, hb, .inl rfl, by simp⟩
  · exact ⟨none, 0, 0, 2, rfl, rfl, Rows2.nil, hb, .inr rfl, by simp⟩
theorem loadsF_few {l : List Int} {n : Int} : ∀ ll, loadsF l n = some ll → ll.length ≤ 1000 := fun ll h => by
  unfold loadsF at h
  split at h
  · injection h with h
    rw [← h, partsL_len]
    omega
  · cases h
theorem lawLoads_any (A : Option Addr) (c : Nat) (l : List Int) (n : Int) (w : World) (h : Ints w w.heap.size A l) :
    Calls Try.prog 3 #[.slice A l.length c, .int .i64 n] w fun e w' => e = .returned (.bool true) ∧ Below w.heap.size w w' := by
  have HI := Lib.hid h
  clear h
  go_enter Try.func3, Try.ntmps3
  go_wp2_with fail
  refine (loads_any A c l n w HI.out).mono ?_
  intro e w1 h1
  obtain ⟨A1, n1, c1, k1, rfl, hn1, hr1, b1, hk1', hk1⟩ := h1.gen loadsF_few
  have z1 := b1.size
  have H1 := Lib.hid (And.intro hn1 (And.intro hr1 (And.intro b1 (And.intro hk1 hk1'))))
  have HI1 := Lib.hid ((HI.out.below b1).more z1)
  clear h1 hn1 hr1 b1 hk1 hk1'
  go_wp2_with fail
  refine (rloads_any A c l n w1 HI1.out).mono ?_
  intro e w2 h2
  obtain ⟨A2, n2, c2, k2, rfl, hn2, hr2, b2, hk2', hk2⟩ := h2.gen loadsF_few
  have z2 := b2.size
  have hk : k1 = k2 := by
    obtain ⟨e1, e2⟩ := H1.out.2.2.2
    cases hs : (loadsF l n).isSome
    · rw [hs] at e1 hk2
      have h3 : ¬ k1 = 0 := fun h => by have := e1.1 h; cases this
      have h4 : ¬ k2 = 0 := fun h => by have := hk2.1 h; cases this
      omega
    · rw [hs] at e1 hk2
      rw [e1.2 rfl, hk2.2 rfl]
  subst hk
  have H2 := Lib.hid (And.intro hn2 (And.intro hr2 b2))
  clear h2 hn2 hr2 b2 hk2 hk2'
  go_wp2_with fail
  refine (lists_any A1 c1 _ n1 H1.out.1.symm A2 c2 _ n2 H2.out.1.symm w2 ((H1.out.2.1.below H2.out.2.2).more z2) H2.out.2.1).mono ?_
  rintro e w3 ⟨rfl, b3⟩
  rw [show listsB ((loadsF l n).getD []) ((loadsF l n).getD []) = true by unfold listsB; simp]
  have HB := Lib.hid ((H1.out.2.2.1.trans (H2.out.2.2.mono z1)).trans (b3.mono (by omega)))
  go_wp2_with fail
  refine (examples_any w3).mono ?_
  rintro e w4 ⟨rfl, b4⟩
  have HB4 := Lib.hid (HB.out.trans (b4.mono HB.out.size))
  go_wp2_with fail
  go_ret
  exact ⟨rfl, HB4.out⟩
end Go.Proofs.Ytceceomaheobhaa.spl

/- The statement SplitLoads: the call returns true whatever the input, and the input reads as it did. No conditions. -/
namespace Go.Proofs.Ytceceomaheobhaa.splitLoads
open Go.ChangeShapes Go.WideShapes Go.ChangeAt Go.RowKit Go.Joins
open Go.ChangeMaps (open_string shut_string)
set_option linter.unusedVariables false

theorem own : ownKnob Try.prog.godebug = none := by kernel_rfl
theorem laidOut : laidOutB Try.prog = true := by kernel_rfl
theorem bd {a : Int} (h : (Lit.int .i64 a).wf = true) : -9223372036854775808 ≤ a ∧ a ≤ 9223372036854775807 := by simpa [Lit.wf, IntKind.min, IntKind.max, IntKind.signed, IntKind.bits] using h

set_option maxRecDepth 100000 in
theorem contract (H : Type) (enc : TypeId × Value → H) (W : World) (base : Nat) (args : Array Value) (ds gs : List (DataW H)) (before : List MemPlace)
    (hval0 : ∀ (j : Nat) t v, Try.f3.params[j]? = some t → args[j]? = some v → Value.okWide Try.prog W .any base t v)
    (hW : DataW.Whole enc Try.prog Try.f3.params.toList Rows.splitLoadsSpec.vars false W args.toList ds gs before)
    (hsz0 : (DataW.weightsEach Try.prog (Try.f3.params.toList ++ Rows.splitLoadsSpec.plain.varTypes Try.prog) (ds ++ gs)).all (· ≤ reachBytes) = true) :
    Calls Try.prog 3 args W fun e W' => ∃ v, e = .returned v ∧ Rows.splitLoadsSpec.post enc Try.prog Try.f3 false true false false W args v W' := by
  have hsz : (DataW.weightsEach Try.prog (Try.f3.params.toList ++ Rows.splitLoadsSpec.plain.varTypes Try.prog) (ds ++ gs)).all (· ≤ reachBytes) = true := hsz0
  clear hsz0
  have hval : ∀ (j : Nat) t v, Try.f3.params[j]? = some t → args[j]? = some v → Value.okWide Try.prog W .any base t v := hval0
  have hW' := hW
  obtain ⟨p, q, hA0, hV, rfl, hfz, hnd⟩ := hW
  have hA : DataW.TrodAll enc Try.prog W 0 (fun _ => true) true Try.f3.params.toList args.toList ds p := hA0
  rw [Try.params3] at hA hval hsz
  obtain ⟨v0, vs0, d0, ds0, p0, q0, hargs, rfl, rfl, h0, r0⟩ := trodAll_cons hA
  obtain ⟨v1, vs1, d1, ds1, p1, q1, rfl, rfl, rfl, h1, r1⟩ := trodAll_cons r0
  obtain ⟨rfl, rfl, rfl⟩ := trodAll_nil r1
  obtain rfl : args = #[v0, v1] := by cases args; simp_all
  obtain ⟨rfl, rfl⟩ := trodVars_none hV
  have k0 := h0
  have lt0 : ∀ x ∈ p0, x.block < W.heap.size := by obtain ⟨m, hm⟩ := k0; exact DataW.trod_lt m _ _ _ hm
  obtain ⟨l_A, l_c, l, rfl, r_l, cap_l⟩ := rd.arg_ints Try.underlying22 Try.underlying3 (by kernel_rfl) (by rw [show Try.prog.bytesOf 3 = 8 by kernel_rfl]; omega) (hval 0 22 v0 rfl rfl) h0 (rd.weight_of hsz (j := 0) rfl rfl)
  have k1 := h1
  have lt1 : ∀ x ∈ p1, x.block < W.heap.size := by obtain ⟨m, hm⟩ := k1; exact DataW.trod_lt m _ _ _ hm
  obtain ⟨n, rfl, rfl, rfl, w_n⟩ := open_int Try.underlying3 (hval 1 3 v1 rfl rfl) h1
  have b_n := bd w_n
  clear hA0 hval0
  refine Calls.mono (spl.lawLoads_any l_A l_c l n W r_l) fun e W' ⟨he, bel⟩ => ?_
  subst he
  exact ⟨_, rfl, _, _, _, [], _, [], hW', trodAll_mk1 (shut_bool Try.underlying4 _), (trodAll_cons_mk (Below.trod laidOut (by kernel_rfl) (of_decide_eq_true (by kernel_rfl)) k0 bel lt0) (trodAll_cons_mk (Below.trod laidOut (by kernel_rfl) (of_decide_eq_true (by kernel_rfl)) k1 bel lt1) trodAll_mk0)), rfl, bel.frame _, fun h => by cases h⟩

set_option maxRecDepth 100000 in
theorem lifted (os : Os) (started : os.Started) (H : Type) (enc : TypeId × Value → H) :
    ReturnsInHanded {} Try.checked os 3 .any (Rows.splitLoadsSpec.pre6 enc Try.prog Try.f3 Rows.splitLoadsRow.domain false) (Rows.splitLoadsSpec.post enc Try.prog Try.f3 false true false false) := by
  refine returnsInHanded_of_change_sized (C := Try.checked) own started (by kernel_rfl) Try.func3
    (ChangeSpec.witness6 (enc := enc) (C := Try.checked) false ⟨#[], #[Value.slice none 0 0, Value.int .i64 0], []⟩ 8 (by kernel_rfl) (by kernel_rfl) (by kernel_rfl) (by kernel_rfl)) ?_
  intro W base args ds gs before hval hW hcnd hsz _
  exact contract H enc W base args ds gs before hval hW hsz

theorem over : Rows.splitLoadsRow.holds Try.pinned (OpenSpec.ofChange Rows.splitLoadsSpec) :=
  OpenClaim.holds_of_wide 3 Try.f3 rfl rfl rfl rfl rfl rfl rfl ⟨rfl, rfl, rfl, rfl, rfl⟩ rfl rfl rfl rfl rfl (by kernel_rfl) Try.func3 (by kernel_rfl)
    (of_decide_eq_true (by kernel_rfl)) (by unfold Func.isWrapper; first | (rw [if_pos (by decide +kernel)]; kernel_rfl) | (rw [if_neg (by decide +kernel)]; exact ⟨rfl, rfl⟩))
    (fun os started H enc _ => lifted os started H enc)

theorem proved : Rows.SplitLoadsSaid := over
#print axioms proved
end Go.Proofs.Ytceceomaheobhaa.splitLoads

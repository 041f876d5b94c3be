/- Orders that are drawn: the program. -/
import Derived.Test.YtofabhenmplkoaaGreatDoorGenE
import Derived.Test.YtofabhenmplkoaaGreatDoorFltX
import Derived.Test.YtofabhenmplkoaaGreatDoorZ3
import Derived.Test.YtofabhenmplkoaaGreatDoorZ4
import Derived.Test.YtofabhenmplkoaaGreatDoorGenR
import Derived.Deep.RegionHeld3
import Derived.Deep.DeepCutAuto
namespace Go.Proofs.YtofabhenmplkoaaGreatDoor.gen
open Go.RowKit
open Go.Proofs.YtofabhenmplkoaaGreatDoor.lib Go.Proofs.YtofabhenmplkoaaGreatDoor.rd Go.Proofs.YtofabhenmplkoaaGreatDoor.app Go.Proofs.YtofabhenmplkoaaGreatDoor.els Go.Proofs.YtofabhenmplkoaaGreatDoor.typ Go.Proofs.YtofabhenmplkoaaGreatDoor.txt Go.Proofs.YtofabhenmplkoaaGreatDoor.big Go.Proofs.YtofabhenmplkoaaGreatDoor.off Go.Proofs.YtofabhenmplkoaaGreatDoor.ins Go.Proofs.YtofabhenmplkoaaGreatDoor.ord
set_option linter.unusedVariables false
set_option linter.unusedSimpArgs false

theorem exec_buildL {t : TypeId} {z : Value} {places : Array (Nat × Nat)} (T : BuildOf t z places) {ρ : Operand → Value} {o : Oper} {w : World} (parts : List (Nat × Operand)) (ho : o.op = Op.build t parts.toArray) (vals : List (Nat × Value)) (cells : List Value)
    (hv : parts.map (fun p => (p.1, ρ p.2)) = vals) (hf : Instr.fill (places[·]?) z.cells vals = some cells.toArray) : Sem.run Tryz.prog (execOp ρ o) w = .ok (.value (.agg cells.toArray)) w := by
  have hr : (Instr.build t (parts.toArray.map fun p => (p.1, ρ p.2))).run Tryz.prog w = .ok (.agg cells.toArray) w := run_buildF T (by rw [List.map_toArray, hv]; exact hf) w
  unfold execOp
  simp only [ho, Sem.run_bind, hr, Result.andThen_ok, Sem.run_pure]
def zOrd : List Value := [.string ⟨#[]⟩, .slice none 0 0, .int .i64 0, .int .i64 0, .int .i64 0, .int .i64 0, .int .i64 0, .int .i64 0, .int .i64 0, .int .i64 0, .int .i64 0, .int .i64 0, .int .i64 0, .int .i64 0, .int .i64 0, .bool false]
theorem bOrd : BuildOf 35 (.agg zOrd.toArray) #[(0, 1), (1, 1), (2, 4), (6, 4), (10, 1), (11, 1), (12, 1), (13, 1), (14, 1), (15, 1)] := ⟨⟨_, Tryz.underlying35, fun w => by kernel_rfl⟩, fun w => by kernel_rfl⟩
/-- The cells of an order under construction. -/
def ordL (nm : ByteArray) (ld : Value) (p0 p1 p2 p3 d0 d1 d2 d3 sk pe : Int) : List Value := [.string nm, ld, .int .i64 p0, .int .i64 p1, .int .i64 p2, .int .i64 p3, .int .i64 d0, .int .i64 d1, .int .i64 d2, .int .i64 d3, .int .i64 sk, .int .i64 pe, .int .i64 1, .int .i64 (-1), .int .i64 (-1), .bool false]
theorem ordL_one {nm : ByteArray} {ld : Value} {p0 p1 p2 p3 d0 d1 d2 d3 sk pe : Int} (h : ld.oneCell' = true) : ∀ u ∈ ordL nm ld p0 p1 p2 p3 d0 d1 d2 d3 sk pe, u.oneCell' = true := fun u hu => by
  simp only [ordL, List.mem_cons, List.not_mem_nil, or_false] at hu
  rcases hu with rfl | rfl | rfl | rfl | rfl | rfl | rfl | rfl | rfl | rfl | rfl | rfl | rfl | rfl | rfl | rfl
  all_goals first | rfl | exact h
def ordV (nm : ByteArray) : List (Nat × Value) := [(0, .string nm), (2, .agg #[.int .i64 (-1), .int .i64 0, .int .i64 0, .int .i64 0]), (3, .agg #[.int .i64 (-1), .int .i64 0, .int .i64 0, .int .i64 0]), (6, .int .i64 1), (7, .int .i64 (-1)), (8, .int .i64 (-1))]
theorem ord_fillL (nm : ByteArray) : Instr.fill ((#[(0, 1), (1, 1), (2, 4), (6, 4), (10, 1), (11, 1), (12, 1), (13, 1), (14, 1), (15, 1)] : Array (Nat × Nat))[·]?) (Value.agg zOrd.toArray).cells (ordV nm) = some (ordL nm (.slice none 0 0) (-1) 0 0 0 (-1) 0 0 0 0 0).toArray := by kernel_rfl
theorem ordN_size (i : Nat) : (ordN i).size ≤ 100 := by
  unfold ordN
  rw [ByteArray.size_append]
  have := decS_size i
  show 1 + _ ≤ _
  omega
theorem loadTo_len (s : Int) : ∀ k, (loadTo s k).length = k
  | 0 => rfl
  | k + 1 => by rw [loadTo, List.length_append, loadTo_len s k]; rfl
/-- What Order answers. -/
def ordE (seed : Int) (x : Ins) : Except Int Ord := if 10 ≤ x.orders.length then .error 4 else if x.types.length = 0 ∨ x.net.places.length = 0 then .error 2 else .ok (ordF seed (flt.dimsN x.types) x.net.places.length x.orders.length)
def OrdOut (w : World) (r : Except Int Ord) (e : Ending) (w' : World) : Prop := match r with
  | .error k => e = .returned (.tuple #[.agg zOrd.toArray, .int .i64 k]) ∧ Below w.heap.size w w'
  | .ok o => ∃ A c, e = .returned (.tuple #[.agg (OrdCells o A c).toArray, .int .i64 0]) ∧ w'.ownsRow w.heap.size 3 1 (.slice A o.load.length c) o.load.length (o.load.map (.int .i64)) ∧ Below w.heap.size w w'
theorem GS.bel {W wx : World} {p B : Nat} {t : TypeId} {s : Int} (h : GS W p t s wx) (hB : B ≤ p) : Below B W wx := (Below.refl _ _).grown h.grown (by have := h.lt; omega) (fun k e => by injection e; omega)
/-- Where an order under construction stands: its drawer, its block, its load, the blocks that stay. -/
structure OSt (T : TypeId) (W0 W5 : World) (rb p B1 ob : Nat) (s : Int) (cs : List Value) (A : Option Addr) (k c : Nat) (l : List Value) (wx : World) : Prop where
  gs : GS W5 p T s wx
  blk : Blk wx ob 35 cs
  own : wx.ownsRow B1 3 1 (.slice A k c) k l
  fr : Fr (fun q => q < W0.heap.size ∧ q ≠ rb) W0 wx
  size : B1 ≤ wx.heap.size
/-- Where its blocks lie. -/
def OPl (W0 W5 : World) (p B1 ob : Nat) : Prop := W0.heap.size = p ∧ p < W5.heap.size ∧ W5.heap.size ≤ ob ∧ ob < B1
section
variable {T : TypeId} {W0 W5 wx wy : World} {rb p B1 ob : Nat} {s s' : Int} {cs : List Value} {A : Option Addr} {k c : Nat} {l : List Value}
theorem OSt.set (h : OSt T W0 W5 rb p B1 ob s cs A k c l wx) (hl : OPl W0 W5 p B1 ob) (i : Nat) (u : Value) : OSt T W0 W5 rb p B1 ob s (cs.set i u) A k c l (wx.setCell ⟨ob, i, none⟩ u) := by
  obtain ⟨h1, h2, h3, h4⟩ := hl
  exact ⟨h.gs.set h3 i u, h.blk.set i u, own_fr h.own (Fr.set (q := ob) wx i u (fun q hq => by have h' : B1 ≤ q := hq; omega)), h.fr.trans (Fr.set (q := ob) wx i u (fun q hq => by have := hq.1; omega)), by have := h.size; simp [World.setCell]; omega⟩
theorem OSt.drew (h : OSt T W0 W5 rb p B1 ob s cs A k c l wx) : OSt T W0 W5 rb p B1 ob s cs A k c l wx.drew := ⟨h.gs.drew, h.blk, h.own, h.fr.trans (Fr.drew wx), h.size⟩
theorem OSt.draw (h : OSt T W0 W5 rb p B1 ob s cs A k c l wx) (hl : OPl W0 W5 p B1 ob) (hb : Boxed wy p T (.int .i64 s')) (hg : wx.grownBy wy (some p)) : OSt T W0 W5 rb p B1 ob s' cs A k c l wy := by
  obtain ⟨h1, h2, h3, h4⟩ := hl
  exact ⟨h.gs.draw hb hg, h.blk.kept hg (fun e => by injection e; omega), own_draw h.own (by omega) hg, h.fr.trans (Fr.grown hg (fun q hq e => by have := hq.1; injection e; omega)), Nat.le_trans h.size hg.size⟩
end
end Go.Proofs.YtofabhenmplkoaaGreatDoor.gen

/- Results that lie in a block: the struct read in one step. Portable. -/
import Derived.Test.YthefooacfcagbaaGreatDoorBase
namespace Go.Proofs.YthefooacfcagbaaGreatDoor.big
open Go.RowKit
open Go.Proofs.YthefooacfcagbaaGreatDoor.lib Go.Proofs.YthefooacfcagbaaGreatDoor.app Go.Proofs.YthefooacfcagbaaGreatDoor.rd
set_option linter.unusedVariables false

theorem run_loadVarS {t : TypeId} {n : Nat} (T : StructOf t n) {w : World} {ad : Addr} {cs : List Value} (hc : CellsAt w ad cs) (hn : cs.length = n) : (loadVar t ad).run Tryz.prog w = .ok (.agg cs.toArray) w := by
  have h := run_loadS T hc hn
  unfold Instr.loadAt Instr.sureAddr at h
  rw [Sem.run_bind, Sem.run_pure, Result.andThen_ok] at h
  exact h
/-- One result, a struct in a block. -/
theorem res_cell {t : TypeId} {n a : Nat} (T : StructOf t n) {fn : Func} (h : fn.results = #[.cell a t]) {tmps : Array Value} {ad : Addr} {w : World} {cs : List Value} (ha : tmps.getD a undef = .pointer (some ad)) (hc : CellsAt w ad cs) (hn : cs.length = n) :
    (results fn tmps).run Tryz.prog w = .ok (.agg cs.toArray) w := by
  have hl := run_loadVarS T hc hn
  rw [Array.getD_eq_getD_getElem?] at ha
  unfold results
  rw [h]
  simp [ha, asAddr, hl]
/-- A struct in a block, and a slot. -/
theorem res_cell_tmp {t : TypeId} {n a b : Nat} (T : StructOf t n) {fn : Func} (h : fn.results = #[.cell a t, .tmp b]) {tmps : Array Value} {ad : Addr} {v : Value} {w : World} {cs : List Value} (ha : tmps.getD a undef = .pointer (some ad)) (hb : tmps.getD b undef = v) (hc : CellsAt w ad cs) (hn : cs.length = n) :
    (results fn tmps).run Tryz.prog w = .ok (.tuple #[.agg cs.toArray, v]) w := by
  have hl := run_loadVarS T hc hn
  rw [Array.getD_eq_getD_getElem?] at ha hb
  unfold results
  rw [h]
  simp [ha, hb, asAddr, hl]
end Go.Proofs.YthefooacfcagbaaGreatDoor.big

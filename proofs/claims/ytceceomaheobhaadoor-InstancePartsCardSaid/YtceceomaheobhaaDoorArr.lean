/- Arrays of integers compared. -/
import Derived.Test.YtceceomaheobhaaDoorLib
import Derived.ChangeKeysEq
namespace Go.Proofs.YtceceomaheobhaaDoor.arr
open Go.RowKit
set_option linter.unusedVariables false

theorem plain_int : Tryd.prog.plainKey 3 = true := by kernel_rfl
theorem cells_int : Tryd.prog.cellsOf 3 = 1 := by kernel_rfl
theorem run_items (w : World) (d : Nat) (xs ys : List Int) (n : Nat) (hx : xs.length = n) (hy : ys.length = n) : ∀ (m j : Nat), j + m = n →
    (Op.eqItems (d + 1) 3 1 (xs.map (.int .i64)).toArray (ys.map (.int .i64)).toArray (List.range' j m)).run Tryd.prog w = .ok (decide (xs.drop j = ys.drop j)) w
  | 0, j, h => by
    rw [List.drop_of_length_le (by omega), List.drop_of_length_le (by omega)]
    simp [Op.eqItems]
  | m + 1, j, h => by
    have ih := run_items w d xs ys n hx hy m (j + 1) (by omega)
    obtain ⟨x, hxj⟩ : ∃ x, xs[j]? = some x := ⟨_, List.getElem?_eq_getElem (by omega)⟩
    obtain ⟨y, hyj⟩ : ∃ y, ys[j]? = some y := ⟨_, List.getElem?_eq_getElem (by omega)⟩
    have p1 := run_part_plain (P := Tryd.prog) w plain_int (xs := (xs.map (Value.int .i64)).toArray) (off := j * 1) (v := .int .i64 x) (by simp [hxj])
    have p2 := run_part_plain (P := Tryd.prog) w plain_int (xs := (ys.map (Value.int .i64)).toArray) (off := j * 1) (v := .int .i64 y) (by simp [hyj])
    have p3 := run_equalIn_int (P := Tryd.prog) w d 3 .i64 .i64 x y Tryd.underlying3
    have e : decide (xs.drop j = ys.drop j) = ((x == y) && decide (xs.drop (j + 1) = ys.drop (j + 1))) := by
      rw [lib.drop_at hxj, lib.drop_at hyj, Bool.eq_iff_iff]
      simp
    rw [List.range'_succ]
    simp only [Op.eqItems, Sem.run_bind, p1, p2, p3, Result.andThen_ok]
    rw [e]
    cases x == y
    · simp
    · simpa using ih
/-- '==' of two arrays of integers. -/
theorem run_eq_ints {t : TypeId} {n : Nat} {i : TypeInfo} (w : World) (d : Nat) (ht : Tryd.prog.underlying t = some (.array n 3)) (hi : Tryd.prog.info? 3 = some i) (xs ys : List Int) (hx : xs.length = n) (hy : ys.length = n) :
    (Op.equalIn (d + 1 + 1) t (.agg (xs.map (.int .i64)).toArray) (.agg (ys.map (.int .i64)).toArray)).run Tryd.prog w = .ok (decide (xs = ys)) w := by
  rw [run_equalIn_array (P := Tryd.prog) w (d + 1) _ _ ht hi, cells_int, List.range_eq_range', run_items w d xs ys n hx hy n 0 (by omega)]
  rfl
end Go.Proofs.YtceceomaheobhaaDoor.arr

import Derived.Test.YthefooacfcagbaaGreatDoorStrX
import Derived.Test.YthefooacfcagbaaGreatDoorSpcY
import Derived.Test.YthefooacfcagbaaGreatDoorCards
import Derived.Test.YthefooacfcagbaaGreatDoorTie
import Derived.WalkKit
import Derived.ProofKit
import Derived.OpenShut
import Derived.Deep.DeepHandedRow
import Derived.Shelf.Spec.TrailingZeros
import Derived.Lay
import Derived.MakeChecks
import Derived.Stop.LaidErr
import Derived.Lib.LaidTab
import Derived.Shelf.Vars
/- The library's tables and its number, as the rows of the laws of spec list them. -/
namespace Go.Proofs.YthefooacfcagbaaGreatDoor.laid
open Go.ChangeShapes Go.WideShapes Go.ChangeAt Go.RowKit
open txt (Tabs)
theorem own : ownKnob Tryz.prog.godebug = none := by kernel_rfl
theorem star : "*" ++ "errors.errorString" = "*errors.errorString" := by decide
theorem row_err (u : TypeId) (h : Tryz.prog.typeName? 3 u = some "*errors.errorString") : u = 224 :=
 typeName_ptr_named (nm := "errors.errorString") (by rw [star]; kernel_rfl) (by kernel_rfl) (by decide) u (by rw [star]; exact h)
theorem gPow : Tryz.prog.globalNamed "internal/strconv.uint64pow10" = some 3 := by kernel_rfl
theorem gPowT : (Tryz.prog.globals[3]?).map (·.type) = some 205 := by kernel_rfl
theorem gErr : Tryz.prog.globalNamed "strconv.ErrRange" = some 5 := by kernel_rfl
theorem gErrT : (Tryz.prog.globals[5]?).map (·.type) = some 101 := by kernel_rfl
theorem cE : Tryz.prog.cellsOf 226 = 1 := by kernel_rfl
theorem cS : Tryz.prog.cellsOf 9 = 1 := by kernel_rfl
theorem cU : Tryz.prog.cellsOf 197 = 1 := by kernel_rfl
theorem cP : Tryz.prog.cellsOf 205 = 20 := by kernel_rfl
theorem tabs_of {a b c : String × DataW Unit} {r : List (String × DataW Unit)} {W : World} (h : laidMet Tryz.prog (a :: b :: ("internal/strconv.uint64pow10", Rows.laid_internal_strconv_uint64pow10) :: c :: ("strconv.ErrRange", Rows.laid_strconv_ErrRange) :: r) W) : Tabs W := by
 have h2 := h.tail.tail
 refine ⟨?_, ?_⟩
 ·have e : (Rows.laid_internal_strconv_uint64pow10 : DataW Unit) = Lib.tabData .u64 Lib.pow10Tab := by kernel_rfl
  rw [e] at h2
  exact Lib.tabIs_of_head gPow gPowT Tryz.underlying205 Tryz.underlying197 cU cP h2
 ·obtain ⟨a1, s1, hv1, -, -, -⟩ := laid_sentinel h2.tail.tail gErr gErrT Tryz.underlying101 row_err Tryz.underlying224 Tryz.underlying226 rfl rfl Tryz.underlying9 cE cS
  exact ⟨_, _, hv1⟩
theorem tabS_of {a b c : String × DataW Unit} {r : List (String × DataW Unit)} {W : World} (h : laidMet Tryz.prog (a :: b :: ("internal/strconv.uint64pow10", Rows.laid_internal_strconv_uint64pow10) :: c :: ("strconv.ErrRange", Rows.laid_strconv_ErrRange) :: r) W) (hs : W.ShapedOpen Tryz.prog) : spc.TabS W :=
 ⟨tabs_of h, Go.Proofs.cell_of_shapedOpen_int (P := Tryz.prog) (g := 0) (t := 3) (zero := #[.int .i64 0]) hs (of_decide_eq_true (by kernel_rfl)) (by kernel_rfl) rfl (by kernel_rfl) (by kernel_rfl) Tryz.underlying3⟩
end Go.Proofs.YthefooacfcagbaaGreatDoor.laid

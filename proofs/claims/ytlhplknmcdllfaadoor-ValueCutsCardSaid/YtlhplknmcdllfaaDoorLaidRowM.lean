/- What a row's list of package-level variables gives: the three tables of strconv's and math/bits' that numerals read; a world for the witness. -/
import Derived.Test.YtlhplknmcdllfaaDoorCards
import Derived.Test.YtlhplknmcdllfaaDoorTie
import Derived.Test.YtlhplknmcdllfaaDoorProg
import Derived.WalkKit
import Derived.ProofKit
import Derived.OpenShut
import Derived.Deep.DeepHandedRow
import Derived.Deep.DeepWitnessRowRef
import Derived.Lib.LaidTab
import Derived.Lib.AppendIntMem
import Derived.Lib.LaidIn
import Derived.Stop.LaidErr
set_option linter.unusedVariables false
namespace Go.Proofs.YtlhplknmcdllfaaDoor.LaidRow
open Go.ChangeShapes Go.WideShapes Go.ChangeAt Go.RowKit Go.Lib

theorem own : ownKnob Tryd.prog.godebug = none := by kernel_rfl
def lay3 : List (String × DataW Unit) := [("math/bits.deBruijn32tab", Rows.laid_math_bits_deBruijn32tab), ("math/bits.deBruijn64tab", Rows.laid_math_bits_deBruijn64tab), ("internal/strconv.uint64pow10", Rows.laid_internal_strconv_uint64pow10)]
theorem gPow : Tryd.prog.globalNamed "internal/strconv.uint64pow10" = some 1 := by kernel_rfl
theorem tabEq : (Rows.laid_internal_strconv_uint64pow10 (H := Unit)) = Lib.tabData .u64 Lib.pow10Tab := by kernel_rfl
theorem tabOf {W : World} {rest : List (String × DataW Unit)} (h : laidMet Tryd.prog (("internal/strconv.uint64pow10", Rows.laid_internal_strconv_uint64pow10) :: rest) W) : Lib.TabIs Tryd.prog W "internal/strconv.uint64pow10" .u64 Lib.pow10Tab := by
  rw [tabEq] at h
  exact Lib.tabIs_of_head gPow (by kernel_rfl) Tryd.underlying138 Tryd.underlying119 (by kernel_rfl) (by kernel_rfl) h
end Go.Proofs.YtlhplknmcdllfaaDoor.LaidRow

/- Tables of the library, as a row lists them: what they give a walk, and a world in which they lie. -/
import Derived.Test.YtpcnpmhpelbndaaDoorGl
import Derived.Test.YtpcnpmhpelbndaaDoorRows
import Derived.LaidLaws
import Derived.LaidHandle
import Derived.MakeChecks
import Derived.Stop.LaidErr
namespace Go.Proofs.YtpcnpmhpelbndaaDoor.Vx
open Go Go.RowKit
set_option maxRecDepth 100000
theorem gl_of_laid {W : World} {rest : List (String × DataW Unit)}
    (h : laidMet Tryd.prog (("math/bits.deBruijn32tab", Rows.laid_math_bits_deBruijn32tab) :: ("math/bits.deBruijn64tab", Rows.laid_math_bits_deBruijn64tab) :: ("internal/strconv.uint64pow10", Rows.laid_internal_strconv_uint64pow10) :: rest) W) : Gl W := by
  have h2 : laidMet Tryd.prog (("math/bits.deBruijn64tab", Lib.tabData .u8 dbTab) :: ("internal/strconv.uint64pow10", Lib.tabData .u64 Lib.pow10Tab) :: rest) W := laidMet.tail h
  have h3 := laidMet.tail h2
  refine GlW.gl ⟨?_, ?_⟩
  · exact Lib.tabIs_of_head (g := 2) (by kernel_rfl) (by kernel_rfl) (t := 147) (e := 100) (n := 20) (by kernel_rfl) (by kernel_rfl) (by kernel_rfl) (by kernel_rfl) h3
  · exact Lib.tabIs_of_head (g := 8) (by kernel_rfl) (by kernel_rfl) (t := 165) (e := 5) (n := 64) (by kernel_rfl) (by kernel_rfl) (by kernel_rfl) (by kernel_rfl) h2
/-- The tables laid. -/
def lay (h : Array Obj) : Array Obj :=
  let put (k : IntKind) (zs : List Int) : Obj → Obj := fun
    | .cells _ t frozen => .cells (zs.map fun z => Value.int k z).toArray t frozen
    | o => o
  ((h.modify 2 (put .u64 Lib.pow10Tab)).modify 7 (put .u8 [0, 1, 28, 2, 29, 14, 24, 3, 30, 22, 20, 15, 25, 17, 4, 8, 31, 27, 13, 23, 21, 19, 16, 7, 26, 12, 18, 6, 11, 5, 10, 9])).modify 8 (put .u8 dbTab)
end Go.Proofs.YtpcnpmhpelbndaaDoor.Vx

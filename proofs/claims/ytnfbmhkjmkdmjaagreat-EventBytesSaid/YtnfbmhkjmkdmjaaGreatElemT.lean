/-
  Element types of slices: numbers, texts. No condition.
-/
import Derived.Test.YtnfbmhkjmkdmjaaGreatRows
import Derived.Test.YtnfbmhkjmkdmjaaGreatMem
set_option linter.unusedVariables false
set_option linter.unusedSimpArgs false
namespace Go.Proofs.YtnfbmhkjmkdmjaaGreat
open Go.RowKit
theorem elemI : Elem Tryz.prog 23 3 (.int .i64 0) 1 8 := ⟨Tryz.underlying23, by kernel_rfl, rfl, by decide⟩
theorem elemS : Elem Tryz.prog 24 9 (.string (str [])) 1 16 := ⟨Tryz.underlying24, by kernel_rfl, rfl, by decide⟩
end Go.Proofs.YtnfbmhkjmkdmjaaGreat

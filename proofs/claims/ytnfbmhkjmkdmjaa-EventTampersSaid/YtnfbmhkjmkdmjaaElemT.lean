/-
  Element types of slices: numbers, texts. No condition.
-/
import Derived.Test.YtnfbmhkjmkdmjaaRows
import Derived.Test.YtnfbmhkjmkdmjaaMem
set_option linter.unusedVariables false
set_option linter.unusedSimpArgs false
namespace Go.Proofs.Ytnfbmhkjmkdmjaa
open Go.RowKit
theorem elemI : Elem Try.prog 23 3 (.int .i64 0) 1 8 := ⟨Try.underlying23, by kernel_rfl, rfl, by decide⟩
theorem elemS : Elem Try.prog 24 9 (.string (str [])) 1 16 := ⟨Try.underlying24, by kernel_rfl, rfl, by decide⟩
end Go.Proofs.Ytnfbmhkjmkdmjaa

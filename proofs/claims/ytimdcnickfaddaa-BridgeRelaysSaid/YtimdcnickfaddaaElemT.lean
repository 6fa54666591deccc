/-
  Element types of slices: numbers, texts. No condition.
-/
import Derived.Test.YtimdcnickfaddaaRows
import Derived.Test.YtimdcnickfaddaaMem
set_option linter.unusedVariables false
set_option linter.unusedSimpArgs false
namespace Go.Proofs.Ytimdcnickfaddaa
open Go.RowKit
theorem elemI : Elem Try.prog 52 3 (.int .i64 0) 1 8 := ⟨Try.underlying52, by kernel_rfl, rfl, by decide⟩
theorem elemS : Elem Try.prog 43 9 (.string (str [])) 1 16 := ⟨Try.underlying43, by kernel_rfl, rfl, by decide⟩
end Go.Proofs.Ytimdcnickfaddaa

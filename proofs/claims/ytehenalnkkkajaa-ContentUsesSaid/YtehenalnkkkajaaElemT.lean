/-
  Element types of slices: numbers, texts. No condition.
-/
import Derived.Test.YtehenalnkkkajaaRows
import Derived.Test.YtehenalnkkkajaaMem
set_option linter.unusedVariables false
set_option linter.unusedSimpArgs false
namespace Go.Proofs.Ytehenalnkkkajaa
open Go.RowKit
theorem elemI : Elem Try.prog 75 3 (.int .i64 0) 1 8 := ⟨Try.underlying75, by kernel_rfl, rfl, by decide⟩
theorem elemS : Elem Try.prog 31 9 (.string (str [])) 1 16 := ⟨Try.underlying31, by kernel_rfl, rfl, by decide⟩
end Go.Proofs.Ytehenalnkkkajaa

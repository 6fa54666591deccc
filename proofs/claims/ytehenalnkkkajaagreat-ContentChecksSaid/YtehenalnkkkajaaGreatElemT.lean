/-
  Element types of slices: numbers, texts. No condition.
-/
import Derived.Test.YtehenalnkkkajaaGreatRows
import Derived.Test.YtehenalnkkkajaaGreatMem
set_option linter.unusedVariables false
set_option linter.unusedSimpArgs false
namespace Go.Proofs.YtehenalnkkkajaaGreat
open Go.RowKit
theorem elemS : Elem Tryz.prog 23 9 (.string (str [])) 1 16 := ⟨Tryz.underlying23, by kernel_rfl, rfl, by decide⟩
end Go.Proofs.YtehenalnkkkajaaGreat

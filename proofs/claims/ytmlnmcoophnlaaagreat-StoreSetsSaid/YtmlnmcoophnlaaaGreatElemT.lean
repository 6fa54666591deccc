/-
  Element types of slices: numbers, texts. No condition.
-/
import Derived.Test.YtmlnmcoophnlaaaGreatRows
import Derived.Test.YtmlnmcoophnlaaaGreatMem
set_option linter.unusedVariables false
set_option linter.unusedSimpArgs false
namespace Go.Proofs.YtmlnmcoophnlaaaGreat
open Go.RowKit
theorem elemI : Elem Tryz.prog 24 3 (.int .i64 0) 1 8 := ⟨Tryz.underlying24, by kernel_rfl, rfl, by decide⟩
theorem elemS : Elem Tryz.prog 25 9 (.string (str [])) 1 16 := ⟨Tryz.underlying25, by kernel_rfl, rfl, by decide⟩
end Go.Proofs.YtmlnmcoophnlaaaGreat

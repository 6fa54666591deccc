/-
  codec: GetInts, GetTexts, GetBool.
-/
import Derived.Test.YtnfbmhkjmkdmjaaElems
set_option linter.unusedVariables false
set_option linter.unusedSimpArgs false
namespace Go.Proofs.Ytnfbmhkjmkdmjaa
open Go.RowKit






end Go.Proofs.Ytnfbmhkjmkdmjaa

/-
  fedchatref05: Int, PutInt, PutText, PutInts, PutTexts, PutBool.
-/
import Derived.Test.YtnfbmhkjmkdmjaaNum
import Derived.Test.YtnfbmhkjmkdmjaaMem
set_option linter.unusedVariables false
set_option linter.unusedSimpArgs false
namespace Go.Proofs.Ytnfbmhkjmkdmjaa
open Go.RowKit

theorem bv_rem (u : Nat) : Value.int .u8 ((u : Int) % 128 + 128) = bv (UInt8.ofNat (u % 128 + 128)) := bv_of (by omega) (by omega)






end Go.Proofs.Ytnfbmhkjmkdmjaa

/-
  codec: elements (of integers, of strings), GetInts, GetTexts, GetBool.
-/
import Derived.Test.YtnfbmhkjmkdmjaaGet
import Derived.Test.YtnfbmhkjmkdmjaaElemT
import Derived.Deep.RegionHeld3
set_option linter.unusedVariables false
set_option linter.unusedSimpArgs false
namespace Go.Proofs.Ytnfbmhkjmkdmjaa
open Go.RowKit

/-- two rows and a bool are handed back -/
def Got2 (te : TypeId) (first : List Value) (rest : List UInt8) (ok : Bool) (w : World) (e : Ending) (w' : World) : Prop :=
  ∃ v v', e = .returned (.tuple #[v, v', .bool ok]) ∧ w'.ownsRow w.heap.size te 1 v first.length first ∧ w'.ownsRow w.heap.size 5 1 v' rest.length (bvs rest) ∧ Below w.heap.size w w'

def sls (l : List (List UInt8)) : List Value := l.map fun s => Value.string (str s)





theorem sls_svs (l : List (List UInt8)) : sls l = svs (l.map str) := by simp [sls, svs]
end Go.Proofs.Ytnfbmhkjmkdmjaa

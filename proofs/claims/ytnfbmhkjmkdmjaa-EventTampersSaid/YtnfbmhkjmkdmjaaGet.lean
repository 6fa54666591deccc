/-
  codec: integer, rest, GetInt, word, GetText, elements, GetInts, GetTexts, GetBool.
-/
import Derived.Test.YtnfbmhkjmkdmjaaNum
import Derived.Test.YtnfbmhkjmkdmjaaDec
import Derived.Test.YtnfbmhkjmkdmjaaMem
set_option linter.unusedVariables false
set_option linter.unusedSimpArgs false
namespace Go.Proofs.Ytnfbmhkjmkdmjaa
open Go.RowKit

/-- what 'integer' hands back -/
def IntegerV (l : List UInt8) (e : Ending) : Prop := e = .returned (match geti l with | some (n, k) => .tuple #[.int .i64 n, .int .i64 (k : Int), .bool true] | none => .tuple #[.int .i64 0, .int .i64 0, .bool false])

theorem integerV_none {l : List UInt8} (h : geti l = none) : IntegerV l (.returned (.tuple #[.int .i64 0, .int .i64 0, .bool false])) := by unfold IntegerV; rw [h]
theorem integerV_some {l : List UInt8} {n : Int} {k : Nat} {v : Value} (h : geti l = some (n, k)) (hv : v = .tuple #[.int .i64 n, .int .i64 (k : Int), .bool true]) : IntegerV l (.returned v) := by unfold IntegerV; rw [h, hv]




/-- a value, bytes and a bool are handed back -/
def Got (first : Value) (rest : List UInt8) (ok : Bool) (w : World) (e : Ending) (w' : World) : Prop :=
  ∃ v', e = .returned (.tuple #[first, v', .bool ok]) ∧ w'.ownsRow w.heap.size 5 1 v' rest.length (bvs rest) ∧ Below w.heap.size w w'








end Go.Proofs.Ytnfbmhkjmkdmjaa

/-
  codec: the Get functions, each by one contract for every argument.
-/
import Derived.Test.YtnfbmhkjmkdmjaaGetMore
import Derived.Test.YtnfbmhkjmkdmjaaDec
set_option linter.unusedVariables false
set_option linter.unusedSimpArgs false
namespace Go.Proofs.Ytnfbmhkjmkdmjaa
open Go.RowKit

/-- what was read, or the zero value -/
def Res {α : Type} (g : Option (α × List UInt8)) (zero x : α) (r : List UInt8) (ok : Bool) : Prop := (ok = true ∧ g = some (x, r)) ∨ (ok = false ∧ x = zero ∧ r = [] ∧ g = none)
theorem Res.yes {α : Type} {zero x : α} {r : List UInt8} : Res (some (x, r)) zero x r true := .inl ⟨rfl, rfl⟩
theorem Res.no {α : Type} {zero : α} : Res (α := α) none zero zero [] false := .inr ⟨rfl, rfl, rfl, rfl⟩
def GotI (l : List UInt8) (w : World) (e : Ending) (w' : World) : Prop := ∃ x r ok, Got (.int .i64 x) r ok w e w' ∧ Res (getI l) 0 x r ok
def GotS (l : List UInt8) (w : World) (e : Ending) (w' : World) : Prop := ∃ x r ok, Got (.string (str x)) r ok w e w' ∧ Res (getS l) [] x r ok
def GotIs (l : List UInt8) (w : World) (e : Ending) (w' : World) : Prop := ∃ x r ok, Got2 3 (ivs x) r ok w e w' ∧ Res (getL geti l) [] x r ok
def GotSs (l : List UInt8) (w : World) (e : Ending) (w' : World) : Prop := ∃ x r ok, Got2 9 (sls x) r ok w e w' ∧ Res (getL getw l) [] x r ok
def GotB (l : List UInt8) (w : World) (e : Ending) (w' : World) : Prop := ∃ x r ok, Got (.bool x) r ok w e w' ∧ Res (getB l) false x r ok

section
variable {A : Option Addr} {c : Nat} {l : List UInt8} {w : World} (hr : Row w w.heap.size A (bvs l)) (hc : l.length ≤ c) (hl : l.length ≤ 16777216)
include hr hc hl
end
end Go.Proofs.Ytnfbmhkjmkdmjaa

/-
  codec: integer, rest, GetInt, word, GetText, elements, GetInts, GetTexts, GetBool.
  codec: elements (of integers, of strings), GetInts, GetTexts, GetBool.
  codec: GetInts, GetTexts, GetBool.
  codec: the Get functions, each by one contract for every argument.
-/
import Derived.Test.YtmlnmcoophnlaaaGreatNum
import Derived.Test.YtmlnmcoophnlaaaGreatDec
import Derived.Test.YtmlnmcoophnlaaaGreatMem
import Derived.Test.YtmlnmcoophnlaaaGreatElemT
import Derived.Deep.RegionHeld3
set_option linter.unusedVariables false
set_option linter.unusedSimpArgs false
namespace Go.Proofs.YtmlnmcoophnlaaaGreat
section
open Go.RowKit

/-- what 'integer' hands back -/
def IntegerV (l : List UInt8) (e : Ending) : Prop := e = .returned (match geti l with | some (n, k) => .tuple #[.int .i64 n, .int .i64 (k : Int), .bool true] | none => .tuple #[.int .i64 0, .int .i64 0, .bool false])

theorem integerV_none {l : List UInt8} (h : geti l = none) : IntegerV l (.returned (.tuple #[.int .i64 0, .int .i64 0, .bool false])) := by unfold IntegerV; rw [h]
theorem integerV_some {l : List UInt8} {n : Int} {k : Nat} {v : Value} (h : geti l = some (n, k)) (hv : v = .tuple #[.int .i64 n, .int .i64 (k : Int), .bool true]) : IntegerV l (.returned v) := by unfold IntegerV; rw [h, hv]




/-- a value, bytes and a bool are handed back -/
def Got (first : Value) (rest : List UInt8) (ok : Bool) (w : World) (e : Ending) (w' : World) : Prop :=
  ∃ v', e = .returned (.tuple #[first, v', .bool ok]) ∧ w'.ownsRow w.heap.size 5 1 v' rest.length (bvs rest) ∧ Below w.heap.size w w'







end

section
open Go.RowKit

/-- two rows and a bool are handed back -/
def Got2 (te : TypeId) (first : List Value) (rest : List UInt8) (ok : Bool) (w : World) (e : Ending) (w' : World) : Prop :=
  ∃ v v', e = .returned (.tuple #[v, v', .bool ok]) ∧ w'.ownsRow w.heap.size te 1 v first.length first ∧ w'.ownsRow w.heap.size 5 1 v' rest.length (bvs rest) ∧ Below w.heap.size w w'

def sls (l : List (List UInt8)) : List Value := l.map fun s => Value.string (str s)





theorem sls_svs (l : List (List UInt8)) : sls l = svs (l.map str) := by simp [sls, svs]
end

section
open Go.RowKit






end

section
open Go.RowKit

/-- what was read, or the zero value -/
def Res {α : Type} (g : Option (α × List UInt8)) (zero x : α) (r : List UInt8) (ok : Bool) : Prop := (ok = true ∧ g = some (x, r)) ∨ (ok = false ∧ x = zero ∧ r = [] ∧ g = none)
theorem Res.yes {α : Type} {zero x : α} {r : List UInt8} : Res (some (x, r)) zero x r true := .inl ⟨rfl, rfl⟩
theorem Res.no {α : Type} {zero : α} : Res (α := α) none zero zero [] false := .inr ⟨rfl, rfl, rfl, rfl⟩
def GotI (l : List UInt8) (w : World) (e : Ending) (w' : World) : Prop := ∃ x r ok, Got (.int .i64 x) r ok w e w' ∧ Res (getI l) 0 x r ok
def GotS (l : List UInt8) (w : World) (e : Ending) (w' : World) : Prop := ∃ x r ok, Got (.string (str x)) r ok w e w' ∧ Res (getS l) [] x r ok
def GotIs (l : List UInt8) (w : World) (e : Ending) (w' : World) : Prop := ∃ x r ok, Got2 3 (ivs x) r ok w e w' ∧ Res (getL geti l) [] x r ok
def GotSs (l : List UInt8) (w : World) (e : Ending) (w' : World) : Prop := ∃ x r ok, Got2 9 (sls x) r ok w e w' ∧ Res (getL getw l) [] x r ok
def GotB (l : List UInt8) (w : World) (e : Ending) (w' : World) : Prop := ∃ x r ok, Got (.bool x) r ok w e w' ∧ Res (getB l) false x r ok

section
variable {A : Option Addr} {c : Nat} {l : List UInt8} {w : World} (hr : Row w w.heap.size A (bvs l)) (hc : l.length ≤ c) (hl : l.length ≤ 16777216)
include hr hc hl
end
end
end Go.Proofs.YtmlnmcoophnlaaaGreat

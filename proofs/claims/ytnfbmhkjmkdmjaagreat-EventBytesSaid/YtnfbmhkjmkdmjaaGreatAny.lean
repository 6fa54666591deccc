/-
  codec: the Get functions, each by one contract for every argument.
-/
import Derived.Test.YtnfbmhkjmkdmjaaGreatGetMore
import Derived.Test.YtnfbmhkjmkdmjaaGreatDec
set_option linter.unusedVariables false
set_option linter.unusedSimpArgs false
namespace Go.Proofs.YtnfbmhkjmkdmjaaGreat
open Go.RowKit

/-- what was read, or the zero value -/
def Res {α : Type} (g : Option (α × List UInt8)) (zero x : α) (r : List UInt8) (ok : Bool) : Prop := (ok = true ∧ g = some (x, r)) ∨ (ok = false ∧ x = zero ∧ r = [] ∧ g = none)
theorem Res.yes {α : Type} {zero x : α} {r : List UInt8} : Res (some (x, r)) zero x r true := .inl ⟨rfl, rfl⟩
theorem Res.no {α : Type} {zero : α} : Res (α := α) none zero zero [] false := .inr ⟨rfl, rfl, rfl, rfl⟩
def GotI (l : List UInt8) (w : World) (e : Ending) (w' : World) : Prop := ∃ x r ok, Got (.int .i64 x) r ok w e w' ∧ Res (getI l) 0 x r ok
def GotS (l : List UInt8) (w : World) (e : Ending) (w' : World) : Prop := ∃ x r ok, Got (.string (str x)) r ok w e w' ∧ Res (getS l) [] x r ok
def GotIs (l : List UInt8) (w : World) (e : Ending) (w' : World) : Prop := ∃ x r ok, Got2 3 (ivs x) r ok w e w' ∧ Res (getL geti l) [] x r ok
def GotSs (l : List UInt8) (w : World) (e : Ending) (w' : World) : Prop := ∃ x r ok, Got2 9 (sls x) r ok w e w' ∧ Res (getL getw l) [] x r ok
def GotB (l : List UInt8) (w : World) (e : Ending) (w' : World) : Prop := ∃ x r ok, Got (.bool x) r ok w e w' ∧ Res (getB l) false x r ok

section
variable {A : Option Addr} {c : Nat} {l : List UInt8} {w : World} (hr : Row w w.heap.size A (bvs l)) (hc : l.length ≤ c) (hl : l.length ≤ 16777216)
include hr hc hl
theorem GetInt_any : Calls Tryz.prog 128 #[.slice A l.length c] w (GotI l w) := by
  cases h : getI l with
  | none => exact (GetInt_none (c := c) hr (by omega) h).mono fun e w' hg => ⟨_, _, _, hg, by rw [h]; exact Res.no⟩
  | some p => obtain ⟨x, r⟩ := p; exact (GetInt_some hr hc (by omega) h).mono fun e w' hg => ⟨_, _, _, hg, by rw [h]; exact Res.yes⟩
theorem GetText_any : Calls Tryz.prog 129 #[.slice A l.length c] w (GotS l w) := by
  cases h : getS l with
  | none => exact (GetText_none (c := c) hr (by omega) h).mono fun e w' hg => ⟨_, _, _, hg, by rw [h]; exact Res.no⟩
  | some p => obtain ⟨x, r⟩ := p; exact (GetText_some hr hc (by omega) h).mono fun e w' hg => ⟨_, _, _, hg, by rw [h]; exact Res.yes⟩
theorem GetInts_any : Calls Tryz.prog 131 #[.slice A l.length c] w (GotIs l w) := by
  cases h : getL geti l with
  | none => exact (GetInts_none hr hc (by omega) h).mono fun e w' hg => ⟨[], [], false, hg, by rw [h]; exact Res.no⟩
  | some p => obtain ⟨x, r⟩ := p; exact (GetInts_some hr hc (by omega) h).mono fun e w' hg => ⟨_, _, _, hg, by rw [h]; exact Res.yes⟩
theorem GetTexts_any : Calls Tryz.prog 168 #[.slice A l.length c] w (GotSs l w) := by
  cases h : getL getw l with
  | none => exact (GetTexts_none hr hc (by omega) h).mono fun e w' hg => ⟨[], [], false, hg, by rw [h]; exact Res.no⟩
  | some p => obtain ⟨x, r⟩ := p; exact (GetTexts_some hr hc (by omega) h).mono fun e w' hg => ⟨_, _, _, hg, by rw [h]; exact Res.yes⟩
theorem GetBool_any : Calls Tryz.prog 130 #[.slice A l.length c] w (GotB l w) := by
  cases h : getB l with
  | none => exact (GetBool_none (c := c) hr h).mono fun e w' hg => ⟨_, _, _, hg, by rw [h]; exact Res.no⟩
  | some p => obtain ⟨x, r⟩ := p; exact (GetBool_some hr hc (by omega) h).mono fun e w' hg => ⟨_, _, _, hg, by rw [h]; exact Res.yes⟩
end
end Go.Proofs.YtnfbmhkjmkdmjaaGreat

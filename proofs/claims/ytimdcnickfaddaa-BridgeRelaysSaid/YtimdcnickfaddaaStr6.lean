/-
  What a redaction leaves: reference Strip of a content and of an event.
-/
import Derived.Test.YtimdcnickfaddaaSames6
import Derived.Test.YtimdcnickfaddaaPhases
set_option linter.unusedVariables false
set_option linter.unusedSimpArgs false
namespace Go.Proofs.Ytimdcnickfaddaa
open Go.RowKit
attribute [local go_sem] Addr.add_mid

def Lev.zero : Lev := ⟨[], [], 0, 0, 0, 0, 0, 0, 0⟩
def Con.zero : Con := ⟨⟨#[]⟩, 0, 0, false, ⟨#[]⟩, [], [], Lev.zero⟩
def stripC (k : Int) (c : Con) : Con :=
  if k = 1 then c
  else if k = 2 then { Con.zero with n := c.n, via := c.via }
  else if k = 3 then { Con.zero with lv := c.lv }
  else if k = 4 then { Con.zero with n := c.n, allow := c.allow }
  else if k = 5 then { Con.zero with n := c.n }
  else if k = 6 then { Con.zero with allow := c.allow, deny := c.deny }
  else if k = 14 then { Con.zero with target := c.target }
  else Con.zero
def stripE (e : Ev) : Ev := { e with con := stripC e.kind e.con }

/-- a content comes back -/
def GivesC (S : Nat → Prop) (f : Con) (w : World) (e : Ending) (w' : World) : Prop := ∃ cs, e = .returned (.agg cs.toArray) ∧ ConR w' (fun b => S b ∨ w.heap.size ≤ b) cs f ∧ Below w.heap.size w w'
/-- an event comes back -/
def GivesE (S : Nat → Prop) (f : Ev) (w : World) (e : Ending) (w' : World) : Prop := ∃ cs, e = .returned (.agg cs.toArray) ∧ EvR w' (fun b => S b ∨ w.heap.size ≤ b) cs f ∧ Below w.heap.size w w'

theorem kinds_cases (k : Int) : k = 1 ∨ k = 2 ∨ k = 3 ∨ k = 4 ∨ k = 5 ∨ k = 6 ∨ k = 14 ∨ (k ≠ 1 ∧ k ≠ 2 ∧ k ≠ 3 ∧ k ≠ 4 ∧ k ≠ 5 ∧ k ≠ 6 ∧ k ≠ 14) := by omega

def conZero : Array Value := #[.string ⟨#[]⟩, .int .i64 0, .int .i64 0, .bool false, .string ⟨#[]⟩, .slice none 0 0, .slice none 0 0, .slice none 0 0, .slice none 0 0, .int .i64 0, .int .i64 0, .int .i64 0, .int .i64 0, .int .i64 0, .int .i64 0, .int .i64 0]
theorem strcC : Strc Try.prog 49 conZero 16 := ⟨⟨_, Try.underlying49, rfl⟩, by kernel_rfl, rfl⟩









end Go.Proofs.Ytimdcnickfaddaa

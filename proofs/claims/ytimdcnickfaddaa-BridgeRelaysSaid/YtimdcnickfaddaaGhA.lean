/-
  Lists of ghosts in memory; of, ahead; identities as keys.
-/
import Derived.Test.YtimdcnickfaddaaBriG
import Derived.Maps.Views
import Derived.Maps.OwnIn
import Derived.Maps.OwnOps
import Derived.Maps.Keyed
import Derived.WideKeyArgs2
import Derived.DeepKeys4
set_option linter.unusedVariables false
set_option linter.unusedSimpArgs false
namespace Go.Proofs.Ytimdcnickfaddaa
open Go.RowKit Go.Maps

def gc (g : Gh) : List Value := [.string g.net, .string g.name, .string g.user]
def ghs (l : List Gh) : List Value := l.flatMap gc
theorem ghs_length (l : List Gh) : (ghs l).length = l.length * 3 := by
  induction l with
  | nil => rfl
  | cons g l ih => simp only [ghs, List.flatMap_cons, List.length_append, List.length_cons] at ih ⊢; rw [ih]; simp [gc]; omega
theorem ghs_append (a b : List Gh) : ghs a ++ ghs b = ghs (a ++ b) := by simp [ghs]
theorem ghs_get : ∀ (l : List Gh) (k : Nat) (h : k < l.length), (ghs l)[k * 3]? = some (.string l[k].net) ∧ (ghs l)[k * 3 + 1]? = some (.string l[k].name) ∧ (ghs l)[k * 3 + 2]? = some (.string l[k].user)
  | g :: l, 0, _ => ⟨rfl, rfl, rfl⟩
  | g :: l, k + 1, h => by
    have ih := ghs_get l k (by simpa using h)
    have e : ghs (g :: l) = .string g.net :: .string g.name :: .string g.user :: ghs l := rfl
    have e1 : (k + 1) * 3 = k * 3 + 3 := by omega
    rw [e, e1]
    exact ih
theorem ghs_one (l : List Gh) : ∀ u ∈ ghs l, u.oneCell' = true := by
  intro u hu
  obtain ⟨g, _, hg⟩ := List.mem_flatMap.1 hu
  simp [gc] at hg
  rcases hg with rfl | rfl | rfl <;> rfl
def gZero : Array Value := #[.string ⟨#[]⟩, .string ⟨#[]⟩, .string ⟨#[]⟩]
theorem strcG : Strc Try.prog 68 gZero 3 := ⟨⟨_, Try.underlying68, rfl⟩, by kernel_rfl, rfl⟩
theorem strcI : Strc Try.prog 70 #[.string ⟨#[]⟩, .string ⟨#[]⟩] 2 := ⟨⟨_, Try.underlying70, rfl⟩, by kernel_rfl, rfl⟩
theorem elemG : Elem Try.prog 32 68 (.agg gZero) 3 48 := ⟨Try.underlying32, by kernel_rfl, rfl, by decide⟩

set_option maxRecDepth 100000 in
set_option maxHeartbeats 1600000 in
theorem br_of (a b c : ByteArray) (w : World) : Calls Try.prog 45 #[.agg #[.string a, .string b, .string c]] w (fun e w' => e = .returned (.agg #[.string a, .string b]) ∧ Below w.heap.size w w') := by
  go_enter Try.func45, Try.ntmps45
  go_wp2_with fail
  exact bodyPost_two strcI rfl rfl rfl rfl ⟨rfl, ext_alloc (ext_alloc (ext_refl w) _) _⟩
/-! ### An identity as a key -/
def keyV (a b : ByteArray) : Value := .agg #[.string a, .string b]
set_option maxRecDepth 100000 in
theorem laidOut51 : laidOutB Try.prog = true := by kernel_rfl
set_option maxRecDepth 100000 in
theorem wide51 : (match Try.prog.underlying 70 with | some (.array _ _) | some (.struct _) => true | _ => false) = true := by kernel_rfl
set_option maxRecDepth 100000 in
theorem rowI : (70 : TypeId) < Try.prog.types.size := of_decide_eq_true (by kernel_rfl)
set_option maxRecDepth 100000 in
theorem keyedI : Keyed Try.prog 70 := Keyed.of_law (deep_law_laid laidOut51 (m := 2) (by omega) rowI (by kernel_rfl) wide51)
set_option maxRecDepth 100000 in
theorem keyTypeI : Try.prog.keyType 70 = true := by kernel_rfl
set_option maxRecDepth 100000 in
theorem key_some (a b : ByteArray) (ha : a.size ≤ maxLen) (hb : b.size ≤ maxLen) : ∃ l, keyOf Try.prog 70 (keyV a b) = some l := by
  have hf : (keyV a b).formed Try.prog 70 = true := by
    have hc : Try.prog.cellsOf 70 = 2 := by kernel_rfl
    simp [Value.formed, keyV, Try.underlying70, hc]
  have hl : ∃ ls, Try.prog.keyLits (Try.prog.types.size + 1) 70 (keyV a b).cells.toList = some ls := by
    have hs : ∃ n, Try.prog.types.size = n + 1 := ⟨_, rfl⟩
    obtain ⟨n, hn⟩ := hs
    rw [hn]
    have hc : Try.prog.cellsOf 70 = 2 := by kernel_rfl
    have hcs : Try.prog.cellsOf 9 = 1 := by kernel_rfl
    have hcl : (keyV a b).cells.toList = [.string a, .string b] := rfl
    rw [hcl]
    unfold Program.keyLits
    rw [Try.underlying70]
    unfold Program.keyLits
    simp [hc, hcs, Try.underlying9, ha, hb]
  obtain ⟨ls, hl⟩ := hl
  unfold keyOf
  rw [Try.underlying70]
  simp only [keyTypeI, hf, hl, Bool.and_self, if_true, Option.map_some]
  exact ⟨_, rfl⟩
end Go.Proofs.Ytimdcnickfaddaa

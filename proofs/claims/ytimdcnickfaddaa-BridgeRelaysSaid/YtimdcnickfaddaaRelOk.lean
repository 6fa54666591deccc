/-
  What is relayed is a right message (plain).
-/
import Derived.Test.YtimdcnickfaddaaCkE
import Derived.Test.YtimdcnickfaddaaGhE
set_option linter.unusedVariables false
set_option linter.unusedSimpArgs false
namespace Go.Proofs.Ytimdcnickfaddaa
open Go.RowKit
theorem ck_rel {m : Con} (h : m.text.size ≤ 400) : ckE 11 (relC m) = 0 := by
  have hk : knownB 11 = true := by decide +kernel
  have u0 : hasB (usesN 11) 0 = true := by decide +kernel
  have u1 : hasB (usesN 11) 1 = false := by decide +kernel
  have u2 : hasB (usesN 11) 2 = true := by decide +kernel
  have u3 : hasB (usesN 11) 3 = true := by decide +kernel
  have u4 : hasB (usesN 11) 4 = false := by decide +kernel
  have u5 : hasB (usesN 11) 5 = false := by decide +kernel
  have u6 : hasB (usesN 11) 6 = false := by decide +kernel
  have u7 : hasB (usesN 11) 7 = false := by decide +kernel
  have ho : onlyB 11 (relC m) = true := by
    unfold onlyB; rw [u0, u2, u3]
    simp only [Bool.or_true, Bool.true_and]
    rfl
  have t0 : textE 11 (relC m) = 0 := by
    show (if (11 : Int) = 9 then (if m.text.size = 0 then 0 else globE m.text) else if (11 : Int) = 12 ∧ m.text.size = 0 then 9 else if ((11 : Int) = 12 ∧ 32 < m.text.size) ∨ 400 < m.text.size then 7 else 0) = 0
    rw [if_neg (by decide), if_neg (by omega), if_neg (by omega)]
  have t2 : targetE 11 (relC m) = 0 := by
    unfold targetE
    rw [if_neg]
    show ¬ ((if 0 < m.target then m.target else 0) < 0 ∨ ((if 0 < m.target then m.target else 0) = 0 ∧ (11 : Int) ≠ 11))
    split <;> omega
  have t3 : threadE (relC m) = 0 := by
    unfold threadE
    rw [if_neg]
    show ¬ ((if 0 < m.target then m.thread else false) = true ∧ (if 0 < m.target then m.target else 0) = 0)
    split
    · omega
    · simp
  have hf : fieldsE 11 (relC m) [0, 1, 2, 3, 4, 5] = 0 := by
    simp only [fieldsE, u0, u1, u2, u3, u4, u5, errOf, t0, t2, t3]
    simp
  have hl : lastE 11 (relC m) = 0 := by unfold lastE; rw [u6, u7]; rfl
  unfold ckE
  rw [hk, ho, hf, hl]
  simp
theorem rel_mild {m : Con} (h : m.text.size ≤ 400) : (relC m).mild := ⟨by show (0 : Nat) ≤ _; omega, Nat.zero_le _, Nat.zero_le _, Nat.zero_le _, Nat.zero_le _, fun x h => by simp [relC] at h, fun x h => by simp [relC, levNil] at h⟩
end Go.Proofs.Ytimdcnickfaddaa

/-
  ids and its reference: letters and parts.
-/
import Derived.Test.YtimdcnickfaddaaBridgeP
import Derived.Test.YtimdcnickfaddaaShelfC
import Derived.Test.YtimdcnickfaddaaMem
set_option linter.unusedVariables false
set_option linter.unusedSimpArgs false
namespace Go.Proofs.Ytimdcnickfaddaa
open Go.RowKit

theorem plain_int (c : UInt8) : plainB c = true ↔ (((97 : Int) ≤ (c.toNat : Int) ∧ (c.toNat : Int) ≤ 122) ∨ ((48 : Int) ≤ (c.toNat : Int) ∧ (c.toNat : Int) ≤ 57)) := by
  unfold plainB; simp; omega
theorem ret_b {a b : Bool} (h : a = true ↔ b = true) : Ending.returned (.bool a) = .returned (.bool b) := by rw [Bool.eq_iff_iff.2 h]

set_option maxRecDepth 100000 in
set_option maxHeartbeats 1600000 in
theorem ids_letter (c : UInt8) (w : World) : Calls Try.prog 85 #[.int .u8 (c.toNat : Int)] w (fun e w' => e = .returned (.bool (plainB c)) ∧ w' = w) := by
  have hc := c.toNat_lt
  have HP := hide (plain_int c)
  go_enter Try.func85, Try.ntmps85
  go_wp2_with fail
  all_goals (go_ret; exact ⟨ret_b (by rw [HP.out]; simp; try omega), rfl⟩)
set_option maxRecDepth 100000 in
set_option maxHeartbeats 1600000 in
theorem r2_letter (c : UInt8) (w : World) : Calls Try.prog 49 #[.int .u8 (c.toNat : Int)] w (fun e w' => e = .returned (.bool (plainB c)) ∧ w' = w) := by
  have hc := c.toNat_lt
  have HP := hide (plain_int c)
  go_enter Try.func49, Try.ntmps49
  go_wp2_with fail
  all_goals (go_ret; exact ⟨ret_b (by rw [HP.out]; simp; try omega), rfl⟩)
set_option maxRecDepth 100000 in
set_option maxHeartbeats 1600000 in
theorem br_plain (c : UInt8) (w : World) : Calls Try.prog 64 #[.int .u8 (c.toNat : Int)] w (fun e w' => e = .returned (.bool (plainB c)) ∧ w' = w) := by
  have hc := c.toNat_lt
  have HP := hide (plain_int c)
  go_enter Try.func64, Try.ntmps64
  go_wp2_with fail
  all_goals (go_ret; exact ⟨ret_b (by rw [HP.out]; simp; try omega), rfl⟩)
set_option maxRecDepth 100000 in
set_option maxHeartbeats 1600000 in
theorem r51_plain (c : UInt8) (w : World) : Calls Try.prog 68 #[.int .u8 (c.toNat : Int)] w (fun e w' => e = .returned (.bool (plainB c)) ∧ w' = w) := by
  have hc := c.toNat_lt
  have HP := hide (plain_int c)
  go_enter Try.func68, Try.ntmps68
  go_wp2_with fail
  all_goals (go_ret; exact ⟨ret_b (by rw [HP.out]; simp; try omega), rfl⟩)

/-- what a local part and a server name may have besides -/
def locX (c : UInt8) : Bool := c == 95 || c == 46 || c == 45 || c == 61
def srvX (c : UInt8) : Bool := c == 46 || c == 45
theorem byte_eq (c : UInt8) (n : Nat) (h : n < 256) : (c == UInt8.ofNat n) = true ↔ (c.toNat : Int) = (n : Int) := by
  rw [beq_iff_eq]
  constructor
  · intro e; rw [e]; simp; omega
  · intro e; apply UInt8.toNat_inj.1; simp; omega
theorem locX_int (c : UInt8) : locX c = true ↔ ((c.toNat : Int) = 95 ∨ (c.toNat : Int) = 46 ∨ (c.toNat : Int) = 45 ∨ (c.toNat : Int) = 61) := by
  have h1 := byte_eq c 95 (by decide); have h2 := byte_eq c 46 (by decide); have h3 := byte_eq c 45 (by decide); have h4 := byte_eq c 61 (by decide)
  unfold locX
  rw [Bool.or_eq_true, Bool.or_eq_true, Bool.or_eq_true, or_assoc, or_assoc]
  exact or_congr h1 (or_congr h2 (or_congr h3 h4))
theorem srvX_int (c : UInt8) : srvX c = true ↔ ((c.toNat : Int) = 46 ∨ (c.toNat : Int) = 45) := by
  have h2 := byte_eq c 46 (by decide); have h3 := byte_eq c 45 (by decide)
  unfold srvX
  rw [Bool.or_eq_true]
  exact or_congr h2 h3
set_option maxRecDepth 100000 in
set_option maxHeartbeats 1600000 in
theorem ids_locX (c : UInt8) (w : World) : Calls Try.prog 92 #[.int .u8 (c.toNat : Int)] w (fun e w' => e = .returned (.bool (locX c)) ∧ w' = w) := by
  have hc := c.toNat_lt
  have HP := hide (locX_int c)
  go_enter Try.func92, Try.ntmps92
  go_wp2_with fail
  all_goals (go_ret; exact ⟨ret_b (by rw [HP.out]; simp; try omega), rfl⟩)
set_option maxRecDepth 100000 in
set_option maxHeartbeats 1600000 in
theorem ids_srvX (c : UInt8) (w : World) : Calls Try.prog 84 #[.int .u8 (c.toNat : Int)] w (fun e w' => e = .returned (.bool (srvX c)) ∧ w' = w) := by
  have hc := c.toNat_lt
  have HP := hide (srvX_int c)
  go_enter Try.func84, Try.ntmps84
  go_wp2_with fail
  all_goals (go_ret; exact ⟨ret_b (by rw [HP.out]; simp; try omega), rfl⟩)
end Go.Proofs.Ytimdcnickfaddaa

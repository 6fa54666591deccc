/-
  fedchatref05: SameBytes, SameInts, SameTexts, on equal lists.
-/
import Derived.Test.YtpmjfbdnfdeblaaElems
import Derived.Deep.QuietTactic
import Derived.BigQuiet
set_option linter.unusedVariables false
set_option linter.unusedSimpArgs false
namespace Go.Proofs.Ytpmjfbdnfdeblaa
open Go.RowKit

set_option maxRecDepth 100000 in
set_option maxHeartbeats 400000 in
theorem SameBytes_yes (B B2 : Nat) (A A2 : Option Addr) (c c2 n n2 : Nat) (l : List UInt8) (w : World) (hr : Row w B A (bvs l)) (hr2 : Row w B2 A2 (bvs l)) (hn : l.length = n) (hn2 : l.length = n2) :
    Calls Try.prog 14 #[.slice A n c, .slice A2 n2 c2] w (fun e w' => e = .returned (.bool true) ∧ w = w') := by
  have h1 := run_string (P := Try.prog) w 22 9 5 Try.underlying22 Try.underlying5 Try.underlying9 (c := c) hr hn (fun h => by rw [← hn]; exact row_none hr h)
  have h2 := run_string (P := Try.prog) w 22 9 5 Try.underlying22 Try.underlying5 Try.underlying9 (c := c2) hr2 hn2 (fun h => by rw [← hn2]; exact row_none hr2 h)
  clear hr hr2 hn hn2
  go_enter Try.func14, Try.ntmps14
  go_wp2_with fail
  go_ret
  simp

set_option maxRecDepth 100000 in
set_option maxHeartbeats 400000 in
theorem SameInts_yes (B B2 : Nat) (A A2 : Option Addr) (c c2 n n2 : Nat) (l : List Int) (w : World) (hr : Row w B A (ivs l)) (hr2 : Row w B2 A2 (ivs l)) (hn : l.length = n) (hn2 : l.length = n2) (hl : n ≤ 1073741824) :
    Calls Try.prog 31 #[.slice A n c, .slice A2 n2 c2] w (fun e w' => e = .returned (.bool true) ∧ Below w.heap.size w w') := by
  subst hn; subst hn2
  go_enter Try.func31, Try.ntmps31
  go_wp2_with fail
  go_loopw [5] (fun i wr => ∃ k n : Nat, k ≤ l.length ∧ i = .int .i64 (k : Int) ∧ wr = w.drewN n) (fun i _ => l.length - (intOf i).toNat)
  case atStart => exact ⟨0, 0, Nat.zero_le _, rfl, rfl⟩
  case round =>
    obtain ⟨k, n, hk, rfl, rfl⟩ := hrel
    by_cases hlt : k < l.length
    · obtain ⟨ad, rfl, _, hcell⟩ := hr.at (ivs_get l k hlt)
      obtain ⟨ad2, rfl, _, hcell2⟩ := hr2.at (ivs_get l k hlt)
      have i0 : (0 : Int) ≤ (k : Int) := by omega
      have i1 : (k : Int) < (l.length : Int) := by omega
      go_wp2_with fail
      go_quiet (fail)
      go_wp2_with fail
      go_roundw
      case rel => exact ⟨k + 1, _, by omega, by go_num, rfl⟩
      case measure => simp [intOf]; omega
    · obtain rfl : k = l.length := by omega
      go_wp2_with fail
      go_ret
      exact ⟨rfl, below_drewN (Below.refl _ _) _⟩

set_option maxRecDepth 100000 in
set_option maxHeartbeats 400000 in
theorem SameTexts_yes (B B2 : Nat) (A A2 : Option Addr) (c c2 n n2 : Nat) (l : List ByteArray) (w : World) (hr : Row w B A (svs l)) (hr2 : Row w B2 A2 (svs l)) (hn : l.length = n) (hn2 : l.length = n2) (hl : n ≤ 1073741824) :
    Calls Try.prog 27 #[.slice A n c, .slice A2 n2 c2] w (fun e w' => e = .returned (.bool true) ∧ Below w.heap.size w w') := by
  subst hn; subst hn2
  go_enter Try.func27, Try.ntmps27
  go_wp2_with fail
  go_loopw [5] (fun i wr => ∃ k n : Nat, k ≤ l.length ∧ i = .int .i64 (k : Int) ∧ wr = w.drewN n) (fun i _ => l.length - (intOf i).toNat)
  case atStart => exact ⟨0, 0, Nat.zero_le _, rfl, rfl⟩
  case round =>
    obtain ⟨k, n, hk, rfl, rfl⟩ := hrel
    by_cases hlt : k < l.length
    · obtain ⟨ad, rfl, _, hcell⟩ := hr.at (svs_get l k hlt)
      obtain ⟨ad2, rfl, _, hcell2⟩ := hr2.at (svs_get l k hlt)
      have i0 : (0 : Int) ≤ (k : Int) := by omega
      have i1 : (k : Int) < (l.length : Int) := by omega
      go_wp2_with fail
      go_quiet (fail)
      go_wp2_with fail
      go_roundw
      case rel => exact ⟨k + 1, _, by omega, by go_num, rfl⟩
      case measure => simp [intOf]; omega
    · obtain rfl : k = l.length := by omega
      go_wp2_with fail
      go_ret
      exact ⟨rfl, below_drewN (Below.refl _ _) _⟩
end Go.Proofs.Ytpmjfbdnfdeblaa

/-
  State and Uses, of the program and of the reference.
-/
import Derived.Test.YtmlnmcoophnlaaaGreatCkE
set_option linter.unusedVariables false
set_option linter.unusedSimpArgs false
namespace Go.Proofs.YtmlnmcoophnlaaaGreat
open Go.RowKit
attribute [local go_sem] Addr.add_mid
def stateB (k : Int) : Bool := decide (1 ≤ k) && decide (k ≤ 10)
set_option maxRecDepth 100000 in
set_option maxHeartbeats 1600000 in
theorem state_any (k : Int) (w : World) : Calls Tryz.prog 73 #[.int .i64 k] w (fun e w' => e = .returned (.bool (stateB k)) ∧ w' = w) := by
  have HP := hide (show stateB k = true ↔ (1 ≤ k ∧ k ≤ 10) by simp [stateB])
  go_enter Tryz.func73, Tryz.ntmps73
  go_wp2_with fail
  all_goals (go_ret; exact ⟨ret_b (by rw [HP.out]; simp; try omega), rfl⟩)
set_option maxRecDepth 100000 in
set_option maxHeartbeats 1600000 in
theorem r6_state (k : Int) (w : World) : Calls Tryz.prog 126 #[.int .i64 k] w (fun e w' => e = .returned (.bool (stateB k)) ∧ w' = w) := by
  have HP := hide (show stateB k = true ↔ (1 ≤ k ∧ k ≤ 10) by simp [stateB])
  go_enter Tryz.func126, Tryz.ntmps126
  go_wp2_with fail
  all_goals (go_ret; exact ⟨ret_b (by rw [HP.out]; simp; try omega), rfl⟩)
def nameB : Nat → ByteArray
  | 0 => ⟨#[84, 101, 120, 116]⟩
  | 1 => ⟨#[78]⟩
  | 2 => ⟨#[84, 97, 114, 103, 101, 116]⟩
  | 3 => ⟨#[84, 104, 114, 101, 97, 100]⟩
  | 4 => ⟨#[86, 105, 97]⟩
  | 5 => ⟨#[65, 108, 108, 111, 119]⟩
  | 6 => ⟨#[68, 101, 110, 121]⟩
  | _ => ⟨#[76, 101, 118, 101, 108, 115]⟩
/-- the fields of a mask, up to one -/
def namesL (m : Int) (j : Nat) : List ByteArray := ((List.range j).filter (hasB m)).map nameB
def usesL (k : Int) : List ByteArray := namesL (usesN k) 8
theorem namesL_yes {m : Int} {j : Nat} (h : hasB m j = true) : namesL m (j + 1) = namesL m j ++ [nameB j] := by
  unfold namesL; rw [List.range_succ, List.filter_append, List.map_append]; simp [h]
theorem namesL_no {m : Int} {j : Nat} (h : hasB m j = false) : namesL m (j + 1) = namesL m j := by
  unfold namesL; rw [List.range_succ, List.filter_append, List.map_append]; simp [h]
theorem namesL_len (m : Int) (j : Nat) : (namesL m j).length ≤ j := by
  unfold namesL; rw [List.length_map]; exact Nat.le_trans (List.length_filter_le _ _) (by simp)
theorem own_lit (w : World) (cs : Array Value) (e : TypeId) {n : Nat} (hn : cs.size = n) (hm : n ≤ maxLen) : (w.alloc (.cells cs e)).ownsRow w.heap.size e 1 (.slice (some ⟨w.heap.size, 0, none⟩) n n) n cs.toList := by
  refine ⟨by simp [hn], .inr ⟨w.heap.size, n, cs, rfl, Nat.le_refl _, heap_alloc_new w _, Nat.le_refl _, hm, by omega, ?_⟩⟩
  rw [List.take_of_length_le (by simp [hn])]
theorem gives_lit {w : World} {l : List ByteArray} {cs : Array Value} {n : Nat} (hl : l.length = n) (hcs : cs.toList = svs l) (hm : n ≤ 100) :
    GivesT l w (.returned (.slice (some ⟨w.heap.size, 0, none⟩) n n)) (w.alloc (.cells cs 9)) := by
  subst hl
  have hn : cs.size = l.length := by rw [← Array.length_toList, hcs]; simp [svs]
  refine ⟨_, _, rfl, ?_, ext_alloc (ext_refl w) _⟩
  have := Slc.own (own_lit w cs 9 hn (by unfold maxLen; omega)) (by decide)
  rwa [hcs] at this
theorem gives_nil {w : World} : GivesT [] w (.returned (.slice none 0 0)) w := ⟨none, 0, rfl, Slc.nil _ _ _, ext_refl w⟩

set_option maxRecDepth 100000 in
set_option maxHeartbeats 1600000 in
theorem R6Uses_any (k : Int) (w : World) : Calls Tryz.prog 196 #[.int .i64 k] w (GivesT (usesL k) w) := by
  rcases uses_cases k with rfl | rfl | rfl | rfl | rfl | rfl | rfl | rfl | rfl | rfl | rfl | rfl | rfl | hk
  case inr.inr.inr.inr.inr.inr.inr.inr.inr.inr.inr.inr.inr =>
    have hs : usesL k = [] := by unfold usesL; rw [show usesN k = 0 by simp [usesN, hk]]; decide
    obtain ⟨k2, k3, k4, k5, k6, k7, k8, k9, k10, k11, k12, k13, k14⟩ := hk
    have k2 : (k == 2) = false := by simpa using k2
    have k3 : (k == 3) = false := by simpa using k3
    have k4 : (k == 4) = false := by simpa using k4
    have k5 : (k == 5) = false := by simpa using k5
    have k6 : (k == 6) = false := by simpa using k6
    have k7 : (k == 7) = false := by simpa using k7
    have k8 : (k == 8) = false := by simpa using k8
    have k9 : (k == 9) = false := by simpa using k9
    have k10 : (k == 10) = false := by simpa using k10
    have k11 : (k == 11) = false := by simpa using k11
    have k12 : (k == 12) = false := by simpa using k12
    have k13 : (k == 13) = false := by simpa using k13
    have k14 : (k == 14) = false := by simpa using k14
    rw [hs]
    clear hs
    go_enter Tryz.func196, Tryz.ntmps196
    go_wp2_with fail
    go_ret
    exact gives_nil
  all_goals
    go_enter Tryz.func196, Tryz.ntmps196
    go_wp2_with fail
    go_ret
    exact gives_lit (by decide) (by kernel_rfl) (by decide)
end Go.Proofs.YtmlnmcoophnlaaaGreat

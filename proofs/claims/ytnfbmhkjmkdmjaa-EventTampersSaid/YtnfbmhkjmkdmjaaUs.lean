/-
  State and Uses, of the program and of the reference.
-/
import Derived.Test.YtnfbmhkjmkdmjaaCkE
set_option linter.unusedVariables false
set_option linter.unusedSimpArgs false
namespace Go.Proofs.Ytnfbmhkjmkdmjaa
open Go.RowKit
attribute [local go_sem] Addr.add_mid
def stateB (k : Int) : Bool := decide (1 ≤ k) && decide (k ≤ 10)
set_option maxRecDepth 100000 in
set_option maxHeartbeats 1600000 in
theorem state_any (k : Int) (w : World) : Calls Try.prog 34 #[.int .i64 k] w (fun e w' => e = .returned (.bool (stateB k)) ∧ w' = w) := by
  have HP := hide (show stateB k = true ↔ (1 ≤ k ∧ k ≤ 10) by simp [stateB])
  go_enter Try.func34, Try.ntmps34
  go_wp2_with fail
  all_goals (go_ret; exact ⟨ret_b (by rw [HP.out]; simp; try omega), rfl⟩)
def nameB : Nat → ByteArray
  | 0 => ⟨#[84, 101, 120, 116]⟩
  | 1 => ⟨#[78]⟩
  | 2 => ⟨#[84, 97, 114, 103, 101, 116]⟩
  | 3 => ⟨#[84, 104, 114, 101, 97, 100]⟩
  | 4 => ⟨#[86, 105, 97]⟩
  | 5 => ⟨#[65, 108, 108, 111, 119]⟩
  | 6 => ⟨#[68, 101, 110, 121]⟩
  | _ => ⟨#[76, 101, 118, 101, 108, 115]⟩
/-- the fields of a mask, up to one -/
def namesL (m : Int) (j : Nat) : List ByteArray := ((List.range j).filter (hasB m)).map nameB
def usesL (k : Int) : List ByteArray := namesL (usesN k) 8
theorem namesL_yes {m : Int} {j : Nat} (h : hasB m j = true) : namesL m (j + 1) = namesL m j ++ [nameB j] := by
  unfold namesL; rw [List.range_succ, List.filter_append, List.map_append]; simp [h]
theorem namesL_no {m : Int} {j : Nat} (h : hasB m j = false) : namesL m (j + 1) = namesL m j := by
  unfold namesL; rw [List.range_succ, List.filter_append, List.map_append]; simp [h]
theorem namesL_len (m : Int) (j : Nat) : (namesL m j).length ≤ j := by
  unfold namesL; rw [List.length_map]; exact Nat.le_trans (List.length_filter_le _ _) (by simp)
theorem own_lit (w : World) (cs : Array Value) (e : TypeId) {n : Nat} (hn : cs.size = n) (hm : n ≤ maxLen) : (w.alloc (.cells cs e)).ownsRow w.heap.size e 1 (.slice (some ⟨w.heap.size, 0, none⟩) n n) n cs.toList := by
  refine ⟨by simp [hn], .inr ⟨w.heap.size, n, cs, rfl, Nat.le_refl _, heap_alloc_new w _, Nat.le_refl _, hm, by omega, ?_⟩⟩
  rw [List.take_of_length_le (by simp [hn])]
theorem gives_lit {w : World} {l : List ByteArray} {cs : Array Value} {n : Nat} (hl : l.length = n) (hcs : cs.toList = svs l) (hm : n ≤ 100) :
    GivesT l w (.returned (.slice (some ⟨w.heap.size, 0, none⟩) n n)) (w.alloc (.cells cs 9)) := by
  subst hl
  have hn : cs.size = l.length := by rw [← Array.length_toList, hcs]; simp [svs]
  refine ⟨_, _, rfl, ?_, ext_alloc (ext_refl w) _⟩
  have := Slc.own (own_lit w cs 9 hn (by unfold maxLen; omega)) (by decide)
  rwa [hcs] at this
theorem gives_nil {w : World} : GivesT [] w (.returned (.slice none 0 0)) w := ⟨none, 0, rfl, Slc.nil _ _ _, ext_refl w⟩

end Go.Proofs.Ytnfbmhkjmkdmjaa

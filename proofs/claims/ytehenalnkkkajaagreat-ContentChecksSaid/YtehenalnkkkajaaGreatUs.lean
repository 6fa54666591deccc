/-
  State and Uses, of the program and of the reference.
-/
import Derived.Test.YtehenalnkkkajaaGreatCkE
set_option linter.unusedVariables false
set_option linter.unusedSimpArgs false
namespace Go.Proofs.YtehenalnkkkajaaGreat
open Go.RowKit
attribute [local go_sem] Addr.add_mid
def stateB (k : Int) : Bool := decide (1 ≤ k) && decide (k ≤ 10)
set_option maxRecDepth 100000 in
set_option maxHeartbeats 1600000 in
theorem state_any (k : Int) (w : World) : Calls Tryz.prog 38 #[.int .i64 k] w (fun e w' => e = .returned (.bool (stateB k)) ∧ w' = w) := by
  have HP := hide (show stateB k = true ↔ (1 ≤ k ∧ k ≤ 10) by simp [stateB])
  go_enter Tryz.func38, Tryz.ntmps38
  go_wp2_with fail
  all_goals (go_ret; exact ⟨ret_b (by rw [HP.out]; simp; try omega), rfl⟩)
def nameB : Nat → ByteArray
  | 0 => ⟨#[84, 101, 120, 116]⟩
  | 1 => ⟨#[78]⟩
  | 2 => ⟨#[84, 97, 114, 103, 101, 116]⟩
  | 3 => ⟨#[84, 104, 114, 101, 97, 100]⟩
  | 4 => ⟨#[86, 105, 97]⟩
  | 5 => ⟨#[65, 108, 108, 111, 119]⟩
  | 6 => ⟨#[68, 101, 110, 121]⟩
  | _ => ⟨#[76, 101, 118, 101, 108, 115]⟩
/-- the fields of a mask, up to one -/
def namesL (m : Int) (j : Nat) : List ByteArray := ((List.range j).filter (hasB m)).map nameB
def usesL (k : Int) : List ByteArray := namesL (usesN k) 8
theorem namesL_yes {m : Int} {j : Nat} (h : hasB m j = true) : namesL m (j + 1) = namesL m j ++ [nameB j] := by
  unfold namesL; rw [List.range_succ, List.filter_append, List.map_append]; simp [h]
theorem namesL_no {m : Int} {j : Nat} (h : hasB m j = false) : namesL m (j + 1) = namesL m j := by
  unfold namesL; rw [List.range_succ, List.filter_append, List.map_append]; simp [h]
theorem namesL_len (m : Int) (j : Nat) : (namesL m j).length ≤ j := by
  unfold namesL; rw [List.length_map]; exact Nat.le_trans (List.length_filter_le _ _) (by simp)
theorem own_lit (w : World) (cs : Array Value) (e : TypeId) {n : Nat} (hn : cs.size = n) (hm : n ≤ maxLen) : (w.alloc (.cells cs e)).ownsRow w.heap.size e 1 (.slice (some ⟨w.heap.size, 0, none⟩) n n) n cs.toList := by
  refine ⟨by simp [hn], .inr ⟨w.heap.size, n, cs, rfl, Nat.le_refl _, heap_alloc_new w _, Nat.le_refl _, hm, by omega, ?_⟩⟩
  rw [List.take_of_length_le (by simp [hn])]
theorem gives_lit {w : World} {l : List ByteArray} {cs : Array Value} {n : Nat} (hl : l.length = n) (hcs : cs.toList = svs l) (hm : n ≤ 100) :
    GivesT l w (.returned (.slice (some ⟨w.heap.size, 0, none⟩) n n)) (w.alloc (.cells cs 9)) := by
  subst hl
  have hn : cs.size = l.length := by rw [← Array.length_toList, hcs]; simp [svs]
  refine ⟨_, _, rfl, ?_, ext_alloc (ext_refl w) _⟩
  have := Slc.own (own_lit w cs 9 hn (by unfold maxLen; omega)) (by decide)
  rwa [hcs] at this
theorem gives_nil {w : World} : GivesT [] w (.returned (.slice none 0 0)) w := ⟨none, 0, rfl, Slc.nil _ _ _, ext_refl w⟩

set_option maxRecDepth 100000 in
set_option maxHeartbeats 1600000 in
theorem Uses_any (k : Int) (w : World) : Calls Tryz.prog 33 #[.int .i64 k] w (GivesT (usesL k) w) := by
  have hab := fun i (h : i < 8) => and_bit' k i h
  have CU := fun W => uses_any k W
  have HU := hide (show usesL k = namesL (usesN k) 8 from rfl)
  obtain ⟨un, hun⟩ : ∃ n, usesN k = n := ⟨_, rfl⟩
  simp only [hun] at CU hab
  rw [hun] at HU
  have HAB := hide hab
  clear hun hab
  go_enter Tryz.func33, Tryz.ntmps33
  go_upto_region 4 with (go_at_call 10; refine (CU _).mono ?_; rintro e w' ⟨rfl, rfl⟩)
  go_loopw [3, 10] (fun v i wr => ∃ j : Nat, j ≤ 8 ∧ i = .int .i64 (j : Int) ∧ wr.ownsRow w.heap.size 9 1 v (namesL un j).length (svs (namesL un j)) ∧ Below w.heap.size w wr) (fun _ i _ => 8 - (intOf i).toNat)
  case atStart => exact ⟨0, by omega, rfl, World.ownsRow_nil _ _ _ _, ext_refl w⟩
  case round =>
  obtain ⟨j, hj, rfl, hown, hnx⟩ := hrel
  have hj : j = 0 ∨ j = 1 ∨ j = 2 ∨ j = 3 ∨ j = 4 ∨ j = 5 ∨ j = 6 ∨ j = 7 ∨ j = 8 := by omega
  rcases hj with rfl | rfl | rfl | rfl | rfl | rfl | rfl | rfl | rfl
  · have hc : ((0 : Nat) : Int) = 0 := rfl
    have t0 : (bits BinOp.and IntKind.i64 un 1 != 0) = hasB un 0 := HAB.out 0 (by decide)
    have hix : ∀ W, (Instr.index 64 (.agg #[.string ⟨#[84, 101, 120, 116]⟩, .string ⟨#[78]⟩, .string ⟨#[84, 97, 114, 103, 101, 116]⟩, .string ⟨#[84, 104, 114, 101, 97, 100]⟩, .string ⟨#[86, 105, 97]⟩, .string ⟨#[65, 108, 108, 111, 119]⟩, .string ⟨#[68, 101, 110, 121]⟩, .string ⟨#[76, 101, 118, 101, 108, 115]⟩]) (.int .i64 0)).run Tryz.prog W = .ok (.string ⟨#[84, 101, 120, 116]⟩) W := fun W => by kernel_rfl
    have hlen := namesL_len un 0
    obtain ⟨ub, hub⟩ : ∃ b, hasB un 0 = b := ⟨_, rfl⟩
    rw [hub] at t0
    cases ub
    · have HN := hide (namesL_no hub)
      clear hub
      go_wp2_with fail
      go_roundw
      case rel => exact ⟨1, by omega, rfl, by rw [HN.out]; exact hown, hnx⟩
      case measure => (simp [intOf]; try omega)
    · have HN := hide (namesL_yes hub)
      clear hub
      obtain ⟨L, HL, HLL⟩ : ∃ L, Hid (namesL un 0 = L) ∧ L.length ≤ 0 := ⟨_, hide rfl, hlen⟩
      rw [HL.out] at hown
      rw [HL.out] at HN
      clear hlen
      go_wp2_with (at_builtin; go_must (refine wpList_append_new rfl _ _ rfl elemS w.heap.size _ _ _ rfl hown 1 _ rfl rfl (by simp [Value.oneCell']) (by decide) (by unfold maxLen; omega) (by omega) hnx.size ?_))
      intro v3 w3 hown3 hgrow3
      have hb3 := below_of_own hnx hown hgrow3 hnx.size (Nat.le_refl _)
      go_wp2_with fail
      go_roundw
      case rel => exact ⟨1, by omega, rfl, by rw [HN.out]; simpa [svs, nameB] using hown3, hb3⟩
      case measure => (simp [intOf]; try omega)
  · have hc : ((1 : Nat) : Int) = 1 := rfl
    have t0 : (bits BinOp.and IntKind.i64 un 2 != 0) = hasB un 1 := HAB.out 1 (by decide)
    have hix : ∀ W, (Instr.index 64 (.agg #[.string ⟨#[84, 101, 120, 116]⟩, .string ⟨#[78]⟩, .string ⟨#[84, 97, 114, 103, 101, 116]⟩, .string ⟨#[84, 104, 114, 101, 97, 100]⟩, .string ⟨#[86, 105, 97]⟩, .string ⟨#[65, 108, 108, 111, 119]⟩, .string ⟨#[68, 101, 110, 121]⟩, .string ⟨#[76, 101, 118, 101, 108, 115]⟩]) (.int .i64 1)).run Tryz.prog W = .ok (.string ⟨#[78]⟩) W := fun W => by kernel_rfl
    have hlen := namesL_len un 1
    obtain ⟨ub, hub⟩ : ∃ b, hasB un 1 = b := ⟨_, rfl⟩
    rw [hub] at t0
    cases ub
    · have HN := hide (namesL_no hub)
      clear hub
      go_wp2_with fail
      go_roundw
      case rel => exact ⟨2, by omega, rfl, by rw [HN.out]; exact hown, hnx⟩
      case measure => (simp [intOf]; try omega)
    · have HN := hide (namesL_yes hub)
      clear hub
      obtain ⟨L, HL, HLL⟩ : ∃ L, Hid (namesL un 1 = L) ∧ L.length ≤ 1 := ⟨_, hide rfl, hlen⟩
      rw [HL.out] at hown
      rw [HL.out] at HN
      clear hlen
      go_wp2_with (at_builtin; go_must (refine wpList_append_new rfl _ _ rfl elemS w.heap.size _ _ _ rfl hown 1 _ rfl rfl (by simp [Value.oneCell']) (by decide) (by unfold maxLen; omega) (by omega) hnx.size ?_))
      intro v3 w3 hown3 hgrow3
      have hb3 := below_of_own hnx hown hgrow3 hnx.size (Nat.le_refl _)
      go_wp2_with fail
      go_roundw
      case rel => exact ⟨2, by omega, rfl, by rw [HN.out]; simpa [svs, nameB] using hown3, hb3⟩
      case measure => (simp [intOf]; try omega)
  · have hc : ((2 : Nat) : Int) = 2 := rfl
    have t0 : (bits BinOp.and IntKind.i64 un 4 != 0) = hasB un 2 := HAB.out 2 (by decide)
    have hix : ∀ W, (Instr.index 64 (.agg #[.string ⟨#[84, 101, 120, 116]⟩, .string ⟨#[78]⟩, .string ⟨#[84, 97, 114, 103, 101, 116]⟩, .string ⟨#[84, 104, 114, 101, 97, 100]⟩, .string ⟨#[86, 105, 97]⟩, .string ⟨#[65, 108, 108, 111, 119]⟩, .string ⟨#[68, 101, 110, 121]⟩, .string ⟨#[76, 101, 118, 101, 108, 115]⟩]) (.int .i64 2)).run Tryz.prog W = .ok (.string ⟨#[84, 97, 114, 103, 101, 116]⟩) W := fun W => by kernel_rfl
    have hlen := namesL_len un 2
    obtain ⟨ub, hub⟩ : ∃ b, hasB un 2 = b := ⟨_, rfl⟩
    rw [hub] at t0
    cases ub
    · have HN := hide (namesL_no hub)
      clear hub
      go_wp2_with fail
      go_roundw
      case rel => exact ⟨3, by omega, rfl, by rw [HN.out]; exact hown, hnx⟩
      case measure => (simp [intOf]; try omega)
    · have HN := hide (namesL_yes hub)
      clear hub
      obtain ⟨L, HL, HLL⟩ : ∃ L, Hid (namesL un 2 = L) ∧ L.length ≤ 2 := ⟨_, hide rfl, hlen⟩
      rw [HL.out] at hown
      rw [HL.out] at HN
      clear hlen
      go_wp2_with (at_builtin; go_must (refine wpList_append_new rfl _ _ rfl elemS w.heap.size _ _ _ rfl hown 1 _ rfl rfl (by simp [Value.oneCell']) (by decide) (by unfold maxLen; omega) (by omega) hnx.size ?_))
      intro v3 w3 hown3 hgrow3
      have hb3 := below_of_own hnx hown hgrow3 hnx.size (Nat.le_refl _)
      go_wp2_with fail
      go_roundw
      case rel => exact ⟨3, by omega, rfl, by rw [HN.out]; simpa [svs, nameB] using hown3, hb3⟩
      case measure => (simp [intOf]; try omega)
  · have hc : ((3 : Nat) : Int) = 3 := rfl
    have t0 : (bits BinOp.and IntKind.i64 un 8 != 0) = hasB un 3 := HAB.out 3 (by decide)
    have hix : ∀ W, (Instr.index 64 (.agg #[.string ⟨#[84, 101, 120, 116]⟩, .string ⟨#[78]⟩, .string ⟨#[84, 97, 114, 103, 101, 116]⟩, .string ⟨#[84, 104, 114, 101, 97, 100]⟩, .string ⟨#[86, 105, 97]⟩, .string ⟨#[65, 108, 108, 111, 119]⟩, .string ⟨#[68, 101, 110, 121]⟩, .string ⟨#[76, 101, 118, 101, 108, 115]⟩]) (.int .i64 3)).run Tryz.prog W = .ok (.string ⟨#[84, 104, 114, 101, 97, 100]⟩) W := fun W => by kernel_rfl
    have hlen := namesL_len un 3
    obtain ⟨ub, hub⟩ : ∃ b, hasB un 3 = b := ⟨_, rfl⟩
    rw [hub] at t0
    cases ub
    · have HN := hide (namesL_no hub)
      clear hub
      go_wp2_with fail
      go_roundw
      case rel => exact ⟨4, by omega, rfl, by rw [HN.out]; exact hown, hnx⟩
      case measure => (simp [intOf]; try omega)
    · have HN := hide (namesL_yes hub)
      clear hub
      obtain ⟨L, HL, HLL⟩ : ∃ L, Hid (namesL un 3 = L) ∧ L.length ≤ 3 := ⟨_, hide rfl, hlen⟩
      rw [HL.out] at hown
      rw [HL.out] at HN
      clear hlen
      go_wp2_with (at_builtin; go_must (refine wpList_append_new rfl _ _ rfl elemS w.heap.size _ _ _ rfl hown 1 _ rfl rfl (by simp [Value.oneCell']) (by decide) (by unfold maxLen; omega) (by omega) hnx.size ?_))
      intro v3 w3 hown3 hgrow3
      have hb3 := below_of_own hnx hown hgrow3 hnx.size (Nat.le_refl _)
      go_wp2_with fail
      go_roundw
      case rel => exact ⟨4, by omega, rfl, by rw [HN.out]; simpa [svs, nameB] using hown3, hb3⟩
      case measure => (simp [intOf]; try omega)
  · have hc : ((4 : Nat) : Int) = 4 := rfl
    have t0 : (bits BinOp.and IntKind.i64 un 16 != 0) = hasB un 4 := HAB.out 4 (by decide)
    have hix : ∀ W, (Instr.index 64 (.agg #[.string ⟨#[84, 101, 120, 116]⟩, .string ⟨#[78]⟩, .string ⟨#[84, 97, 114, 103, 101, 116]⟩, .string ⟨#[84, 104, 114, 101, 97, 100]⟩, .string ⟨#[86, 105, 97]⟩, .string ⟨#[65, 108, 108, 111, 119]⟩, .string ⟨#[68, 101, 110, 121]⟩, .string ⟨#[76, 101, 118, 101, 108, 115]⟩]) (.int .i64 4)).run Tryz.prog W = .ok (.string ⟨#[86, 105, 97]⟩) W := fun W => by kernel_rfl
    have hlen := namesL_len un 4
    obtain ⟨ub, hub⟩ : ∃ b, hasB un 4 = b := ⟨_, rfl⟩
    rw [hub] at t0
    cases ub
    · have HN := hide (namesL_no hub)
      clear hub
      go_wp2_with fail
      go_roundw
      case rel => exact ⟨5, by omega, rfl, by rw [HN.out]; exact hown, hnx⟩
      case measure => (simp [intOf]; try omega)
    · have HN := hide (namesL_yes hub)
      clear hub
      obtain ⟨L, HL, HLL⟩ : ∃ L, Hid (namesL un 4 = L) ∧ L.length ≤ 4 := ⟨_, hide rfl, hlen⟩
      rw [HL.out] at hown
      rw [HL.out] at HN
      clear hlen
      go_wp2_with (at_builtin; go_must (refine wpList_append_new rfl _ _ rfl elemS w.heap.size _ _ _ rfl hown 1 _ rfl rfl (by simp [Value.oneCell']) (by decide) (by unfold maxLen; omega) (by omega) hnx.size ?_))
      intro v3 w3 hown3 hgrow3
      have hb3 := below_of_own hnx hown hgrow3 hnx.size (Nat.le_refl _)
      go_wp2_with fail
      go_roundw
      case rel => exact ⟨5, by omega, rfl, by rw [HN.out]; simpa [svs, nameB] using hown3, hb3⟩
      case measure => (simp [intOf]; try omega)
  · have hc : ((5 : Nat) : Int) = 5 := rfl
    have t0 : (bits BinOp.and IntKind.i64 un 32 != 0) = hasB un 5 := HAB.out 5 (by decide)
    have hix : ∀ W, (Instr.index 64 (.agg #[.string ⟨#[84, 101, 120, 116]⟩, .string ⟨#[78]⟩, .string ⟨#[84, 97, 114, 103, 101, 116]⟩, .string ⟨#[84, 104, 114, 101, 97, 100]⟩, .string ⟨#[86, 105, 97]⟩, .string ⟨#[65, 108, 108, 111, 119]⟩, .string ⟨#[68, 101, 110, 121]⟩, .string ⟨#[76, 101, 118, 101, 108, 115]⟩]) (.int .i64 5)).run Tryz.prog W = .ok (.string ⟨#[65, 108, 108, 111, 119]⟩) W := fun W => by kernel_rfl
    have hlen := namesL_len un 5
    obtain ⟨ub, hub⟩ : ∃ b, hasB un 5 = b := ⟨_, rfl⟩
    rw [hub] at t0
    cases ub
    · have HN := hide (namesL_no hub)
      clear hub
      go_wp2_with fail
      go_roundw
      case rel => exact ⟨6, by omega, rfl, by rw [HN.out]; exact hown, hnx⟩
      case measure => (simp [intOf]; try omega)
    · have HN := hide (namesL_yes hub)
      clear hub
      obtain ⟨L, HL, HLL⟩ : ∃ L, Hid (namesL un 5 = L) ∧ L.length ≤ 5 := ⟨_, hide rfl, hlen⟩
      rw [HL.out] at hown
      rw [HL.out] at HN
      clear hlen
      go_wp2_with (at_builtin; go_must (refine wpList_append_new rfl _ _ rfl elemS w.heap.size _ _ _ rfl hown 1 _ rfl rfl (by simp [Value.oneCell']) (by decide) (by unfold maxLen; omega) (by omega) hnx.size ?_))
      intro v3 w3 hown3 hgrow3
      have hb3 := below_of_own hnx hown hgrow3 hnx.size (Nat.le_refl _)
      go_wp2_with fail
      go_roundw
      case rel => exact ⟨6, by omega, rfl, by rw [HN.out]; simpa [svs, nameB] using hown3, hb3⟩
      case measure => (simp [intOf]; try omega)
  · have hc : ((6 : Nat) : Int) = 6 := rfl
    have t0 : (bits BinOp.and IntKind.i64 un 64 != 0) = hasB un 6 := HAB.out 6 (by decide)
    have hix : ∀ W, (Instr.index 64 (.agg #[.string ⟨#[84, 101, 120, 116]⟩, .string ⟨#[78]⟩, .string ⟨#[84, 97, 114, 103, 101, 116]⟩, .string ⟨#[84, 104, 114, 101, 97, 100]⟩, .string ⟨#[86, 105, 97]⟩, .string ⟨#[65, 108, 108, 111, 119]⟩, .string ⟨#[68, 101, 110, 121]⟩, .string ⟨#[76, 101, 118, 101, 108, 115]⟩]) (.int .i64 6)).run Tryz.prog W = .ok (.string ⟨#[68, 101, 110, 121]⟩) W := fun W => by kernel_rfl
    have hlen := namesL_len un 6
    obtain ⟨ub, hub⟩ : ∃ b, hasB un 6 = b := ⟨_, rfl⟩
    rw [hub] at t0
    cases ub
    · have HN := hide (namesL_no hub)
      clear hub
      go_wp2_with fail
      go_roundw
      case rel => exact ⟨7, by omega, rfl, by rw [HN.out]; exact hown, hnx⟩
      case measure => (simp [intOf]; try omega)
    · have HN := hide (namesL_yes hub)
      clear hub
      obtain ⟨L, HL, HLL⟩ : ∃ L, Hid (namesL un 6 = L) ∧ L.length ≤ 6 := ⟨_, hide rfl, hlen⟩
      rw [HL.out] at hown
      rw [HL.out] at HN
      clear hlen
      go_wp2_with (at_builtin; go_must (refine wpList_append_new rfl _ _ rfl elemS w.heap.size _ _ _ rfl hown 1 _ rfl rfl (by simp [Value.oneCell']) (by decide) (by unfold maxLen; omega) (by omega) hnx.size ?_))
      intro v3 w3 hown3 hgrow3
      have hb3 := below_of_own hnx hown hgrow3 hnx.size (Nat.le_refl _)
      go_wp2_with fail
      go_roundw
      case rel => exact ⟨7, by omega, rfl, by rw [HN.out]; simpa [svs, nameB] using hown3, hb3⟩
      case measure => (simp [intOf]; try omega)
  · have hc : ((7 : Nat) : Int) = 7 := rfl
    have t0 : (bits BinOp.and IntKind.i64 un 128 != 0) = hasB un 7 := HAB.out 7 (by decide)
    have hix : ∀ W, (Instr.index 64 (.agg #[.string ⟨#[84, 101, 120, 116]⟩, .string ⟨#[78]⟩, .string ⟨#[84, 97, 114, 103, 101, 116]⟩, .string ⟨#[84, 104, 114, 101, 97, 100]⟩, .string ⟨#[86, 105, 97]⟩, .string ⟨#[65, 108, 108, 111, 119]⟩, .string ⟨#[68, 101, 110, 121]⟩, .string ⟨#[76, 101, 118, 101, 108, 115]⟩]) (.int .i64 7)).run Tryz.prog W = .ok (.string ⟨#[76, 101, 118, 101, 108, 115]⟩) W := fun W => by kernel_rfl
    have hlen := namesL_len un 7
    obtain ⟨ub, hub⟩ : ∃ b, hasB un 7 = b := ⟨_, rfl⟩
    rw [hub] at t0
    cases ub
    · have HN := hide (namesL_no hub)
      clear hub
      go_wp2_with fail
      go_roundw
      case rel => exact ⟨8, by omega, rfl, by rw [HN.out]; exact hown, hnx⟩
      case measure => (simp [intOf]; try omega)
    · have HN := hide (namesL_yes hub)
      clear hub
      obtain ⟨L, HL, HLL⟩ : ∃ L, Hid (namesL un 7 = L) ∧ L.length ≤ 7 := ⟨_, hide rfl, hlen⟩
      rw [HL.out] at hown
      rw [HL.out] at HN
      clear hlen
      go_wp2_with (at_builtin; go_must (refine wpList_append_new rfl _ _ rfl elemS w.heap.size _ _ _ rfl hown 1 _ rfl rfl (by simp [Value.oneCell']) (by decide) (by unfold maxLen; omega) (by omega) hnx.size ?_))
      intro v3 w3 hown3 hgrow3
      have hb3 := below_of_own hnx hown hgrow3 hnx.size (Nat.le_refl _)
      go_wp2_with fail
      go_roundw
      case rel => exact ⟨8, by omega, rfl, by rw [HN.out]; simpa [svs, nameB] using hown3, hb3⟩
      case measure => (simp [intOf]; try omega)
  · have hc : ((8 : Nat) : Int) = 8 := rfl
    have HS := hide (Slc.own hown (by decide))
    obtain ⟨A, c, hv, _⟩ := own_form hown
    subst hv
    clear hown
    go_wp2_with fail
    go_ret
    rw [HU.out]
    exact ⟨A, c, rfl, HS.out, hnx⟩
set_option maxRecDepth 100000 in
set_option maxHeartbeats 1600000 in
theorem R6Uses_any (k : Int) (w : World) : Calls Tryz.prog 71 #[.int .i64 k] w (GivesT (usesL k) w) := by
  rcases uses_cases k with rfl | rfl | rfl | rfl | rfl | rfl | rfl | rfl | rfl | rfl | rfl | rfl | rfl | hk
  case inr.inr.inr.inr.inr.inr.inr.inr.inr.inr.inr.inr.inr =>
    have hs : usesL k = [] := by unfold usesL; rw [show usesN k = 0 by simp [usesN, hk]]; decide
    obtain ⟨k2, k3, k4, k5, k6, k7, k8, k9, k10, k11, k12, k13, k14⟩ := hk
    have k2 : (k == 2) = false := by simpa using k2
    have k3 : (k == 3) = false := by simpa using k3
    have k4 : (k == 4) = false := by simpa using k4
    have k5 : (k == 5) = false := by simpa using k5
    have k6 : (k == 6) = false := by simpa using k6
    have k7 : (k == 7) = false := by simpa using k7
    have k8 : (k == 8) = false := by simpa using k8
    have k9 : (k == 9) = false := by simpa using k9
    have k10 : (k == 10) = false := by simpa using k10
    have k11 : (k == 11) = false := by simpa using k11
    have k12 : (k == 12) = false := by simpa using k12
    have k13 : (k == 13) = false := by simpa using k13
    have k14 : (k == 14) = false := by simpa using k14
    rw [hs]
    clear hs
    go_enter Tryz.func71, Tryz.ntmps71
    go_wp2_with fail
    go_ret
    exact gives_nil
  all_goals
    go_enter Tryz.func71, Tryz.ntmps71
    go_wp2_with fail
    go_ret
    exact gives_lit (by decide) (by kernel_rfl) (by decide)
end Go.Proofs.YtehenalnkkkajaaGreat

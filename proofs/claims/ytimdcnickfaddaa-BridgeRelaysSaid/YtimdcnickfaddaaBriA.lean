/-
  bridge: right, escaped; the reference's Network.
-/
import Derived.Test.YtimdcnickfaddaaBuild
set_option linter.unusedVariables false
set_option linter.unusedSimpArgs false
namespace Go.Proofs.Ytimdcnickfaddaa
open Go.RowKit

def netB (l : List UInt8) : Bool := decide (1 ≤ l.length ∧ l.length ≤ 8) && l.all plainB
theorem net_iff (l : List UInt8) : netB l = true ↔ netOk l := by
  unfold netB netOk
  rw [Bool.and_eq_true, decide_eq_true_eq, List.all_eq_true, and_assoc]
theorem netB_no {s : ByteArray} {k : Nat} (hk : k < s.size) (h1 : plainB s[k] = false) : netB s.data.toList = false := by
  obtain ⟨hl, hg⟩ := list_at s hk
  unfold netB
  rw [Bool.and_eq_false_iff]
  right
  rw [List.all_eq_false]
  exact ⟨s.data.toList[k], List.getElem_mem hl, by rw [hg]; simp [h1]⟩
theorem netB_all {s : ByteArray} (ha : ∀ c ∈ s.data.toList, plainB c = true) : netB s.data.toList = decide (1 ≤ s.size ∧ s.size ≤ 8) := by
  unfold netB
  rw [List.all_eq_true.2 ha, Bool.and_true, Enc.size_toList]
set_option maxRecDepth 100000 in
set_option maxHeartbeats 1600000 in
theorem br_right (s : ByteArray) (w : World) : Calls Try.prog 30 #[.string s] w (fun e w' => e = .returned (.bool (netB s.data.toList)) ∧ w' = w) := by
  have hsz := Enc.size_toList s
  by_cases hlen : 1 ≤ s.size ∧ s.size ≤ 8
  · have HZ := hide hsz
    obtain ⟨g1, g2⟩ := hlen
    clear hsz
    go_enter Try.func30, Try.ntmps30
    go_wp2_with fail
    go_loop [14] (fun i => ∃ k : Nat, k ≤ s.size ∧ i = .int .i64 (k : Int) ∧ Hid (∀ c ∈ s.data.toList.take k, plainB c = true)) (fun i => s.size - (intOf i).toNat)
    case atStart => exact ⟨0, Nat.zero_le _, rfl, by simp [Hid]⟩
    case round =>
    obtain ⟨k, hk, rfl, HT⟩ := hrel
    by_cases hlt : k < s.size
    · have C1 := br_plain s[k]
      obtain ⟨b1, h1⟩ : ∃ b, plainB s[k] = b := ⟨_, rfl⟩
      simp only [h1] at C1
      cases b1
      · have HF := hide (netB_no hlt h1)
        clear h1
        go_wp2_with (go_at_call 64; refine (C1 _).mono ?_; rintro e w' ⟨rfl, rfl⟩)
        go_ret
        exact ⟨by rw [HF.out]; rfl, rfl⟩
      · have HN := hide (all_next (p := fun c => plainB c = true) HT.out hlt h1)
        clear h1
        go_wp2_with (go_at_call 64; refine (C1 _).mono ?_; rintro e w' ⟨rfl, rfl⟩)
        go_round
        case rel => exact ⟨k + 1, by omega, by go_num, HN.out⟩
        case measure => simp [intOf]; omega
    · obtain rfl : k = s.size := by omega
      have HF := hide (show netB s.data.toList = true from (netB_all (s := s) (by have := HT.out; rwa [← HZ.out, List.take_length] at this)).trans (decide_eq_true (And.intro g1 g2)))
      clear HT
      go_wp2_with fail
      go_ret
      exact ⟨by rw [HF.out]; rfl, rfl⟩
  · have HF := hide (show netB s.data.toList = false from by unfold netB; rw [decide_eq_false (by omega)]; rfl)
    clear hsz
    by_cases h1 : 1 ≤ s.size
    · have h2 : 8 < s.size := by omega
      clear hlen
      go_enter Try.func30, Try.ntmps30
      go_wp2_with fail
      go_ret
      exact ⟨by rw [HF.out]; rfl, rfl⟩
    · have h2 : s.size = 0 := by omega
      clear hlen h1
      go_enter Try.func30, Try.ntmps30
      go_wp2_with fail
      go_ret
      exact ⟨by rw [HF.out]; rfl, rfl⟩
set_option maxRecDepth 100000 in
set_option maxHeartbeats 1600000 in
theorem r51_Network (s : ByteArray) (w : World) (hs : s.size ≤ 9223372036854775807) : Calls Try.prog 33 #[.string s] w (fun e w' => e = .returned (.bool (netB s.data.toList)) ∧ w' = w) := by
  have HZ := hide (Enc.size_toList s)
  go_enter Try.func33, Try.ntmps33
  go_wp2_with fail
  go_loop [3] (fun i => ∃ k : Nat, k ≤ s.size ∧ i = .int .i64 (k : Int) ∧ Hid (∀ c ∈ s.data.toList.take k, plainB c = true)) (fun i => s.size - (intOf i).toNat)
  case atStart => exact ⟨0, Nat.zero_le _, rfl, by simp [Hid]⟩
  case round =>
  obtain ⟨k, hk, rfl, HT⟩ := hrel
  by_cases hlt : k < s.size
  · have C1 := r51_plain s[k]
    obtain ⟨b1, h1⟩ : ∃ b, plainB s[k] = b := ⟨_, rfl⟩
    simp only [h1] at C1
    cases b1
    · have HF := hide (netB_no hlt h1)
      clear h1
      go_wp2_with (go_at_call 68; refine (C1 _).mono ?_; rintro e w' ⟨rfl, rfl⟩)
      go_ret
      exact ⟨by rw [HF.out]; rfl, rfl⟩
    · have HN := hide (all_next (p := fun c => plainB c = true) HT.out hlt h1)
      clear h1
      go_wp2_with (go_at_call 68; refine (C1 _).mono ?_; rintro e w' ⟨rfl, rfl⟩)
      go_round
      case rel => exact ⟨k + 1, by omega, by go_num, HN.out⟩
      case measure => simp [intOf]; omega
  · obtain rfl : k = s.size := by omega
    have HF := hide (netB_all (s := s) (by have := HT.out; rwa [← HZ.out, List.take_length] at this))
    clear HT
    go_wp2_with fail
    all_goals (go_ret; exact ⟨by rw [HF.out]; exact ret_b (by simp; try omega), rfl⟩)
/-! ### The digits -/
theorem dig (n : Nat) (h : n < (⟨#[48, 49, 50, 51, 52, 53, 54, 55, 56, 57, 97, 98, 99, 100, 101, 102]⟩ : ByteArray).size) : (⟨#[48, 49, 50, 51, 52, 53, 54, 55, 56, 57, 97, 98, 99, 100, 101, 102]⟩ : ByteArray)[n] = hexB n := by
  have h' : n < 16 := h
  have : ∀ m : Fin 16, (⟨#[48, 49, 50, 51, 52, 53, 54, 55, 56, 57, 97, 98, 99, 100, 101, 102]⟩ : ByteArray)[m.val]'m.isLt = hexB m.val := by decide +kernel
  exact this ⟨n, h'⟩
theorem esc_step (s : ByteArray) (k : Nat) (h : k < s.size) : escL (s.data.toList.take (k + 1)) = escL (s.data.toList.take k) ++ escB s[k] := by
  obtain ⟨hl, hg⟩ := list_at s h
  rw [List.take_succ_eq_append_getElem hl, escL_append, hg]
  simp [escL]
theorem esc_three (s : ByteArray) (k : Nat) (h : k < s.size) (hp : plainB s[k] = false) {d1 d2 : Int} (h1 : (hexB (s[k].toNat / 16)).toNat = d1) (h2 : (hexB (s[k].toNat % 16)).toNat = d2) :
    Lib.byteCells (escL (s.data.toList.take k)) ++ [.int .u8 61] ++ [.int .u8 d1] ++ [.int .u8 d2] = Lib.byteCells (escL (s.data.toList.take (k + 1))) := by
  rw [esc_step s k h]
  unfold escB
  rw [hp, ← h1, ← h2]
  simp [Lib.byteCells]
theorem esc_one (s : ByteArray) (k : Nat) (h : k < s.size) (hp : plainB s[k] = true) :
    Lib.byteCells (escL (s.data.toList.take k)) ++ [.int .u8 (s[k].toNat : Int)] = Lib.byteCells (escL (s.data.toList.take (k + 1))) := by
  rw [esc_step s k h]
  unfold escB
  rw [hp]
  simp [Lib.byteCells]
set_option maxRecDepth 100000 in
set_option maxHeartbeats 1600000 in
theorem br_escaped (s : ByteArray) (w : World) (hs : s.size ≤ 1000) : Calls Try.prog 32 #[.string s] w (fun e w' => e = .returned (.string (str (escL s.data.toList))) ∧ Below w.heap.size w w') := by
  have HZ := hide (Enc.size_toList s)
  go_enter Try.func32, Try.ntmps32
  go_wp2_with fail
  go_loopw [8] (fun i w' => ∃ k : Nat, k ≤ s.size ∧ i = .int .i64 (k : Int) ∧ IsB w.heap.size w.heap.size (Lib.byteCells (escL (s.data.toList.take k))) w' ∧ Below w.heap.size w w') (fun i _ => s.size - (intOf i).toNat)
  case atStart => exact ⟨0, Nat.zero_le _, rfl, new_b w, ext_alloc (ext_refl w) _⟩
  case round =>
  obtain ⟨k, hk, rfl, hB, hbel⟩ := hrel
  by_cases hlt : k < s.size
  · have C1 := br_plain s[k]
    obtain ⟨b1, h1⟩ : ∃ b, plainB s[k] = b := ⟨_, rfl⟩
    simp only [h1] at C1
    have hB0 : w.heap.size ≤ wr.heap.size := hbel.size
    have hlen : (Lib.byteCells (escL (List.take k s.data.toList))).length ≤ 4000 := by
      have := (escL_length (List.take k s.data.toList)).2
      have h2 : (List.take k s.data.toList).length ≤ k := by simp; omega
      simp only [Lib.byteCells, List.length_map]; omega
    obtain ⟨bs, hbs⟩ : ∃ bs, Lib.byteCells (escL (List.take k s.data.toList)) = bs := ⟨_, rfl⟩
    rw [hbs] at hB hlen
    have HBS := hide hbs
    clear hbs
    cases b1
    · go_wp2_with (first | (go_at_call 64; refine (C1 _).mono ?_; rintro e w' ⟨rfl, rfl⟩))
      go_at_call 66
      refine (write_byte _ _ _ _ _ hB (by omega) hB0).mono ?_
      rintro e w2 ⟨rfl, hB2, hb2⟩
      have hlo : s[k].toNat < 256 := s[k].toNat_lt
      have hq : s[k].toNat / 16 < 16 := by omega
      have hq' : (s[k].toNat : Int) / 16 < 16 := by omega
      go_wp2_with fail
      simp only [dig]
      obtain ⟨d1, hd1⟩ : ∃ d1 : Int, ((hexB (s[k].toNat / 16)).toNat : Int) = d1 := ⟨_, rfl⟩
      rw [hd1]
      have HD1 := hide hd1
      clear hd1
      go_at_call 66
      refine (write_byte _ _ _ _ _ hB2 (by simp; omega) (by have := hb2.size; omega)).mono ?_
      rintro e w3 ⟨rfl, hB3, hb3⟩
      go_wp2_with fail
      simp only [dig]
      obtain ⟨d2, hd2⟩ : ∃ d2 : Int, ((hexB (s[k].toNat % 16)).toNat : Int) = d2 := ⟨_, rfl⟩
      rw [hd2]
      have HD2 := hide hd2
      clear hd2
      go_at_call 66
      refine (write_byte _ _ _ _ _ hB3 (by simp; omega) (by have := hb2.size; have := hb3.size; omega)).mono ?_
      rintro e w4 ⟨rfl, hB4, hb4⟩
      rw [← HBS.out, esc_three s k hlt h1 HD1.out HD2.out] at hB4
      have hbel4 := ((hbel.trans hb2).trans hb3).trans hb4
      clear hB hB2 hB3 hbel hb2 hb3 hb4 h1 hq hq' hlo
      go_wp2_with fail
      go_round
      case rel => exact ⟨k + 1, by omega, by go_num, hB4, hbel4⟩
      case measure => simp [intOf]; omega
    · go_wp2_with (first | (go_at_call 64; refine (C1 _).mono ?_; rintro e w' ⟨rfl, rfl⟩))
      go_at_call 66
      refine (write_byte _ _ _ _ _ hB (by omega) hB0).mono ?_
      rintro e w2 ⟨rfl, hB2, hb2⟩
      rw [← HBS.out, esc_one s k hlt h1] at hB2
      have hbel4 := hbel.trans hb2
      clear hB hbel hb2 h1
      go_wp2_with fail
      go_round
      case rel => exact ⟨k + 1, by omega, by go_num, hB2, hbel4⟩
      case measure => simp [intOf]; omega
  · obtain rfl : k = s.size := by omega
    rw [← HZ.out, List.take_length] at hB
    have CS := Try.Builder_String_any w.heap.size w.heap.size (escL s.data.toList)
    go_wp2_with (go_at_call 67; refine (CS _ hB hbel.size).mono ?_; rintro e w2 ⟨rfl, hb2⟩)
    go_ret
    exact ⟨rfl, hbel.trans hb2⟩
end Go.Proofs.Ytimdcnickfaddaa

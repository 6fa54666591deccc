/-
  ids: valid, for each of the two closures.
-/
import Derived.Test.YtimdcnickfaddaaIds
set_option linter.unusedVariables false
set_option linter.unusedSimpArgs false
namespace Go.Proofs.Ytimdcnickfaddaa
open Go.RowKit

/-- what valid answers -/
def validB (X : UInt8 → Bool) (l : List UInt8) : Bool := decide (1 ≤ l.length ∧ l.length ≤ 32) && l.all fun c => plainB c || X c
theorem list_at (s : ByteArray) {k : Nat} (hk : k < s.size) : ∃ h : k < s.data.toList.length, s.data.toList[k] = s[k] := ⟨by rw [Enc.size_toList s]; exact hk, rfl⟩
theorem validB_no {X : UInt8 → Bool} {s : ByteArray} {k : Nat} (hk : k < s.size) (h1 : plainB s[k] = false) (h2 : X s[k] = false) : validB X s.data.toList = false := by
  obtain ⟨hl, hg⟩ := list_at s hk
  unfold validB
  rw [Bool.and_eq_false_iff]
  right
  rw [List.all_eq_false]
  exact ⟨s.data.toList[k], List.getElem_mem hl, by rw [hg]; simp [h1, h2]⟩
theorem validB_len {X : UInt8 → Bool} {l : List UInt8} (h : ¬ (1 ≤ l.length ∧ l.length ≤ 32)) : validB X l = false := by
  unfold validB; rw [decide_eq_false h]; rfl
theorem validB_yes {X : UInt8 → Bool} {l : List UInt8} (h : 1 ≤ l.length ∧ l.length ≤ 32) (ha : ∀ c ∈ l, (plainB c || X c) = true) : validB X l = true := by
  unfold validB; rw [decide_eq_true h]; exact List.all_eq_true.2 ha
theorem all_next {p : UInt8 → Prop} {s : ByteArray} {k : Nat} (h : ∀ c ∈ s.data.toList.take k, p c) (hk : k < s.size) (hs : p s[k]) : ∀ c ∈ s.data.toList.take (k + 1), p c := by
  obtain ⟨hl, hg⟩ := list_at s hk
  rw [List.take_succ_eq_append_getElem hl]
  intro x hx
  rcases List.mem_append.1 hx with h1 | h1
  · exact h x h1
  · rw [List.mem_singleton] at h1; rw [h1, hg]; exact hs

set_option maxRecDepth 100000 in
set_option maxHeartbeats 1600000 in
theorem ids_valid_local (s : ByteArray) (w : World) : Calls Try.prog 83 #[.string s, .func (.func 92) #[] #[]] w (fun e w' => e = .returned (.bool (validB locX s.data.toList)) ∧ w' = w) := by
  have hsz := Enc.size_toList s
  by_cases hlen : 1 ≤ s.size ∧ s.size ≤ 32
  · have HL := hide (show 1 ≤ s.data.toList.length ∧ s.data.toList.length ≤ 32 by omega)
    have HZ := hide hsz
    obtain ⟨g1, g2⟩ := hlen
    clear hsz
    go_enter Try.func83, Try.ntmps83
    go_wp2_with fail
    go_loop [16] (fun i => ∃ k : Nat, k ≤ s.size ∧ i = .int .i64 (k : Int) ∧ Hid (∀ c ∈ s.data.toList.take k, (plainB c || locX c) = true)) (fun i => s.size - (intOf i).toNat)
    case atStart => exact ⟨0, Nat.zero_le _, rfl, by simp [Hid]⟩
    case round =>
    obtain ⟨k, hk, rfl, HT⟩ := hrel
    by_cases hlt : k < s.size
    · have C1 := ids_letter s[k]
      have C2 := ids_locX s[k]
      obtain ⟨b1, h1⟩ : ∃ b, plainB s[k] = b := ⟨_, rfl⟩
      obtain ⟨b2, h2⟩ : ∃ b, locX s[k] = b := ⟨_, rfl⟩
      simp only [h1] at C1
      simp only [h2] at C2
      cases b1
      · cases b2
        · have HF := hide (validB_no (X := locX) hlt h1 h2)
          clear h1 h2
          go_wp2_with (first | (go_at_call 85; refine (C1 _).mono ?_; rintro e w' ⟨rfl, rfl⟩) | (go_at_call 92; refine (C2 _).mono ?_; rintro e w' ⟨rfl, rfl⟩))
          go_ret
          exact ⟨by rw [HF.out]; rfl, rfl⟩
        · have HN := hide (all_next HT.out hlt (by rw [h1, h2]; rfl))
          clear h1 h2
          go_wp2_with (first | (go_at_call 85; refine (C1 _).mono ?_; rintro e w' ⟨rfl, rfl⟩) | (go_at_call 92; refine (C2 _).mono ?_; rintro e w' ⟨rfl, rfl⟩))
          go_round
          case rel => exact ⟨k + 1, by omega, by go_num, HN.out⟩
          case measure => simp [intOf]; omega
      · have HN := hide (all_next HT.out hlt (by rw [h1]; rfl))
        clear h1 h2
        go_wp2_with (first | (go_at_call 85; refine (C1 _).mono ?_; rintro e w' ⟨rfl, rfl⟩) | (go_at_call 92; refine (C2 _).mono ?_; rintro e w' ⟨rfl, rfl⟩))
        go_round
        case rel => exact ⟨k + 1, by omega, by go_num, HN.out⟩
        case measure => simp [intOf]; omega
    · obtain rfl : k = s.size := by omega
      have HF := hide (validB_yes (X := locX) HL.out (by have := HT.out; rwa [← HZ.out, List.take_length] at this))
      clear HT
      go_wp2_with fail
      go_ret
      exact ⟨by rw [HF.out]; rfl, rfl⟩
  · have HF := hide (validB_len (X := locX) (l := s.data.toList) (by omega))
    clear hsz
    by_cases h1 : 1 ≤ s.size
    · have h2 : 32 < s.size := by omega
      clear hlen
      go_enter Try.func83, Try.ntmps83
      go_wp2_with fail
      go_ret
      exact ⟨by rw [HF.out]; rfl, rfl⟩
    · have h2 : s.size = 0 := by omega
      clear hlen h1
      go_enter Try.func83, Try.ntmps83
      go_wp2_with fail
      go_ret
      exact ⟨by rw [HF.out]; rfl, rfl⟩
set_option maxRecDepth 100000 in
set_option maxHeartbeats 1600000 in
theorem ids_valid_server (s : ByteArray) (w : World) : Calls Try.prog 83 #[.string s, .func (.func 84) #[] #[]] w (fun e w' => e = .returned (.bool (validB srvX s.data.toList)) ∧ w' = w) := by
  have hsz := Enc.size_toList s
  by_cases hlen : 1 ≤ s.size ∧ s.size ≤ 32
  · have HL := hide (show 1 ≤ s.data.toList.length ∧ s.data.toList.length ≤ 32 by omega)
    have HZ := hide hsz
    obtain ⟨g1, g2⟩ := hlen
    clear hsz
    go_enter Try.func83, Try.ntmps83
    go_wp2_with fail
    go_loop [16] (fun i => ∃ k : Nat, k ≤ s.size ∧ i = .int .i64 (k : Int) ∧ Hid (∀ c ∈ s.data.toList.take k, (plainB c || srvX c) = true)) (fun i => s.size - (intOf i).toNat)
    case atStart => exact ⟨0, Nat.zero_le _, rfl, by simp [Hid]⟩
    case round =>
    obtain ⟨k, hk, rfl, HT⟩ := hrel
    by_cases hlt : k < s.size
    · have C1 := ids_letter s[k]
      have C2 := ids_srvX s[k]
      obtain ⟨b1, h1⟩ : ∃ b, plainB s[k] = b := ⟨_, rfl⟩
      obtain ⟨b2, h2⟩ : ∃ b, srvX s[k] = b := ⟨_, rfl⟩
      simp only [h1] at C1
      simp only [h2] at C2
      cases b1
      · cases b2
        · have HF := hide (validB_no (X := srvX) hlt h1 h2)
          clear h1 h2
          go_wp2_with (first | (go_at_call 85; refine (C1 _).mono ?_; rintro e w' ⟨rfl, rfl⟩) | (go_at_call 84; refine (C2 _).mono ?_; rintro e w' ⟨rfl, rfl⟩))
          go_ret
          exact ⟨by rw [HF.out]; rfl, rfl⟩
        · have HN := hide (all_next HT.out hlt (by rw [h1, h2]; rfl))
          clear h1 h2
          go_wp2_with (first | (go_at_call 85; refine (C1 _).mono ?_; rintro e w' ⟨rfl, rfl⟩) | (go_at_call 84; refine (C2 _).mono ?_; rintro e w' ⟨rfl, rfl⟩))
          go_round
          case rel => exact ⟨k + 1, by omega, by go_num, HN.out⟩
          case measure => simp [intOf]; omega
      · have HN := hide (all_next HT.out hlt (by rw [h1]; rfl))
        clear h1 h2
        go_wp2_with (first | (go_at_call 85; refine (C1 _).mono ?_; rintro e w' ⟨rfl, rfl⟩) | (go_at_call 84; refine (C2 _).mono ?_; rintro e w' ⟨rfl, rfl⟩))
        go_round
        case rel => exact ⟨k + 1, by omega, by go_num, HN.out⟩
        case measure => simp [intOf]; omega
    · obtain rfl : k = s.size := by omega
      have HF := hide (validB_yes (X := srvX) HL.out (by have := HT.out; rwa [← HZ.out, List.take_length] at this))
      clear HT
      go_wp2_with fail
      go_ret
      exact ⟨by rw [HF.out]; rfl, rfl⟩
  · have HF := hide (validB_len (X := srvX) (l := s.data.toList) (by omega))
    clear hsz
    by_cases h1 : 1 ≤ s.size
    · have h2 : 32 < s.size := by omega
      clear hlen
      go_enter Try.func83, Try.ntmps83
      go_wp2_with fail
      go_ret
      exact ⟨by rw [HF.out]; rfl, rfl⟩
    · have h2 : s.size = 0 := by omega
      clear hlen h1
      go_enter Try.func83, Try.ntmps83
      go_wp2_with fail
      go_ret
      exact ⟨by rw [HF.out]; rfl, rfl⟩
end Go.Proofs.Ytimdcnickfaddaa

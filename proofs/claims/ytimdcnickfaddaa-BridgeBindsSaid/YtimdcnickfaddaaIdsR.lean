/-
  The reference's identifiers: Local, Server, colon, marked, User, ServerOf, LocalOf.
-/
import Derived.Test.YtimdcnickfaddaaIdsD
set_option linter.unusedVariables false
set_option linter.unusedSimpArgs false
namespace Go.Proofs.Ytimdcnickfaddaa
open Go.RowKit

theorem validB_all {X : UInt8 → Bool} {s : ByteArray} (ha : ∀ c ∈ s.data.toList, (plainB c || X c) = true) : validB X s.data.toList = decide (1 ≤ s.size ∧ s.size ≤ 32) := by
  unfold validB
  rw [List.all_eq_true.2 ha, Bool.and_true, Enc.size_toList]
set_option maxRecDepth 100000 in
set_option maxHeartbeats 1600000 in
theorem r2_Local (s : ByteArray) (w : World) (hs : s.size ≤ 9223372036854775807) : Calls Try.prog 76 #[.string s] w (fun e w' => e = .returned (.bool (localB s.data.toList)) ∧ w' = w) := by
  have HZ := hide (Enc.size_toList s)
  go_enter Try.func76, Try.ntmps76
  go_wp2_with fail
  go_loop [3] (fun i => ∃ k : Nat, k ≤ s.size ∧ i = .int .i64 (k : Int) ∧ Hid (∀ c ∈ s.data.toList.take k, (plainB c || locX c) = true)) (fun i => s.size - (intOf i).toNat)
  case atStart => exact ⟨0, Nat.zero_le _, rfl, by simp [Hid]⟩
  case round =>
  obtain ⟨k, hk, rfl, HT⟩ := hrel
  by_cases hlt : k < s.size
  · have C1 := r2_letter s[k]
    have hlo := s[k].toNat_lt
    obtain ⟨b1, h1⟩ : ∃ b, plainB s[k] = b := ⟨_, rfl⟩
    cases b1
    · by_cases hx : locX s[k] = true
      · have HN := hide (all_next (p := fun c => (plainB c || locX c) = true) HT.out hlt (by rw [h1, hx]; rfl))
        simp only [h1] at C1
        clear h1
        rcases (locX_int _).1 hx with h | h | h | h <;> clear hx hlo <;> simp only [h] at C1
        all_goals
          go_wp2_with (go_at_call 49; refine (C1 _).mono ?_; rintro e w' ⟨rfl, rfl⟩)
          go_round
          case rel => exact ⟨k + 1, by omega, by go_num, HN.out⟩
          case measure => simp [intOf]; omega
      · have HF := hide (show localB s.data.toList = false from validB_no (X := locX) hlt h1 (by simpa using hx))
        obtain ⟨n1, n2, n3, n4⟩ : ¬ (s[k].toNat : Int) = 95 ∧ ¬ (s[k].toNat : Int) = 46 ∧ ¬ (s[k].toNat : Int) = 45 ∧ ¬ (s[k].toNat : Int) = 61 := by
          have := mt (locX_int s[k]).2 hx
          omega
        have m1 : ((s[k].toNat : Int) != 95) = true := by simpa using n1
        have m2 : ((s[k].toNat : Int) != 46) = true := by simpa using n2
        have m3 : ((s[k].toNat : Int) != 45) = true := by simpa using n3
        have m4 : ((s[k].toNat : Int) != 61) = true := by simpa using n4
        clear n1 n2 n3 n4
        simp only [h1] at C1
        clear h1 hx hlo
        go_wp2_with (go_at_call 49; refine (C1 _).mono ?_; rintro e w' ⟨rfl, rfl⟩)
        go_ret
        exact ⟨by rw [HF.out]; rfl, rfl⟩
    · have HN := hide (all_next (p := fun c => (plainB c || locX c) = true) HT.out hlt (by rw [h1]; rfl))
      simp only [h1] at C1
      clear h1
      go_wp2_with (go_at_call 49; refine (C1 _).mono ?_; rintro e w' ⟨rfl, rfl⟩)
      go_round
      case rel => exact ⟨k + 1, by omega, by go_num, HN.out⟩
      case measure => simp [intOf]; omega
  · obtain rfl : k = s.size := by omega
    have HF := hide (show localB s.data.toList = decide (1 ≤ s.size ∧ s.size ≤ 32) from validB_all (X := locX) (by have := HT.out; rwa [← HZ.out, List.take_length] at this))
    clear HT
    go_wp2_with fail
    all_goals (go_ret; exact ⟨by rw [HF.out]; exact ret_b (by simp; try omega), rfl⟩)
set_option maxRecDepth 100000 in
set_option maxHeartbeats 1600000 in
theorem r2_Server (s : ByteArray) (w : World) (hs : s.size ≤ 9223372036854775807) : Calls Try.prog 24 #[.string s] w (fun e w' => e = .returned (errN (serverB s.data.toList)) ∧ w' = w) := by
  have hz := Enc.size_toList s
  by_cases hlen : 1 ≤ s.size ∧ s.size ≤ 32
  · obtain ⟨g1, g2⟩ := hlen
    obtain ⟨n, hn⟩ : ∃ n, s.size = n + 1 := ⟨s.size - 1, by omega⟩
    have hpos : 0 < s.size := by omega
    have hlast : n < s.size := by omega
    have hn32 : n < 32 := by omega
    obtain ⟨b1, h1⟩ : ∃ b, plainB s[0] = b := ⟨_, rfl⟩
    obtain ⟨b2, h2⟩ : ∃ b, plainB s[n] = b := ⟨_, rfl⟩
    have HS := hide (show serverB s.data.toList = (validB srvX s.data.toList && b1 && b2) from by unfold serverB; rw [head_at s hpos, last_at s n hlast (by omega), h1, h2])
    have H1 := hide h1
    have H2 := hide h2
    have HZ := hide hz
    clear h1 h2 hz
    cases b1
    · go_enter Try.func24, Try.ntmps24
      go_wp2_with (go_at_call 49; refine (r2_letter _ _).mono ?_; rintro e w' ⟨rfl, rfl⟩; try rw [H1.out])
      go_ret
      exact ⟨by rw [HS.out]; simp [errN], rfl⟩
    · cases b2
      · go_enter Try.func24, Try.ntmps24
        go_wp2_with (go_at_call 49; refine (r2_letter _ _).mono ?_; rintro e w' ⟨rfl, rfl⟩; first | rw [H1.out] | rw [H2.out])
        go_ret
        exact ⟨by rw [HS.out]; simp [errN], rfl⟩
      · go_enter Try.func24, Try.ntmps24
        go_wp2_with (go_at_call 49; refine (r2_letter _ _).mono ?_; rintro e w' ⟨rfl, rfl⟩; first | rw [H1.out] | rw [H2.out])
        go_loop [3] (fun i => ∃ k : Nat, k ≤ s.size ∧ i = .int .i64 (k : Int) ∧ Hid (∀ c ∈ s.data.toList.take k, (plainB c || srvX c) = true)) (fun i => s.size - (intOf i).toNat)
        case atStart => exact ⟨0, Nat.zero_le _, rfl, by simp [Hid]⟩
        case round =>
        obtain ⟨k, hk, rfl, HT⟩ := hrel
        by_cases hlt : k < s.size
        · have C1 := r2_letter s[k]
          have hlo := s[k].toNat_lt
          obtain ⟨b1, h1⟩ : ∃ b, plainB s[k] = b := ⟨_, rfl⟩
          simp only [h1] at C1
          cases b1
          · by_cases hx : srvX s[k] = true
            · have HN := hide (all_next (p := fun c => (plainB c || srvX c) = true) HT.out hlt (by rw [h1, hx]; rfl))
              clear h1
              rcases (srvX_int _).1 hx with h | h <;> clear hx hlo <;> simp only [h] at C1
              all_goals
                go_wp2_with (go_at_call 49; refine (C1 _).mono ?_; rintro e w' ⟨rfl, rfl⟩)
                go_round
                case rel => exact ⟨k + 1, by omega, by go_num, HN.out⟩
                case measure => simp [intOf]; omega
            · have HF := hide (show validB srvX s.data.toList = false from validB_no (X := srvX) hlt h1 (by simpa using hx))
              obtain ⟨n1, n2⟩ : ¬ (s[k].toNat : Int) = 46 ∧ ¬ (s[k].toNat : Int) = 45 := by
                have := mt (srvX_int s[k]).2 hx
                omega
              have m1 : ((s[k].toNat : Int) != 46) = true := by simpa using n1
              have m2 : ((s[k].toNat : Int) != 45) = true := by simpa using n2
              clear n1 n2
              clear h1 hx hlo
              go_wp2_with (go_at_call 49; refine (C1 _).mono ?_; rintro e w' ⟨rfl, rfl⟩)
              go_ret
              exact ⟨by rw [HS.out, HF.out]; rfl, rfl⟩
          · have HN := hide (all_next (p := fun c => (plainB c || srvX c) = true) HT.out hlt (by rw [h1]; rfl))
            clear h1
            go_wp2_with (go_at_call 49; refine (C1 _).mono ?_; rintro e w' ⟨rfl, rfl⟩)
            go_round
            case rel => exact ⟨k + 1, by omega, by go_num, HN.out⟩
            case measure => simp [intOf]; omega
        · obtain rfl : k = s.size := by omega
          have HF := hide (show validB srvX s.data.toList = true from validB_yes (X := srvX) (by rw [HZ.out]; omega) (by have := HT.out; rwa [← HZ.out, List.take_length] at this))
          clear HT
          go_wp2_with fail
          go_ret
          exact ⟨by rw [HS.out, HF.out]; rfl, rfl⟩
  · have HF := hide (show serverB s.data.toList = false from by unfold serverB; rw [validB_len (X := srvX) (l := s.data.toList) (by omega)]; rfl)
    clear hz
    by_cases h1 : 1 ≤ s.size
    · have h2 : 32 < s.size := by omega
      clear hlen
      go_enter Try.func24, Try.ntmps24
      go_wp2_with fail
      go_ret
      exact ⟨by rw [HF.out]; rfl, rfl⟩
    · have h2 : s.size = 0 := by omega
      clear hlen h1
      go_enter Try.func24, Try.ntmps24
      go_wp2_with fail
      go_ret
      exact ⟨by rw [HF.out]; rfl, rfl⟩

/-- where the first colon stands, or the length -/
def colonN (s : ByteArray) : Nat := match cutL 58 s.data.toList with | some (a, _) => a.length | none => s.size
theorem byte_int (c : UInt8) (n : Nat) (h : n < 256) : c = UInt8.ofNat n ↔ (c.toNat : Int) = (n : Int) := by rw [← byte_eq c n h, beq_iff_eq]
set_option maxRecDepth 100000 in
set_option maxHeartbeats 1600000 in
theorem r2_colon (s : ByteArray) (w : World) (hs : s.size ≤ 9223372036854775807) : Calls Try.prog 48 #[.string s] w (fun e w' => e = .returned (.int .i64 (colonN s : Int)) ∧ w' = w) := by
  have HZ := hide (Enc.size_toList s)
  go_enter Try.func48, Try.ntmps48
  go_wp2_with fail
  go_loop [3] (fun i => ∃ k : Nat, k ≤ s.size ∧ i = .int .i64 (k : Int) ∧ Hid (∀ c ∈ s.data.toList.take k, c ≠ 58)) (fun i => s.size - (intOf i).toNat)
  case atStart => exact ⟨0, Nat.zero_le _, rfl, by simp [Hid]⟩
  case round =>
  obtain ⟨k, hk, rfl, HT⟩ := hrel
  by_cases hlt : k < s.size
  · have hbi := byte_int s[k] 58 (by decide)
    by_cases hx : s[k] = 58
    · have h := hbi.1 hx
      have HC := hide (show colonN s = k from by
        obtain ⟨hl, hg⟩ := list_at s hlt
        unfold colonN
        rw [cutL_at HT.out (by rw [List.getElem?_eq_getElem hl, hg, hx])]
        simp; omega)
      clear hx hbi
      go_wp2_with fail
      go_ret
      exact ⟨by rw [HC.out]; rfl, rfl⟩
    · have h : ¬ (s[k].toNat : Int) = 58 := fun h => hx (hbi.2 h)
      have HN := hide (all_next (p := fun c => c ≠ 58) HT.out hlt hx)
      clear hx hbi
      go_wp2_with fail
      go_round
      case rel => exact ⟨k + 1, by omega, by go_num, HN.out⟩
      case measure => simp [intOf]; omega
  · obtain rfl : k = s.size := by omega
    have HC := hide (show colonN s = s.size from by
      unfold colonN
      rw [cutL_none (by have := HT.out; rwa [← HZ.out, List.take_length] at this)])
    clear HT
    go_wp2_with fail
    go_ret
    exact ⟨by rw [HC.out]; rfl, rfl⟩
end Go.Proofs.Ytimdcnickfaddaa

/-
  The reference's identifiers: Local, Server, colon, marked, User, ServerOf, LocalOf.
  The reference's identifiers: marked, User, ServerOf, LocalOf.
-/
import Derived.Test.YtmlnmcoophnlaaaGreatIdsD
set_option linter.unusedVariables false
set_option linter.unusedSimpArgs false
namespace Go.Proofs.YtmlnmcoophnlaaaGreat
section
open Go.RowKit

theorem validB_all {X : UInt8 → Bool} {s : ByteArray} (ha : ∀ c ∈ s.data.toList, (plainB c || X c) = true) : validB X s.data.toList = decide (1 ≤ s.size ∧ s.size ≤ 32) := by
  unfold validB
  rw [List.all_eq_true.2 ha, Bool.and_true, Enc.size_toList]
set_option maxRecDepth 100000 in
set_option maxHeartbeats 1600000 in
theorem r2_Local (s : ByteArray) (w : World) (hs : s.size ≤ 9223372036854775807) : Calls Tryz.prog 147 #[.string s] w (fun e w' => e = .returned (.bool (localB s.data.toList)) ∧ w' = w) := by
  have HZ := hide (Enc.size_toList s)
  go_enter Tryz.func147, Tryz.ntmps147
  go_wp2_with fail
  go_loop [3] (fun i => ∃ k : Nat, k ≤ s.size ∧ i = .int .i64 (k : Int) ∧ Hid (∀ c ∈ s.data.toList.take k, (plainB c || locX c) = true)) (fun i => s.size - (intOf i).toNat)
  case atStart => exact ⟨0, Nat.zero_le _, rfl, by simp [Hid]⟩
  case round =>
  obtain ⟨k, hk, rfl, HT⟩ := hrel
  by_cases hlt : k < s.size
  · have C1 := r2_letter s[k]
    have hlo := s[k].toNat_lt
    obtain ⟨b1, h1⟩ : ∃ b, plainB s[k] = b := ⟨_, rfl⟩
    cases b1
    · by_cases hx : locX s[k] = true
      · have HN := hide (all_next (p := fun c => (plainB c || locX c) = true) HT.out hlt (by rw [h1, hx]; rfl))
        simp only [h1] at C1
        clear h1
        rcases (locX_int _).1 hx with h | h | h | h <;> clear hx hlo <;> simp only [h] at C1
        all_goals
          go_wp2_with (go_at_call 186; refine (C1 _).mono ?_; rintro e w' ⟨rfl, rfl⟩)
          go_round
          case rel => exact ⟨k + 1, by omega, by go_num, HN.out⟩
          case measure => simp [intOf]; omega
      · have HF := hide (show localB s.data.toList = false from validB_no (X := locX) hlt h1 (by simpa using hx))
        obtain ⟨n1, n2, n3, n4⟩ : ¬ (s[k].toNat : Int) = 95 ∧ ¬ (s[k].toNat : Int) = 46 ∧ ¬ (s[k].toNat : Int) = 45 ∧ ¬ (s[k].toNat : Int) = 61 := by
          have := mt (locX_int s[k]).2 hx
          omega
        have m1 : ((s[k].toNat : Int) != 95) = true := by simpa using n1
        have m2 : ((s[k].toNat : Int) != 46) = true := by simpa using n2
        have m3 : ((s[k].toNat : Int) != 45) = true := by simpa using n3
        have m4 : ((s[k].toNat : Int) != 61) = true := by simpa using n4
        clear n1 n2 n3 n4
        simp only [h1] at C1
        clear h1 hx hlo
        go_wp2_with (go_at_call 186; refine (C1 _).mono ?_; rintro e w' ⟨rfl, rfl⟩)
        go_ret
        exact ⟨by rw [HF.out]; rfl, rfl⟩
    · have HN := hide (all_next (p := fun c => (plainB c || locX c) = true) HT.out hlt (by rw [h1]; rfl))
      simp only [h1] at C1
      clear h1
      go_wp2_with (go_at_call 186; refine (C1 _).mono ?_; rintro e w' ⟨rfl, rfl⟩)
      go_round
      case rel => exact ⟨k + 1, by omega, by go_num, HN.out⟩
      case measure => simp [intOf]; omega
  · obtain rfl : k = s.size := by omega
    have HF := hide (show localB s.data.toList = decide (1 ≤ s.size ∧ s.size ≤ 32) from validB_all (X := locX) (by have := HT.out; rwa [← HZ.out, List.take_length] at this))
    clear HT
    go_wp2_with fail
    all_goals (go_ret; exact ⟨by rw [HF.out]; exact ret_b (by simp; try omega), rfl⟩)
set_option maxRecDepth 100000 in
set_option maxHeartbeats 1600000 in
theorem r2_Server (s : ByteArray) (w : World) (hs : s.size ≤ 9223372036854775807) : Calls Tryz.prog 148 #[.string s] w (fun e w' => e = .returned (errN (serverB s.data.toList)) ∧ w' = w) := by
  have hz := Enc.size_toList s
  by_cases hlen : 1 ≤ s.size ∧ s.size ≤ 32
  · obtain ⟨g1, g2⟩ := hlen
    obtain ⟨n, hn⟩ : ∃ n, s.size = n + 1 := ⟨s.size - 1, by omega⟩
    have hpos : 0 < s.size := by omega
    have hlast : n < s.size := by omega
    have hn32 : n < 32 := by omega
    obtain ⟨b1, h1⟩ : ∃ b, plainB s[0] = b := ⟨_, rfl⟩
    obtain ⟨b2, h2⟩ : ∃ b, plainB s[n] = b := ⟨_, rfl⟩
    have HS := hide (show serverB s.data.toList = (validB srvX s.data.toList && b1 && b2) from by unfold serverB; rw [head_at s hpos, last_at s n hlast (by omega), h1, h2])
    have H1 := hide h1
    have H2 := hide h2
    have HZ := hide hz
    clear h1 h2 hz
    cases b1
    · go_enter Tryz.func148, Tryz.ntmps148
      go_wp2_with (go_at_call 186; refine (r2_letter _ _).mono ?_; rintro e w' ⟨rfl, rfl⟩; try rw [H1.out])
      go_ret
      exact ⟨by rw [HS.out]; simp [errN], rfl⟩
    · cases b2
      · go_enter Tryz.func148, Tryz.ntmps148
        go_wp2_with (go_at_call 186; refine (r2_letter _ _).mono ?_; rintro e w' ⟨rfl, rfl⟩; first | rw [H1.out] | rw [H2.out])
        go_ret
        exact ⟨by rw [HS.out]; simp [errN], rfl⟩
      · go_enter Tryz.func148, Tryz.ntmps148
        go_wp2_with (go_at_call 186; refine (r2_letter _ _).mono ?_; rintro e w' ⟨rfl, rfl⟩; first | rw [H1.out] | rw [H2.out])
        go_loop [3] (fun i => ∃ k : Nat, k ≤ s.size ∧ i = .int .i64 (k : Int) ∧ Hid (∀ c ∈ s.data.toList.take k, (plainB c || srvX c) = true)) (fun i => s.size - (intOf i).toNat)
        case atStart => exact ⟨0, Nat.zero_le _, rfl, by simp [Hid]⟩
        case round =>
        obtain ⟨k, hk, rfl, HT⟩ := hrel
        by_cases hlt : k < s.size
        · have C1 := r2_letter s[k]
          have hlo := s[k].toNat_lt
          obtain ⟨b1, h1⟩ : ∃ b, plainB s[k] = b := ⟨_, rfl⟩
          simp only [h1] at C1
          cases b1
          · by_cases hx : srvX s[k] = true
            · have HN := hide (all_next (p := fun c => (plainB c || srvX c) = true) HT.out hlt (by rw [h1, hx]; rfl))
              clear h1
              rcases (srvX_int _).1 hx with h | h <;> clear hx hlo <;> simp only [h] at C1
              all_goals
                go_wp2_with (go_at_call 186; refine (C1 _).mono ?_; rintro e w' ⟨rfl, rfl⟩)
                go_round
                case rel => exact ⟨k + 1, by omega, by go_num, HN.out⟩
                case measure => simp [intOf]; omega
            · have HF := hide (show validB srvX s.data.toList = false from validB_no (X := srvX) hlt h1 (by simpa using hx))
              obtain ⟨n1, n2⟩ : ¬ (s[k].toNat : Int) = 46 ∧ ¬ (s[k].toNat : Int) = 45 := by
                have := mt (srvX_int s[k]).2 hx
                omega
              have m1 : ((s[k].toNat : Int) != 46) = true := by simpa using n1
              have m2 : ((s[k].toNat : Int) != 45) = true := by simpa using n2
              clear n1 n2
              clear h1 hx hlo
              go_wp2_with (go_at_call 186; refine (C1 _).mono ?_; rintro e w' ⟨rfl, rfl⟩)
              go_ret
              exact ⟨by rw [HS.out, HF.out]; rfl, rfl⟩
          · have HN := hide (all_next (p := fun c => (plainB c || srvX c) = true) HT.out hlt (by rw [h1]; rfl))
            clear h1
            go_wp2_with (go_at_call 186; refine (C1 _).mono ?_; rintro e w' ⟨rfl, rfl⟩)
            go_round
            case rel => exact ⟨k + 1, by omega, by go_num, HN.out⟩
            case measure => simp [intOf]; omega
        · obtain rfl : k = s.size := by omega
          have HF := hide (show validB srvX s.data.toList = true from validB_yes (X := srvX) (by rw [HZ.out]; omega) (by have := HT.out; rwa [← HZ.out, List.take_length] at this))
          clear HT
          go_wp2_with fail
          go_ret
          exact ⟨by rw [HS.out, HF.out]; rfl, rfl⟩
  · have HF := hide (show serverB s.data.toList = false from by unfold serverB; rw [validB_len (X := srvX) (l := s.data.toList) (by omega)]; rfl)
    clear hz
    by_cases h1 : 1 ≤ s.size
    · have h2 : 32 < s.size := by omega
      clear hlen
      go_enter Tryz.func148, Tryz.ntmps148
      go_wp2_with fail
      go_ret
      exact ⟨by rw [HF.out]; rfl, rfl⟩
    · have h2 : s.size = 0 := by omega
      clear hlen h1
      go_enter Tryz.func148, Tryz.ntmps148
      go_wp2_with fail
      go_ret
      exact ⟨by rw [HF.out]; rfl, rfl⟩

/-- where the first colon stands, or the length -/
def colonN (s : ByteArray) : Nat := match cutL 58 s.data.toList with | some (a, _) => a.length | none => s.size
theorem byte_int (c : UInt8) (n : Nat) (h : n < 256) : c = UInt8.ofNat n ↔ (c.toNat : Int) = (n : Int) := by rw [← byte_eq c n h, beq_iff_eq]
set_option maxRecDepth 100000 in
set_option maxHeartbeats 1600000 in
theorem r2_colon (s : ByteArray) (w : World) (hs : s.size ≤ 9223372036854775807) : Calls Tryz.prog 89 #[.string s] w (fun e w' => e = .returned (.int .i64 (colonN s : Int)) ∧ w' = w) := by
  have HZ := hide (Enc.size_toList s)
  go_enter Tryz.func89, Tryz.ntmps89
  go_wp2_with fail
  go_loop [3] (fun i => ∃ k : Nat, k ≤ s.size ∧ i = .int .i64 (k : Int) ∧ Hid (∀ c ∈ s.data.toList.take k, c ≠ 58)) (fun i => s.size - (intOf i).toNat)
  case atStart => exact ⟨0, Nat.zero_le _, rfl, by simp [Hid]⟩
  case round =>
  obtain ⟨k, hk, rfl, HT⟩ := hrel
  by_cases hlt : k < s.size
  · have hbi := byte_int s[k] 58 (by decide)
    by_cases hx : s[k] = 58
    · have h := hbi.1 hx
      have HC := hide (show colonN s = k from by
        obtain ⟨hl, hg⟩ := list_at s hlt
        unfold colonN
        rw [cutL_at HT.out (by rw [List.getElem?_eq_getElem hl, hg, hx])]
        simp; omega)
      clear hx hbi
      go_wp2_with fail
      go_ret
      exact ⟨by rw [HC.out]; rfl, rfl⟩
    · have h : ¬ (s[k].toNat : Int) = 58 := fun h => hx (hbi.2 h)
      have HN := hide (all_next (p := fun c => c ≠ 58) HT.out hlt hx)
      clear hx hbi
      go_wp2_with fail
      go_round
      case rel => exact ⟨k + 1, by omega, by go_num, HN.out⟩
      case measure => simp [intOf]; omega
  · obtain rfl : k = s.size := by omega
    have HC := hide (show colonN s = s.size from by
      unfold colonN
      rw [cutL_none (by have := HT.out; rwa [← HZ.out, List.take_length] at this)])
    clear HT
    go_wp2_with fail
    go_ret
    exact ⟨by rw [HC.out]; rfl, rfl⟩
end

section
open Go.RowKit

theorem split_one {x : UInt8} {m r : List UInt8} (hx : x ∈ m) : splitL m (x :: r) = match cutL 58 r with
    | some (a, b) => if localB a && serverB b then some (a, b) else none
    | none => none := by
  unfold splitL
  show (if x ∈ m then _ else none) = _
  rw [if_pos hx]
  rfl
theorem split_not {x : UInt8} {m r : List UInt8} (hx : x ∉ m) : splitL m (x :: r) = none := by
  unfold splitL
  show (if x ∈ m then _ else none) = _
  rw [if_neg hx]
theorem cutL_cons {x c : UInt8} {r : List UInt8} (h : x ≠ c) : cutL c (x :: r) = (cutL c r).map fun p => (x :: p.1, p.2) := by
  show (if x = c then _ else _) = _
  rw [if_neg h]
/-- how the reference finds the parts -/
theorem colon_parts (s : ByteArray) (hs : 0 < s.size) (hx : s[0] ≠ 58) :
    (cutL 58 (s.extract 1 s.size).data.toList = none ∧ colonN s = s.size) ∨ ∃ a b k, cutL 58 (s.extract 1 s.size).data.toList = some (a, b) ∧ colonN s = k ∧ 1 ≤ k ∧ k < s.size ∧ s.extract 1 k = str a ∧ s.extract (k + 1) s.size = str b := by
  have hl := list_cons s hs
  have hc : cutL 58 s.data.toList = (cutL 58 (s.extract 1 s.size).data.toList).map fun p => (s[0] :: p.1, p.2) := by
    conv => lhs; rw [hl]
    exact cutL_cons hx
  cases h : cutL 58 (s.extract 1 s.size).data.toList with
  | none =>
    left
    rw [h] at hc
    exact ⟨rfl, by unfold colonN; rw [hc]; rfl⟩
  | some p =>
    obtain ⟨a, b⟩ := p
    right
    rw [h] at hc
    have hcs := (cutL_some hc).1
    have hsz := Enc.size_toList s
    have hlen : s.data.toList.length = a.length + 1 + 1 + b.length := by rw [hcs]; simp; omega
    refine ⟨a, b, a.length + 1, rfl, by unfold colonN; rw [hc]; rfl, by omega, by omega, ?_, ?_⟩
    · have : (s.extract 1 (a.length + 1)).data.toList = a := by
        rw [Lib.extract_data, hcs]
        simp
      exact (str_toList _).symm.trans (congrArg str this)
    · have : (s.extract (a.length + 1 + 1) s.size).data.toList = b := by
        rw [Lib.extract_data, List.take_of_length_le, hcs]
        · have : (s[0] :: a ++ 58 :: b) = (s[0] :: a ++ [58]) ++ b := by simp
          show List.drop _ (s[0] :: a ++ 58 :: b) = b
          rw [this, List.drop_left' (by simp)]
        · rw [List.length_drop]; omega
      exact (str_toList _).symm.trans (congrArg str this)

set_option maxRecDepth 100000 in
set_option maxHeartbeats 1600000 in
theorem r2_marked (s : ByteArray) (m : UInt8) (mi : Int) (hmi : mi = (m.toNat : Int)) (hm : m ≠ 58) (w : World) (hs : s.size ≤ 9223372036854775807) : Calls Tryz.prog 88 #[.string s, .int .u8 mi] w (fun e w' => e = .returned (.bool (splitL [m] s.data.toList).isSome) ∧ w' = w) := by
  by_cases h0 : s.size = 0
  · obtain rfl := size_zero_nil h0
    go_enter Tryz.func88, Tryz.ntmps88
    go_wp2_with fail
    go_ret
    exact ⟨rfl, rfl⟩
  · have hpos : 0 < s.size := by omega
    have hb1 : 1 ≤ s.size := hpos
    have hlc := list_cons s hpos
    by_cases hx : s[0] = m
    · have hi : mi = (s[0].toNat : Int) := by rw [hx, hmi]
      have hsp : splitL [m] s.data.toList = match cutL 58 (s.extract 1 s.size).data.toList with
          | some (a, b) => if localB a && serverB b then some (a, b) else none
          | none => none := by
        rw [hlc]; exact split_one (by simp [hx])
      have CC := r2_colon s
      rcases colon_parts s hpos (by rw [hx]; exact hm) with ⟨h1, h2⟩ | ⟨a, b, k, h1, h2, hk1, hk2, h3, h4⟩
      · rw [h1] at hsp
        have HV := hide (show (splitL [m] s.data.toList).isSome = false from by rw [hsp]; rfl)
        rw [h2] at CC
        subst hi
        clear hsp h1 h2 hlc hmi h0
        go_enter Tryz.func88, Tryz.ntmps88
        go_wp2_with (go_at_call 89; refine (CC _ hs).mono ?_; rintro e w' ⟨rfl, rfl⟩)
        go_ret
        exact ⟨by rw [HV.out]; rfl, rfl⟩
      · rw [h1] at hsp
        have hsa : (s.extract 1 k).size ≤ 9223372036854775807 := by rw [ByteArray.size_extract]; omega
        have hsb : (s.extract (k + 1) s.size).size ≤ 9223372036854775807 := by rw [ByteArray.size_extract]; omega
        have CL := r2_Local (s.extract 1 k)
        have CS := r2_Server (s.extract (k + 1) s.size)
        have e1 : (s.extract 1 k).data.toList = a := by rw [h3, str_data]
        have e2 : (s.extract (k + 1) s.size).data.toList = b := by rw [h4, str_data]
        rw [e1] at CL
        rw [e2] at CS
        rw [h2] at CC
        have hV : (splitL [m] s.data.toList).isSome = (localB a && serverB b) := by
          rw [hsp]
          show (if (localB a && serverB b) = true then some (a, b) else none).isSome = _
          cases localB a && serverB b <;> rfl
        obtain ⟨b1, g1⟩ : ∃ x, localB a = x := ⟨_, rfl⟩
        obtain ⟨b2, g2⟩ : ∃ x, serverB b = x := ⟨_, rfl⟩
        rw [g1] at CL hV
        rw [g2] at CS hV
        unfold errN at CS
        have HV := hide hV
        subst hi
        clear hsp h1 h2 h3 h4 e1 e2 g1 g2 hV hlc hmi h0
        cases b1
        · go_enter Tryz.func88, Tryz.ntmps88
          go_wp2_with (first | (go_at_call 89; refine (CC _ hs).mono ?_; rintro e w' ⟨rfl, rfl⟩) | (go_at_call 147; refine (CL _ hsa).mono ?_; rintro e w' ⟨rfl, rfl⟩))
          go_ret
          exact ⟨by rw [HV.out]; rfl, rfl⟩
        · cases b2
          · simp only [if_true, Bool.false_eq_true, if_false] at CS
            go_enter Tryz.func88, Tryz.ntmps88
            go_wp2_with (first | (go_at_call 89; refine (CC _ hs).mono ?_; rintro e w' ⟨rfl, rfl⟩) | (go_at_call 147; refine (CL _ hsa).mono ?_; rintro e w' ⟨rfl, rfl⟩) | (go_at_call 148; refine (CS _ hsb).mono ?_; rintro e w' ⟨rfl, rfl⟩))
            go_ret
            exact ⟨by rw [HV.out]; rfl, rfl⟩
          · simp only [if_true, Bool.false_eq_true, if_false] at CS
            go_enter Tryz.func88, Tryz.ntmps88
            go_wp2_with (first | (go_at_call 89; refine (CC _ hs).mono ?_; rintro e w' ⟨rfl, rfl⟩) | (go_at_call 147; refine (CL _ hsa).mono ?_; rintro e w' ⟨rfl, rfl⟩) | (go_at_call 148; refine (CS _ hsb).mono ?_; rintro e w' ⟨rfl, rfl⟩))
            go_ret
            exact ⟨by rw [HV.out]; rfl, rfl⟩
    · have HV := hide (show (splitL [m] s.data.toList).isSome = false from by rw [hlc, split_not (by simpa using hx)]; rfl)
      have hi : ((s[0].toNat : Int) != mi) = true := by
        have : ¬ (s[0].toNat : Int) = mi := by
          intro h
          rw [hmi] at h
          exact hx (UInt8.toNat_inj.1 (by omega))
        simpa using this
      clear hlc hmi h0 hx
      go_enter Tryz.func88, Tryz.ntmps88
      go_wp2_with fail
      go_ret
      exact ⟨by rw [HV.out]; rfl, rfl⟩
set_option maxRecDepth 100000 in
set_option maxHeartbeats 1600000 in
theorem r2_User (s : ByteArray) (w : World) (hs : s.size ≤ 9223372036854775807) : Calls Tryz.prog 128 #[.string s] w (fun e w' => e = .returned (errN (splitL [64] s.data.toList).isSome) ∧ w' = w) := by
  have C := r2_marked s 64 64 rfl (by decide) w hs
  obtain ⟨b, hb⟩ : ∃ b, (splitL [64] s.data.toList).isSome = b := ⟨_, rfl⟩
  rw [hb] at C ⊢
  clear hb
  cases b
  · go_enter Tryz.func128, Tryz.ntmps128
    go_wp2_with (go_at_call 88; refine C.mono ?_; rintro e w' ⟨rfl, rfl⟩)
    go_ret
    exact ⟨rfl, rfl⟩
  · go_enter Tryz.func128, Tryz.ntmps128
    go_wp2_with (go_at_call 88; refine C.mono ?_; rintro e w' ⟨rfl, rfl⟩)
    go_ret
    exact ⟨rfl, rfl⟩
theorem split_two (u : List UInt8) : splitL [64, 33] u = if (splitL [64] u).isSome then splitL [64] u else splitL [33] u := by
  cases u with
  | nil => rfl
  | cons x r =>
    by_cases h1 : x = 64
    · subst h1
      rw [split_one (m := [64, 33]) (by simp), split_one (m := [64]) (by simp), split_not (m := [33]) (by decide)]
      have : ∀ o : Option (List UInt8 × List UInt8), o = if o.isSome = true then o else none := by intro o; cases o <;> rfl
      exact this _
    · rw [split_not (m := [64]) (by simpa using h1)]
      rw [if_neg (by simp)]
      by_cases h2 : x = 33
      · subst h2
        rw [split_one (m := [64, 33]) (by simp), split_one (m := [33]) (by simp)]
      · rw [split_not (m := [64, 33]) (by simp [h1, h2]), split_not (m := [33]) (by simpa using h2)]
/-- the parts, as the reference cuts them -/
theorem parts_ref (s : ByteArray) {x : UInt8} (hx : x ∈ [64, 33]) (h : (splitL [x] s.data.toList).isSome = true) :
    ∃ k, colonN s = k ∧ 1 ≤ k ∧ k < s.size ∧ s.extract 1 k = partA s ∧ s.extract (k + 1) s.size = partB s := by
  have hpos : 0 < s.size := by
    rcases Nat.eq_zero_or_pos s.size with h0 | h0
    · rw [size_zero_nil h0] at h; cases h
    · exact h0
  have hl := list_cons s hpos
  have h0 : s[0] = x := by
    by_cases h0 : s[0] = x
    · exact h0
    · rw [hl, split_not (by simpa using h0)] at h; cases h
  have hm : s[0] ∈ ([64, 33] : List UInt8) := by rw [h0]; exact hx
  have hne : s[0] ≠ 58 := by
    intro e; rw [e] at hm; revert hm; decide
  rw [hl, split_one (by simp [h0])] at h
  have h2 : splitL [64, 33] s.data.toList = match cutL 58 (s.extract 1 s.size).data.toList with
          | some (a, b) => if localB a && serverB b then some (a, b) else none
          | none => none := by rw [hl]; exact split_one hm
  rcases colon_parts s hpos hne with ⟨h3, h4⟩ | ⟨a, b, k, h3, h4, hk1, hk2, h5, h6⟩
  · rw [h3] at h; cases h
  · rw [h3] at h h2
    have hb : (localB a && serverB b) = true := by
      cases hb : (localB a && serverB b) with
      | true => rfl
      | false => simp only [hb] at h; cases h
    simp only [hb, if_true] at h2
    exact ⟨k, h4, hk1, hk2, by unfold partA; rw [h2]; exact h5, by unfold partB; rw [h2]; exact h6⟩
theorem parts_none2 (s : ByteArray) (h1 : (splitL [64] s.data.toList).isSome = false) (h2 : (splitL [33] s.data.toList).isSome = false) : partA s = ⟨#[]⟩ ∧ partB s = ⟨#[]⟩ := by
  have h := split_two s.data.toList
  rw [h1, if_neg (by decide), Option.isSome_eq_false_iff.1 h2 |> Option.isNone_iff_eq_none.1] at h
  unfold partA partB
  rw [h]
  exact ⟨rfl, rfl⟩
theorem r2_marked2 (s : ByteArray) (hs : s.size ≤ 9223372036854775807) {b1 b2 : Bool} (h1 : (splitL [64] s.data.toList).isSome = b1) (h2 : (splitL [33] s.data.toList).isSome = b2) (mi : Int) (hm : mi = 64 ∨ mi = 33) (w : World) :
    Calls Tryz.prog 88 #[.string s, .int .u8 mi] w (fun e w' => e = .returned (.bool (if mi = 64 then b1 else b2)) ∧ w' = w) := by
  rcases hm with rfl | rfl
  · rw [if_pos rfl, ← h1]
    exact r2_marked s 64 64 rfl (by decide) w hs
  · rw [if_neg (by decide), ← h2]
    exact r2_marked s 33 33 rfl (by decide) w hs
set_option maxRecDepth 100000 in
set_option maxHeartbeats 1600000 in
theorem r2_ServerOf (s : ByteArray) (w : World) (hs : s.size ≤ 9223372036854775807) : Calls Tryz.prog 64 #[.string s] w (fun e w' => e = .returned (.string (partB s)) ∧ w' = w) := by
  have CC := fun w => r2_colon s w hs
  obtain ⟨b1, h1⟩ : ∃ b, (splitL [64] s.data.toList).isSome = b := ⟨_, rfl⟩
  obtain ⟨b2, h2⟩ : ∃ b, (splitL [33] s.data.toList).isSome = b := ⟨_, rfl⟩
  have hP : ∀ x ∈ ([64, 33] : List UInt8), (splitL [x] s.data.toList).isSome = true → _ := fun x hx h => parts_ref s hx h
  have CM := r2_marked2 s hs h1 h2
  cases b1
  · cases b2
    · have HN := hide (parts_none2 s h1 h2)
      clear hP h1 h2
      go_enter Tryz.func64, Tryz.ntmps64
      go_wp2_with (first | (go_at_call 88; refine (CM _ (by decide) _).mono ?_; rintro e w' ⟨rfl, rfl⟩))
      go_ret
      exact ⟨by rw [HN.out.2]; rfl, rfl⟩
    · obtain ⟨k, g1, g2, g3, g4, g5⟩ := hP 33 (by simp) h2
      have HP := hide g5
      simp only [g1] at CC
      clear hP h1 h2 g1 g4 g5
      go_enter Tryz.func64, Tryz.ntmps64
      go_wp2_with (first | (go_at_call 88; refine (CM _ (by decide) _).mono ?_; rintro e w' ⟨rfl, rfl⟩) | (go_at_call 89; refine (CC _).mono ?_; rintro e w' ⟨rfl, rfl⟩))
      go_ret
      exact ⟨by rw [← HP.out]; rfl, rfl⟩
  · obtain ⟨k, g1, g2, g3, g4, g5⟩ := hP 64 (by simp) h1
    have HP := hide g5
    simp only [g1] at CC
    clear hP h1 h2 g1 g4 g5
    go_enter Tryz.func64, Tryz.ntmps64
    go_wp2_with (first | (go_at_call 88; refine (CM _ (by decide) _).mono ?_; rintro e w' ⟨rfl, rfl⟩) | (go_at_call 89; refine (CC _).mono ?_; rintro e w' ⟨rfl, rfl⟩))
    go_ret
    exact ⟨by rw [← HP.out]; rfl, rfl⟩
end
end Go.Proofs.YtmlnmcoophnlaaaGreat

/-
  ids and its reference: letters and parts.
  ids: valid, for each of the two closures.
  strings.Cut at one byte; local parts and server names.
-/
import Derived.Test.YtmlnmcoophnlaaaGreatBridgeP
import Derived.Test.YtmlnmcoophnlaaaGreatShelfC
import Derived.Test.YtmlnmcoophnlaaaGreatMem
set_option linter.unusedVariables false
set_option linter.unusedSimpArgs false
namespace Go.Proofs.YtmlnmcoophnlaaaGreat
section
open Go.RowKit

theorem plain_int (c : UInt8) : plainB c = true ↔ (((97 : Int) ≤ (c.toNat : Int) ∧ (c.toNat : Int) ≤ 122) ∨ ((48 : Int) ≤ (c.toNat : Int) ∧ (c.toNat : Int) ≤ 57)) := by
  unfold plainB; simp; omega
theorem ret_b {a b : Bool} (h : a = true ↔ b = true) : Ending.returned (.bool a) = .returned (.bool b) := by rw [Bool.eq_iff_iff.2 h]

set_option maxRecDepth 100000 in
set_option maxHeartbeats 1600000 in
theorem ids_letter (c : UInt8) (w : World) : Calls Tryz.prog 178 #[.int .u8 (c.toNat : Int)] w (fun e w' => e = .returned (.bool (plainB c)) ∧ w' = w) := by
  have hc := c.toNat_lt
  have HP := hide (plain_int c)
  go_enter Tryz.func178, Tryz.ntmps178
  go_wp2_with fail
  all_goals (go_ret; exact ⟨ret_b (by rw [HP.out]; simp; try omega), rfl⟩)
set_option maxRecDepth 100000 in
set_option maxHeartbeats 1600000 in
theorem r2_letter (c : UInt8) (w : World) : Calls Tryz.prog 186 #[.int .u8 (c.toNat : Int)] w (fun e w' => e = .returned (.bool (plainB c)) ∧ w' = w) := by
  have hc := c.toNat_lt
  have HP := hide (plain_int c)
  go_enter Tryz.func186, Tryz.ntmps186
  go_wp2_with fail
  all_goals (go_ret; exact ⟨ret_b (by rw [HP.out]; simp; try omega), rfl⟩)

/-- what a local part and a server name may have besides -/
def locX (c : UInt8) : Bool := c == 95 || c == 46 || c == 45 || c == 61
def srvX (c : UInt8) : Bool := c == 46 || c == 45
theorem byte_eq (c : UInt8) (n : Nat) (h : n < 256) : (c == UInt8.ofNat n) = true ↔ (c.toNat : Int) = (n : Int) := by
  rw [beq_iff_eq]
  constructor
  · intro e; rw [e]; simp; omega
  · intro e; apply UInt8.toNat_inj.1; simp; omega
theorem locX_int (c : UInt8) : locX c = true ↔ ((c.toNat : Int) = 95 ∨ (c.toNat : Int) = 46 ∨ (c.toNat : Int) = 45 ∨ (c.toNat : Int) = 61) := by
  have h1 := byte_eq c 95 (by decide); have h2 := byte_eq c 46 (by decide); have h3 := byte_eq c 45 (by decide); have h4 := byte_eq c 61 (by decide)
  unfold locX
  rw [Bool.or_eq_true, Bool.or_eq_true, Bool.or_eq_true, or_assoc, or_assoc]
  exact or_congr h1 (or_congr h2 (or_congr h3 h4))
theorem srvX_int (c : UInt8) : srvX c = true ↔ ((c.toNat : Int) = 46 ∨ (c.toNat : Int) = 45) := by
  have h2 := byte_eq c 46 (by decide); have h3 := byte_eq c 45 (by decide)
  unfold srvX
  rw [Bool.or_eq_true]
  exact or_congr h2 h3
set_option maxRecDepth 100000 in
set_option maxHeartbeats 1600000 in
theorem ids_locX (c : UInt8) (w : World) : Calls Tryz.prog 176 #[.int .u8 (c.toNat : Int)] w (fun e w' => e = .returned (.bool (locX c)) ∧ w' = w) := by
  have hc := c.toNat_lt
  have HP := hide (locX_int c)
  go_enter Tryz.func176, Tryz.ntmps176
  go_wp2_with fail
  all_goals (go_ret; exact ⟨ret_b (by rw [HP.out]; simp; try omega), rfl⟩)
set_option maxRecDepth 100000 in
set_option maxHeartbeats 1600000 in
theorem ids_srvX (c : UInt8) (w : World) : Calls Tryz.prog 177 #[.int .u8 (c.toNat : Int)] w (fun e w' => e = .returned (.bool (srvX c)) ∧ w' = w) := by
  have hc := c.toNat_lt
  have HP := hide (srvX_int c)
  go_enter Tryz.func177, Tryz.ntmps177
  go_wp2_with fail
  all_goals (go_ret; exact ⟨ret_b (by rw [HP.out]; simp; try omega), rfl⟩)
end

section
section
open Go.RowKit

/-- what valid answers -/
def validB (X : UInt8 → Bool) (l : List UInt8) : Bool := decide (1 ≤ l.length ∧ l.length ≤ 32) && l.all fun c => plainB c || X c
theorem list_at (s : ByteArray) {k : Nat} (hk : k < s.size) : ∃ h : k < s.data.toList.length, s.data.toList[k] = s[k] := ⟨by rw [Enc.size_toList s]; exact hk, rfl⟩
theorem validB_no {X : UInt8 → Bool} {s : ByteArray} {k : Nat} (hk : k < s.size) (h1 : plainB s[k] = false) (h2 : X s[k] = false) : validB X s.data.toList = false := by
  obtain ⟨hl, hg⟩ := list_at s hk
  unfold validB
  rw [Bool.and_eq_false_iff]
  right
  rw [List.all_eq_false]
  exact ⟨s.data.toList[k], List.getElem_mem hl, by rw [hg]; simp [h1, h2]⟩
theorem validB_len {X : UInt8 → Bool} {l : List UInt8} (h : ¬ (1 ≤ l.length ∧ l.length ≤ 32)) : validB X l = false := by
  unfold validB; rw [decide_eq_false h]; rfl
theorem validB_yes {X : UInt8 → Bool} {l : List UInt8} (h : 1 ≤ l.length ∧ l.length ≤ 32) (ha : ∀ c ∈ l, (plainB c || X c) = true) : validB X l = true := by
  unfold validB; rw [decide_eq_true h]; exact List.all_eq_true.2 ha
theorem all_next {p : UInt8 → Prop} {s : ByteArray} {k : Nat} (h : ∀ c ∈ s.data.toList.take k, p c) (hk : k < s.size) (hs : p s[k]) : ∀ c ∈ s.data.toList.take (k + 1), p c := by
  obtain ⟨hl, hg⟩ := list_at s hk
  rw [List.take_succ_eq_append_getElem hl]
  intro x hx
  rcases List.mem_append.1 hx with h1 | h1
  · exact h x h1
  · rw [List.mem_singleton] at h1; rw [h1, hg]; exact hs

set_option maxRecDepth 100000 in
set_option maxHeartbeats 1600000 in
theorem ids_valid_local (s : ByteArray) (w : World) : Calls Tryz.prog 175 #[.string s, .func (.func 176) #[] #[]] w (fun e w' => e = .returned (.bool (validB locX s.data.toList)) ∧ w' = w) := by
  have hsz := Enc.size_toList s
  by_cases hlen : 1 ≤ s.size ∧ s.size ≤ 32
  · have HL := hide (show 1 ≤ s.data.toList.length ∧ s.data.toList.length ≤ 32 by omega)
    have HZ := hide hsz
    obtain ⟨g1, g2⟩ := hlen
    clear hsz
    go_enter Tryz.func175, Tryz.ntmps175
    go_wp2_with fail
    go_loop [16] (fun i => ∃ k : Nat, k ≤ s.size ∧ i = .int .i64 (k : Int) ∧ Hid (∀ c ∈ s.data.toList.take k, (plainB c || locX c) = true)) (fun i => s.size - (intOf i).toNat)
    case atStart => exact ⟨0, Nat.zero_le _, rfl, by simp [Hid]⟩
    case round =>
    obtain ⟨k, hk, rfl, HT⟩ := hrel
    by_cases hlt : k < s.size
    · have C1 := ids_letter s[k]
      have C2 := ids_locX s[k]
      obtain ⟨b1, h1⟩ : ∃ b, plainB s[k] = b := ⟨_, rfl⟩
      obtain ⟨b2, h2⟩ : ∃ b, locX s[k] = b := ⟨_, rfl⟩
      simp only [h1] at C1
      simp only [h2] at C2
      cases b1
      · cases b2
        · have HF := hide (validB_no (X := locX) hlt h1 h2)
          clear h1 h2
          go_wp2_with (first | (go_at_call 178; refine (C1 _).mono ?_; rintro e w' ⟨rfl, rfl⟩) | (go_at_call 176; refine (C2 _).mono ?_; rintro e w' ⟨rfl, rfl⟩))
          go_ret
          exact ⟨by rw [HF.out]; rfl, rfl⟩
        · have HN := hide (all_next HT.out hlt (by rw [h1, h2]; rfl))
          clear h1 h2
          go_wp2_with (first | (go_at_call 178; refine (C1 _).mono ?_; rintro e w' ⟨rfl, rfl⟩) | (go_at_call 176; refine (C2 _).mono ?_; rintro e w' ⟨rfl, rfl⟩))
          go_round
          case rel => exact ⟨k + 1, by omega, by go_num, HN.out⟩
          case measure => simp [intOf]; omega
      · have HN := hide (all_next HT.out hlt (by rw [h1]; rfl))
        clear h1 h2
        go_wp2_with (first | (go_at_call 178; refine (C1 _).mono ?_; rintro e w' ⟨rfl, rfl⟩) | (go_at_call 176; refine (C2 _).mono ?_; rintro e w' ⟨rfl, rfl⟩))
        go_round
        case rel => exact ⟨k + 1, by omega, by go_num, HN.out⟩
        case measure => simp [intOf]; omega
    · obtain rfl : k = s.size := by omega
      have HF := hide (validB_yes (X := locX) HL.out (by have := HT.out; rwa [← HZ.out, List.take_length] at this))
      clear HT
      go_wp2_with fail
      go_ret
      exact ⟨by rw [HF.out]; rfl, rfl⟩
  · have HF := hide (validB_len (X := locX) (l := s.data.toList) (by omega))
    clear hsz
    by_cases h1 : 1 ≤ s.size
    · have h2 : 32 < s.size := by omega
      clear hlen
      go_enter Tryz.func175, Tryz.ntmps175
      go_wp2_with fail
      go_ret
      exact ⟨by rw [HF.out]; rfl, rfl⟩
    · have h2 : s.size = 0 := by omega
      clear hlen h1
      go_enter Tryz.func175, Tryz.ntmps175
      go_wp2_with fail
      go_ret
      exact ⟨by rw [HF.out]; rfl, rfl⟩
set_option maxRecDepth 100000 in
set_option maxHeartbeats 1600000 in
theorem ids_valid_server (s : ByteArray) (w : World) : Calls Tryz.prog 175 #[.string s, .func (.func 177) #[] #[]] w (fun e w' => e = .returned (.bool (validB srvX s.data.toList)) ∧ w' = w) := by
  have hsz := Enc.size_toList s
  by_cases hlen : 1 ≤ s.size ∧ s.size ≤ 32
  · have HL := hide (show 1 ≤ s.data.toList.length ∧ s.data.toList.length ≤ 32 by omega)
    have HZ := hide hsz
    obtain ⟨g1, g2⟩ := hlen
    clear hsz
    go_enter Tryz.func175, Tryz.ntmps175
    go_wp2_with fail
    go_loop [16] (fun i => ∃ k : Nat, k ≤ s.size ∧ i = .int .i64 (k : Int) ∧ Hid (∀ c ∈ s.data.toList.take k, (plainB c || srvX c) = true)) (fun i => s.size - (intOf i).toNat)
    case atStart => exact ⟨0, Nat.zero_le _, rfl, by simp [Hid]⟩
    case round =>
    obtain ⟨k, hk, rfl, HT⟩ := hrel
    by_cases hlt : k < s.size
    · have C1 := ids_letter s[k]
      have C2 := ids_srvX s[k]
      obtain ⟨b1, h1⟩ : ∃ b, plainB s[k] = b := ⟨_, rfl⟩
      obtain ⟨b2, h2⟩ : ∃ b, srvX s[k] = b := ⟨_, rfl⟩
      simp only [h1] at C1
      simp only [h2] at C2
      cases b1
      · cases b2
        · have HF := hide (validB_no (X := srvX) hlt h1 h2)
          clear h1 h2
          go_wp2_with (first | (go_at_call 178; refine (C1 _).mono ?_; rintro e w' ⟨rfl, rfl⟩) | (go_at_call 177; refine (C2 _).mono ?_; rintro e w' ⟨rfl, rfl⟩))
          go_ret
          exact ⟨by rw [HF.out]; rfl, rfl⟩
        · have HN := hide (all_next HT.out hlt (by rw [h1, h2]; rfl))
          clear h1 h2
          go_wp2_with (first | (go_at_call 178; refine (C1 _).mono ?_; rintro e w' ⟨rfl, rfl⟩) | (go_at_call 177; refine (C2 _).mono ?_; rintro e w' ⟨rfl, rfl⟩))
          go_round
          case rel => exact ⟨k + 1, by omega, by go_num, HN.out⟩
          case measure => simp [intOf]; omega
      · have HN := hide (all_next HT.out hlt (by rw [h1]; rfl))
        clear h1 h2
        go_wp2_with (first | (go_at_call 178; refine (C1 _).mono ?_; rintro e w' ⟨rfl, rfl⟩) | (go_at_call 177; refine (C2 _).mono ?_; rintro e w' ⟨rfl, rfl⟩))
        go_round
        case rel => exact ⟨k + 1, by omega, by go_num, HN.out⟩
        case measure => simp [intOf]; omega
    · obtain rfl : k = s.size := by omega
      have HF := hide (validB_yes (X := srvX) HL.out (by have := HT.out; rwa [← HZ.out, List.take_length] at this))
      clear HT
      go_wp2_with fail
      go_ret
      exact ⟨by rw [HF.out]; rfl, rfl⟩
  · have HF := hide (validB_len (X := srvX) (l := s.data.toList) (by omega))
    clear hsz
    by_cases h1 : 1 ≤ s.size
    · have h2 : 32 < s.size := by omega
      clear hlen
      go_enter Tryz.func175, Tryz.ntmps175
      go_wp2_with fail
      go_ret
      exact ⟨by rw [HF.out]; rfl, rfl⟩
    · have h2 : s.size = 0 := by omega
      clear hlen h1
      go_enter Tryz.func175, Tryz.ntmps175
      go_wp2_with fail
      go_ret
      exact ⟨by rw [HF.out]; rfl, rfl⟩
end

section
open Go.RowKit

theorem index_none {c : UInt8} : ∀ {l : List UInt8}, Lib.indexByte l c = -1 ↔ cutL c l = none
  | [] => by simp [Lib.indexByte, cutL]
  | x :: l => by
    have ih := index_none (c := c) (l := l)
    have hg := Lib.indexByte_ge l c
    unfold Lib.indexByte cutL
    by_cases hx : x = c
    · simp [hx]
    · rw [if_neg hx, if_neg (by simpa using hx)]
      by_cases hi : Lib.indexByte l c = -1
      · simp [hi, ih.1 hi]
      · have hi' : ¬ (Lib.indexByte l c == -1) = true := by simpa using hi
        rw [if_neg hi']
        constructor
        · intro h; omega
        · intro h
          exact absurd (ih.2 (by simpa using h)) hi
theorem index_some {c : UInt8} : ∀ {l : List UInt8}, Lib.indexByte l c ≠ -1 → ∃ k : Nat, Lib.indexByte l c = (k : Int) ∧ k < l.length ∧ cutL c l = some (l.take k, l.drop (k + 1))
  | [], h => absurd rfl h
  | x :: l, h => by
    by_cases hx : x = c
    · refine ⟨0, ?_, by simp, ?_⟩
      · unfold Lib.indexByte; rw [if_pos (by simpa using hx)]; rfl
      · unfold cutL; rw [if_pos hx]; rfl
    · have e : Lib.indexByte (x :: l) c = if Lib.indexByte l c == -1 then -1 else Lib.indexByte l c + 1 := by
        show (if x == c then (0 : Int) else _) = _
        rw [if_neg (by simpa using hx)]
      rw [e] at h ⊢
      by_cases hi : Lib.indexByte l c = -1
      · rw [if_pos (by simpa using hi)] at h; exact absurd rfl h
      · rw [if_neg (by simpa using hi)]
        obtain ⟨k, h1, h2, h3⟩ := index_some hi
        refine ⟨k + 1, by rw [h1]; rfl, by simp; omega, ?_⟩
        unfold cutL
        rw [if_neg hx, h3]
        rfl
/-- what Cut hands back -/
def cutV (c : UInt8) (s : ByteArray) : Value := match cutL c s.data.toList with
  | some (a, b) => .tuple #[.string (str a), .string (str b), .bool true]
  | none => .tuple #[.string s, .string ⟨#[]⟩, .bool false]
theorem str_take (s : ByteArray) (k : Nat) : s.extract 0 k = str (s.data.toList.take k) := by
  have : (s.extract 0 k).data.toList = s.data.toList.take k := by rw [Lib.extract_data]; simp
  rw [← this]; rfl
theorem str_drop (s : ByteArray) (k : Nat) : s.extract k s.size = str (s.data.toList.drop k) := by
  have : (s.extract k s.size).data.toList = s.data.toList.drop k := by
    rw [Lib.extract_data, List.take_of_length_le]
    rw [List.length_drop, Enc.size_toList]; exact Nat.le_refl _
  rw [← this]; rfl

set_option maxRecDepth 100000 in
set_option maxHeartbeats 1600000 in
theorem lite_cut (s : ByteArray) (c : UInt8) (w : World) (hs : s.size ≤ 9223372036854775807) : Calls Tryz.prog 174 #[.string s, .string ⟨#[c]⟩] w (fun e w' => e = .returned (cutV c s) ∧ Below w.heap.size w w') := by
  have C := Tryz.stringslite_Index_one s c
  by_cases hi : Lib.indexByte s.data.toList c = -1
  · have HV := hide (show cutV c s = .tuple #[.string s, .string ⟨#[]⟩, .bool false] from by unfold cutV; rw [index_none.1 hi])
    simp only [hi] at C
    clear hi
    go_enter Tryz.func174, Tryz.ntmps174
    go_wp2_with (go_at_call 195; refine (C _).mono ?_; rintro e w' ⟨rfl, rfl⟩)
    all_goals (go_ret3; exact ⟨by rw [HV.out]; rfl, ext_refl _⟩)
  · obtain ⟨k, h1, h2, h3⟩ := index_some hi
    simp only [h1] at C
    rw [Enc.size_toList] at h2
    have HV := hide (show cutV c s = .tuple #[.string (s.extract 0 k), .string (s.extract (k + 1) s.size), .bool true] from by unfold cutV; rw [h3, str_take, str_drop])
    clear hi h1 h3
    go_enter Tryz.func174, Tryz.ntmps174
    go_wp2_with (go_at_call 195; refine (C _).mono ?_; rintro e w' ⟨rfl, rfl⟩)
    go_region
    all_goals (try go_wp2)
    all_goals (go_ret3; exact ⟨by rw [HV.out]; rfl, ext_drew (ext_refl _)⟩)
set_option maxRecDepth 100000 in
set_option maxHeartbeats 1600000 in
theorem str_cut (s : ByteArray) (c : UInt8) (w : World) (hs : s.size ≤ 9223372036854775807) : Calls Tryz.prog 123 #[.string s, .string ⟨#[c]⟩] w (fun e w' => e = .returned (cutV c s) ∧ Below w.heap.size w w') := by
  have C := lite_cut s c w hs
  obtain ⟨a, b, x, hv⟩ : ∃ a b x, cutV c s = .tuple #[.string a, .string b, .bool x] := by
    unfold cutV; split <;> exact ⟨_, _, _, rfl⟩
  rw [hv] at C ⊢
  go_enter Tryz.func123, Tryz.ntmps123
  go_wp2_with (go_at_call 174; refine C.mono ?_; rintro e w' ⟨rfl, hb⟩)
  all_goals (try go_wp2)
  all_goals (go_ret3; exact ⟨rfl, hb⟩)

def localB (l : List UInt8) : Bool := validB locX l
def serverB (l : List UInt8) : Bool := validB srvX l && plainB (l.headD 0) && plainB (l.getLastD 0)
theorem local_iff (l : List UInt8) : localB l = true ↔ localOk l := by
  unfold localB validB localOk localC locX
  rw [Bool.and_eq_true, decide_eq_true_eq, List.all_eq_true, and_assoc]
  simp only [Bool.or_assoc]
theorem server_iff (l : List UInt8) : serverB l = true ↔ serverOk l := by
  unfold serverB validB serverOk serverC srvX
  rw [Bool.and_eq_true, Bool.and_eq_true, Bool.and_eq_true, decide_eq_true_eq, List.all_eq_true, and_assoc, and_assoc, and_assoc]
  simp only [Bool.or_assoc]
  cases l with
  | nil => simp
  | cons x r =>
    simp only [List.headD_cons, List.head?_cons, List.getLastD_cons, Option.some.injEq, forall_eq', List.getLast?_cons]
    constructor
    · rintro ⟨h1, h2, h3, h4, h5⟩
      exact ⟨h1, h2, h3, h4, by rwa [List.getLastD_eq_getLast?] at h5⟩
    · rintro ⟨h1, h2, h3, h4, h5⟩
      exact ⟨h1, h2, h3, h4, by rw [List.getLastD_eq_getLast?]; exact h5⟩
set_option maxRecDepth 100000 in
set_option maxHeartbeats 1600000 in
theorem ids_local (s : ByteArray) (w : World) : Calls Tryz.prog 124 #[.string s] w (fun e w' => e = .returned (.bool (localB s.data.toList)) ∧ w' = w) := by
  have C := ids_valid_local s w
  go_enter Tryz.func124, Tryz.ntmps124
  go_wp2_with (go_at_call 175; refine C.mono ?_; rintro e w' ⟨rfl, rfl⟩)
  go_ret
  exact ⟨rfl, rfl⟩
theorem head_at (s : ByteArray) (h : 0 < s.size) : s.data.toList.headD 0 = s[0] := by
  obtain ⟨hl, hg⟩ := list_at s h
  rw [← hg]
  clear hg
  generalize s.data.toList = l at hl
  cases l with
  | nil => simp at hl
  | cons x r => simp
theorem last_at (s : ByteArray) (k : Nat) (h : k < s.size) (hk : k + 1 = s.size) : s.data.toList.getLastD 0 = s[k] := by
  obtain ⟨hl, hg⟩ := list_at s h
  have hz := Enc.size_toList s
  rw [← hg]
  have hn : s.data.toList ≠ [] := fun e => by rw [e] at hl; simp at hl
  rw [List.getLastD_eq_getLast?, List.getLast?_eq_getElem?]
  have : s.data.toList.length - 1 = k := by omega
  rw [this, List.getElem?_eq_getElem hl]
  rfl
set_option maxRecDepth 100000 in
set_option maxHeartbeats 1600000 in
theorem ids_server (s : ByteArray) (w : World) : Calls Tryz.prog 125 #[.string s] w (fun e w' => e = .returned (.bool (serverB s.data.toList)) ∧ w' = w) := by
  have C := ids_valid_server s
  have hz := Enc.size_toList s
  obtain ⟨v, hv⟩ : ∃ v, validB srvX s.data.toList = v := ⟨_, rfl⟩
  simp only [hv] at C
  cases v
  · have HS := hide (show serverB s.data.toList = false from by unfold serverB; rw [hv]; rfl)
    clear hv hz
    go_enter Tryz.func125, Tryz.ntmps125
    go_wp2_with (go_at_call 175; refine (C _).mono ?_; rintro e w' ⟨rfl, rfl⟩)
    go_ret
    exact ⟨by rw [HS.out]; rfl, rfl⟩
  · obtain ⟨hpos, hbig⟩ : 0 < s.size ∧ s.size ≤ 32 := by
      have := hv
      unfold validB at this
      rw [Bool.and_eq_true, decide_eq_true_eq] at this
      omega
    obtain ⟨n, hn⟩ : ∃ n, s.size = n + 1 := ⟨s.size - 1, by omega⟩
    have hlast : n < s.size := by omega
    have hn32 : n < 32 := by omega
    clear hbig
    obtain ⟨b1, h1⟩ : ∃ b, plainB s[0] = b := ⟨_, rfl⟩
    obtain ⟨b2, h2⟩ : ∃ b, plainB s[n] = b := ⟨_, rfl⟩
    have HS := hide (show serverB s.data.toList = (b1 && b2) from by unfold serverB; rw [hv, head_at s hpos, last_at s n hlast (by omega), h1, h2]; rfl)
    have H1 := hide h1
    have H2 := hide h2
    clear hv hz h1 h2
    go_enter Tryz.func125, Tryz.ntmps125
    cases b1
    · go_wp2_with (first | (go_at_call 175; refine (C _).mono ?_; rintro e w' ⟨rfl, rfl⟩) | (go_at_call 178; refine (ids_letter _ _).mono ?_; rintro e w' ⟨rfl, rfl⟩; try rw [H1.out]))
      go_ret
      exact ⟨by rw [HS.out]; rfl, rfl⟩
    · go_wp2_with (first | (go_at_call 175; refine (C _).mono ?_; rintro e w' ⟨rfl, rfl⟩) | (go_at_call 178; refine (ids_letter _ _).mono ?_; rintro e w' ⟨rfl, rfl⟩; try rw [H1.out]))
      go_ret
      exact ⟨by rw [HS.out, ← H2.out]; rfl, rfl⟩
end
end
end Go.Proofs.YtmlnmcoophnlaaaGreat

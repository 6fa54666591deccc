/-
  ids: split, identifies, User, Server, ServerOf, LocalOf.
-/
import Derived.Test.YtmlnmcoophnlaaaGreatIds
set_option linter.unusedVariables false
set_option linter.unusedSimpArgs false
namespace Go.Proofs.YtmlnmcoophnlaaaGreat
open Go.RowKit

/-- what split finds -/
def splitL (m u : List UInt8) : Option (List UInt8 × List UInt8) := match u with
  | [] => none
  | x :: r => if x ∈ m then match cutL 58 r with
    | some (a, b) => if localB a && serverB b then some (a, b) else none
    | none => none
    else none
def splitV : Option (List UInt8 × List UInt8) → Value
  | some (a, b) => .tuple #[.string (str a), .string (str b), .bool true]
  | none => .tuple #[.string ⟨#[]⟩, .string ⟨#[]⟩, .bool false]
theorem split_parts {m : List UInt8} {u a b : List UInt8} : splitL m u = some (a, b) ↔ ∃ x ∈ m, Parts x u a b := by
  unfold splitL
  cases u with
  | nil =>
    constructor
    · intro h; cases h
    · rintro ⟨x, _, h⟩; cases h.1
  | cons x r =>
    show (if x ∈ m then _ else none) = _ ↔ _
    by_cases hx : x ∈ m
    · rw [if_pos hx]
      cases hc : cutL 58 r with
      | none =>
        constructor
        · intro h; cases h
        · rintro ⟨y, _, h⟩
          obtain ⟨r', h1, h2⟩ := h.cut
          injection h1 with _ h1
          subst h1
          rw [hc] at h2; cases h2
      | some p =>
        obtain ⟨c, d⟩ := p
        show (if (localB c && serverB d) = true then some (c, d) else none) = _ ↔ _
        constructor
        · intro h
          split at h
          · next hb =>
            injection h with h; injection h with h1 h2
            subst h1 h2
            rw [Bool.and_eq_true] at hb
            exact ⟨x, hx, (parts_cut hc _ _).2 ⟨rfl, rfl, (local_iff _).1 hb.1, (server_iff _).1 hb.2⟩⟩
          · cases h
        · rintro ⟨y, _, h⟩
          obtain ⟨r', h1, h2⟩ := h.cut
          injection h1 with h0 h1
          subst h1 h0
          rw [hc] at h2
          injection h2 with h2; injection h2 with h2 h3
          subst h2 h3
          rw [if_pos]
          rw [Bool.and_eq_true]
          exact ⟨(local_iff _).2 h.2.1, (server_iff _).2 h.2.2⟩
    · rw [if_neg hx]
      constructor
      · intro h; cases h
      · rintro ⟨y, hy, h⟩
        injection h.1 with h0 _
        exact absurd (h0 ▸ hy) hx
theorem split_none {m : List UInt8} {u : List UInt8} (h : ∀ a b, ∀ x ∈ m, ¬ Parts x u a b) : splitL m u = none := by
  cases hs : splitL m u with
  | none => rfl
  | some p => obtain ⟨x, hx, hp⟩ := split_parts.1 hs; exact absurd hp (h _ _ x hx)

theorem index_mem {c : UInt8} {l : List UInt8} : 0 ≤ Lib.indexByte l c ↔ c ∈ l := by
  have hg := Lib.indexByte_ge l c
  constructor
  · intro h
    obtain ⟨k, _, hk, hc⟩ := index_some (show Lib.indexByte l c ≠ -1 by omega)
    have := (cutL_some hc).1
    rw [this]; simp
  · intro h
    by_cases hi : Lib.indexByte l c = -1
    · have hn := index_none.1 hi
      exfalso
      obtain ⟨a, b, hab⟩ := List.append_of_mem h
      have : cutL c l ≠ none := by
        rw [hab]
        clear hab h hi hn hg
        induction a with
        | nil => simp [cutL]
        | cons y r ih =>
          show cutL c (y :: (r ++ c :: b)) ≠ none
          unfold cutL
          split
          · simp
          · simpa using ih
      exact this hn
    · omega
theorem size_zero_nil {s : ByteArray} (h : s.size = 0) : s = ⟨#[]⟩ := by
  obtain ⟨⟨l⟩⟩ := s
  cases l with
  | nil => rfl
  | cons x r => simp [ByteArray.size] at h
theorem list_cons (s : ByteArray) (h : 0 < s.size) : s.data.toList = s[0] :: (s.extract 1 s.size).data.toList := by
  obtain ⟨⟨l⟩⟩ := s
  cases l with
  | nil => simp [ByteArray.size] at h
  | cons x r =>
    rw [Lib.extract_data]
    refine congrArg (List.cons x) ?_
    show r = List.take (r.length + 1 - 1) r
    rw [Nat.add_sub_cancel, List.take_length]
theorem bt (s : ByteArray) : s.toList = s.data.toList := by
  obtain ⟨⟨l⟩⟩ := s
  simp

theorem hlc_of (s : ByteArray) (h : 0 < s.size) : s.data.toList = s[0] :: (s.extract 1 s.size).data.toList := list_cons s h
set_option maxRecDepth 100000 in
set_option maxHeartbeats 1600000 in
theorem ids_split (s m : ByteArray) (w : World) (hs : s.size ≤ 9223372036854775807) : Calls Tryz.prog 82 #[.string s, .string m] w (fun e w' => e = .returned (splitV (splitL m.data.toList s.data.toList)) ∧ Below w.heap.size w w') := by
  by_cases h0 : s.size = 0
  · obtain rfl := size_zero_nil h0
    go_enter Tryz.func82, Tryz.ntmps82
    go_wp2_with fail
    go_ret3
    exact ⟨rfl, ext_refl _⟩
  · have hpos : 0 < s.size := by omega
    have hne : s.toList.isEmpty = false := by
      rw [bt, hlc_of s hpos]; rfl
    have hlc := list_cons s hpos
    have CI := Tryz.strings_IndexByte m (s[0].toNat : Int)
    have hcc : ((s[0].toNat : Int)).toNat.toUInt8 = s[0] := by simp
    rw [hcc] at CI
    by_cases hi : 0 ≤ Lib.indexByte m.data.toList s[0]
    · have hm : s[0] ∈ m.data.toList := index_mem.1 hi
      have hrs : (s.extract 1 s.size).size ≤ 9223372036854775807 := by rw [ByteArray.size_extract]; omega
      have CC := str_cut (s.extract 1 s.size) 58
      have hb1 : 1 ≤ s.size := hpos
      cases hc : cutL 58 (s.extract 1 s.size).data.toList with
      | none =>
        have HV := hide (show splitV (splitL m.data.toList s.data.toList) = .tuple #[.string ⟨#[]⟩, .string ⟨#[]⟩, .bool false] from by
          rw [hlc]; unfold splitL; simp only [if_pos hm, hc]; rfl)
        have hv : cutV 58 (s.extract 1 s.size) = .tuple #[.string (s.extract 1 s.size), .string ⟨#[]⟩, .bool false] := by unfold cutV; rw [hc]
        simp only [hv] at CC
        clear hlc hcc hm hc hv h0
        go_enter Tryz.func82, Tryz.ntmps82
        go_wp2_with (first | (go_at_call 122; refine (CI _).mono ?_; rintro e w' ⟨rfl, rfl⟩) | (go_at_call 123; refine (CC _ hrs).mono ?_; rintro e w2 ⟨rfl, hb2⟩))
        go_ret3
        exact ⟨by rw [HV.out]; rfl, hb2⟩
      | some p =>
        obtain ⟨a, b⟩ := p
        have hv : cutV 58 (s.extract 1 s.size) = .tuple #[.string (str a), .string (str b), .bool true] := by unfold cutV; rw [hc]
        simp only [hv] at CC
        have CL := ids_local (str a)
        have CS := ids_server (str b)
        rw [str_data] at CL CS
        have hV : splitV (splitL m.data.toList s.data.toList) = splitV (if localB a && serverB b then some (a, b) else none) := by
          rw [hlc]; unfold splitL; simp only [if_pos hm, hc]
        obtain ⟨b1, h1⟩ : ∃ b, localB a = b := ⟨_, rfl⟩
        obtain ⟨b2, h2⟩ : ∃ x, serverB b = x := ⟨_, rfl⟩
        rw [h1, h2] at hV
        simp only [h1] at CL
        simp only [h2] at CS
        have HV := hide hV
        clear hlc hcc hm hc hv h0 h1 h2 hV
        cases b1
        · go_enter Tryz.func82, Tryz.ntmps82
          go_wp2_with (first | (go_at_call 122; refine (CI _).mono ?_; rintro e w' ⟨rfl, rfl⟩) | (go_at_call 123; refine (CC _ hrs).mono ?_; rintro e w2 ⟨rfl, hb2⟩) | (go_at_call 124; refine (CL _).mono ?_; rintro e w' ⟨rfl, rfl⟩) | (go_at_call 125; refine (CS _).mono ?_; rintro e w' ⟨rfl, rfl⟩))
          go_ret3
          exact ⟨by rw [HV.out]; rfl, hb2⟩
        · cases b2
          · go_enter Tryz.func82, Tryz.ntmps82
            go_wp2_with (first | (go_at_call 122; refine (CI _).mono ?_; rintro e w' ⟨rfl, rfl⟩) | (go_at_call 123; refine (CC _ hrs).mono ?_; rintro e w2 ⟨rfl, hb2⟩) | (go_at_call 124; refine (CL _).mono ?_; rintro e w' ⟨rfl, rfl⟩) | (go_at_call 125; refine (CS _).mono ?_; rintro e w' ⟨rfl, rfl⟩))
            go_ret3
            exact ⟨by rw [HV.out]; rfl, hb2⟩
          · go_enter Tryz.func82, Tryz.ntmps82
            go_wp2_with (first | (go_at_call 122; refine (CI _).mono ?_; rintro e w' ⟨rfl, rfl⟩) | (go_at_call 123; refine (CC _ hrs).mono ?_; rintro e w2 ⟨rfl, hb2⟩) | (go_at_call 124; refine (CL _).mono ?_; rintro e w' ⟨rfl, rfl⟩) | (go_at_call 125; refine (CS _).mono ?_; rintro e w' ⟨rfl, rfl⟩))
            go_ret3
            exact ⟨by rw [HV.out]; rfl, hb2⟩
    · have HV := hide (show splitV (splitL m.data.toList s.data.toList) = .tuple #[.string ⟨#[]⟩, .string ⟨#[]⟩, .bool false] from by
        rw [hlc]; unfold splitL; simp only [if_neg (fun h => hi (index_mem.2 h))]; rfl)
      have hi' : Lib.indexByte m.data.toList s[0] < 0 := by omega
      clear hlc hcc hi
      go_enter Tryz.func82, Tryz.ntmps82
      go_wp2_with (go_at_call 122; refine (CI _).mono ?_; rintro e w' ⟨rfl, rfl⟩)
      go_ret3
      exact ⟨by rw [HV.out]; rfl, ext_refl _⟩

/-- an identifier's error -/
def errN (b : Bool) : Value := .int .i64 (if b then 0 else 3)
set_option maxRecDepth 100000 in
set_option maxHeartbeats 1600000 in
theorem ids_identifies (s m : ByteArray) (w : World) (hs : s.size ≤ 9223372036854775807) : Calls Tryz.prog 166 #[.string s, .string m] w (fun e w' => e = .returned (errN (splitL m.data.toList s.data.toList).isSome) ∧ Below w.heap.size w w') := by
  have C := ids_split s m w hs
  cases h : splitL m.data.toList s.data.toList with
  | none =>
    rw [h] at C
    unfold splitV at C
    go_enter Tryz.func166, Tryz.ntmps166
    go_wp2_with (go_at_call 82; refine C.mono ?_; rintro e w2 ⟨rfl, hb2⟩)
    all_goals (try go_wp2)
    all_goals (go_ret; exact ⟨rfl, hb2⟩)
  | some p =>
    obtain ⟨a, b⟩ := p
    rw [h] at C
    unfold splitV at C
    go_enter Tryz.func166, Tryz.ntmps166
    go_wp2_with (go_at_call 82; refine C.mono ?_; rintro e w2 ⟨rfl, hb2⟩)
    all_goals (try go_wp2)
    all_goals (go_ret; exact ⟨rfl, hb2⟩)
set_option maxRecDepth 100000 in
set_option maxHeartbeats 1600000 in
theorem ids_User (s : ByteArray) (w : World) (hs : s.size ≤ 9223372036854775807) : Calls Tryz.prog 101 #[.string s] w (fun e w' => e = .returned (errN (splitL [64] s.data.toList).isSome) ∧ Below w.heap.size w w') := by
  have C := ids_identifies s ⟨#[64]⟩ w hs
  obtain ⟨v, hv⟩ : ∃ v, errN (splitL [64] s.data.toList).isSome = .int .i64 v := ⟨_, rfl⟩
  have hv' : errN (splitL (⟨#[64]⟩ : ByteArray).data.toList s.data.toList).isSome = .int .i64 v := hv
  rw [hv'] at C
  rw [hv]
  clear hv hv'
  go_enter Tryz.func101, Tryz.ntmps101
  go_wp2_with (go_at_call 166; refine C.mono ?_; rintro e w2 ⟨rfl, hb2⟩)
  go_ret
  exact ⟨rfl, hb2⟩
/-- the parts of an identifier, or nothing -/
def partA (s : ByteArray) : ByteArray := match splitL [64, 33] s.data.toList with | some (a, _) => str a | none => ⟨#[]⟩
def partB (s : ByteArray) : ByteArray := match splitL [64, 33] s.data.toList with | some (_, b) => str b | none => ⟨#[]⟩
set_option maxRecDepth 100000 in
set_option maxHeartbeats 1600000 in
theorem ids_ServerOf (s : ByteArray) (w : World) (hs : s.size ≤ 9223372036854775807) : Calls Tryz.prog 60 #[.string s] w (fun e w' => e = .returned (.string (partB s)) ∧ Below w.heap.size w w') := by
  have C := ids_split s ⟨#[64, 33]⟩ w hs
  obtain ⟨b, x, hv⟩ : ∃ b x, splitV (splitL (⟨#[64, 33]⟩ : ByteArray).data.toList s.data.toList) = .tuple #[.string b, .string (partB s), .bool x] := by
    show ∃ b x, splitV (splitL [64, 33] s.data.toList) = _
    unfold partB
    cases splitL [64, 33] s.data.toList with
    | none => exact ⟨_, _, rfl⟩
    | some p => exact ⟨_, _, rfl⟩
  rw [hv] at C
  clear hv
  go_enter Tryz.func60, Tryz.ntmps60
  go_wp2_with (go_at_call 82; refine C.mono ?_; rintro e w2 ⟨rfl, hb2⟩)
  all_goals (try go_wp2)
  all_goals (go_ret; exact ⟨rfl, hb2⟩)
end Go.Proofs.YtmlnmcoophnlaaaGreat

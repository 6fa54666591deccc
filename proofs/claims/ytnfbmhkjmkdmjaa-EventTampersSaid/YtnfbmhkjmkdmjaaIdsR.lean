/-
  The reference's identifiers: Local, Server, colon, marked, User, ServerOf, LocalOf.
  The reference's identifiers: marked, User, ServerOf, LocalOf.
-/
import Derived.Test.YtnfbmhkjmkdmjaaIdsD
set_option linter.unusedVariables false
set_option linter.unusedSimpArgs false
namespace Go.Proofs.Ytnfbmhkjmkdmjaa
section
open Go.RowKit

theorem validB_all {X : UInt8 → Bool} {s : ByteArray} (ha : ∀ c ∈ s.data.toList, (plainB c || X c) = true) : validB X s.data.toList = decide (1 ≤ s.size ∧ s.size ≤ 32) := by
  unfold validB
  rw [List.all_eq_true.2 ha, Bool.and_true, Enc.size_toList]

/-- where the first colon stands, or the length -/
def colonN (s : ByteArray) : Nat := match cutL 58 s.data.toList with | some (a, _) => a.length | none => s.size
theorem byte_int (c : UInt8) (n : Nat) (h : n < 256) : c = UInt8.ofNat n ↔ (c.toNat : Int) = (n : Int) := by rw [← byte_eq c n h, beq_iff_eq]
end

section
open Go.RowKit

theorem split_one {x : UInt8} {m r : List UInt8} (hx : x ∈ m) : splitL m (x :: r) = match cutL 58 r with
    | some (a, b) => if localB a && serverB b then some (a, b) else none
    | none => none := by
  unfold splitL
  show (if x ∈ m then _ else none) = _
  rw [if_pos hx]
  rfl
theorem split_not {x : UInt8} {m r : List UInt8} (hx : x ∉ m) : splitL m (x :: r) = none := by
  unfold splitL
  show (if x ∈ m then _ else none) = _
  rw [if_neg hx]
theorem cutL_cons {x c : UInt8} {r : List UInt8} (h : x ≠ c) : cutL c (x :: r) = (cutL c r).map fun p => (x :: p.1, p.2) := by
  show (if x = c then _ else _) = _
  rw [if_neg h]
/-- how the reference finds the parts -/
theorem colon_parts (s : ByteArray) (hs : 0 < s.size) (hx : s[0] ≠ 58) :
    (cutL 58 (s.extract 1 s.size).data.toList = none ∧ colonN s = s.size) ∨ ∃ a b k, cutL 58 (s.extract 1 s.size).data.toList = some (a, b) ∧ colonN s = k ∧ 1 ≤ k ∧ k < s.size ∧ s.extract 1 k = str a ∧ s.extract (k + 1) s.size = str b := by
  have hl := list_cons s hs
  have hc : cutL 58 s.data.toList = (cutL 58 (s.extract 1 s.size).data.toList).map fun p => (s[0] :: p.1, p.2) := by
    conv => lhs; rw [hl]
    exact cutL_cons hx
  cases h : cutL 58 (s.extract 1 s.size).data.toList with
  | none =>
    left
    rw [h] at hc
    exact ⟨rfl, by unfold colonN; rw [hc]; rfl⟩
  | some p =>
    obtain ⟨a, b⟩ := p
    right
    rw [h] at hc
    have hcs := (cutL_some hc).1
    have hsz := Enc.size_toList s
    have hlen : s.data.toList.length = a.length + 1 + 1 + b.length := by rw [hcs]; simp; omega
    refine ⟨a, b, a.length + 1, rfl, by unfold colonN; rw [hc]; rfl, by omega, by omega, ?_, ?_⟩
    · have : (s.extract 1 (a.length + 1)).data.toList = a := by
        rw [Lib.extract_data, hcs]
        simp
      exact (str_toList _).symm.trans (congrArg str this)
    · have : (s.extract (a.length + 1 + 1) s.size).data.toList = b := by
        rw [Lib.extract_data, List.take_of_length_le, hcs]
        · have : (s[0] :: a ++ 58 :: b) = (s[0] :: a ++ [58]) ++ b := by simp
          show List.drop _ (s[0] :: a ++ 58 :: b) = b
          rw [this, List.drop_left' (by simp)]
        · rw [List.length_drop]; omega
      exact (str_toList _).symm.trans (congrArg str this)

theorem split_two (u : List UInt8) : splitL [64, 33] u = if (splitL [64] u).isSome then splitL [64] u else splitL [33] u := by
  cases u with
  | nil => rfl
  | cons x r =>
    by_cases h1 : x = 64
    · subst h1
      rw [split_one (m := [64, 33]) (by simp), split_one (m := [64]) (by simp), split_not (m := [33]) (by decide)]
      have : ∀ o : Option (List UInt8 × List UInt8), o = if o.isSome = true then o else none := by intro o; cases o <;> rfl
      exact this _
    · rw [split_not (m := [64]) (by simpa using h1)]
      rw [if_neg (by simp)]
      by_cases h2 : x = 33
      · subst h2
        rw [split_one (m := [64, 33]) (by simp), split_one (m := [33]) (by simp)]
      · rw [split_not (m := [64, 33]) (by simp [h1, h2]), split_not (m := [33]) (by simpa using h2)]
/-- the parts, as the reference cuts them -/
theorem parts_ref (s : ByteArray) {x : UInt8} (hx : x ∈ [64, 33]) (h : (splitL [x] s.data.toList).isSome = true) :
    ∃ k, colonN s = k ∧ 1 ≤ k ∧ k < s.size ∧ s.extract 1 k = partA s ∧ s.extract (k + 1) s.size = partB s := by
  have hpos : 0 < s.size := by
    rcases Nat.eq_zero_or_pos s.size with h0 | h0
    · rw [size_zero_nil h0] at h; cases h
    · exact h0
  have hl := list_cons s hpos
  have h0 : s[0] = x := by
    by_cases h0 : s[0] = x
    · exact h0
    · rw [hl, split_not (by simpa using h0)] at h; cases h
  have hm : s[0] ∈ ([64, 33] : List UInt8) := by rw [h0]; exact hx
  have hne : s[0] ≠ 58 := by
    intro e; rw [e] at hm; revert hm; decide
  rw [hl, split_one (by simp [h0])] at h
  have h2 : splitL [64, 33] s.data.toList = match cutL 58 (s.extract 1 s.size).data.toList with
          | some (a, b) => if localB a && serverB b then some (a, b) else none
          | none => none := by rw [hl]; exact split_one hm
  rcases colon_parts s hpos hne with ⟨h3, h4⟩ | ⟨a, b, k, h3, h4, hk1, hk2, h5, h6⟩
  · rw [h3] at h; cases h
  · rw [h3] at h h2
    have hb : (localB a && serverB b) = true := by
      cases hb : (localB a && serverB b) with
      | true => rfl
      | false => simp only [hb] at h; cases h
    simp only [hb, if_true] at h2
    exact ⟨k, h4, hk1, hk2, by unfold partA; rw [h2]; exact h5, by unfold partB; rw [h2]; exact h6⟩
theorem parts_none2 (s : ByteArray) (h1 : (splitL [64] s.data.toList).isSome = false) (h2 : (splitL [33] s.data.toList).isSome = false) : partA s = ⟨#[]⟩ ∧ partB s = ⟨#[]⟩ := by
  have h := split_two s.data.toList
  rw [h1, if_neg (by decide), Option.isSome_eq_false_iff.1 h2 |> Option.isNone_iff_eq_none.1] at h
  unfold partA partB
  rw [h]
  exact ⟨rfl, rfl⟩
end
end Go.Proofs.Ytnfbmhkjmkdmjaa

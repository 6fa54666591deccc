/-
  Plain: stripping twice, what a redaction leaves is right, a field that a kind does not use.
-/
import Derived.Test.YtehenalnkkkajaaUs
import Derived.Test.YtehenalnkkkajaaConEncP
set_option linter.unusedVariables false
set_option linter.unusedSimpArgs false
namespace Go.Proofs.Ytehenalnkkkajaa
open Go.RowKit

theorem stripC_again (k : Int) (c : Con) : stripC k (stripC k c) = stripC k c := by
  rcases kinds_cases k with rfl | rfl | rfl | rfl | rfl | rfl | rfl | ⟨h1, h2, h3, h4, h5, h6, h7⟩
  all_goals first
    | rfl
    | simp [stripC, h1, h2, h3, h4, h5, h6, h7]
theorem stripC_fit {k : Int} {c : Con} (h : c.fit) : (stripC k c).fit := by
  rcases kinds_cases k with rfl | rfl | rfl | rfl | rfl | rfl | rfl | ⟨h1, h2, h3, h4, h5, h6, h7⟩
  all_goals
    obtain ⟨f1, f2, f3, f4⟩ := h
    first
      | exact ⟨f1, f2, f3, f4⟩
      | exact ⟨Nat.zero_le _, Nat.zero_le _, Nat.zero_le _, Nat.zero_le _⟩
      | exact ⟨Nat.zero_le _, Nat.zero_le _, f3, f4⟩
      | exact ⟨f1, Nat.zero_le _, Nat.zero_le _, Nat.zero_le _⟩
      | exact ⟨f1, f2, Nat.zero_le _, Nat.zero_le _⟩
      | (simp only [stripC, h1, h2, h3, h4, h5, h6, h7, if_false]; exact ⟨Nat.zero_le _, Nat.zero_le _, Nat.zero_le _, Nat.zero_le _⟩)
theorem stripC_mild {k : Int} {c : Con} (h : c.mild) : (stripC k c).mild := by
  rcases kinds_cases k with rfl | rfl | rfl | rfl | rfl | rfl | rfl | ⟨h1, h2, h3, h4, h5, h6, h7⟩
  all_goals
    obtain ⟨f1, f2, f3, f4, f5, f6, f7⟩ := h
    have e1 : ∀ s ∈ ([] : List ByteArray), s.size ≤ 1073741824 := fun s hs => by simp at hs
    have e2 : ∀ u ∈ ([] : List (ByteArray × Int)), u.1.size ≤ 1073741824 := fun s hs => by simp at hs
    first
      | exact ⟨f1, f2, f3, f4, f5, f6, f7⟩
      | exact ⟨f1, Nat.zero_le _, Nat.zero_le _, Nat.zero_le _, Nat.zero_le _, e1, e2⟩
      | exact ⟨Nat.zero_le _, Nat.zero_le _, Nat.zero_le _, Nat.zero_le _, Nat.zero_le _, e1, e2⟩
      | exact ⟨Nat.zero_le _, Nat.zero_le _, Nat.zero_le _, f4, f5, e1, f7⟩
      | exact ⟨Nat.zero_le _, f2, Nat.zero_le _, Nat.zero_le _, Nat.zero_le _, f6, e2⟩
      | exact ⟨Nat.zero_le _, f2, f3, Nat.zero_le _, Nat.zero_le _, f6, e2⟩
      | (simp only [stripC, h1, h2, h3, h4, h5, h6, h7, if_false]; exact ⟨Nat.zero_le _, Nat.zero_le _, Nat.zero_le _, Nat.zero_le _, Nat.zero_le _, e1, e2⟩)
theorem ckE_known {k : Int} {c : Con} (h : ckE k c = 0) : knownB k = true ∧ onlyB k c = true := by
  unfold ckE at h
  by_cases h1 : knownB k = false ∨ onlyB k c = false
  · rw [if_pos h1] at h; cases h
  · refine ⟨?_, ?_⟩
    · cases e : knownB k
      · exact absurd (.inl e) h1
      · rfl
    · cases e : onlyB k c
      · exact absurd (.inr e) h1
      · rfl
theorem ckE_rest {k : Int} {c : Con} (h : ckE k c = 0) (hk : keepsN k ≠ 0) : fieldsE k c [0, 1, 2, 3, 4, 5] = 0 ∧ lastE k c = 0 := by
  obtain ⟨h1, h2⟩ := ckE_known h
  unfold ckE at h
  rw [if_neg (by rw [h1, h2]; simp), if_neg (fun x => hk x.2)] at h
  by_cases h3 : fieldsE k c [0, 1, 2, 3, 4, 5] = 0
  · rw [if_neg (by simpa using h3)] at h; exact ⟨h3, h⟩
  · rw [if_pos h3] at h; exact absurd h h3
theorem ckE_remains {k : Int} {c : Con} (h : ckE k c = 0) : ckE k (stripC k c) = 0 := by
  obtain ⟨hk, ho⟩ := ckE_known h
  have ho' := ho
  simp only [onlyB, Bool.and_eq_true, Bool.or_eq_true, decide_eq_true_eq, Bool.not_eq_true'] at ho'
  obtain ⟨⟨⟨⟨⟨⟨⟨o0, o1⟩, o2⟩, o3⟩, o4⟩, o5⟩, o6⟩, o7⟩ := ho'
  rcases known_cases hk with rfl | rfl | rfl | rfl | rfl | rfl | rfl | rfl | rfl | rfl | rfl | rfl | rfl | rfl
  case inl => exact h
  case inr.inl =>
    obtain ⟨f, _⟩ := ckE_rest h (by decide)
    have hx : fieldsE 2 (stripC 2 c) [0, 1, 2, 3, 4, 5] = 0 := by
      have e1 : numE 2 c.n = 0 ∧ viaE c = 0 := by
        simp only [fieldsE, errOf] at f
        simp [hasB, usesN, Nat.testBit] at f
        (repeat' split at f) <;> first | omega | simp_all
      have e2 : viaE (stripC 2 c) = viaE c := rfl
      simp only [fieldsE, errOf]
      simp [hasB, usesN, Nat.testBit, e2, e1.2, show (stripC 2 c).n = c.n from rfl, e1.1, show textE 2 (stripC 2 c) = 0 from rfl]
    have hl : lastE 2 (stripC 2 c) = 0 := by simp [lastE, hasB, usesN, Nat.testBit]
    have hb : onlyB 2 (stripC 2 c) = true := by
      simp [onlyB, hasB, usesN, Nat.testBit, stripC, Con.zero]; decide
    unfold ckE
    rw [if_neg (by rw [hb]; decide), if_neg (fun x => absurd x.2 (by decide)), hx, hl]; rfl
  case inr.inr.inr.inr.inr.inr.inr.inr.inr.inr.inr.inr.inr =>
    obtain ⟨f, _⟩ := ckE_rest h (by decide)
    have hx : fieldsE 14 (stripC 14 c) [0, 1, 2, 3, 4, 5] = 0 := by
      have e1 : targetE 14 c = 0 := by
        simp only [fieldsE, errOf] at f
        simp [hasB, usesN, Nat.testBit] at f
        (repeat' split at f) <;> first | omega | simp_all
      have e2 : targetE 14 (stripC 14 c) = targetE 14 c := rfl
      simp only [fieldsE, errOf]
      simp [hasB, usesN, Nat.testBit, e2, e1, show textE 14 (stripC 14 c) = 0 from rfl]
    have hl : lastE 14 (stripC 14 c) = 0 := by simp [lastE, hasB, usesN, Nat.testBit]
    have hb : onlyB 14 (stripC 14 c) = true := by
      simp [onlyB, hasB, usesN, Nat.testBit, stripC, Con.zero]; decide
    unfold ckE
    rw [if_neg (by rw [hb]; decide), if_neg (fun x => absurd x.2 (by decide)), hx, hl]; rfl
  all_goals
    simp [hasB, usesN, Nat.testBit] at o0 o1 o2 o3 o4 o5 o6 o7
    first
      | (show ckE _ Con.zero = 0; decide +kernel)
      | (obtain ⟨a, b, d, e, f, g, i, j⟩ := c
         dsimp only at o0 o1 o2 o3 o4 o5 o6 o7
         rw [← h]
         congr 1
         simp [stripC, Con.zero, *]
         try (repeat' apply And.intro)
         all_goals first | rfl | exact (bare_zero o7).symm | exact bare_zero o7)
theorem ckE_arg {k : Int} {c : Con} (h : onlyB k c = false) : ckE k c = 1 := if_pos (.inr h)
theorem use0 {k : Int} {c : Con} {s : ByteArray} (h : hasB (usesN k) 0 = false) (hs : s.size ≠ 0) : ckE k { c with text := s } = 1 := ckE_arg (by simp [onlyB, h, hs])
theorem use1 {k : Int} {c : Con} (h : hasB (usesN k) 1 = false) : ckE k { c with n := 1 } = 1 := ckE_arg (by simp [onlyB, h])
theorem use2 {k : Int} {c : Con} (h : hasB (usesN k) 2 = false) : ckE k { c with target := 1 } = 1 := ckE_arg (by simp [onlyB, h])
theorem use3 {k : Int} {c : Con} (h : hasB (usesN k) 3 = false) : ckE k { c with thread := true } = 1 := ckE_arg (by simp [onlyB, h])
theorem use4 {k : Int} {c : Con} {s : ByteArray} (h : hasB (usesN k) 4 = false) (hs : s.size ≠ 0) : ckE k { c with via := s } = 1 := ckE_arg (by simp [onlyB, h, hs])
theorem use5 {k : Int} {c : Con} {s : ByteArray} (h : hasB (usesN k) 5 = false) : ckE k { c with allow := [s] } = 1 := ckE_arg (by simp [onlyB, h])
theorem use6 {k : Int} {c : Con} {s : ByteArray} (h : hasB (usesN k) 6 = false) : ckE k { c with deny := [s] } = 1 := ckE_arg (by simp [onlyB, h])
theorem use7 {k : Int} {c : Con} (h : hasB (usesN k) 7 = false) : ckE k { c with lv := { c.lv with kick := 1 } } = 1 := ckE_arg (by simp [onlyB, h, bareB])
theorem names_dec : ∀ m ∈ maskL, ∀ i < 8, (namesL m 8).contains (nameB i) = hasB m i := by decide +kernel
theorem names_has (k : Int) {i : Nat} (h : i < 8) : (usesL k).contains (nameB i) = hasB (usesN k) i := names_dec _ (mask_mem k) i h
end Go.Proofs.Ytehenalnkkkajaa

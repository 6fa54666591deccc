/-
  Plain laws: the canonical encoding of integers, strings, lists and booleans as lists of bytes, and its inverse. No program, no condition.
-/
set_option linter.unusedVariables false
set_option linter.unusedSimpArgs false
namespace Go.Proofs.Ytimdcnickfaddaa.Enc

def encF : Nat → Nat → List UInt8
  | 0, _ => []
  | k + 1, u => if u < 128 then [UInt8.ofNat u] else UInt8.ofNat (u % 128 + 128) :: encF k (u / 128)
def enc (u : Nat) : List UInt8 := encF (u + 1) u
theorem encF_eq : ∀ (k u : Nat), u < k → encF k u = encF (u + 1) u
  | 0, u, h => absurd h (by omega)
  | k + 1, u, h => by
    unfold encF
    by_cases hu : u < 128
    · rw [if_pos hu, if_pos hu]
    · rw [if_neg hu, if_neg hu, encF_eq k (u / 128) (by omega)]
      by_cases hk : u = k
      · subst hk
        rw [encF_eq u (u / 128) (by omega)]
      · rw [encF_eq u (u / 128) (by omega)]
  termination_by k _ _ => k
  decreasing_by all_goals omega
theorem enc_small (u : Nat) (h : u < 128) : enc u = [UInt8.ofNat u] := by unfold enc encF; rw [if_pos h]
theorem enc_big (u : Nat) (h : ¬ u < 128) : enc u = UInt8.ofNat (u % 128 + 128) :: enc (u / 128) := by
  unfold enc
  conv => lhs; unfold encF
  rw [if_neg h, encF_eq u (u / 128) (by omega)]
theorem enc_len_pow : ∀ (k u : Nat), u < 128 ^ (k + 1) → (enc u).length ≤ k + 1
  | 0, u, h => by rw [enc_small u (by simpa using h)]; simp
  | k + 1, u, h => by
    by_cases hu : u < 128
    · rw [enc_small u hu]; simp
    · rw [enc_big u hu, List.length_cons]
      have := enc_len_pow k (u / 128) (by rw [Nat.pow_succ] at h; exact Nat.div_lt_of_lt_mul (by omega))
      omega
theorem enc_len (u : Nat) (h : u < 18446744073709551616) : (enc u).length ≤ 10 := enc_len_pow 9 u (Nat.lt_of_lt_of_le h (by decide))
theorem enc_pos (u : Nat) : 0 < (enc u).length := by
  by_cases hu : u < 128
  · rw [enc_small u hu]; simp
  · rw [enc_big u hu]; simp
theorem flatMap_snoc {α β : Type} (f : α → List β) (l : List α) (k : Nat) (h : k < l.length) : (l.take (k + 1)).flatMap f = (l.take k).flatMap f ++ f l[k] := by
  rw [List.take_succ_eq_append_getElem h, List.flatMap_append]; simp
theorem flatMap_len {α β : Type} (f : α → List β) (l : List α) (k : Nat) : ((l.take k).flatMap f).length ≤ (l.flatMap f).length := by
  conv => rhs; rw [← List.take_append_drop k l, List.flatMap_append, List.length_append]
  omega
theorem flatMap_get {α β : Type} (f : α → List β) (l : List α) (k : Nat) (h : k < l.length) : ((l.take k).flatMap f).length + (f l[k]).length ≤ (l.flatMap f).length := by
  have := flatMap_len f l (k + 1)
  rw [flatMap_snoc f l k h, List.length_append] at this
  exact this
theorem size_toList (s : ByteArray) : s.data.toList.length = s.size := by rw [Array.length_toList]; rfl
end Go.Proofs.Ytimdcnickfaddaa.Enc

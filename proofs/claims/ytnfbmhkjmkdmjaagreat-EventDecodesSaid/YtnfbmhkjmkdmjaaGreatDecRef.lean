/-
  Plain laws: the reference's way to decode an integer: the groups of seven bits are added from the last one on. No program, no condition.
-/
import Derived.Test.YtnfbmhkjmkdmjaaGreatDec
set_option linter.unusedVariables false
set_option linter.unusedSimpArgs false
namespace Go.Proofs.YtnfbmhkjmkdmjaaGreat
open Go.RowKit

/-- the sum of the first k groups -/
def decS (l : List UInt8) : Nat → Nat
  | 0 => 0
  | k + 1 => decS l k + (l.getD k 0).toNat % 128 * 2 ^ (7 * k)
theorem getD_get {l : List UInt8} {k : Nat} (h : k < l.length) : l.getD k 0 = l[k] := by simp [List.getD, h]
theorem decS_lt (l : List UInt8) : ∀ k, decS l k < 2 ^ (7 * k)
  | 0 => by simp [decS]
  | k + 1 => by
    have ih := decS_lt l k
    have e : 2 ^ (7 * (k + 1)) = 128 * 2 ^ (7 * k) := by rw [Nat.mul_add, Nat.pow_add, Nat.mul_comm]
    have h1 : (l.getD k 0).toNat % 128 * 2 ^ (7 * k) ≤ 127 * 2 ^ (7 * k) := Nat.mul_le_mul_right _ (by omega)
    simp only [decS]; omega
/-- all bytes before k are great -/
def Great (l : List UInt8) (k : Nat) : Prop := ∀ j, j < k → 128 ≤ (l.getD j 0).toNat
theorem great_rel {l : List UInt8} : ∀ (k : Nat), Great l k → k ≤ l.length → k ≤ 9 → DecRel l k (decS l k)
  | 0, _, _, _ => DecRel.start l
  | k + 1, hg, hl, h9 => by
    have ih := great_rel k (fun j hj => hg j (by omega)) (by omega) (by omega)
    have hk := hg k (by omega)
    have e := getD_get (l := l) (k := k) (by omega)
    rw [e] at hk
    have h := ih.go (by omega) (by omega) (by omega) hk
    simp only [decS, e]
    exact h
theorem great_ten {l : List UInt8} (hg : Great l 10) (hl : 10 ≤ l.length) : geti l = none := by
  have h := great_rel 9 (fun j hj => hg j (by omega)) (by omega) (by omega)
  have hk := hg 9 (by omega)
  rw [getD_get (by omega)] at hk
  exact h.long (by omega) rfl (by omega)
theorem great_end {l : List UInt8} {k : Nat} (hg : Great l k) (hk : k = l.length) (h10 : k ≤ 10) : geti l = none := by
  by_cases h : k = 10
  · subst h; exact great_ten hg (by omega)
  · exact (great_rel k hg (by omega) (by omega)).stop (.inl hk)
theorem great_long {l : List UInt8} {k : Nat} (hg : Great l k) (hk : k < l.length) (h9 : k = 9) (hc : 1 < (l[k]'hk).toNat) : geti l = none :=
  (great_rel k hg (by omega) (by omega)).long hk h9 hc
theorem great_zero {l : List UInt8} {k : Nat} (hg : Great l k) (hk : k < l.length) (h10 : k < 10) (h0 : 0 < k) (hc : (l[k]'hk).toNat = 0) : geti l = none :=
  (great_rel k hg (by omega) (by omega)).zero hk hc h0
theorem great_fin {l : List UInt8} {k : Nat} (hg : Great l k) (hk : k < l.length) (h10 : k < 10) (h9 : ¬ (k = 9 ∧ 1 < (l[k]'hk).toNat)) (hc : (l[k]'hk).toNat < 128) (h0 : ¬ ((l[k]'hk).toNat = 0 ∧ 0 < k)) :
    geti l = some (unzig (decS l (k + 1)), k + 1) ∧ decS l (k + 1) < 2 ^ 64 := by
  have h := great_rel k hg (by omega) (by omega)
  have e := getD_get hk
  have hm : (l[k]'hk).toNat % 128 = (l[k]'hk).toNat := Nat.mod_eq_of_lt hc
  refine ⟨?_, ?_⟩
  · have := h.fin hk h10 h9 hc h0
    simp only [decS, e, hm]; exact this
  · have := dec_bound (i := k) (u := decS l k) (c := (l[k]'hk).toNat) h10 (by omega) hc (decS_lt l k)
    simp only [decS, e, hm]; exact this.1
/-- one group more, from the end -/
theorem decS_down {l : List UInt8} {i u K : Nat} (h : decS l (i + 1) + u * 2 ^ (7 * (i + 1)) = K) : decS l i + (u * 128 + (l.getD i 0).toNat % 128) * 2 ^ (7 * i) = K := by
  have e : 2 ^ (7 * (i + 1)) = 128 * 2 ^ (7 * i) := by rw [Nat.mul_add, Nat.pow_add, Nat.mul_comm]
  rw [e, ← Nat.mul_assoc] at h
  simp only [decS] at h
  rw [Nat.add_mul]
  omega
theorem decS_le {l : List UInt8} {i u K : Nat} (h : decS l i + u * 2 ^ (7 * i) = K) : u ≤ K := by
  have h1 : u * 1 ≤ u * 2 ^ (7 * i) := Nat.mul_le_mul_left _ (Nat.pos_of_ne_zero (by simp))
  omega
theorem wrap_u64_nat {n : Nat} (h : n < 2 ^ 64) : IntKind.u64.wrap (n : Int) = (n : Int) := by rw [wrap_u64]; omega
theorem unzig_neg (U : Nat) (h : U < 2 ^ 64) (ho : U % 2 = 1) : -((U / 2 : Nat) : Int) - 1 = unzig U := by unfold unzig; rw [if_pos ho]
end Go.Proofs.YtnfbmhkjmkdmjaaGreat

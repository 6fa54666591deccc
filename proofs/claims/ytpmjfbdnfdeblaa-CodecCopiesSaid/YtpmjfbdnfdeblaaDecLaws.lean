/-
  Plain laws: what is encoded is decoded again, and what is decoded was encoded. No program, no condition.
-/
import Derived.Test.YtpmjfbdnfdeblaaDec
set_option linter.unusedVariables false
set_option linter.unusedSimpArgs false
namespace Go.Proofs.Ytpmjfbdnfdeblaa

theorem pow128 (i : Nat) : 128 ^ (i + 1) = 128 * 128 ^ i := by rw [Nat.pow_succ, Nat.mul_comm]
theorem decGo_enc (r : List UInt8) : ∀ (k i u : Nat), u < k → i ≤ 9 → u * 128 ^ i < 18446744073709551616 → (0 < i → 0 < u) → decGo i (Enc.enc u ++ r) = some (u, (Enc.enc u).length)
  | 0, _, _, h, _, _, _ => absurd h (by omega)
  | k + 1, i, u, hk, hi, hu, h0 => by
    by_cases hs : u < 128
    · rw [Enc.enc_small u hs]
      have hb := byte_of u (by omega)
      simp only [List.cons_append, List.nil_append, decGo]
      have h9 : ¬ (i = 9 ∧ 1 < (UInt8.ofNat u).toNat) := by
        rintro ⟨rfl, h1⟩
        rw [hb] at h1
        have : 2 * 128 ^ 9 ≤ u * 128 ^ 9 := Nat.mul_le_mul_right _ h1
        omega
      rw [if_neg (by omega), if_neg h9, hb, if_neg (by omega), if_neg (by omega)]
      rfl
    · have hb := byte_of (u % 128 + 128) (by omega)
      have hi8 : i < 9 := by
        rcases Nat.lt_or_ge i 9 with h | h
        · exact h
        · obtain rfl : i = 9 := by omega
          have : 128 * 128 ^ 9 ≤ u * 128 ^ 9 := Nat.mul_le_mul_right _ (by omega)
          omega
      have hmul : u / 128 * 128 ^ (i + 1) ≤ u * 128 ^ i := by
        rw [pow128, ← Nat.mul_assoc]
        exact Nat.mul_le_mul_right _ (Nat.div_mul_le_self u 128)
      have ih := decGo_enc r k (i + 1) (u / 128) (by omega) (by omega) (by omega) (fun _ => by omega)
      rw [Enc.enc_big u hs]
      simp only [List.cons_append, decGo]
      rw [if_neg (by omega), if_neg (by omega), hb, if_pos (by omega), ih]
      simp only [Option.map_some, List.length_cons, Option.some.injEq, Prod.mk.injEq, hb, and_true]
      omega
theorem geti_enc (n : Int) (hn : I64 n) (r : List UInt8) : geti (encI n ++ r) = some (n, (encI n).length) := by
  unfold geti encI
  rw [decGo_enc r (zig n + 1) 0 (zig n) (by omega) (by omega) (by have := zig_lt hn.1 hn.2; omega) (by omega)]
  simp [unzig_zig]
theorem getI_enc (n : Int) (hn : I64 n) (r : List UInt8) : getI (encI n ++ r) = some (n, r) := by
  rw [getI_some (geti_enc n hn r)]; simp

theorem decGo_canon : ∀ (l : List UInt8) (i u k : Nat), i ≤ 9 → decGo i l = some (u, k) → l.take k = Enc.enc u ∧ u < 2 ^ (64 - 7 * i) ∧ (0 < i → 0 < u) := by
  intro l
  induction l with
  | nil => intro i u k _ h; simp [decGo] at h
  | cons c r ih =>
    intro i u k hi h
    simp only [decGo] at h
    rw [if_neg (by omega)] at h
    split at h
    · cases h
    · rename_i h9
      split at h
      · rename_i hc
        have hc256 := UInt8.toNat_lt c
        have hi8 : i < 9 := by
          rcases Nat.lt_or_ge i 9 with h | h
          · exact h
          · exact absurd ⟨by omega, by omega⟩ h9
        obtain ⟨p, hp, he⟩ := Option.map_eq_some_iff.1 h
        obtain ⟨h1, h2, h3⟩ := ih (i + 1) p.1 p.2 (by omega) hp
        simp only [Prod.mk.injEq] at he
        obtain ⟨rfl, rfl⟩ := he
        have hp0 := h3 (by omega)
        have e : 2 ^ (64 - 7 * i) = 128 * 2 ^ (64 - 7 * (i + 1)) := by
          rw [show 64 - 7 * i = 64 - 7 * (i + 1) + 7 from by omega, Nat.pow_add, Nat.mul_comm]
        refine ⟨?_, by rw [e]; omega, fun _ => by omega⟩
        rw [List.take_succ_cons, h1, Enc.enc_big (c.toNat % 128 + 128 * p.1) (by omega)]
        rw [show (c.toNat % 128 + 128 * p.1) / 128 = p.1 from by omega, show (c.toNat % 128 + 128 * p.1) % 128 + 128 = c.toNat from by omega]
        rw [UInt8.ofNat_toNat]
      · rename_i hc
        split at h
        · cases h
        · rename_i h0
          simp only [Option.some.injEq, Prod.mk.injEq] at h
          obtain ⟨rfl, rfl⟩ := h
          refine ⟨?_, ?_, fun _ => by omega⟩
          · rw [Enc.enc_small _ (by omega), UInt8.ofNat_toNat]; simp
          · by_cases hi9 : i = 9
            · subst hi9; omega
            · have : 2 ^ 8 ≤ 2 ^ (64 - 7 * i) := Nat.pow_le_pow_right (by decide) (by omega)
              omega
theorem unzig_I64 {u : Nat} (h : u < 18446744073709551616) : I64 (unzig u) := by
  unfold I64 unzig; split <;> constructor <;> omega
theorem geti_canon {l : List UInt8} {n : Int} {k : Nat} (h : geti l = some (n, k)) : l.take k = encI n ∧ I64 n := by
  unfold geti at h
  obtain ⟨p, hp, he⟩ := Option.map_eq_some_iff.1 h
  simp only [Prod.mk.injEq] at he
  obtain ⟨rfl, rfl⟩ := he
  obtain ⟨h1, h2, _⟩ := decGo_canon l 0 p.1 p.2 (by omega) hp
  exact ⟨by rw [h1, encI, zig_unzig], unzig_I64 (by simpa using h2)⟩
theorem getI_canon {l : List UInt8} {n : Int} {r : List UInt8} (h : getI l = some (n, r)) : l = encI n ++ r ∧ I64 n := by
  unfold getI at h
  obtain ⟨p, hp, he⟩ := Option.map_eq_some_iff.1 h
  simp only [Prod.mk.injEq] at he
  obtain ⟨rfl, rfl⟩ := he
  obtain ⟨h1, h2⟩ := geti_canon (n := p.1) (k := p.2) hp
  exact ⟨by rw [← h1, List.take_append_drop], h2⟩
end Go.Proofs.Ytpmjfbdnfdeblaa

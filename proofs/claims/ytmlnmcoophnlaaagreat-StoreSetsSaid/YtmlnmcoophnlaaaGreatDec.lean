/-
  Plain laws: the decoding of integers. No program, no condition.
  Plain laws: what is encoded is decoded again, and what is decoded was encoded. No program, no condition.
-/
import Derived.Test.YtmlnmcoophnlaaaGreatEnc
set_option linter.unusedVariables false
set_option linter.unusedSimpArgs false
namespace Go.Proofs.YtmlnmcoophnlaaaGreat
section
open Go.RowKit

/-- the unsigned number that bytes begin with, and how many bytes it has; i bytes were read before -/
def decGo : Nat → List UInt8 → Option (Nat × Nat)
  | _, [] => none
  | i, c :: r => if 10 ≤ i then none else if i = 9 ∧ 1 < c.toNat then none else if 128 ≤ c.toNat then (decGo (i + 1) r).map fun p => (c.toNat % 128 + 128 * p.1, p.2 + 1)
    else if c.toNat = 0 ∧ 0 < i then none else some (c.toNat, 1)
def geti (l : List UInt8) : Option (Int × Nat) := (decGo 0 l).map fun p => (unzig p.1, p.2)

/-- what is known after i bytes -/
def DecRel (l : List UInt8) (i u : Nat) : Prop := decGo 0 l = (decGo i (l.drop i)).map fun p => (u + 2 ^ (7 * i) * p.1, p.2 + i)
theorem DecRel.start (l : List UInt8) : DecRel l 0 0 := by
  unfold DecRel
  cases h : decGo 0 l <;> simp [h]
theorem drop_cons {l : List UInt8} {i : Nat} (h : i < l.length) : l.drop i = l[i] :: l.drop (i + 1) := List.drop_eq_getElem_cons h
theorem DecRel.stop {l : List UInt8} {i u : Nat} (h : DecRel l i u) (hi : i = l.length ∨ 10 ≤ i) : geti l = none := by
  unfold geti
  rw [h]
  cases hd : l.drop i with
  | nil => simp [decGo]
  | cons c r =>
    have hlt : i < l.length := by
      rcases Nat.lt_or_ge i l.length with h1 | h1
      · exact h1
      · rw [List.drop_eq_nil_of_le h1] at hd; cases hd
    simp [decGo, show 10 ≤ i by omega]
theorem DecRel.long {l : List UInt8} {i u : Nat} (h : DecRel l i u) (hl : i < l.length) (h9 : i = 9) (hc : 1 < (l[i]'hl).toNat) : geti l = none := by
  unfold geti
  rw [h, drop_cons hl]
  simp only [decGo]
  rw [if_neg (by omega), if_pos ⟨h9, hc⟩]; rfl
theorem DecRel.go {l : List UInt8} {i u : Nat} (h : DecRel l i u) (hl : i < l.length) (h10 : i < 10) (h9 : ¬ (i = 9 ∧ 1 < (l[i]'hl).toNat)) (hc : 128 ≤ (l[i]'hl).toNat) : DecRel l (i + 1) (u + (l[i]'hl).toNat % 128 * 2 ^ (7 * i)) := by
  unfold DecRel at *
  rw [h, drop_cons hl]
  simp only [decGo]
  rw [if_neg (by omega), if_neg h9, if_pos hc]
  cases decGo (i + 1) (l.drop (i + 1)) with
  | none => rfl
  | some p =>
    simp only [Option.map_some, Option.some.injEq, Prod.mk.injEq]
    constructor
    · have e : 2 ^ (7 * (i + 1)) = 128 * 2 ^ (7 * i) := by rw [Nat.mul_add, Nat.pow_add, Nat.mul_comm]
      rw [e, Nat.mul_add, Nat.mul_comm (2 ^ (7 * i)) ((l[i]'hl).toNat % 128)]
      have : 2 ^ (7 * i) * (128 * p.1) = 128 * 2 ^ (7 * i) * p.1 := by rw [← Nat.mul_assoc, Nat.mul_comm (2 ^ (7 * i)) 128]
      omega
    · omega
theorem DecRel.zero {l : List UInt8} {i u : Nat} (h : DecRel l i u) (hl : i < l.length) (hc : (l[i]'hl).toNat = 0) (hi : 0 < i) : geti l = none := by
  unfold geti
  rw [h, drop_cons hl]
  simp only [decGo]
  by_cases h10 : 10 ≤ i
  · rw [if_pos h10]; rfl
  · rw [if_neg h10, if_neg (by omega), if_neg (by omega), if_pos ⟨hc, hi⟩]; rfl
theorem DecRel.fin {l : List UInt8} {i u : Nat} (h : DecRel l i u) (hl : i < l.length) (h10 : i < 10) (h9 : ¬ (i = 9 ∧ 1 < (l[i]'hl).toNat)) (hc : (l[i]'hl).toNat < 128) (h0 : ¬ ((l[i]'hl).toNat = 0 ∧ 0 < i)) :
    geti l = some (unzig (u + (l[i]'hl).toNat * 2 ^ (7 * i)), i + 1) := by
  unfold geti
  rw [h, drop_cons hl]
  simp only [decGo]
  rw [if_neg (by omega), if_neg h9, if_neg (by omega), if_neg h0]
  simp only [Option.map_some, Option.some.injEq, Prod.mk.injEq]
  exact ⟨by rw [Nat.mul_comm], by omega⟩
/-- the sum stays within 64 bits -/
theorem dec_bound {i u c : Nat} (h10 : i < 10) (h9 : i = 9 → c ≤ 1) (hc : c < 128) (hu : u < 2 ^ (7 * i)) : u + c * 2 ^ (7 * i) < 2 ^ 64 ∧ u + c * 2 ^ (7 * i) < 2 ^ (7 * (i + 1)) ∧ c * 2 ^ (7 * i) < 2 ^ 64 := by
  have e : 2 ^ (7 * (i + 1)) = 128 * 2 ^ (7 * i) := by rw [Nat.mul_add, Nat.pow_add, Nat.mul_comm]
  have h1 : c * 2 ^ (7 * i) ≤ 127 * 2 ^ (7 * i) := Nat.mul_le_mul_right _ (by omega)
  by_cases hi : i = 9
  · subst hi
    have := h9 rfl
    have h2 : c * 2 ^ (7 * 9) ≤ 1 * 2 ^ (7 * 9) := Nat.mul_le_mul_right _ this
    refine ⟨by omega, by omega, by omega⟩
  · have h3 : 2 ^ (7 * i) ≤ 2 ^ (7 * 8) := Nat.pow_le_pow_right (by decide) (by omega)
    refine ⟨by omega, by omega, by omega⟩
theorem or_join {i u c : Nat} (hu : u < 2 ^ (7 * i)) : u ||| c * 2 ^ (7 * i) = u + c * 2 ^ (7 * i) := by
  rw [Nat.or_comm, nat_join (7 * i) _ _ (by simp) hu, Nat.add_comm]
theorem u64_or (i u x : Nat) (h10 : i < 10) (h9 : ¬ (i = 9 ∧ 1 < x)) (hx : x < 256) (hx9 : i = 9 → x < 128) (hu : u < 2 ^ (7 * i)) :
    bits BinOp.or IntKind.u64 (u : Int) (IntKind.u64.wrap (IntKind.u64.wrap (bits BinOp.and IntKind.u8 (x : Int) 127) * 2 ^ (7 * i))) = ((u + x % 128 * 2 ^ (7 * i) : Nat) : Int) := by
  have hb := dec_bound (i := i) (u := u) (c := x % 128) h10 (by omega) (by omega) hu
  have e1 : bits BinOp.and IntKind.u8 (x : Int) 127 = ((x % 128 : Nat) : Int) := by
    rw [show (127 : Int) = ((127 : Nat) : Int) from rfl, u8_and_nat _ _ hx (by decide), nat_mask7]
  have e2 : IntKind.u64.wrap ((x % 128 : Nat) : Int) = ((x % 128 : Nat) : Int) := by rw [wrap_u64]; omega
  have e3 : ((x % 128 : Nat) : Int) * 2 ^ (7 * i) = ((x % 128 * 2 ^ (7 * i) : Nat) : Int) := by simp
  have e4 : IntKind.u64.wrap ((x % 128 * 2 ^ (7 * i) : Nat) : Int) = ((x % 128 * 2 ^ (7 * i) : Nat) : Int) := by
    rw [wrap_u64]; exact Int.emod_eq_of_lt (Int.natCast_nonneg _) (by have := hb.2.2; omega)
  rw [e1, e2, e3, e4, u64_or_nat _ _ (by omega) (by have := hb.2.2; omega), or_join hu]
theorem u64_odd (U : Nat) (h : U < 2 ^ 64) : bits BinOp.and IntKind.u64 (U : Int) 1 = ((U % 2 : Nat) : Int) := by
  rw [show (1 : Int) = ((1 : Nat) : Int) from rfl, u64_and_nat _ _ (by omega) (by decide), nat_mask1]
theorem wrap64_half (U : Nat) (h : U < 2 ^ 64) : wrap64 ((U : Int) / 2) = ((U / 2 : Nat) : Int) := by
  rw [IntWalk.wrap64_in _ (by constructor <;> omega)]; omega
theorem not_i64 (n : Nat) (h : n < 2 ^ 63) : bits BinOp.xor IntKind.i64 (-1) (n : Int) = -(n : Int) - 1 := by
  show IntKind.i64.wrap ((BitVec.ofInt 64 (-1) ^^^ BitVec.ofInt 64 (n : Int)).toNat : Int) = _
  rw [show BitVec.ofInt 64 (-1) = BitVec.allOnes 64 from by decide, BitVec.allOnes_xor, BitVec.toNat_not, ofInt_u64 n (by omega), IntKind.wrap_i64]
  omega
theorem unzig_odd (U : Nat) (h : U < 2 ^ 64) (ho : U % 2 = 1) : bits BinOp.xor IntKind.i64 (-1) (wrap64 ((U : Int) / 2)) = unzig U := by
  rw [wrap64_half U h, not_i64 _ (by omega)]; unfold unzig; rw [if_pos ho]
theorem unzig_even (U : Nat) (h : U < 2 ^ 64) (ho : ¬ U % 2 = 1) : wrap64 ((U : Int) / 2) = unzig U := by
  rw [wrap64_half U h]; unfold unzig; rw [if_neg ho]
theorem geti_bounds {l : List UInt8} {n : Int} {k : Nat} (h : geti l = some (n, k)) : k ≤ l.length ∧ 0 < k := by
  have key : ∀ (l : List UInt8) (i u k : Nat), decGo i l = some (u, k) → k ≤ l.length ∧ 0 < k := by
    intro l
    induction l with
    | nil => intro i u k h; simp [decGo] at h
    | cons c r ih =>
      intro i u k h
      simp only [decGo] at h
      split at h
      · cases h
      · split at h
        · cases h
        · split at h
          · obtain ⟨p, hp, he⟩ := Option.map_eq_some_iff.1 h
            have := ih (i + 1) p.1 p.2 hp
            simp only [Prod.mk.injEq] at he
            simp only [List.length_cons]; omega
          · split at h
            · cases h
            · simp only [Option.some.injEq, Prod.mk.injEq] at h
              simp only [List.length_cons]; omega
  unfold geti at h
  obtain ⟨p, hp, he⟩ := Option.map_eq_some_iff.1 h
  simp only [Prod.mk.injEq] at he
  have := key l 0 p.1 p.2 hp
  omega

/-- an integer and the bytes behind it -/
def getI (l : List UInt8) : Option (Int × List UInt8) := (geti l).map fun p => (p.1, l.drop p.2)
/-- a string, and how many bytes it takes -/
def getw (l : List UInt8) : Option (List UInt8 × Nat) :=
  match geti l with
  | none => none
  | some (n, k) => if n < 0 ∨ ((l.length - k : Nat) : Int) < n then none else some ((l.drop k).take n.toNat, k + n.toNat)
def getS (l : List UInt8) : Option (List UInt8 × List UInt8) := (getw l).map fun p => (p.1, l.drop p.2)
/-- n elements, and how many bytes they take -/
def elemsGo {α : Type} (g : List UInt8 → Option (α × Nat)) : Nat → List UInt8 → Option (List α × Nat)
  | 0, _ => some ([], 0)
  | n + 1, l => match g l with
    | none => none
    | some (x, k) => (elemsGo g n (l.drop k)).map fun p => (x :: p.1, k + p.2)
def getL {α : Type} (g : List UInt8 → Option (α × Nat)) (l : List UInt8) : Option (List α × List UInt8) :=
  match geti l with
  | none => none
  | some (n, k) => if n < 0 ∨ ((l.length - k : Nat) : Int) < n then none else (elemsGo g n.toNat (l.drop k)).map fun p => (p.1, l.drop (k + p.2))
def getB (l : List UInt8) : Option (Bool × List UInt8) :=
  match l with
  | [] => none
  | c :: r => if 1 < c.toNat then none else some (c.toNat == 1, r)

theorem getI_none {l : List UInt8} (h : geti l = none) : getI l = none := by unfold getI; rw [h]; rfl
theorem getI_some {l : List UInt8} {n : Int} {k : Nat} (h : geti l = some (n, k)) : getI l = some (n, l.drop k) := by unfold getI; rw [h]; rfl
theorem getw_none {l : List UInt8} (h : geti l = none) : getw l = none := by unfold getw; rw [h]
theorem getw_bad {l : List UInt8} {n : Int} {k : Nat} (h : geti l = some (n, k)) (h' : n < 0 ∨ ((l.length - k : Nat) : Int) < n) : getw l = none := by unfold getw; rw [h]; exact if_pos h'
theorem getw_some {l : List UInt8} {n : Int} {k : Nat} (h : geti l = some (n, k)) (h' : ¬ (n < 0 ∨ ((l.length - k : Nat) : Int) < n)) : getw l = some ((l.drop k).take n.toNat, k + n.toNat) := by unfold getw; rw [h]; exact if_neg h'
theorem getw_bounds {l s : List UInt8} {k : Nat} (h : getw l = some (s, k)) : k ≤ l.length ∧ 0 < k ∧ s.length ≤ l.length := by
  unfold getw at h
  cases hg : geti l with
  | none => rw [hg] at h; cases h
  | some p =>
    obtain ⟨n, j⟩ := p
    rw [hg] at h
    have hb := geti_bounds hg
    dsimp only at h
    split at h
    · cases h
    · simp only [Option.some.injEq, Prod.mk.injEq] at h
      obtain ⟨rfl, rfl⟩ := h
      refine ⟨by omega, by omega, ?_⟩
      simp only [List.length_take, List.length_drop]; omega
theorem getS_none {l : List UInt8} (h : getw l = none) : getS l = none := by unfold getS; rw [h]; rfl
theorem getS_some {l s : List UInt8} {k : Nat} (h : getw l = some (s, k)) : getS l = some (s, l.drop k) := by unfold getS; rw [h]; rfl

/-- a list is read: j elements are there, p bytes are taken -/
def ElRel {α : Type} (g : List UInt8 → Option (α × Nat)) (l : List UInt8) (N at0 j : Nat) (ys : List α) (p : Nat) : Prop :=
  ys.length = j ∧ p ≤ l.length ∧ at0 ≤ p ∧ elemsGo g N (l.drop at0) = (elemsGo g (N - j) (l.drop p)).map fun q => (ys ++ q.1, (p - at0) + q.2)
section
variable {α : Type} {g : List UInt8 → Option (α × Nat)} {l : List UInt8} {N at0 j p : Nat} {ys : List α}
theorem ElRel.start (h : at0 ≤ l.length) : ElRel g l N at0 0 [] at0 := by
  refine ⟨rfl, h, Nat.le_refl _, ?_⟩
  cases elemsGo g N (l.drop at0) <;> simp_all
theorem ElRel.step (h : ElRel g l N at0 j ys p) (hj : j < N) {x : α} {k : Nat} (hg : g (l.drop p) = some (x, k)) (hk : k ≤ l.length - p) : ElRel g l N at0 (j + 1) (ys ++ [x]) (p + k) := by
  obtain ⟨h1, h2, h3, h4⟩ := h
  refine ⟨by simp [h1], by omega, by omega, ?_⟩
  rw [h4]
  obtain ⟨m, hm⟩ : ∃ m, N - j = m + 1 := ⟨N - j - 1, by omega⟩
  have hm' : N - (j + 1) = m := by omega
  rw [hm, hm']
  simp only [elemsGo, hg, List.drop_drop]
  cases elemsGo g m (l.drop (p + k)) with
  | none => rfl
  | some q => simp only [Option.map_some, List.append_assoc, List.singleton_append, Option.some.injEq, Prod.mk.injEq, true_and]; omega
theorem ElRel.bad (h : ElRel g l N at0 j ys p) (hj : j < N) (hg : g (l.drop p) = none) : elemsGo g N (l.drop at0) = none := by
  obtain ⟨h1, h2, h3, h4⟩ := h
  rw [h4]
  obtain ⟨m, hm⟩ : ∃ m, N - j = m + 1 := ⟨N - j - 1, by omega⟩
  rw [hm]
  simp only [elemsGo, hg, Option.map_none]
theorem ElRel.fin (h : ElRel g l N at0 N ys p) : elemsGo g N (l.drop at0) = some (ys, p - at0) := by
  obtain ⟨h1, h2, h3, h4⟩ := h
  rw [h4, Nat.sub_self]
  simp [elemsGo]
theorem getL_none (h : geti l = none) : getL g l = none := by unfold getL; rw [h]
theorem getL_bad {n : Int} {k : Nat} (h : geti l = some (n, k)) (h' : n < 0 ∨ ((l.length - k : Nat) : Int) < n) : getL g l = none := by unfold getL; rw [h]; exact if_pos h'
theorem getL_stop {n : Int} {k : Nat} (h : geti l = some (n, k)) (h' : elemsGo g n.toNat (l.drop k) = none) : getL g l = none := by unfold getL; rw [h]; dsimp only; rw [h']; split <;> rfl
theorem getL_some {n : Int} {k : Nat} (h : geti l = some (n, k)) (h' : ¬ (n < 0 ∨ ((l.length - k : Nat) : Int) < n)) (hp : k ≤ p) (hr : elemsGo g n.toNat (l.drop k) = some (ys, p - k)) : getL g l = some (ys, l.drop p) := by
  unfold getL; rw [h]; dsimp only; rw [if_neg h', hr]
  simp only [Option.map_some, Option.some.injEq, Prod.mk.injEq, true_and]
  congr 1; omega
end
end

section
theorem pow128 (i : Nat) : 128 ^ (i + 1) = 128 * 128 ^ i := by rw [Nat.pow_succ, Nat.mul_comm]
theorem decGo_enc (r : List UInt8) : ∀ (k i u : Nat), u < k → i ≤ 9 → u * 128 ^ i < 18446744073709551616 → (0 < i → 0 < u) → decGo i (Enc.enc u ++ r) = some (u, (Enc.enc u).length)
  | 0, _, _, h, _, _, _ => absurd h (by omega)
  | k + 1, i, u, hk, hi, hu, h0 => by
    by_cases hs : u < 128
    · rw [Enc.enc_small u hs]
      have hb := byte_of u (by omega)
      simp only [List.cons_append, List.nil_append, decGo]
      have h9 : ¬ (i = 9 ∧ 1 < (UInt8.ofNat u).toNat) := by
        rintro ⟨rfl, h1⟩
        rw [hb] at h1
        have : 2 * 128 ^ 9 ≤ u * 128 ^ 9 := Nat.mul_le_mul_right _ h1
        omega
      rw [if_neg (by omega), if_neg h9, hb, if_neg (by omega), if_neg (by omega)]
      rfl
    · have hb := byte_of (u % 128 + 128) (by omega)
      have hi8 : i < 9 := by
        rcases Nat.lt_or_ge i 9 with h | h
        · exact h
        · obtain rfl : i = 9 := by omega
          have : 128 * 128 ^ 9 ≤ u * 128 ^ 9 := Nat.mul_le_mul_right _ (by omega)
          omega
      have hmul : u / 128 * 128 ^ (i + 1) ≤ u * 128 ^ i := by
        rw [pow128, ← Nat.mul_assoc]
        exact Nat.mul_le_mul_right _ (Nat.div_mul_le_self u 128)
      have ih := decGo_enc r k (i + 1) (u / 128) (by omega) (by omega) (by omega) (fun _ => by omega)
      rw [Enc.enc_big u hs]
      simp only [List.cons_append, decGo]
      rw [if_neg (by omega), if_neg (by omega), hb, if_pos (by omega), ih]
      simp only [Option.map_some, List.length_cons, Option.some.injEq, Prod.mk.injEq, hb, and_true]
      omega
theorem geti_enc (n : Int) (hn : I64 n) (r : List UInt8) : geti (encI n ++ r) = some (n, (encI n).length) := by
  unfold geti encI
  rw [decGo_enc r (zig n + 1) 0 (zig n) (by omega) (by omega) (by have := zig_lt hn.1 hn.2; omega) (by omega)]
  simp [unzig_zig]
theorem getI_enc (n : Int) (hn : I64 n) (r : List UInt8) : getI (encI n ++ r) = some (n, r) := by
  rw [getI_some (geti_enc n hn r)]; simp

theorem decGo_canon : ∀ (l : List UInt8) (i u k : Nat), i ≤ 9 → decGo i l = some (u, k) → l.take k = Enc.enc u ∧ u < 2 ^ (64 - 7 * i) ∧ (0 < i → 0 < u) := by
  intro l
  induction l with
  | nil => intro i u k _ h; simp [decGo] at h
  | cons c r ih =>
    intro i u k hi h
    simp only [decGo] at h
    rw [if_neg (by omega)] at h
    split at h
    · cases h
    · rename_i h9
      split at h
      · rename_i hc
        have hc256 := UInt8.toNat_lt c
        have hi8 : i < 9 := by
          rcases Nat.lt_or_ge i 9 with h | h
          · exact h
          · exact absurd ⟨by omega, by omega⟩ h9
        obtain ⟨p, hp, he⟩ := Option.map_eq_some_iff.1 h
        obtain ⟨h1, h2, h3⟩ := ih (i + 1) p.1 p.2 (by omega) hp
        simp only [Prod.mk.injEq] at he
        obtain ⟨rfl, rfl⟩ := he
        have hp0 := h3 (by omega)
        have e : 2 ^ (64 - 7 * i) = 128 * 2 ^ (64 - 7 * (i + 1)) := by
          rw [show 64 - 7 * i = 64 - 7 * (i + 1) + 7 from by omega, Nat.pow_add, Nat.mul_comm]
        refine ⟨?_, by rw [e]; omega, fun _ => by omega⟩
        rw [List.take_succ_cons, h1, Enc.enc_big (c.toNat % 128 + 128 * p.1) (by omega)]
        rw [show (c.toNat % 128 + 128 * p.1) / 128 = p.1 from by omega, show (c.toNat % 128 + 128 * p.1) % 128 + 128 = c.toNat from by omega]
        rw [UInt8.ofNat_toNat]
      · rename_i hc
        split at h
        · cases h
        · rename_i h0
          simp only [Option.some.injEq, Prod.mk.injEq] at h
          obtain ⟨rfl, rfl⟩ := h
          refine ⟨?_, ?_, fun _ => by omega⟩
          · rw [Enc.enc_small _ (by omega), UInt8.ofNat_toNat]; simp
          · by_cases hi9 : i = 9
            · subst hi9; omega
            · have : 2 ^ 8 ≤ 2 ^ (64 - 7 * i) := Nat.pow_le_pow_right (by decide) (by omega)
              omega
theorem unzig_I64 {u : Nat} (h : u < 18446744073709551616) : I64 (unzig u) := by
  unfold I64 unzig; split <;> constructor <;> omega
theorem geti_canon {l : List UInt8} {n : Int} {k : Nat} (h : geti l = some (n, k)) : l.take k = encI n ∧ I64 n := by
  unfold geti at h
  obtain ⟨p, hp, he⟩ := Option.map_eq_some_iff.1 h
  simp only [Prod.mk.injEq] at he
  obtain ⟨rfl, rfl⟩ := he
  obtain ⟨h1, h2, _⟩ := decGo_canon l 0 p.1 p.2 (by omega) hp
  exact ⟨by rw [h1, encI, zig_unzig], unzig_I64 (by simpa using h2)⟩
theorem getI_canon {l : List UInt8} {n : Int} {r : List UInt8} (h : getI l = some (n, r)) : l = encI n ++ r ∧ I64 n := by
  unfold getI at h
  obtain ⟨p, hp, he⟩ := Option.map_eq_some_iff.1 h
  simp only [Prod.mk.injEq] at he
  obtain ⟨rfl, rfl⟩ := he
  obtain ⟨h1, h2⟩ := geti_canon (n := p.1) (k := p.2) hp
  exact ⟨by rw [← h1, List.take_append_drop], h2⟩

theorem encI_pos (n : Int) : 0 < (encI n).length := Enc.enc_pos _
theorem encI_le {n : Int} (h : I64 n) : (encI n).length ≤ 10 := Enc.enc_len _ (zig_lt h.1 h.2)
theorem I64_nat {n : Nat} (h : n < 9223372036854775808) : I64 (n : Int) := ⟨by omega, by omega⟩
theorem getw_enc (s : ByteArray) (hs : s.size < 9223372036854775808) (r : List UInt8) : getw (encS s ++ r) = some (s.data.toList, (encS s).length) := by
  have hd := Enc.size_toList s
  have hg := geti_enc s.size (I64_nat hs) (s.data.toList ++ r)
  rw [← List.append_assoc] at hg
  have h1 := getw_some (l := encS s ++ r) (n := (s.size : Int)) (k := (encI s.size).length) (by simpa [encS] using hg) (by simp [encS]; omega)
  rw [h1]
  simp only [Int.toNat_natCast, Option.some.injEq, Prod.mk.injEq, encS, List.append_assoc, List.drop_left, List.length_append, hd, and_true]
  rw [← hd, List.take_left']
  rfl
theorem getS_enc (s : ByteArray) (hs : s.size < 9223372036854775808) (r : List UInt8) : getS (encS s ++ r) = some (s.data.toList, r) := by
  rw [getS_some (getw_enc s hs r)]; simp
theorem elemsGo_enc {α β : Type} (g : List UInt8 → Option (β × Nat)) (f : α → List UInt8) (φ : α → β) : ∀ (l : List α) (r : List UInt8), (∀ x ∈ l, ∀ r, g (f x ++ r) = some (φ x, (f x).length)) → elemsGo g l.length (l.flatMap f ++ r) = some (l.map φ, (l.flatMap f).length)
  | [], r, _ => by simp [elemsGo]
  | x :: l, r, h => by
    have hx := h x (by simp) (l.flatMap f ++ r)
    have ih := elemsGo_enc g f φ l r (fun y hy => h y (by simp [hy]))
    simp only [List.length_cons, List.flatMap_cons, List.append_assoc, elemsGo, hx, List.drop_left, ih, Option.map_some, List.map_cons, List.length_append]
theorem flatMap_ge {α : Type} (f : α → List UInt8) (h : ∀ x, 0 < (f x).length) (l : List α) : l.length ≤ (l.flatMap f).length := by
  induction l with
  | nil => simp
  | cons x l ih => have := h x; simp only [List.flatMap_cons, List.length_append, List.length_cons]; omega
theorem getL_enc {α β : Type} (g : List UInt8 → Option (β × Nat)) (f : α → List UInt8) (φ : α → β) (l : List α) (r : List UInt8) (hp : ∀ x, 0 < (f x).length) (hl : l.length < 9223372036854775808) (h : ∀ x ∈ l, ∀ r, g (f x ++ r) = some (φ x, (f x).length)) :
    getL g (encL f l ++ r) = some (l.map φ, r) := by
  have hg := geti_enc l.length (I64_nat hl) (l.flatMap f ++ r)
  rw [← List.append_assoc] at hg
  have hge := flatMap_ge f hp l
  have he := elemsGo_enc g f φ l r h
  have hd : (encL f l ++ r).drop (encI l.length).length = l.flatMap f ++ r := by simp [encL]
  rw [getL_some (l := encL f l ++ r) (n := (l.length : Int)) (k := (encI l.length).length) (p := (encI l.length).length + (l.flatMap f).length) (ys := l.map φ) (by simpa [encL] using hg) (by simp only [encL, List.length_append]; omega) (by omega)
    (by rw [hd, Int.toNat_natCast, he]; simp)]
  simp [encL]
theorem getInts_enc (l : List Int) (r : List UInt8) (hl : l.length < 9223372036854775808) (h : ∀ x ∈ l, I64 x) : getL geti (encL encI l ++ r) = some (l, r) := by
  rw [getL_enc geti encI id l r encI_pos hl (fun x hx r => geti_enc x (h x hx) r)]; simp
theorem encS_pos (s : ByteArray) : 0 < (encS s).length := by
  have := encI_pos s.size
  simp only [encS, List.length_append]; omega
theorem getTexts_enc (l : List ByteArray) (r : List UInt8) (hl : l.length < 9223372036854775808) (h : ∀ s ∈ l, s.size < 9223372036854775808) : getL getw (encL encS l ++ r) = some (l.map fun s => s.data.toList, r) :=
  getL_enc getw encS (fun s => s.data.toList) l r encS_pos hl (fun x hx r => getw_enc x (h x hx) r)
theorem getB_enc (b : Bool) (r : List UInt8) : getB ((if b then 1 else 0) :: r) = some (b, r) := by cases b <;> rfl
theorem flatMap_le {α : Type} (f : α → List UInt8) (g : α → Nat) (l : List α) (h : ∀ x ∈ l, (f x).length ≤ g x) : (l.flatMap f).length ≤ (l.map g).sum := by
  induction l with
  | nil => simp
  | cons x l ih =>
    have h1 := h x (by simp)
    have h2 := ih fun y hy => h y (by simp [hy])
    simp only [List.flatMap_cons, List.length_append, List.map_cons, List.sum_cons]; omega
theorem encInts_le (l : List Int) (hl : l.length < 9223372036854775808) (h : ∀ x ∈ l, I64 x) : (encL encI l).length ≤ 10 + 10 * l.length := by
  have h1 := encI_le (I64_nat hl)
  have h2 := flatMap_le encI (fun _ => 10) l (fun x hx => encI_le (h x hx))
  have h3 : (l.map fun _ => 10).sum = 10 * l.length := by clear h h1 h2 hl; induction l with
    | nil => rfl
    | cons x l ih => simp only [List.map_cons, List.sum_cons, ih, List.length_cons]; omega
  simp only [encL, List.length_append]; omega
theorem encS_le (s : ByteArray) (hs : s.size < 9223372036854775808) : (encS s).length ≤ 10 + s.size := by
  have h1 := encI_le (I64_nat hs)
  simp only [encS, List.length_append, Enc.size_toList]; omega

theorem getw_canon {l s : List UInt8} {k : Nat} (h : getw l = some (s, k)) : l.take k = encI s.length ++ s := by
  unfold getw at h
  cases hg : geti l with
  | none => rw [hg] at h; cases h
  | some p =>
    obtain ⟨n, j⟩ := p
    rw [hg] at h
    have hb := geti_bounds hg
    have hc := (geti_canon hg).1
    dsimp only at h
    split at h
    · cases h
    · rename_i hn
      simp only [Option.some.injEq, Prod.mk.injEq] at h
      obtain ⟨rfl, rfl⟩ := h
      have hlen : ((l.drop j).take n.toNat).length = n.toNat := by rw [List.length_take, List.length_drop]; omega
      rw [hlen, show ((n.toNat : Nat) : Int) = n from by omega, ← hc, List.take_add]
theorem getS_canon {l s r : List UInt8} (h : getS l = some (s, r)) : l = (encI s.length ++ s) ++ r := by
  unfold getS at h
  obtain ⟨p, hp, he⟩ := Option.map_eq_some_iff.1 h
  simp only [Prod.mk.injEq] at he
  obtain ⟨rfl, rfl⟩ := he
  rw [← getw_canon (s := p.1) (k := p.2) hp, List.take_append_drop]
theorem elemsGo_canon {α : Type} (g : List UInt8 → Option (α × Nat)) (f : α → List UInt8) (hg : ∀ l x k, g l = some (x, k) → l.take k = f x) : ∀ (n : Nat) (l : List UInt8) (xs : List α) (m : Nat), elemsGo g n l = some (xs, m) → xs.length = n ∧ l.take m = xs.flatMap f
  | 0, l, xs, m, h => by
    simp only [elemsGo, Option.some.injEq, Prod.mk.injEq] at h
    obtain ⟨rfl, rfl⟩ := h
    simp
  | n + 1, l, xs, m, h => by
    simp only [elemsGo] at h
    cases hq : g l with
    | none => rw [hq] at h; cases h
    | some p =>
      obtain ⟨x, k⟩ := p
      rw [hq] at h
      dsimp only at h
      obtain ⟨q, hq', he⟩ := Option.map_eq_some_iff.1 h
      simp only [Prod.mk.injEq] at he
      obtain ⟨rfl, rfl⟩ := he
      have ih := elemsGo_canon g f hg n (l.drop k) q.1 q.2 hq'
      refine ⟨by simp [ih.1], ?_⟩
      rw [List.take_add, hg l x k hq, ih.2, List.flatMap_cons]
theorem getL_canon {α : Type} {g : List UInt8 → Option (α × Nat)} (f : α → List UInt8) (hg : ∀ l x k, g l = some (x, k) → l.take k = f x) {l r : List UInt8} {xs : List α} (h : getL g l = some (xs, r)) : l = encL f xs ++ r := by
  unfold getL at h
  cases hq : geti l with
  | none => rw [hq] at h; cases h
  | some p =>
    obtain ⟨n, k⟩ := p
    rw [hq] at h
    have hc := (geti_canon hq).1
    dsimp only at h
    split at h
    · cases h
    · obtain ⟨q, hq', he⟩ := Option.map_eq_some_iff.1 h
      simp only [Prod.mk.injEq] at he
      obtain ⟨rfl, rfl⟩ := he
      have he := elemsGo_canon g f hg n.toNat (l.drop k) q.1 q.2 hq'
      unfold encL
      rw [he.1, show ((n.toNat : Nat) : Int) = n from by omega, ← hc, ← he.2, ← List.take_add, List.take_append_drop]
theorem elemsGo_all {α : Type} (g : List UInt8 → Option (α × Nat)) (Q : α → Prop) (hg : ∀ l x k, g l = some (x, k) → Q x) : ∀ (n : Nat) (l : List UInt8) (xs : List α) (m : Nat), elemsGo g n l = some (xs, m) → ∀ x ∈ xs, Q x
  | 0, l, xs, m, h => by
    simp only [elemsGo, Option.some.injEq, Prod.mk.injEq] at h
    obtain ⟨rfl, rfl⟩ := h
    simp
  | n + 1, l, xs, m, h => by
    simp only [elemsGo] at h
    cases hq : g l with
    | none => rw [hq] at h; cases h
    | some p =>
      obtain ⟨x, k⟩ := p
      rw [hq] at h
      dsimp only at h
      obtain ⟨q, hq', he⟩ := Option.map_eq_some_iff.1 h
      simp only [Prod.mk.injEq] at he
      obtain ⟨rfl, rfl⟩ := he
      have ih := elemsGo_all g Q hg n (l.drop k) q.1 q.2 hq'
      intro y hy
      rcases List.mem_cons.1 hy with rfl | hy
      · exact hg l _ k hq
      · exact ih y hy
theorem getL_all {α : Type} {g : List UInt8 → Option (α × Nat)} {Q : α → Prop} (hg : ∀ l x k, g l = some (x, k) → Q x) {l r : List UInt8} {xs : List α} (h : getL g l = some (xs, r)) : ∀ x ∈ xs, Q x := by
  unfold getL at h
  cases hq : geti l with
  | none => rw [hq] at h; cases h
  | some p =>
    obtain ⟨n, k⟩ := p
    rw [hq] at h
    dsimp only at h
    split at h
    · cases h
    · obtain ⟨q, hq', he⟩ := Option.map_eq_some_iff.1 h
      simp only [Prod.mk.injEq] at he
      obtain ⟨rfl, rfl⟩ := he
      exact elemsGo_all g Q hg n.toNat (l.drop k) q.1 q.2 hq'
theorem getInts_canon {l r : List UInt8} {xs : List Int} (h : getL geti l = some (xs, r)) : l = encL encI xs ++ r ∧ ∀ x ∈ xs, I64 x :=
  ⟨getL_canon encI (fun _ _ _ h => (geti_canon h).1) h, getL_all (fun _ _ _ h => (geti_canon h).2) h⟩
theorem getTexts_canon {l r : List UInt8} {xs : List (List UInt8)} (h : getL getw l = some (xs, r)) : l = encL (fun s => encI s.length ++ s) xs ++ r :=
  getL_canon _ (fun _ _ _ h => getw_canon h) h
theorem getB_canon {l r : List UInt8} {b : Bool} (h : getB l = some (b, r)) : l = (if b then 1 else 0) :: r := by
  cases l with
  | nil => cases h
  | cons c r' =>
    unfold getB at h
    dsimp only at h
    split at h
    · cases h
    · rename_i hc
      simp only [Option.some.injEq, Prod.mk.injEq] at h
      obtain ⟨hb, rfl⟩ := h
      congr 1
      have h2 : c.toNat = 0 ∨ c.toNat = 1 := by omega
      rcases h2 with h2 | h2
      · have : c = 0 := by rw [← UInt8.toNat_inj]; exact h2
        subst this; rw [← hb]; rfl
      · have : c = 1 := by rw [← UInt8.toNat_inj]; exact h2
        subst this; rw [← hb]; rfl
end
end Go.Proofs.YtmlnmcoophnlaaaGreat

/-
  Plain laws: the decoding of integers. No program, no condition.
-/
import Derived.Test.YtpmjfbdnfdeblaaBits
set_option linter.unusedVariables false
set_option linter.unusedSimpArgs false
namespace Go.Proofs.Ytpmjfbdnfdeblaa
open Go.RowKit

/-- the unsigned number that bytes begin with, and how many bytes it has; i bytes were read before -/
def decGo : Nat → List UInt8 → Option (Nat × Nat)
  | _, [] => none
  | i, c :: r => if 10 ≤ i then none else if i = 9 ∧ 1 < c.toNat then none else if 128 ≤ c.toNat then (decGo (i + 1) r).map fun p => (c.toNat % 128 + 128 * p.1, p.2 + 1)
    else if c.toNat = 0 ∧ 0 < i then none else some (c.toNat, 1)
def geti (l : List UInt8) : Option (Int × Nat) := (decGo 0 l).map fun p => (unzig p.1, p.2)

/-- what is known after i bytes -/
def DecRel (l : List UInt8) (i u : Nat) : Prop := decGo 0 l = (decGo i (l.drop i)).map fun p => (u + 2 ^ (7 * i) * p.1, p.2 + i)
theorem DecRel.start (l : List UInt8) : DecRel l 0 0 := by
  unfold DecRel
  cases h : decGo 0 l <;> simp [h]
theorem drop_cons {l : List UInt8} {i : Nat} (h : i < l.length) : l.drop i = l[i] :: l.drop (i + 1) := List.drop_eq_getElem_cons h
theorem DecRel.stop {l : List UInt8} {i u : Nat} (h : DecRel l i u) (hi : i = l.length ∨ 10 ≤ i) : geti l = none := by
  unfold geti
  rw [h]
  cases hd : l.drop i with
  | nil => simp [decGo]
  | cons c r =>
    have hlt : i < l.length := by
      rcases Nat.lt_or_ge i l.length with h1 | h1
      · exact h1
      · rw [List.drop_eq_nil_of_le h1] at hd; cases hd
    simp [decGo, show 10 ≤ i by omega]
theorem DecRel.long {l : List UInt8} {i u : Nat} (h : DecRel l i u) (hl : i < l.length) (h9 : i = 9) (hc : 1 < (l[i]'hl).toNat) : geti l = none := by
  unfold geti
  rw [h, drop_cons hl]
  simp only [decGo]
  rw [if_neg (by omega), if_pos ⟨h9, hc⟩]; rfl
theorem DecRel.go {l : List UInt8} {i u : Nat} (h : DecRel l i u) (hl : i < l.length) (h10 : i < 10) (h9 : ¬ (i = 9 ∧ 1 < (l[i]'hl).toNat)) (hc : 128 ≤ (l[i]'hl).toNat) : DecRel l (i + 1) (u + (l[i]'hl).toNat % 128 * 2 ^ (7 * i)) := by
  unfold DecRel at *
  rw [h, drop_cons hl]
  simp only [decGo]
  rw [if_neg (by omega), if_neg h9, if_pos hc]
  cases decGo (i + 1) (l.drop (i + 1)) with
  | none => rfl
  | some p =>
    simp only [Option.map_some, Option.some.injEq, Prod.mk.injEq]
    constructor
    · have e : 2 ^ (7 * (i + 1)) = 128 * 2 ^ (7 * i) := by rw [Nat.mul_add, Nat.pow_add, Nat.mul_comm]
      rw [e, Nat.mul_add, Nat.mul_comm (2 ^ (7 * i)) ((l[i]'hl).toNat % 128)]
      have : 2 ^ (7 * i) * (128 * p.1) = 128 * 2 ^ (7 * i) * p.1 := by rw [← Nat.mul_assoc, Nat.mul_comm (2 ^ (7 * i)) 128]
      omega
    · omega
theorem DecRel.zero {l : List UInt8} {i u : Nat} (h : DecRel l i u) (hl : i < l.length) (hc : (l[i]'hl).toNat = 0) (hi : 0 < i) : geti l = none := by
  unfold geti
  rw [h, drop_cons hl]
  simp only [decGo]
  by_cases h10 : 10 ≤ i
  · rw [if_pos h10]; rfl
  · rw [if_neg h10, if_neg (by omega), if_neg (by omega), if_pos ⟨hc, hi⟩]; rfl
theorem DecRel.fin {l : List UInt8} {i u : Nat} (h : DecRel l i u) (hl : i < l.length) (h10 : i < 10) (h9 : ¬ (i = 9 ∧ 1 < (l[i]'hl).toNat)) (hc : (l[i]'hl).toNat < 128) (h0 : ¬ ((l[i]'hl).toNat = 0 ∧ 0 < i)) :
    geti l = some (unzig (u + (l[i]'hl).toNat * 2 ^ (7 * i)), i + 1) := by
  unfold geti
  rw [h, drop_cons hl]
  simp only [decGo]
  rw [if_neg (by omega), if_neg h9, if_neg (by omega), if_neg h0]
  simp only [Option.map_some, Option.some.injEq, Prod.mk.injEq]
  exact ⟨by rw [Nat.mul_comm], by omega⟩
/-- the sum stays within 64 bits -/
theorem dec_bound {i u c : Nat} (h10 : i < 10) (h9 : i = 9 → c ≤ 1) (hc : c < 128) (hu : u < 2 ^ (7 * i)) : u + c * 2 ^ (7 * i) < 2 ^ 64 ∧ u + c * 2 ^ (7 * i) < 2 ^ (7 * (i + 1)) ∧ c * 2 ^ (7 * i) < 2 ^ 64 := by
  have e : 2 ^ (7 * (i + 1)) = 128 * 2 ^ (7 * i) := by rw [Nat.mul_add, Nat.pow_add, Nat.mul_comm]
  have h1 : c * 2 ^ (7 * i) ≤ 127 * 2 ^ (7 * i) := Nat.mul_le_mul_right _ (by omega)
  by_cases hi : i = 9
  · subst hi
    have := h9 rfl
    have h2 : c * 2 ^ (7 * 9) ≤ 1 * 2 ^ (7 * 9) := Nat.mul_le_mul_right _ this
    refine ⟨by omega, by omega, by omega⟩
  · have h3 : 2 ^ (7 * i) ≤ 2 ^ (7 * 8) := Nat.pow_le_pow_right (by decide) (by omega)
    refine ⟨by omega, by omega, by omega⟩
theorem or_join {i u c : Nat} (hu : u < 2 ^ (7 * i)) : u ||| c * 2 ^ (7 * i) = u + c * 2 ^ (7 * i) := by
  rw [Nat.or_comm, nat_join (7 * i) _ _ (by simp) hu, Nat.add_comm]
theorem u64_or (i u x : Nat) (h10 : i < 10) (h9 : ¬ (i = 9 ∧ 1 < x)) (hx : x < 256) (hx9 : i = 9 → x < 128) (hu : u < 2 ^ (7 * i)) :
    bits BinOp.or IntKind.u64 (u : Int) (IntKind.u64.wrap (IntKind.u64.wrap (bits BinOp.and IntKind.u8 (x : Int) 127) * 2 ^ (7 * i))) = ((u + x % 128 * 2 ^ (7 * i) : Nat) : Int) := by
  have hb := dec_bound (i := i) (u := u) (c := x % 128) h10 (by omega) (by omega) hu
  have e1 : bits BinOp.and IntKind.u8 (x : Int) 127 = ((x % 128 : Nat) : Int) := by
    rw [show (127 : Int) = ((127 : Nat) : Int) from rfl, u8_and_nat _ _ hx (by decide), nat_mask7]
  have e2 : IntKind.u64.wrap ((x % 128 : Nat) : Int) = ((x % 128 : Nat) : Int) := by rw [wrap_u64]; omega
  have e3 : ((x % 128 : Nat) : Int) * 2 ^ (7 * i) = ((x % 128 * 2 ^ (7 * i) : Nat) : Int) := by simp
  have e4 : IntKind.u64.wrap ((x % 128 * 2 ^ (7 * i) : Nat) : Int) = ((x % 128 * 2 ^ (7 * i) : Nat) : Int) := by
    rw [wrap_u64]; exact Int.emod_eq_of_lt (Int.natCast_nonneg _) (by have := hb.2.2; omega)
  rw [e1, e2, e3, e4, u64_or_nat _ _ (by omega) (by have := hb.2.2; omega), or_join hu]
theorem u64_odd (U : Nat) (h : U < 2 ^ 64) : bits BinOp.and IntKind.u64 (U : Int) 1 = ((U % 2 : Nat) : Int) := by
  rw [show (1 : Int) = ((1 : Nat) : Int) from rfl, u64_and_nat _ _ (by omega) (by decide), nat_mask1]
theorem wrap64_half (U : Nat) (h : U < 2 ^ 64) : wrap64 ((U : Int) / 2) = ((U / 2 : Nat) : Int) := by
  rw [IntWalk.wrap64_in _ (by constructor <;> omega)]; omega
theorem not_i64 (n : Nat) (h : n < 2 ^ 63) : bits BinOp.xor IntKind.i64 (-1) (n : Int) = -(n : Int) - 1 := by
  show IntKind.i64.wrap ((BitVec.ofInt 64 (-1) ^^^ BitVec.ofInt 64 (n : Int)).toNat : Int) = _
  rw [show BitVec.ofInt 64 (-1) = BitVec.allOnes 64 from by decide, BitVec.allOnes_xor, BitVec.toNat_not, ofInt_u64 n (by omega), IntKind.wrap_i64]
  omega
theorem unzig_odd (U : Nat) (h : U < 2 ^ 64) (ho : U % 2 = 1) : bits BinOp.xor IntKind.i64 (-1) (wrap64 ((U : Int) / 2)) = unzig U := by
  rw [wrap64_half U h, not_i64 _ (by omega)]; unfold unzig; rw [if_pos ho]
theorem unzig_even (U : Nat) (h : U < 2 ^ 64) (ho : ¬ U % 2 = 1) : wrap64 ((U : Int) / 2) = unzig U := by
  rw [wrap64_half U h]; unfold unzig; rw [if_neg ho]
theorem geti_bounds {l : List UInt8} {n : Int} {k : Nat} (h : geti l = some (n, k)) : k ≤ l.length ∧ 0 < k := by
  have key : ∀ (l : List UInt8) (i u k : Nat), decGo i l = some (u, k) → k ≤ l.length ∧ 0 < k := by
    intro l
    induction l with
    | nil => intro i u k h; simp [decGo] at h
    | cons c r ih =>
      intro i u k h
      simp only [decGo] at h
      split at h
      · cases h
      · split at h
        · cases h
        · split at h
          · obtain ⟨p, hp, he⟩ := Option.map_eq_some_iff.1 h
            have := ih (i + 1) p.1 p.2 hp
            simp only [Prod.mk.injEq] at he
            simp only [List.length_cons]; omega
          · split at h
            · cases h
            · simp only [Option.some.injEq, Prod.mk.injEq] at h
              simp only [List.length_cons]; omega
  unfold geti at h
  obtain ⟨p, hp, he⟩ := Option.map_eq_some_iff.1 h
  simp only [Prod.mk.injEq] at he
  have := key l 0 p.1 p.2 hp
  omega

/-- an integer and the bytes behind it -/
def getI (l : List UInt8) : Option (Int × List UInt8) := (geti l).map fun p => (p.1, l.drop p.2)
/-- a string, and how many bytes it takes -/
def getw (l : List UInt8) : Option (List UInt8 × Nat) :=
  match geti l with
  | none => none
  | some (n, k) => if n < 0 ∨ ((l.length - k : Nat) : Int) < n then none else some ((l.drop k).take n.toNat, k + n.toNat)
def getS (l : List UInt8) : Option (List UInt8 × List UInt8) := (getw l).map fun p => (p.1, l.drop p.2)
/-- n elements, and how many bytes they take -/
def elemsGo {α : Type} (g : List UInt8 → Option (α × Nat)) : Nat → List UInt8 → Option (List α × Nat)
  | 0, _ => some ([], 0)
  | n + 1, l => match g l with
    | none => none
    | some (x, k) => (elemsGo g n (l.drop k)).map fun p => (x :: p.1, k + p.2)
def getL {α : Type} (g : List UInt8 → Option (α × Nat)) (l : List UInt8) : Option (List α × List UInt8) :=
  match geti l with
  | none => none
  | some (n, k) => if n < 0 ∨ ((l.length - k : Nat) : Int) < n then none else (elemsGo g n.toNat (l.drop k)).map fun p => (p.1, l.drop (k + p.2))
def getB (l : List UInt8) : Option (Bool × List UInt8) :=
  match l with
  | [] => none
  | c :: r => if 1 < c.toNat then none else some (c.toNat == 1, r)

theorem getI_none {l : List UInt8} (h : geti l = none) : getI l = none := by unfold getI; rw [h]; rfl
theorem getI_some {l : List UInt8} {n : Int} {k : Nat} (h : geti l = some (n, k)) : getI l = some (n, l.drop k) := by unfold getI; rw [h]; rfl
theorem getw_none {l : List UInt8} (h : geti l = none) : getw l = none := by unfold getw; rw [h]
theorem getw_bad {l : List UInt8} {n : Int} {k : Nat} (h : geti l = some (n, k)) (h' : n < 0 ∨ ((l.length - k : Nat) : Int) < n) : getw l = none := by unfold getw; rw [h]; exact if_pos h'
theorem getw_some {l : List UInt8} {n : Int} {k : Nat} (h : geti l = some (n, k)) (h' : ¬ (n < 0 ∨ ((l.length - k : Nat) : Int) < n)) : getw l = some ((l.drop k).take n.toNat, k + n.toNat) := by unfold getw; rw [h]; exact if_neg h'
theorem getw_bounds {l s : List UInt8} {k : Nat} (h : getw l = some (s, k)) : k ≤ l.length ∧ 0 < k ∧ s.length ≤ l.length := by
  unfold getw at h
  cases hg : geti l with
  | none => rw [hg] at h; cases h
  | some p =>
    obtain ⟨n, j⟩ := p
    rw [hg] at h
    have hb := geti_bounds hg
    dsimp only at h
    split at h
    · cases h
    · simp only [Option.some.injEq, Prod.mk.injEq] at h
      obtain ⟨rfl, rfl⟩ := h
      refine ⟨by omega, by omega, ?_⟩
      simp only [List.length_take, List.length_drop]; omega
theorem getS_none {l : List UInt8} (h : getw l = none) : getS l = none := by unfold getS; rw [h]; rfl
theorem getS_some {l s : List UInt8} {k : Nat} (h : getw l = some (s, k)) : getS l = some (s, l.drop k) := by unfold getS; rw [h]; rfl

/-- a list is read: j elements are there, p bytes are taken -/
def ElRel {α : Type} (g : List UInt8 → Option (α × Nat)) (l : List UInt8) (N at0 j : Nat) (ys : List α) (p : Nat) : Prop :=
  ys.length = j ∧ p ≤ l.length ∧ at0 ≤ p ∧ elemsGo g N (l.drop at0) = (elemsGo g (N - j) (l.drop p)).map fun q => (ys ++ q.1, (p - at0) + q.2)
section
variable {α : Type} {g : List UInt8 → Option (α × Nat)} {l : List UInt8} {N at0 j p : Nat} {ys : List α}
theorem ElRel.start (h : at0 ≤ l.length) : ElRel g l N at0 0 [] at0 := by
  refine ⟨rfl, h, Nat.le_refl _, ?_⟩
  cases elemsGo g N (l.drop at0) <;> simp_all
theorem ElRel.step (h : ElRel g l N at0 j ys p) (hj : j < N) {x : α} {k : Nat} (hg : g (l.drop p) = some (x, k)) (hk : k ≤ l.length - p) : ElRel g l N at0 (j + 1) (ys ++ [x]) (p + k) := by
  obtain ⟨h1, h2, h3, h4⟩ := h
  refine ⟨by simp [h1], by omega, by omega, ?_⟩
  rw [h4]
  obtain ⟨m, hm⟩ : ∃ m, N - j = m + 1 := ⟨N - j - 1, by omega⟩
  have hm' : N - (j + 1) = m := by omega
  rw [hm, hm']
  simp only [elemsGo, hg, List.drop_drop]
  cases elemsGo g m (l.drop (p + k)) with
  | none => rfl
  | some q => simp only [Option.map_some, List.append_assoc, List.singleton_append, Option.some.injEq, Prod.mk.injEq, true_and]; omega
theorem ElRel.bad (h : ElRel g l N at0 j ys p) (hj : j < N) (hg : g (l.drop p) = none) : elemsGo g N (l.drop at0) = none := by
  obtain ⟨h1, h2, h3, h4⟩ := h
  rw [h4]
  obtain ⟨m, hm⟩ : ∃ m, N - j = m + 1 := ⟨N - j - 1, by omega⟩
  rw [hm]
  simp only [elemsGo, hg, Option.map_none]
theorem ElRel.fin (h : ElRel g l N at0 N ys p) : elemsGo g N (l.drop at0) = some (ys, p - at0) := by
  obtain ⟨h1, h2, h3, h4⟩ := h
  rw [h4, Nat.sub_self]
  simp [elemsGo]
theorem getL_none (h : geti l = none) : getL g l = none := by unfold getL; rw [h]
theorem getL_bad {n : Int} {k : Nat} (h : geti l = some (n, k)) (h' : n < 0 ∨ ((l.length - k : Nat) : Int) < n) : getL g l = none := by unfold getL; rw [h]; exact if_pos h'
theorem getL_stop {n : Int} {k : Nat} (h : geti l = some (n, k)) (h' : elemsGo g n.toNat (l.drop k) = none) : getL g l = none := by unfold getL; rw [h]; dsimp only; rw [h']; split <;> rfl
theorem getL_some {n : Int} {k : Nat} (h : geti l = some (n, k)) (h' : ¬ (n < 0 ∨ ((l.length - k : Nat) : Int) < n)) (hp : k ≤ p) (hr : elemsGo g n.toNat (l.drop k) = some (ys, p - k)) : getL g l = some (ys, l.drop p) := by
  unfold getL; rw [h]; dsimp only; rw [if_neg h', hr]
  simp only [Option.map_some, Option.some.injEq, Prod.mk.injEq, true_and]
  congr 1; omega
end
end Go.Proofs.Ytpmjfbdnfdeblaa

/-
  Plain: the escaped form of a name, and back.
-/
import Derived.Test.YtimdcnickfaddaaBits
set_option linter.unusedVariables false
set_option linter.unusedSimpArgs false
namespace Go.Proofs.Ytimdcnickfaddaa
open Go.RowKit

/-- a byte that stands for itself -/
def plainB (c : UInt8) : Bool := (decide (97 ≤ c.toNat) && decide (c.toNat ≤ 122)) || (decide (48 ≤ c.toNat) && decide (c.toNat ≤ 57))
def hexN (n : Nat) : Nat := if n < 10 then 48 + n else 87 + n
def hexB (n : Nat) : UInt8 := UInt8.ofNat (hexN n)
def escB (c : UInt8) : List UInt8 := if plainB c then [c] else [61, hexB (c.toNat / 16), hexB (c.toNat % 16)]
def escL (l : List UInt8) : List UInt8 := l.flatMap escB
/-- a digit's value, 0 for another byte -/
def digV (c : UInt8) : Nat := if 48 ≤ c.toNat ∧ c.toNat ≤ 57 then c.toNat - 48 else if 97 ≤ c.toNat ∧ c.toNat ≤ 102 then c.toNat - 87 else 0
def unescL : List UInt8 → List UInt8
  | [] => []
  | [c] => [c]
  | [c, d] => [c, d]
  | c :: a :: b :: r => if c = 61 then UInt8.ofNat (digV a * 16 + digV b) :: unescL r else c :: unescL (a :: b :: r)
theorem byte_all {p : UInt8 → Prop} (h : ∀ n : Fin 256, p (UInt8.ofNat n.val)) (c : UInt8) : p c := by
  have := h ⟨c.toNat, c.toNat_lt⟩
  simpa using this
theorem hex_back (c : UInt8) : UInt8.ofNat (digV (hexB (c.toNat / 16)) * 16 + digV (hexB (c.toNat % 16))) = c := by
  revert c
  exact byte_all (by decide +kernel)
theorem plain_not (c : UInt8) : plainB c = true → c ≠ 61 ∧ c ≠ 95 := by
  revert c
  exact byte_all (by decide +kernel)
theorem esc_not (c : UInt8) : ∀ d ∈ escB c, d ≠ 95 := by
  revert c
  exact byte_all (by decide +kernel)
theorem unescL_plain (c : UInt8) (h : c ≠ 61) (r : List UInt8) : unescL (c :: r) = c :: unescL r := by
  match r with
  | [] => rfl
  | [d] => rfl
  | a :: b :: r =>
    show (if c = 61 then UInt8.ofNat (digV a * 16 + digV b) :: unescL r else c :: unescL (a :: b :: r)) = _
    rw [if_neg h]
theorem unesc_esc : ∀ l : List UInt8, unescL (escL l) = l
  | [] => rfl
  | c :: l => by
    have ih := unesc_esc l
    have hs : escL (c :: l) = escB c ++ escL l := by simp [escL]
    rw [hs]
    unfold escB
    by_cases hp : plainB c = true
    · rw [if_pos hp, List.singleton_append, unescL_plain c (plain_not c hp).1, ih]
    · rw [if_neg hp]
      show unescL (61 :: hexB (c.toNat / 16) :: hexB (c.toNat % 16) :: escL l) = c :: l
      unfold unescL
      rw [if_pos rfl, hex_back, ih]
theorem escL_not (l : List UInt8) : ∀ d ∈ escL l, d ≠ 95 := fun d hd => by
  obtain ⟨c, _, hc⟩ := List.mem_flatMap.1 hd
  exact esc_not c d hc
theorem escL_inj {a b : List UInt8} (h : escL a = escL b) : a = b := by rw [← unesc_esc a, h, unesc_esc]
theorem escL_nil {l : List UInt8} : escL l = [] ↔ l = [] := ⟨fun h => escL_inj (h.trans rfl), fun h => by rw [h]; rfl⟩
theorem escL_length (l : List UInt8) : l.length ≤ (escL l).length ∧ (escL l).length ≤ 3 * l.length := by
  induction l with
  | nil => exact ⟨Nat.le_refl _, Nat.le_refl _⟩
  | cons c l ih =>
    have hs : escL (c :: l) = escB c ++ escL l := by simp [escL]
    have hb : 1 ≤ (escB c).length ∧ (escB c).length ≤ 3 := by unfold escB; split <;> simp
    rw [hs, List.length_append, List.length_cons]
    omega
theorem escL_append (a b : List UInt8) : escL (a ++ b) = escL a ++ escL b := by simp [escL]

/-- the reference's way back -/
def hexOk (c : UInt8) : Bool := (decide (48 ≤ c.toNat) && decide (c.toNat ≤ 57)) || (decide (97 ≤ c.toNat) && decide (c.toNat ≤ 102))
def refUnesc : List UInt8 → Option (List UInt8)
  | [] => some []
  | [c] => if c = 61 then none else some [c]
  | [c, d] => if c = 61 then none else (refUnesc [d]).map (c :: ·)
  | c :: a :: b :: r => if c = 61 then (if hexOk a && hexOk b then (refUnesc r).map (UInt8.ofNat (digV a * 16 + digV b) :: ·) else none) else (refUnesc (a :: b :: r)).map (c :: ·)
theorem refUnesc_some : ∀ {l n : List UInt8}, refUnesc l = some n → unescL l = n
  | [], n, h => by injection h
  | [c], n, h => by
    unfold refUnesc at h
    split at h
    · cases h
    · injection h
  | [c, d], n, h => by
    simp only [refUnesc] at h
    split at h
    · cases h
    · split at h
      · cases h
      · injection h
  | c :: a :: b :: r, n, h => by
    unfold refUnesc at h
    split at h
    · next e =>
      split at h
      · cases hr : refUnesc r with
        | none => rw [hr] at h; cases h
        | some m =>
          rw [hr] at h
          injection h with h
          subst h
          unfold unescL
          rw [if_pos e, refUnesc_some hr]
      · cases h
    · next e =>
      cases hr : refUnesc (a :: b :: r) with
      | none => rw [hr] at h; cases h
      | some m =>
        rw [hr] at h
        injection h with h
        subst h
        rw [unescL_plain c e, refUnesc_some hr]
theorem refUnesc_plain (c : UInt8) (h : c ≠ 61) (r : List UInt8) : refUnesc (c :: r) = (refUnesc r).map (c :: ·) := by
  match r with
  | [] => simp [refUnesc, h]
  | [d] =>
    show (if c = 61 then none else (refUnesc [d]).map (c :: ·)) = _
    rw [if_neg h]
  | a :: b :: r =>
    show (if c = 61 then _ else (refUnesc (a :: b :: r)).map (c :: ·)) = _
    rw [if_neg h]
theorem hex_ok (c : UInt8) : (hexOk (hexB (c.toNat / 16)) && hexOk (hexB (c.toNat % 16))) = true := by
  revert c
  exact byte_all (by decide +kernel)
theorem refUnesc_esc : ∀ l : List UInt8, refUnesc (escL l) = some l
  | [] => rfl
  | c :: l => by
    have ih := refUnesc_esc l
    have hs : escL (c :: l) = escB c ++ escL l := by simp [escL]
    rw [hs]
    unfold escB
    by_cases hp : plainB c = true
    · rw [if_pos hp, List.singleton_append, refUnesc_plain c (plain_not c hp).1, ih]; rfl
    · rw [if_neg hp]
      show refUnesc (61 :: hexB (c.toNat / 16) :: hexB (c.toNat % 16) :: escL l) = some (c :: l)
      unfold refUnesc
      rw [if_pos rfl, if_pos (hex_ok c), hex_back, ih]
      rfl
/-- what stands in front of the first c, and behind it (strings.Cut) -/
def cutL (c : UInt8) : List UInt8 → Option (List UInt8 × List UInt8)
  | [] => none
  | x :: r => if x = c then some ([], r) else (cutL c r).map fun p => (x :: p.1, p.2)
theorem cutL_some {c : UInt8} : ∀ {l a b : List UInt8}, cutL c l = some (a, b) → l = a ++ c :: b ∧ ∀ x ∈ a, x ≠ c
  | [], _, _, h => by cases h
  | x :: r, a, b, h => by
    unfold cutL at h
    split at h
    · next e => injection h with h; injection h with h1 h2; subst h1 h2 e; exact ⟨rfl, by simp⟩
    · next e =>
      cases hc : cutL c r with
      | none => rw [hc] at h; cases h
      | some p =>
        rw [hc] at h
        injection h with h; injection h with h1 h2
        subst h1 h2
        have := cutL_some (a := p.1) (b := p.2) hc
        refine ⟨by rw [List.cons_append, ← this.1], fun y hy => ?_⟩
        rcases List.mem_cons.1 hy with rfl | hy
        · exact e
        · exact this.2 y hy
theorem cutL_of {c : UInt8} : ∀ {a : List UInt8} (b : List UInt8), (∀ x ∈ a, x ≠ c) → cutL c (a ++ c :: b) = some (a, b)
  | [], b, _ => by simp [cutL]
  | x :: a, b, h => by
    have hx : x ≠ c := h x (by simp)
    rw [List.cons_append]
    unfold cutL
    rw [if_neg hx, cutL_of b (fun y hy => h y (by simp [hy]))]
    rfl
end Go.Proofs.Ytimdcnickfaddaa

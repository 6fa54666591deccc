/-
  Plain laws: what is encoded is decoded again, and what is decoded was encoded. No program, no condition.
-/
import Derived.Test.YtpmjfbdnfdeblaaDec
set_option linter.unusedVariables false
set_option linter.unusedSimpArgs false
namespace Go.Proofs.Ytpmjfbdnfdeblaa

theorem pow128 (i : Nat) : 128 ^ (i + 1) = 128 * 128 ^ i := by rw [Nat.pow_succ, Nat.mul_comm]
theorem decGo_enc (r : List UInt8) : ∀ (k i u : Nat), u < k → i ≤ 9 → u * 128 ^ i < 18446744073709551616 → (0 < i → 0 < u) → decGo i (Enc.enc u ++ r) = some (u, (Enc.enc u).length)
  | 0, _, _, h, _, _, _ => absurd h (by omega)
  | k + 1, i, u, hk, hi, hu, h0 => by
    by_cases hs : u < 128
    · rw [Enc.enc_small u hs]
      have hb := byte_of u (by omega)
      simp only [List.cons_append, List.nil_append, decGo]
      have h9 : ¬ (i = 9 ∧ 1 < (UInt8.ofNat u).toNat) := by
        rintro ⟨rfl, h1⟩
        rw [hb] at h1
        have : 2 * 128 ^ 9 ≤ u * 128 ^ 9 := Nat.mul_le_mul_right _ h1
        omega
      rw [if_neg (by omega), if_neg h9, hb, if_neg (by omega), if_neg (by omega)]
      rfl
    · have hb := byte_of (u % 128 + 128) (by omega)
      have hi8 : i < 9 := by
        rcases Nat.lt_or_ge i 9 with h | h
        · exact h
        · obtain rfl : i = 9 := by omega
          have : 128 * 128 ^ 9 ≤ u * 128 ^ 9 := Nat.mul_le_mul_right _ (by omega)
          omega
      have hmul : u / 128 * 128 ^ (i + 1) ≤ u * 128 ^ i := by
        rw [pow128, ← Nat.mul_assoc]
        exact Nat.mul_le_mul_right _ (Nat.div_mul_le_self u 128)
      have ih := decGo_enc r k (i + 1) (u / 128) (by omega) (by omega) (by omega) (fun _ => by omega)
      rw [Enc.enc_big u hs]
      simp only [List.cons_append, decGo]
      rw [if_neg (by omega), if_neg (by omega), hb, if_pos (by omega), ih]
      simp only [Option.map_some, List.length_cons, Option.some.injEq, Prod.mk.injEq, hb, and_true]
      omega
theorem geti_enc (n : Int) (hn : I64 n) (r : List UInt8) : geti (encI n ++ r) = some (n, (encI n).length) := by
  unfold geti encI
  rw [decGo_enc r (zig n + 1) 0 (zig n) (by omega) (by omega) (by have := zig_lt hn.1 hn.2; omega) (by omega)]
  simp [unzig_zig]
theorem getI_enc (n : Int) (hn : I64 n) (r : List UInt8) : getI (encI n ++ r) = some (n, r) := by
  rw [getI_some (geti_enc n hn r)]; simp

theorem decGo_canon : ∀ (l : List UInt8) (i u k : Nat), i ≤ 9 → decGo i l = some (u, k) → l.take k = Enc.enc u ∧ u < 2 ^ (64 - 7 * i) ∧ (0 < i → 0 < u) := by
  intro l
  induction l with
  | nil => intro i u k _ h; simp [decGo] at h
  | cons c r ih =>
    intro i u k hi h
    simp only [decGo] at h
    rw [if_neg (by omega)] at h
    split at h
    · cases h
    · rename_i h9
      split at h
      · rename_i hc
        have hc256 := UInt8.toNat_lt c
        have hi8 : i < 9 := by
          rcases Nat.lt_or_ge i 9 with h | h
          · exact h
          · exact absurd ⟨by omega, by omega⟩ h9
        obtain ⟨p, hp, he⟩ := Option.map_eq_some_iff.1 h
        obtain ⟨h1, h2, h3⟩ := ih (i + 1) p.1 p.2 (by omega) hp
        simp only [Prod.mk.injEq] at he
        obtain ⟨rfl, rfl⟩ := he
        have hp0 := h3 (by omega)
        have e : 2 ^ (64 - 7 * i) = 128 * 2 ^ (64 - 7 * (i + 1)) := by
          rw [show 64 - 7 * i = 64 - 7 * (i + 1) + 7 from by omega, Nat.pow_add, Nat.mul_comm]
        refine ⟨?_, by rw [e]; omega, fun _ => by omega⟩
        rw [List.take_succ_cons, h1, Enc.enc_big (c.toNat % 128 + 128 * p.1) (by omega)]
        rw [show (c.toNat % 128 + 128 * p.1) / 128 = p.1 from by omega, show (c.toNat % 128 + 128 * p.1) % 128 + 128 = c.toNat from by omega]
        rw [UInt8.ofNat_toNat]
      · rename_i hc
        split at h
        · cases h
        · rename_i h0
          simp only [Option.some.injEq, Prod.mk.injEq] at h
          obtain ⟨rfl, rfl⟩ := h
          refine ⟨?_, ?_, fun _ => by omega⟩
          · rw [Enc.enc_small _ (by omega), UInt8.ofNat_toNat]; simp
          · by_cases hi9 : i = 9
            · subst hi9; omega
            · have : 2 ^ 8 ≤ 2 ^ (64 - 7 * i) := Nat.pow_le_pow_right (by decide) (by omega)
              omega
theorem unzig_I64 {u : Nat} (h : u < 18446744073709551616) : I64 (unzig u) := by
  unfold I64 unzig; split <;> constructor <;> omega
theorem geti_canon {l : List UInt8} {n : Int} {k : Nat} (h : geti l = some (n, k)) : l.take k = encI n ∧ I64 n := by
  unfold geti at h
  obtain ⟨p, hp, he⟩ := Option.map_eq_some_iff.1 h
  simp only [Prod.mk.injEq] at he
  obtain ⟨rfl, rfl⟩ := he
  obtain ⟨h1, h2, _⟩ := decGo_canon l 0 p.1 p.2 (by omega) hp
  exact ⟨by rw [h1, encI, zig_unzig], unzig_I64 (by simpa using h2)⟩
theorem getI_canon {l : List UInt8} {n : Int} {r : List UInt8} (h : getI l = some (n, r)) : l = encI n ++ r ∧ I64 n := by
  unfold getI at h
  obtain ⟨p, hp, he⟩ := Option.map_eq_some_iff.1 h
  simp only [Prod.mk.injEq] at he
  obtain ⟨rfl, rfl⟩ := he
  obtain ⟨h1, h2⟩ := geti_canon (n := p.1) (k := p.2) hp
  exact ⟨by rw [← h1, List.take_append_drop], h2⟩

theorem encI_pos (n : Int) : 0 < (encI n).length := Enc.enc_pos _
theorem encI_le {n : Int} (h : I64 n) : (encI n).length ≤ 10 := Enc.enc_len _ (zig_lt h.1 h.2)
theorem I64_nat {n : Nat} (h : n < 9223372036854775808) : I64 (n : Int) := ⟨by omega, by omega⟩
theorem getw_enc (s : ByteArray) (hs : s.size < 9223372036854775808) (r : List UInt8) : getw (encS s ++ r) = some (s.data.toList, (encS s).length) := by
  have hd := Enc.size_toList s
  have hg := geti_enc s.size (I64_nat hs) (s.data.toList ++ r)
  rw [← List.append_assoc] at hg
  have h1 := getw_some (l := encS s ++ r) (n := (s.size : Int)) (k := (encI s.size).length) (by simpa [encS] using hg) (by simp [encS]; omega)
  rw [h1]
  simp only [Int.toNat_natCast, Option.some.injEq, Prod.mk.injEq, encS, List.append_assoc, List.drop_left, List.length_append, hd, and_true]
  rw [← hd, List.take_left']
  rfl
theorem getS_enc (s : ByteArray) (hs : s.size < 9223372036854775808) (r : List UInt8) : getS (encS s ++ r) = some (s.data.toList, r) := by
  rw [getS_some (getw_enc s hs r)]; simp
theorem elemsGo_enc {α β : Type} (g : List UInt8 → Option (β × Nat)) (f : α → List UInt8) (φ : α → β) : ∀ (l : List α) (r : List UInt8), (∀ x ∈ l, ∀ r, g (f x ++ r) = some (φ x, (f x).length)) → elemsGo g l.length (l.flatMap f ++ r) = some (l.map φ, (l.flatMap f).length)
  | [], r, _ => by simp [elemsGo]
  | x :: l, r, h => by
    have hx := h x (by simp) (l.flatMap f ++ r)
    have ih := elemsGo_enc g f φ l r (fun y hy => h y (by simp [hy]))
    simp only [List.length_cons, List.flatMap_cons, List.append_assoc, elemsGo, hx, List.drop_left, ih, Option.map_some, List.map_cons, List.length_append]
theorem flatMap_ge {α : Type} (f : α → List UInt8) (h : ∀ x, 0 < (f x).length) (l : List α) : l.length ≤ (l.flatMap f).length := by
  induction l with
  | nil => simp
  | cons x l ih => have := h x; simp only [List.flatMap_cons, List.length_append, List.length_cons]; omega
theorem getL_enc {α β : Type} (g : List UInt8 → Option (β × Nat)) (f : α → List UInt8) (φ : α → β) (l : List α) (r : List UInt8) (hp : ∀ x, 0 < (f x).length) (hl : l.length < 9223372036854775808) (h : ∀ x ∈ l, ∀ r, g (f x ++ r) = some (φ x, (f x).length)) :
    getL g (encL f l ++ r) = some (l.map φ, r) := by
  have hg := geti_enc l.length (I64_nat hl) (l.flatMap f ++ r)
  rw [← List.append_assoc] at hg
  have hge := flatMap_ge f hp l
  have he := elemsGo_enc g f φ l r h
  have hd : (encL f l ++ r).drop (encI l.length).length = l.flatMap f ++ r := by simp [encL]
  rw [getL_some (l := encL f l ++ r) (n := (l.length : Int)) (k := (encI l.length).length) (p := (encI l.length).length + (l.flatMap f).length) (ys := l.map φ) (by simpa [encL] using hg) (by simp only [encL, List.length_append]; omega) (by omega)
    (by rw [hd, Int.toNat_natCast, he]; simp)]
  simp [encL]
theorem getInts_enc (l : List Int) (r : List UInt8) (hl : l.length < 9223372036854775808) (h : ∀ x ∈ l, I64 x) : getL geti (encL encI l ++ r) = some (l, r) := by
  rw [getL_enc geti encI id l r encI_pos hl (fun x hx r => geti_enc x (h x hx) r)]; simp
theorem encS_pos (s : ByteArray) : 0 < (encS s).length := by
  have := encI_pos s.size
  simp only [encS, List.length_append]; omega
theorem getTexts_enc (l : List ByteArray) (r : List UInt8) (hl : l.length < 9223372036854775808) (h : ∀ s ∈ l, s.size < 9223372036854775808) : getL getw (encL encS l ++ r) = some (l.map fun s => s.data.toList, r) :=
  getL_enc getw encS (fun s => s.data.toList) l r encS_pos hl (fun x hx r => getw_enc x (h x hx) r)
theorem getB_enc (b : Bool) (r : List UInt8) : getB ((if b then 1 else 0) :: r) = some (b, r) := by cases b <;> rfl
theorem flatMap_le {α : Type} (f : α → List UInt8) (g : α → Nat) (l : List α) (h : ∀ x ∈ l, (f x).length ≤ g x) : (l.flatMap f).length ≤ (l.map g).sum := by
  induction l with
  | nil => simp
  | cons x l ih =>
    have h1 := h x (by simp)
    have h2 := ih fun y hy => h y (by simp [hy])
    simp only [List.flatMap_cons, List.length_append, List.map_cons, List.sum_cons]; omega
theorem encInts_le (l : List Int) (hl : l.length < 9223372036854775808) (h : ∀ x ∈ l, I64 x) : (encL encI l).length ≤ 10 + 10 * l.length := by
  have h1 := encI_le (I64_nat hl)
  have h2 := flatMap_le encI (fun _ => 10) l (fun x hx => encI_le (h x hx))
  have h3 : (l.map fun _ => 10).sum = 10 * l.length := by clear h h1 h2 hl; induction l with
    | nil => rfl
    | cons x l ih => simp only [List.map_cons, List.sum_cons, ih, List.length_cons]; omega
  simp only [encL, List.length_append]; omega
theorem encS_le (s : ByteArray) (hs : s.size < 9223372036854775808) : (encS s).length ≤ 10 + s.size := by
  have h1 := encI_le (I64_nat hs)
  simp only [encS, List.length_append, Enc.size_toList]; omega

theorem getw_canon {l s : List UInt8} {k : Nat} (h : getw l = some (s, k)) : l.take k = encI s.length ++ s := by
  unfold getw at h
  cases hg : geti l with
  | none => rw [hg] at h; cases h
  | some p =>
    obtain ⟨n, j⟩ := p
    rw [hg] at h
    have hb := geti_bounds hg
    have hc := (geti_canon hg).1
    dsimp only at h
    split at h
    · cases h
    · rename_i hn
      simp only [Option.some.injEq, Prod.mk.injEq] at h
      obtain ⟨rfl, rfl⟩ := h
      have hlen : ((l.drop j).take n.toNat).length = n.toNat := by rw [List.length_take, List.length_drop]; omega
      rw [hlen, show ((n.toNat : Nat) : Int) = n from by omega, ← hc, List.take_add]
theorem getS_canon {l s r : List UInt8} (h : getS l = some (s, r)) : l = (encI s.length ++ s) ++ r := by
  unfold getS at h
  obtain ⟨p, hp, he⟩ := Option.map_eq_some_iff.1 h
  simp only [Prod.mk.injEq] at he
  obtain ⟨rfl, rfl⟩ := he
  rw [← getw_canon (s := p.1) (k := p.2) hp, List.take_append_drop]
theorem elemsGo_canon {α : Type} (g : List UInt8 → Option (α × Nat)) (f : α → List UInt8) (hg : ∀ l x k, g l = some (x, k) → l.take k = f x) : ∀ (n : Nat) (l : List UInt8) (xs : List α) (m : Nat), elemsGo g n l = some (xs, m) → xs.length = n ∧ l.take m = xs.flatMap f
  | 0, l, xs, m, h => by
    simp only [elemsGo, Option.some.injEq, Prod.mk.injEq] at h
    obtain ⟨rfl, rfl⟩ := h
    simp
  | n + 1, l, xs, m, h => by
    simp only [elemsGo] at h
    cases hq : g l with
    | none => rw [hq] at h; cases h
    | some p =>
      obtain ⟨x, k⟩ := p
      rw [hq] at h
      dsimp only at h
      obtain ⟨q, hq', he⟩ := Option.map_eq_some_iff.1 h
      simp only [Prod.mk.injEq] at he
      obtain ⟨rfl, rfl⟩ := he
      have ih := elemsGo_canon g f hg n (l.drop k) q.1 q.2 hq'
      refine ⟨by simp [ih.1], ?_⟩
      rw [List.take_add, hg l x k hq, ih.2, List.flatMap_cons]
theorem getL_canon {α : Type} {g : List UInt8 → Option (α × Nat)} (f : α → List UInt8) (hg : ∀ l x k, g l = some (x, k) → l.take k = f x) {l r : List UInt8} {xs : List α} (h : getL g l = some (xs, r)) : l = encL f xs ++ r := by
  unfold getL at h
  cases hq : geti l with
  | none => rw [hq] at h; cases h
  | some p =>
    obtain ⟨n, k⟩ := p
    rw [hq] at h
    have hc := (geti_canon hq).1
    dsimp only at h
    split at h
    · cases h
    · obtain ⟨q, hq', he⟩ := Option.map_eq_some_iff.1 h
      simp only [Prod.mk.injEq] at he
      obtain ⟨rfl, rfl⟩ := he
      have he := elemsGo_canon g f hg n.toNat (l.drop k) q.1 q.2 hq'
      unfold encL
      rw [he.1, show ((n.toNat : Nat) : Int) = n from by omega, ← hc, ← he.2, ← List.take_add, List.take_append_drop]
theorem elemsGo_all {α : Type} (g : List UInt8 → Option (α × Nat)) (Q : α → Prop) (hg : ∀ l x k, g l = some (x, k) → Q x) : ∀ (n : Nat) (l : List UInt8) (xs : List α) (m : Nat), elemsGo g n l = some (xs, m) → ∀ x ∈ xs, Q x
  | 0, l, xs, m, h => by
    simp only [elemsGo, Option.some.injEq, Prod.mk.injEq] at h
    obtain ⟨rfl, rfl⟩ := h
    simp
  | n + 1, l, xs, m, h => by
    simp only [elemsGo] at h
    cases hq : g l with
    | none => rw [hq] at h; cases h
    | some p =>
      obtain ⟨x, k⟩ := p
      rw [hq] at h
      dsimp only at h
      obtain ⟨q, hq', he⟩ := Option.map_eq_some_iff.1 h
      simp only [Prod.mk.injEq] at he
      obtain ⟨rfl, rfl⟩ := he
      have ih := elemsGo_all g Q hg n (l.drop k) q.1 q.2 hq'
      intro y hy
      rcases List.mem_cons.1 hy with rfl | hy
      · exact hg l _ k hq
      · exact ih y hy
theorem getL_all {α : Type} {g : List UInt8 → Option (α × Nat)} {Q : α → Prop} (hg : ∀ l x k, g l = some (x, k) → Q x) {l r : List UInt8} {xs : List α} (h : getL g l = some (xs, r)) : ∀ x ∈ xs, Q x := by
  unfold getL at h
  cases hq : geti l with
  | none => rw [hq] at h; cases h
  | some p =>
    obtain ⟨n, k⟩ := p
    rw [hq] at h
    dsimp only at h
    split at h
    · cases h
    · obtain ⟨q, hq', he⟩ := Option.map_eq_some_iff.1 h
      simp only [Prod.mk.injEq] at he
      obtain ⟨rfl, rfl⟩ := he
      exact elemsGo_all g Q hg n.toNat (l.drop k) q.1 q.2 hq'
theorem getInts_canon {l r : List UInt8} {xs : List Int} (h : getL geti l = some (xs, r)) : l = encL encI xs ++ r ∧ ∀ x ∈ xs, I64 x :=
  ⟨getL_canon encI (fun _ _ _ h => (geti_canon h).1) h, getL_all (fun _ _ _ h => (geti_canon h).2) h⟩
theorem getTexts_canon {l r : List UInt8} {xs : List (List UInt8)} (h : getL getw l = some (xs, r)) : l = encL (fun s => encI s.length ++ s) xs ++ r :=
  getL_canon _ (fun _ _ _ h => getw_canon h) h
theorem getB_canon {l r : List UInt8} {b : Bool} (h : getB l = some (b, r)) : l = (if b then 1 else 0) :: r := by
  cases l with
  | nil => cases h
  | cons c r' =>
    unfold getB at h
    dsimp only at h
    split at h
    · cases h
    · rename_i hc
      simp only [Option.some.injEq, Prod.mk.injEq] at h
      obtain ⟨hb, rfl⟩ := h
      congr 1
      have h2 : c.toNat = 0 ∨ c.toNat = 1 := by omega
      rcases h2 with h2 | h2
      · have : c = 0 := by rw [← UInt8.toNat_inj]; exact h2
        subst this; rw [← hb]; rfl
      · have : c = 1 := by rw [← UInt8.toNat_inj]; exact h2
        subst this; rw [← hb]; rfl
end Go.Proofs.Ytpmjfbdnfdeblaa

/-
  Plain: what User, Back, Check and Bind answer; right lists stay right.
-/
import Derived.Test.YtimdcnickfaddaaBridgeR
set_option linter.unusedVariables false
set_option linter.unusedSimpArgs false
namespace Go.Proofs.Ytimdcnickfaddaa
open Go.RowKit
open Classical

/-! ### Cutting at an index -/
theorem cutL_none {c : UInt8} : ∀ {l : List UInt8}, (∀ x ∈ l, x ≠ c) → cutL c l = none
  | [], _ => rfl
  | x :: l, h => by
    unfold cutL
    rw [if_neg (h x (by simp)), cutL_none (fun y hy => h y (by simp [hy]))]
    rfl
theorem cutL_at {c : UInt8} {l : List UInt8} {k : Nat} (h : ∀ x ∈ l.take k, x ≠ c) (hk : l[k]? = some c) : cutL c l = some (l.take k, l.drop (k + 1)) := by
  have hlt := (List.getElem?_eq_some_iff.1 hk).1
  have he := (List.getElem?_eq_some_iff.1 hk).2
  have hs : l = l.take k ++ c :: l.drop (k + 1) := by
    conv => lhs; rw [← List.take_append_drop k l, List.drop_eq_getElem_cons hlt, he]
  conv => lhs; rw [hs]
  exact cutL_of _ h
theorem parts_cut {m : UInt8} {r a b : List UInt8} (hc : cutL 58 r = some (a, b)) (a' b' : List UInt8) : Parts m (m :: r) a' b' ↔ (a' = a ∧ b' = b ∧ localOk a ∧ serverOk b) := by
  constructor
  · intro h
    obtain ⟨r', e, hc'⟩ := h.cut
    injection e with _ e
    subst e
    rw [hc] at hc'
    injection hc' with hc'
    injection hc' with e1 e2
    subst e1 e2
    exact ⟨rfl, rfl, h.2⟩
  · rintro ⟨rfl, rfl, h⟩
    exact ⟨by rw [(cutL_some hc).1], h⟩
theorem parts_none {m : UInt8} {r : List UInt8} (hc : cutL 58 r = none) (a b : List UInt8) : ¬ Parts m (m :: r) a b := fun h => by
  obtain ⟨r', e, hc'⟩ := h.cut
  injection e with _ e
  subst e
  rw [hc] at hc'
  cases hc'
theorem parts_mark {m : UInt8} {u : List UInt8} (h : u.head? ≠ some m) (a b : List UInt8) : ¬ Parts m u a b := fun hp => h (by rw [hp.1]; rfl)

theorem Has.server {net name srv srv' : List UInt8} (h : Has net name srv) (hs : serverOk srv') : Has net name srv' := ⟨h.1, h.2.1, hs, h.2.2.2⟩
/-- User's error -/
noncomputable def userE (net name srv : List UInt8) : Int := if ¬ netOk net then 3 else if name = [] then 9 else if ¬ serverOk srv then 3 else if 32 < (localOf net name).length then 7 else 0
theorem userE_zero {net name srv : List UInt8} : userE net name srv = 0 ↔ Has net name srv := by
  unfold userE Has
  by_cases h1 : netOk net
  · rw [if_neg (by simpa using h1)]
    by_cases h2 : name = []
    · rw [if_pos h2]; simp [h2]
    · rw [if_neg h2]
      by_cases h3 : serverOk srv
      · rw [if_neg (by simpa using h3)]
        by_cases h4 : 32 < (localOf net name).length
        · rw [if_pos h4]; simp [h1, h2, h3]; omega
        · rw [if_neg h4]; simp only [true_iff]; exact ⟨h1, h2, h3, by omega⟩
      · rw [if_pos h3]; simp [h3]
  · rw [if_pos h1]; simp [h1]
/-- the code asks once more -/
theorem long_name {net name : List UInt8} (h : 32 < name.length) : 32 < (localOf net name).length := by
  have := (escL_length name).1
  simp [localOf]; omega
/-- a user's identity and Back's error -/
noncomputable def backE (u : List UInt8) : Int := if ∃ a b, Parts 64 u a b then (if ∃ net name, Back u net name then 0 else 6) else 3
theorem Back.parts {u net name : List UInt8} (h : Back u net name) : ∃ a b, Parts 64 u a b := by
  obtain ⟨srv, hh, rfl⟩ := h
  exact ⟨_, _, ghost_parts hh⟩
theorem backE_zero {u : List UInt8} : backE u = 0 ↔ ∃ net name, Back u net name := by
  unfold backE
  by_cases h1 : ∃ a b, Parts 64 u a b
  · rw [if_pos h1]
    by_cases h2 : ∃ net name, Back u net name
    · rw [if_pos h2]; simp [h2]
    · rw [if_neg h2]; simp [h2]
  · rw [if_neg h1]
    constructor
    · intro h; cases h
    · rintro ⟨n, m, h⟩; exact absurd h.parts h1
def Gh.true (g : Gh) : Prop := Back g.user.toList g.net.toList g.name.toList
/-- Check's error, one element after the other -/
noncomputable def checkE (prev : Option Gh) : List Gh → Int
  | [] => 0
  | g :: l => if backE g.user.toList ≠ 0 then backE g.user.toList else if ¬ g.true then 6 else if ∃ p, prev = some p ∧ idLt p.id g.id = false then 8 else checkE (some g) l
theorem checkE_zero : ∀ {l : List Gh} {prev : Option Gh}, checkE prev l = 0 ↔ (∀ g ∈ l, g.true) ∧ Inc l ∧ ∀ p g, prev = some p → l.head? = some g → idLt p.id g.id = true
  | [], prev => by simp [checkE, Inc]
  | g :: l, prev => by
    unfold checkE
    by_cases h1 : backE g.user.toList = 0
    · rw [if_neg (by simpa using h1)]
      by_cases h2 : g.true
      · rw [if_neg (by simpa using h2)]
        by_cases h3 : ∃ p, prev = some p ∧ idLt p.id g.id = false
        · rw [if_pos h3]
          obtain ⟨p, rfl, hp⟩ := h3
          constructor
          · intro h; cases h
          · rintro ⟨_, _, h⟩
            have := h p g rfl rfl
            rw [hp] at this; cases this
        · rw [if_neg h3, checkE_zero]
          constructor
          · rintro ⟨k1, k2, k3⟩
            refine ⟨fun x hx => ?_, ?_, fun p q hp hq => ?_⟩
            · rcases List.mem_cons.1 hx with rfl | hx
              · exact h2
              · exact k1 x hx
            · cases l with
              | nil => trivial
              | cons k l => exact ⟨k3 g k rfl rfl, k2⟩
            · injection hq with hq; subst hq
              cases hb : idLt p.id g.id with
              | true => rfl
              | false => exact absurd ⟨p, hp, hb⟩ h3
          · rintro ⟨k1, k2, _⟩
            refine ⟨fun x hx => k1 x (by simp [hx]), k2.tail, fun p q hp hq => ?_⟩
            injection hp with hp; subst hp
            cases l with
            | nil => cases hq
            | cons k l => injection hq with hq; subst hq; exact k2.1
      · rw [if_pos h2]
        constructor
        · intro h; cases h
        · rintro ⟨h, _⟩; exact absurd (h g (by simp)) h2
    · rw [if_pos h1]
      constructor
      · intro h; exact absurd h h1
      · rintro ⟨h, _⟩; exact absurd (backE_zero.2 ⟨_, _, h g (by simp)⟩) h1
/-- the list that Bind returns, and the user -/
noncomputable def bindG (l : List Gh) (x : Gh) : List Gh := match findG x.id l with | some _ => l | none => putG l x
noncomputable def bindU (l : List Gh) (x : Gh) : ByteArray := match findG x.id l with | some g => g.user | none => x.user
noncomputable def bindE (l : List Gh) (x : Gh) (srv : List UInt8) : Int := if userE x.net.toList x.name.toList srv ≠ 0 then userE x.net.toList x.name.toList srv else match findG x.id l with | some _ => 0 | none => if 200 ≤ l.length then 29 else 0
/-- a list that Check accepts -/
def Right (l : List Gh) : Prop := l.length ≤ 200 ∧ (∀ g ∈ l, g.true) ∧ Inc l
theorem right_bind {l : List Gh} {x : Gh} (h : Right l) (hx : x.true) (hl : findG x.id l = none → l.length < 200) : Right (bindG l x) := by
  unfold bindG
  cases hf : findG x.id l with
  | some g => exact h
  | none =>
    refine ⟨by have := hl hf; simp only [putG_length]; omega, fun g hg => ?_, putG_inc h.2.2 hf⟩
    rcases putG_mem.1 hg with rfl | hg
    · exact hx
    · exact h.2.1 g hg
/-- bound again: the same list, the same user -/
theorem bind_again {l : List Gh} {x y : Gh} (hxy : y.id = x.id) : bindG (bindG l x) y = bindG l x ∧ bindU (bindG l x) y = bindU l x ∧ ∃ g, findG y.id (bindG l x) = some g := by
  unfold bindG bindU
  rw [hxy]
  cases hf : findG x.id l with
  | some g => simp [hf]
  | none => simp [findG_put hf]
end Go.Proofs.Ytimdcnickfaddaa

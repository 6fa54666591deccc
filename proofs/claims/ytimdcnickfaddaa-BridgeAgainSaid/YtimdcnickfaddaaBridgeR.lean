/-
  Plain: lists of ghosts, in order; one more; the first one of an identity.
-/
import Derived.Test.YtimdcnickfaddaaBridgeQ
set_option linter.unusedVariables false
set_option linter.unusedSimpArgs false
namespace Go.Proofs.Ytimdcnickfaddaa
open Go.RowKit

theorem bless_tri : ∀ x y : List UInt8, Op.bytesLess x y = false → x ≠ y → Op.bytesLess y x = true
  | [], [], _, h => absurd rfl h
  | [], _ :: _, h, _ => by simp [Op.bytesLess] at h
  | _ :: _, [], _, _ => by simp [Op.bytesLess]
  | a :: x, b :: y, h, hn => by
    simp only [Op.bytesLess, Bool.or_eq_false_iff, Bool.and_eq_false_iff, decide_eq_false_iff_not, beq_eq_false_iff_ne] at h
    simp only [Op.bytesLess, Bool.or_eq_true, Bool.and_eq_true, decide_eq_true_eq, beq_iff_eq]
    by_cases hab : a = b
    · subst hab
      right
      refine ⟨rfl, bless_tri x y (h.2.resolve_left (fun h => h rfl)) fun e => hn (by rw [e])⟩
    · left
      have h1 := UInt8.not_lt.1 h.1
      exact UInt8.lt_of_le_of_ne h1 (fun e => hab e.symm)
theorem bless_trans : ∀ x y z : List UInt8, Op.bytesLess x y = true → Op.bytesLess y z = true → Op.bytesLess x z = true
  | _, [], _, h, _ => by simp [Op.bytesLess] at h
  | _, _ :: _, [], _, h => by simp [Op.bytesLess] at h
  | [], _ :: _, _ :: _, _, _ => by simp [Op.bytesLess]
  | a :: x, b :: y, c :: z, h1, h2 => by
    simp only [Op.bytesLess, Bool.or_eq_true, Bool.and_eq_true, decide_eq_true_eq, beq_iff_eq] at h1 h2 ⊢
    rcases h1 with h1 | ⟨rfl, h1⟩
    · rcases h2 with h2 | ⟨rfl, h2⟩
      · exact .inl (UInt8.lt_trans h1 h2)
      · exact .inl h1
    · rcases h2 with h2 | ⟨rfl, h2⟩
      · exact .inl h2
      · exact .inr ⟨rfl, bless_trans x y z h1 h2⟩
theorem bless_irr : ∀ x : List UInt8, Op.bytesLess x x = false
  | [] => rfl
  | a :: x => by simp [Op.bytesLess, bless_irr x]

structure Gh where (net name user : ByteArray)
abbrev Ident := List UInt8 × List UInt8
def Gh.id (g : Gh) : Ident := (g.net.toList, g.name.toList)
def idLt (a b : Ident) : Bool := Op.bytesLess a.1 b.1 || (a.1 == b.1 && Op.bytesLess a.2 b.2)
theorem idLt_irr (a : Ident) : idLt a a = false := by unfold idLt; simp [bless_irr]
theorem idLt_tri {a b : Ident} (h : idLt a b = false) (hn : a ≠ b) : idLt b a = true := by
  obtain ⟨a1, a2⟩ := a; obtain ⟨b1, b2⟩ := b
  unfold idLt at *
  simp only [Bool.or_eq_false_iff, Bool.and_eq_false_iff, beq_eq_false_iff_ne, Bool.or_eq_true, Bool.and_eq_true, beq_iff_eq] at *
  by_cases e : a1 = b1
  · subst e
    exact .inr ⟨rfl, bless_tri _ _ (h.2.resolve_left (fun h => h rfl)) fun e => hn (by rw [e])⟩
  · exact .inl (bless_tri _ _ h.1 e)
theorem idLt_trans {a b c : Ident} (h1 : idLt a b = true) (h2 : idLt b c = true) : idLt a c = true := by
  obtain ⟨a1, a2⟩ := a; obtain ⟨b1, b2⟩ := b; obtain ⟨c1, c2⟩ := c
  unfold idLt at *
  simp only [Bool.or_eq_true, Bool.and_eq_true, beq_iff_eq] at *
  rcases h1 with h1 | ⟨rfl, h1⟩
  · rcases h2 with h2 | ⟨rfl, h2⟩
    · exact .inl (bless_trans _ _ _ h1 h2)
    · exact .inl h1
  · rcases h2 with h2 | ⟨rfl, h2⟩
    · exact .inl h2
    · exact .inr ⟨rfl, bless_trans _ _ _ h1 h2⟩
/-- the first one of an identity -/
def findG (a : Ident) (l : List Gh) : Option Gh := l.find? fun g => decide (g.id = a)
/-- where the code puts one more: behind those that it does not precede -/
def atC (a : Ident) : List Gh → Nat
  | [] => 0
  | g :: l => if idLt a g.id = false then atC a l + 1 else 0
/-- where the reference puts it: behind those that precede it -/
def atR (a : Ident) : List Gh → Nat
  | [] => 0
  | g :: l => if idLt g.id a = true then atR a l + 1 else 0
theorem at_same {a : Ident} : ∀ {l : List Gh}, findG a l = none → atC a l = atR a l
  | [], _ => rfl
  | g :: l, h => by
    unfold findG at h
    rw [List.find?_eq_none] at h
    have hg : g.id ≠ a := by simpa using h g (by simp)
    have ih : atC a l = atR a l := at_same (by unfold findG; rw [List.find?_eq_none]; exact fun x hx => h x (by simp [hx]))
    unfold atC atR
    by_cases hl : idLt a g.id = false
    · rw [if_pos hl, if_pos (idLt_tri hl (fun e => hg e.symm)), ih]
    · rw [if_neg hl, if_neg]
      intro h2
      have h3 := idLt_trans (by simpa using hl) h2
      rw [idLt_irr] at h3
      cases h3
theorem atR_le (a : Ident) : ∀ l : List Gh, atR a l ≤ l.length
  | [] => Nat.le_refl _
  | g :: l => by unfold atR; have := atR_le a l; split <;> simp <;> omega
def putG (l : List Gh) (x : Gh) : List Gh := l.take (atR x.id l) ++ x :: l.drop (atR x.id l)
/-- in order, each before the next -/
def Inc : List Gh → Prop
  | [] => True
  | [_] => True
  | g :: h :: l => idLt g.id h.id = true ∧ Inc (h :: l)
theorem Inc.tail {g : Gh} {l : List Gh} (h : Inc (g :: l)) : Inc l := by
  cases l with
  | nil => trivial
  | cons _ _ => exact h.2
theorem putG_cons {g x : Gh} {l : List Gh} (h : idLt g.id x.id = true) : putG (g :: l) x = g :: putG l x := by
  unfold putG
  rw [show atR x.id (g :: l) = atR x.id l + 1 by conv => lhs; unfold atR; rw [if_pos h]]
  rfl
theorem putG_here {g x : Gh} {l : List Gh} (h : ¬ idLt g.id x.id = true) : putG (g :: l) x = x :: g :: l := by
  unfold putG
  rw [show atR x.id (g :: l) = 0 by conv => lhs; unfold atR; rw [if_neg h]]
  rfl
theorem putG_inc {x : Gh} : ∀ {l : List Gh}, Inc l → findG x.id l = none → Inc (putG l x)
  | [], _, _ => trivial
  | g :: l, h, hf => by
    unfold findG at hf
    rw [List.find?_eq_none] at hf
    have hg : g.id ≠ x.id := by simpa using hf g (by simp)
    have hf' : findG x.id l = none := by unfold findG; rw [List.find?_eq_none]; exact fun y hy => hf y (by simp [hy])
    by_cases hl : idLt g.id x.id = true
    · rw [putG_cons hl]
      have ih := putG_inc h.tail hf'
      cases l with
      | nil => exact ⟨hl, trivial⟩
      | cons k l =>
        by_cases hk : idLt k.id x.id = true
        · rw [putG_cons hk] at ih ⊢; exact ⟨h.1, ih⟩
        · rw [putG_here hk] at ih ⊢; exact ⟨hl, ih⟩
    · rw [putG_here hl]
      exact ⟨idLt_tri (by simpa using hl) hg, h⟩
theorem putG_mem {x y : Gh} {l : List Gh} : y ∈ putG l x ↔ y = x ∨ y ∈ l := by
  unfold putG
  conv => rhs; rw [← List.take_append_drop (atR x.id l) l]
  simp only [List.mem_append, List.mem_cons]
  constructor
  · rintro (h | h | h)
    · exact .inr (.inl h)
    · exact .inl h
    · exact .inr (.inr h)
  · rintro (h | h | h)
    · exact .inr (.inl h)
    · exact .inl h
    · exact .inr (.inr h)
theorem putG_length (l : List Gh) (x : Gh) : (putG l x).length = l.length + 1 := by
  have := atR_le x.id l
  simp [putG]; omega
theorem findG_some {a : Ident} {l : List Gh} {g : Gh} (h : findG a l = some g) : g ∈ l ∧ g.id = a := by
  unfold findG at h
  exact ⟨List.mem_of_find?_eq_some h, by simpa using List.find?_some h⟩
/-- one more, and looked for again -/
theorem findG_put {x : Gh} : ∀ {l : List Gh}, findG x.id l = none → findG x.id (putG l x) = some x
  | [], _ => by simp [putG, atR, findG]
  | g :: l, hf => by
    have hf0 := hf
    unfold findG at hf
    rw [List.find?_eq_none] at hf
    have hg : ¬ g.id = x.id := by simpa using hf g (by simp)
    have hf' : findG x.id l = none := by unfold findG; rw [List.find?_eq_none]; exact fun y hy => hf y (by simp [hy])
    by_cases hl : idLt g.id x.id = true
    · rw [putG_cons hl]
      have ih := findG_put hf'
      unfold findG at ih ⊢
      rw [List.find?_cons_of_neg (by simpa using hg)]
      exact ih
    · rw [putG_here hl]
      unfold findG
      rw [List.find?_cons_of_pos (by simp)]
end Go.Proofs.Ytimdcnickfaddaa

/-
  Plain: stripping twice, what a redaction leaves is right, a field that a kind does not use.
  Arguments that are contents, events; small contents; small events. Plain but for the readings.
  fedchatlaw07: slight, small.
-/
import Derived.Test.YtmlnmcoophnlaaaGreatUs
import Derived.Test.YtmlnmcoophnlaaaGreatConEncP
import Derived.Test.YtmlnmcoophnlaaaGreatEvStr
import Derived.Test.YtmlnmcoophnlaaaGreatReads
import Derived.Test.YtmlnmcoophnlaaaGreatCSame
import Derived.BigQuiet
set_option linter.unusedVariables false
set_option linter.unusedSimpArgs false
namespace Go.Proofs.YtmlnmcoophnlaaaGreat
section
open Go.RowKit

theorem stripC_again (k : Int) (c : Con) : stripC k (stripC k c) = stripC k c := by
  rcases kinds_cases k with rfl | rfl | rfl | rfl | rfl | rfl | rfl | ⟨h1, h2, h3, h4, h5, h6, h7⟩
  all_goals first
    | rfl
    | simp [stripC, h1, h2, h3, h4, h5, h6, h7]
theorem stripC_fit {k : Int} {c : Con} (h : c.fit) : (stripC k c).fit := by
  rcases kinds_cases k with rfl | rfl | rfl | rfl | rfl | rfl | rfl | ⟨h1, h2, h3, h4, h5, h6, h7⟩
  all_goals
    obtain ⟨f1, f2, f3, f4⟩ := h
    first
      | exact ⟨f1, f2, f3, f4⟩
      | exact ⟨Nat.zero_le _, Nat.zero_le _, Nat.zero_le _, Nat.zero_le _⟩
      | exact ⟨Nat.zero_le _, Nat.zero_le _, f3, f4⟩
      | exact ⟨f1, Nat.zero_le _, Nat.zero_le _, Nat.zero_le _⟩
      | exact ⟨f1, f2, Nat.zero_le _, Nat.zero_le _⟩
      | (simp only [stripC, h1, h2, h3, h4, h5, h6, h7, if_false]; exact ⟨Nat.zero_le _, Nat.zero_le _, Nat.zero_le _, Nat.zero_le _⟩)
theorem stripC_mild {k : Int} {c : Con} (h : c.mild) : (stripC k c).mild := by
  rcases kinds_cases k with rfl | rfl | rfl | rfl | rfl | rfl | rfl | ⟨h1, h2, h3, h4, h5, h6, h7⟩
  all_goals
    obtain ⟨f1, f2, f3, f4, f5, f6, f7⟩ := h
    have e1 : ∀ s ∈ ([] : List ByteArray), s.size ≤ 1073741824 := fun s hs => by simp at hs
    have e2 : ∀ u ∈ ([] : List (ByteArray × Int)), u.1.size ≤ 1073741824 := fun s hs => by simp at hs
    first
      | exact ⟨f1, f2, f3, f4, f5, f6, f7⟩
      | exact ⟨f1, Nat.zero_le _, Nat.zero_le _, Nat.zero_le _, Nat.zero_le _, e1, e2⟩
      | exact ⟨Nat.zero_le _, Nat.zero_le _, Nat.zero_le _, Nat.zero_le _, Nat.zero_le _, e1, e2⟩
      | exact ⟨Nat.zero_le _, Nat.zero_le _, Nat.zero_le _, f4, f5, e1, f7⟩
      | exact ⟨Nat.zero_le _, f2, Nat.zero_le _, Nat.zero_le _, Nat.zero_le _, f6, e2⟩
      | exact ⟨Nat.zero_le _, f2, f3, Nat.zero_le _, Nat.zero_le _, f6, e2⟩
      | (simp only [stripC, h1, h2, h3, h4, h5, h6, h7, if_false]; exact ⟨Nat.zero_le _, Nat.zero_le _, Nat.zero_le _, Nat.zero_le _, Nat.zero_le _, e1, e2⟩)
theorem ckE_known {k : Int} {c : Con} (h : ckE k c = 0) : knownB k = true ∧ onlyB k c = true := by
  unfold ckE at h
  by_cases h1 : knownB k = false ∨ onlyB k c = false
  · rw [if_pos h1] at h; cases h
  · refine ⟨?_, ?_⟩
    · cases e : knownB k
      · exact absurd (.inl e) h1
      · rfl
    · cases e : onlyB k c
      · exact absurd (.inr e) h1
      · rfl
theorem ckE_rest {k : Int} {c : Con} (h : ckE k c = 0) (hk : keepsN k ≠ 0) : fieldsE k c [0, 1, 2, 3, 4, 5] = 0 ∧ lastE k c = 0 := by
  obtain ⟨h1, h2⟩ := ckE_known h
  unfold ckE at h
  rw [if_neg (by rw [h1, h2]; simp), if_neg (fun x => hk x.2)] at h
  by_cases h3 : fieldsE k c [0, 1, 2, 3, 4, 5] = 0
  · rw [if_neg (by simpa using h3)] at h; exact ⟨h3, h⟩
  · rw [if_pos h3] at h; exact absurd h h3
theorem ckE_remains {k : Int} {c : Con} (h : ckE k c = 0) : ckE k (stripC k c) = 0 := by
  obtain ⟨hk, ho⟩ := ckE_known h
  have ho' := ho
  simp only [onlyB, Bool.and_eq_true, Bool.or_eq_true, decide_eq_true_eq, Bool.not_eq_true'] at ho'
  obtain ⟨⟨⟨⟨⟨⟨⟨o0, o1⟩, o2⟩, o3⟩, o4⟩, o5⟩, o6⟩, o7⟩ := ho'
  rcases known_cases hk with rfl | rfl | rfl | rfl | rfl | rfl | rfl | rfl | rfl | rfl | rfl | rfl | rfl | rfl
  case inl => exact h
  case inr.inl =>
    obtain ⟨f, _⟩ := ckE_rest h (by decide)
    have hx : fieldsE 2 (stripC 2 c) [0, 1, 2, 3, 4, 5] = 0 := by
      have e1 : numE 2 c.n = 0 ∧ viaE c = 0 := by
        simp only [fieldsE, errOf] at f
        simp [hasB, usesN, Nat.testBit] at f
        (repeat' split at f) <;> first | omega | simp_all
      have e2 : viaE (stripC 2 c) = viaE c := rfl
      simp only [fieldsE, errOf]
      simp [hasB, usesN, Nat.testBit, e2, e1.2, show (stripC 2 c).n = c.n from rfl, e1.1, show textE 2 (stripC 2 c) = 0 from rfl]
    have hl : lastE 2 (stripC 2 c) = 0 := by simp [lastE, hasB, usesN, Nat.testBit]
    have hb : onlyB 2 (stripC 2 c) = true := by
      simp [onlyB, hasB, usesN, Nat.testBit, stripC, Con.zero]; decide
    unfold ckE
    rw [if_neg (by rw [hb]; decide), if_neg (fun x => absurd x.2 (by decide)), hx, hl]; rfl
  case inr.inr.inr.inr.inr.inr.inr.inr.inr.inr.inr.inr.inr =>
    obtain ⟨f, _⟩ := ckE_rest h (by decide)
    have hx : fieldsE 14 (stripC 14 c) [0, 1, 2, 3, 4, 5] = 0 := by
      have e1 : targetE 14 c = 0 := by
        simp only [fieldsE, errOf] at f
        simp [hasB, usesN, Nat.testBit] at f
        (repeat' split at f) <;> first | omega | simp_all
      have e2 : targetE 14 (stripC 14 c) = targetE 14 c := rfl
      simp only [fieldsE, errOf]
      simp [hasB, usesN, Nat.testBit, e2, e1, show textE 14 (stripC 14 c) = 0 from rfl]
    have hl : lastE 14 (stripC 14 c) = 0 := by simp [lastE, hasB, usesN, Nat.testBit]
    have hb : onlyB 14 (stripC 14 c) = true := by
      simp [onlyB, hasB, usesN, Nat.testBit, stripC, Con.zero]; decide
    unfold ckE
    rw [if_neg (by rw [hb]; decide), if_neg (fun x => absurd x.2 (by decide)), hx, hl]; rfl
  all_goals
    simp [hasB, usesN, Nat.testBit] at o0 o1 o2 o3 o4 o5 o6 o7
    first
      | (show ckE _ Con.zero = 0; decide +kernel)
      | (obtain ⟨a, b, d, e, f, g, i, j⟩ := c
         dsimp only at o0 o1 o2 o3 o4 o5 o6 o7
         rw [← h]
         congr 1
         simp [stripC, Con.zero, *]
         try (repeat' apply And.intro)
         all_goals first | rfl | exact (bare_zero o7).symm | exact bare_zero o7)
theorem ckE_arg {k : Int} {c : Con} (h : onlyB k c = false) : ckE k c = 1 := if_pos (.inr h)
theorem use0 {k : Int} {c : Con} {s : ByteArray} (h : hasB (usesN k) 0 = false) (hs : s.size ≠ 0) : ckE k { c with text := s } = 1 := ckE_arg (by simp [onlyB, h, hs])
theorem use1 {k : Int} {c : Con} (h : hasB (usesN k) 1 = false) : ckE k { c with n := 1 } = 1 := ckE_arg (by simp [onlyB, h])
theorem use2 {k : Int} {c : Con} (h : hasB (usesN k) 2 = false) : ckE k { c with target := 1 } = 1 := ckE_arg (by simp [onlyB, h])
theorem use3 {k : Int} {c : Con} (h : hasB (usesN k) 3 = false) : ckE k { c with thread := true } = 1 := ckE_arg (by simp [onlyB, h])
theorem use4 {k : Int} {c : Con} {s : ByteArray} (h : hasB (usesN k) 4 = false) (hs : s.size ≠ 0) : ckE k { c with via := s } = 1 := ckE_arg (by simp [onlyB, h, hs])
theorem use5 {k : Int} {c : Con} {s : ByteArray} (h : hasB (usesN k) 5 = false) : ckE k { c with allow := [s] } = 1 := ckE_arg (by simp [onlyB, h])
theorem use6 {k : Int} {c : Con} {s : ByteArray} (h : hasB (usesN k) 6 = false) : ckE k { c with deny := [s] } = 1 := ckE_arg (by simp [onlyB, h])
theorem use7 {k : Int} {c : Con} (h : hasB (usesN k) 7 = false) : ckE k { c with lv := { c.lv with kick := 1 } } = 1 := ckE_arg (by simp [onlyB, h, bareB])
theorem names_dec : ∀ m ∈ maskL, ∀ i < 8, (namesL m 8).contains (nameB i) = hasB m i := by decide +kernel
theorem names_has (k : Int) {i : Nat} (h : i < 8) : (usesL k).contains (nameB i) = hasB (usesN k) i := names_dec _ (mask_mem k) i h
end

section
section
open Go.ChangeShapes Go.WideShapes Go.ChangeAt Go.RowKit Go.Deep
variable {H : Type} {enc : TypeId × Value → H} {W : World} {base : Nat} {spare : Nat → Bool} {held : Bool}
set_option maxRecDepth 100000 in
theorem read_content {r : Reach} {b0 : Nat} {v : Value} {d : DataW H} {p : List MemPlace} (hv : Value.okWide Tryz.prog W r b0 31 v) (h : DataW.Trod enc Tryz.prog W base spare held 31 v d p) :
    ∃ cs c, v = .agg cs.toArray ∧ ConR W Any cs c ∧ c.ok := by
  obtain ⟨cs, rfl, hsz⟩ := okWide_struct Tryz.underlying31 hv
  obtain ⟨fuel, hf⟩ := h
  have hcl : (Value.agg cs).cells.toList = cs.toList := by simp [Value.cells]
  rw [hcl] at hf
  obtain ⟨c, hc, hok⟩ := read_con (by rw [Array.length_toList, hsz]; exact cC) hf
  exact ⟨cs.toList, c, rfl, hc, hok⟩
set_option maxRecDepth 100000 in
theorem read_event {r : Reach} {b0 : Nat} {v : Value} {d : DataW H} {p : List MemPlace} (hv : Value.okWide Tryz.prog W r b0 35 v) (h : DataW.Trod enc Tryz.prog W base spare held 35 v d p) :
    ∃ cs c, v = .agg cs.toArray ∧ EvR W Any cs c ∧ c.ok := by
  obtain ⟨cs, rfl, hsz⟩ := okWide_struct Tryz.underlying35 hv
  obtain ⟨fuel, hf⟩ := h
  have hcl : (Value.agg cs).cells.toList = cs.toList := by simp [Value.cells]
  rw [hcl] at hf
  obtain ⟨c, hc, hok⟩ := read_ev (by rw [Array.length_toList, hsz]; exact cE) hf
  exact ⟨cs.toList, c, rfl, hc, hok⟩
end
section
open Go.RowKit
/-- a Bool comes back; if it is true, p -/
def SaysT (p : Prop) (w : World) (x : Ending) (w' : World) : Prop := ∃ b, x = .returned (.bool b) ∧ (b = true → p) ∧ Below w.heap.size w w'
def Lev.few (v : Lev) : Prop := v.users.length ≤ 120 ∧ v.kinds.length ≤ 120 ∧ ∀ u ∈ v.users, u.1.size ≤ 4000
structure Con.small (c : Con) : Prop where
  text : c.text.size ≤ 4000
  via : c.via.size ≤ 4000
  allowL : c.allow.length ≤ 120
  denyL : c.deny.length ≤ 120
  lv : c.lv.few
  allow : ∀ s ∈ c.allow, s.size ≤ 4000
  deny : ∀ s ∈ c.deny, s.size ≤ 4000
theorem all_step {α : Type} {p : α → Prop} {l : List α} {k : Nat} (h : ∀ x ∈ l.take k, p x) (hk : k < l.length) (hp : p l[k]) : ∀ x ∈ l.take (k + 1), p x := by
  intro x hx
  rw [List.take_succ_eq_append_getElem hk] at hx
  rcases List.mem_append.1 hx with h1 | h1
  · exact h x h1
  · simp only [List.mem_cons, List.not_mem_nil, or_false] at h1; subst h1; exact hp
structure Con.neat (c : Con) : Prop where
  text : c.text.size ≤ 16777216
  via : c.via.size ≤ 16777216
  n : I64 c.n
  target : I64 c.target
  allowL : c.allow.length ≤ 16777216
  denyL : c.deny.length ≤ 16777216
  allow : ∀ s ∈ c.allow, s.size ≤ 16777216
  deny : ∀ s ∈ c.deny, s.size ≤ 16777216
  lv : c.lv.fine
theorem Con.neat.fit {c : Con} (h : c.neat) : c.fit := ⟨by have := h.allowL; omega, by have := h.denyL; omega, by have := h.lv.usersL; omega, by have := h.lv.kindsL; omega⟩
theorem Con.small.neat {c : Con} (h : c.small) (ho : c.ok) : c.neat := by
  obtain ⟨h1, h2, h3, h4, ⟨h5, h6, h7⟩, h8, h9⟩ := h
  obtain ⟨o1, o2, o3, o4, o5, o6, o7, o8, o9⟩ := ho
  exact ⟨by omega, by omega, o2, o3, by omega, by omega, fun s hs => by have := h8 s hs; omega, fun s hs => by have := h9 s hs; omega, ⟨by omega, by omega, fun u hu => ⟨by have := h7 u hu; omega, (o7 u hu).2⟩, o8, fun n hn => by
    obtain ⟨y1, y2, y3, y4, y5, y6, y7⟩ := o9
    simp only [restL, List.mem_cons, List.not_mem_nil, or_false] at hn
    rcases hn with rfl | rfl | rfl | rfl | rfl | rfl | rfl <;> assumption⟩⟩
theorem encS_le6 (s : ByteArray) (h : s.size < 9223372036854775808) : (encS s).length ≤ 10 + s.size := by
  unfold encS
  rw [List.length_append, Enc.size_toList]
  have := encI_le (I64_nat h); omega
theorem flat_le {α : Type} (f : α → List UInt8) (m : Nat) : ∀ l : List α, (∀ x ∈ l, (f x).length ≤ m) → (l.flatMap f).length ≤ l.length * m
  | [], _ => by simp
  | x :: l, h => by
    have h1 := h x (by simp)
    have h2 := flat_le f m l (fun y hy => h y (List.mem_cons_of_mem _ hy))
    rw [List.flatMap_cons, List.length_append, List.length_cons, Nat.succ_mul]; omega
theorem encL_le {α : Type} (f : α → List UInt8) (m : Nat) (l : List α) (hl : l.length < 9223372036854775808) (h : ∀ x ∈ l, (f x).length ≤ m) : (encL f l).length ≤ 10 + l.length * m := by
  unfold encL
  rw [List.length_append]
  have h1 := flat_le f m l h
  have h2 := encI_le (I64_nat hl)
  omega
theorem Con.small.enc_le {c : Con} (h : c.small) (ho : c.ok) : (encCon c).length ≤ 2000000 := by
  have hf := h.neat ho
  obtain ⟨h1, h2, h3, h4, ⟨h5, h6, h7⟩, h8, h9⟩ := h
  have e1 := encS_le6 c.text (by omega)
  have e2 := encI_le hf.n
  have e3 := encI_le hf.target
  have e4 := encS_le6 c.via (by omega)
  have e5 := encL_le encS 4010 c.allow (by omega) (fun s hs => by have := h8 s hs; have := encS_le6 s (by omega); omega)
  have e6 := encL_le encS 4010 c.deny (by omega) (fun s hs => by have := h9 s hs; have := encS_le6 s (by omega); omega)
  have e7 := encL_le encU 4020 c.lv.users (by omega) (fun u hu => by
    unfold encU; rw [List.length_append]
    have := h7 u hu; have := encS_le6 u.1 (by omega); have := encI_le (hf.lv.users u hu).2; omega)
  have e8 := encL_le encK 20 c.lv.kinds (by omega) (fun u hu => by
    unfold encK; rw [List.length_append]
    have := encI_le (hf.lv.kinds u hu).1; have := encI_le (hf.lv.kinds u hu).2; omega)
  have e9 := flat_le encI 10 (restL c.lv) (fun n hn => encI_le (hf.lv.rest n hn))
  have el : (encLev c.lv).length = (encL encU c.lv.users).length + (encL encK c.lv.kinds).length + ((restL c.lv).flatMap encI).length := by
    unfold encLev; rw [restL_enc]; simp only [List.length_append]; omega
  have ec : (encCon c).length = (encS c.text).length + (encI c.n).length + (encI c.target).length + 1 + (encS c.via).length + (encL encS c.allow).length + (encL encS c.deny).length + (encLev c.lv).length := by
    unfold encCon; simp only [List.length_append, List.length_cons]; omega
  have : (restL c.lv).length = 7 := rfl
  have : c.allow.length * 4010 ≤ 120 * 4010 := Nat.mul_le_mul_right _ h3
  have : c.deny.length * 4010 ≤ 120 * 4010 := Nat.mul_le_mul_right _ h4
  have : c.lv.users.length * 4020 ≤ 120 * 4020 := Nat.mul_le_mul_right _ h5
  have : c.lv.kinds.length * 20 ≤ 120 * 20 := Nat.mul_le_mul_right _ h6
  omega
theorem Con.small.puts {c : Con} (h : c.small) (ho : c.ok) : c.puts := by
  have hf := h.neat ho
  exact ⟨by have := h.enc_le ho; omega, by have := hf.text; omega, hf.n, hf.target, by have := hf.via; omega, hf.allowL, hf.denyL, hf.lv.usersL, hf.lv.kindsL, fun u hu => ⟨by have := (hf.lv.users u hu).1; omega, (hf.lv.users u hu).2⟩, hf.lv.kinds, hf.lv.rest⟩
theorem Con.neat.mild {c : Con} (h : c.neat) : c.mild := ⟨by have := h.via; omega, by have := h.allowL; omega, by have := h.denyL; omega, by have := h.lv.usersL; omega, by have := h.lv.kindsL; omega, fun s hs => by have := h.allow s hs; omega, fun u hu => by have := (h.lv.users u hu).1; omega⟩
theorem stripC_small {k : Int} {c : Con} (h : c.small) : (stripC k c).small := by
  obtain ⟨f1, f2, f3, f4, ⟨f5, f6, f7⟩, f8, f9⟩ := h
  have e1 : ∀ s ∈ ([] : List ByteArray), s.size ≤ 4000 := fun s hs => by simp at hs
  have e2 : Lev.zero.few := ⟨Nat.zero_le _, Nat.zero_le _, fun s hs => by simp [Lev.zero] at hs⟩
  rcases kinds_cases k with rfl | rfl | rfl | rfl | rfl | rfl | rfl | ⟨h1, h2, h3, h4, h5, h6, h7⟩
  all_goals
    first
      | exact ⟨f1, f2, f3, f4, ⟨f5, f6, f7⟩, f8, f9⟩
      | exact ⟨Nat.zero_le _, Nat.zero_le _, Nat.zero_le _, Nat.zero_le _, e2, e1, e1⟩
      | exact ⟨Nat.zero_le _, f2, Nat.zero_le _, Nat.zero_le _, e2, e1, e1⟩
      | exact ⟨Nat.zero_le _, Nat.zero_le _, Nat.zero_le _, Nat.zero_le _, ⟨f5, f6, f7⟩, e1, e1⟩
      | exact ⟨Nat.zero_le _, Nat.zero_le _, f3, Nat.zero_le _, e2, f8, e1⟩
      | exact ⟨Nat.zero_le _, Nat.zero_le _, f3, f4, e2, f8, f9⟩
      | (simp only [stripC, h1, h2, h3, h4, h5, h6, h7, if_false]; exact ⟨Nat.zero_le _, Nat.zero_le _, Nat.zero_le _, Nat.zero_le _, e2, e1, e1⟩)
theorem zero_ok : Con.zero.ok := by
  have z : I64 0 := ⟨by decide, by decide⟩
  exact ⟨Nat.zero_le _, z, z, Nat.zero_le _, fun s hs => by simp [Con.zero] at hs, fun s hs => by simp [Con.zero] at hs, fun s hs => by simp [Con.zero, Lev.zero] at hs, fun s hs => by simp [Con.zero, Lev.zero] at hs, z, z, z, z, z, z, z⟩
theorem stripC_ok {k : Int} {c : Con} (h : c.ok) : (stripC k c).ok := by
  obtain ⟨f1, f2, f3, f4, f5, f6, f7⟩ := h
  obtain ⟨z1, z2, z3, z4, z5, z6, z7⟩ := zero_ok
  rcases kinds_cases k with rfl | rfl | rfl | rfl | rfl | rfl | rfl | ⟨h1, h2, h3, h4, h5, h6, h7⟩
  all_goals
    first
      | exact ⟨f1, f2, f3, f4, f5, f6, f7⟩
      | exact ⟨z1, z2, z3, z4, z5, z6, z7⟩
      | exact ⟨z1, f2, z3, f4, z5, z6, z7⟩
      | exact ⟨z1, f2, z3, z4, z5, z6, z7⟩
      | exact ⟨z1, f2, f3, z4, z5, z6, z7⟩
      | exact ⟨z1, z2, f3, z4, z5, z6, z7⟩
      | exact ⟨z1, z2, z3, z4, z5, z6, f7⟩
      | exact ⟨z1, f2, z3, z4, f5, z6, z7⟩
      | exact ⟨z1, z2, z3, z4, f5, f6, z7⟩
      | (simp only [stripC, h1, h2, h3, h4, h5, h6, h7, if_false]; exact ⟨z1, z2, z3, z4, z5, z6, z7⟩)
/-- an event of which no list and no text is too long -/
structure Ev.good (e : Ev) : Prop where
  ok : e.ok
  room : e.room.size ≤ 4000
  sender : e.sender.size ≤ 4000
  key : e.key.size ≤ 4000
  server : e.server.size ≤ 4000
  prev : e.prev.length ≤ 100
  auth : e.auth.length ≤ 100
  con : e.con.small
namespace Ev.good
variable {e : Ev}
theorem conOk (h : e.good) : e.con.ok := h.ok.2.2.2.2.2.2.2.2.2.1
theorem cputs (h : e.good) : e.con.puts := h.con.puts h.conOk
theorem cneat (h : e.good) : e.con.neat := h.con.neat h.conOk
theorem fit (h : e.good) : e.con.fit := h.cneat.fit
theorem mild (h : e.good) : e.con.mild := h.cneat.mild
theorem withCon (h : e.good) {c : Con} (h1 : c.small) (h2 : c.ok) : ({ e with con := c } : Ev).good := by
  obtain ⟨⟨o1, o2, o3, o4, o5, o6, o7, o8, o9, o10, o11, o12, o13⟩, p1, p2, p3, p4, p5, p6, p7⟩ := h
  exact ⟨⟨o1, o2, o3, o4, o5, o6, o7, o8, o9, h2, o11, o12, o13⟩, p1, p2, p3, p4, p5, p6, h1⟩
theorem strip (h : e.good) : (stripE e).good := h.withCon (stripC_small h.con) (stripC_ok h.conOk)
theorem plain (h : e.good) : (plainE e).good := by
  obtain ⟨⟨o1, o2, o3, o4, o5, o6, o7, o8, o9, o10, o11, o12, o13⟩, p1, p2, p3, p4, p5, p6, p7⟩ := h.strip
  have z : I64 0 := ⟨by decide, by decide⟩
  exact ⟨⟨z, o2, o3, o4, o5, o6, o7, o8, o9, o10, o11, Nat.zero_le _, z⟩, p1, p2, p3, Nat.zero_le _, p5, p6, p7⟩
theorem sums (l : List UInt8) : I64 ((sumN l : Nat) : Int) := I64_nat (by have := sumN_lt l; omega)
theorem hashed (h : e.good) : ({ e with hash := hashV e } : Ev).good := by
  obtain ⟨⟨o1, o2, o3, o4, o5, o6, o7, o8, o9, o10, o11, o12, o13⟩, p1, p2, p3, p4, p5, p6, p7⟩ := h
  exact ⟨⟨o1, o2, o3, o4, o5, o6, o7, o8, o9, o10, sums _, o12, o13⟩, p1, p2, p3, p4, p5, p6, p7⟩
theorem sign (h : e.good) {s : ByteArray} (hs : s.size ≤ 4000) : (signE e s).good := by
  obtain ⟨⟨o1, o2, o3, o4, o5, o6, o7, o8, o9, o10, o11, o12, o13⟩, p1, p2, p3, p4, p5, p6, p7⟩ := h
  exact ⟨⟨sums _, o2, o3, o4, o5, o6, o7, o8, o9, o10, sums _, by show s.size ≤ 9223372036854775807; omega, sums _⟩, p1, p2, p3, hs, p5, p6, p7⟩
theorem enc_le (h : e.good) : (encEv e).length ≤ 3000000 := by
  obtain ⟨⟨o1, o2, o3, o4, o5, o6, o7, o8, o9, o10, o11, o12, o13⟩, p1, p2, p3, p4, p5, p6, p7⟩ := h
  have hc := p7.enc_le o10
  have e1 := encI_le o1
  have e2 := encS_le6 e.room (by omega)
  have e3 := encS_le6 e.sender (by omega)
  have e4 := encI_le o4
  have e5 := encS_le6 e.key (by omega)
  have e6 := encI_le o6
  have e7 := encI_le o7
  have e8 := encL_le encI 10 e.prev (by omega) (fun n hn => encI_le (o8 n hn))
  have e9 := encL_le encI 10 e.auth (by omega) (fun n hn => encI_le (o9 n hn))
  have ez : (str (encCon e.con)).size = (encCon e.con).length := str_size _
  have e10 := encS_le6 (str (encCon e.con)) (by omega)
  have e11 := encI_le o11
  have e12 := encS_le6 e.server (by omega)
  have e13 := encI_le o13
  unfold encEv
  simp only [List.length_append, List.length_cons]
  have : e.prev.length * 10 ≤ 100 * 10 := Nat.mul_le_mul_right _ p5
  have : e.auth.length * 10 ≤ 100 * 10 := Nat.mul_le_mul_right _ p6
  omega
theorem puts (h : e.good) : e.puts := by
  have hl := h.enc_le
  have hc := h.cputs
  obtain ⟨⟨o1, o2, o3, o4, o5, o6, o7, o8, o9, o10, o11, o12, o13⟩, p1, p2, p3, p4, p5, p6, p7⟩ := h
  exact ⟨by omega, o1, by omega, by omega, o4, by omega, o6, o7, o8, o9, by omega, by omega, hc, o11, by omega, o13⟩
end Ev.good
end
end

section
open Go.RowKit
attribute [local go_sem] Addr.add_mid
end
end Go.Proofs.YtmlnmcoophnlaaaGreat

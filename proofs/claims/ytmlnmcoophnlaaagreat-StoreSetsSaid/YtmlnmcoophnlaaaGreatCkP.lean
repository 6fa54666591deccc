/-
  Plain: what content.Check answers, by its parts; that the reference's order of the parts answers the same.
  content.bare, content.set: the fields that are not zero.
-/
import Derived.Test.YtmlnmcoophnlaaaGreatCkA
import Derived.Test.YtmlnmcoophnlaaaGreatCop6
import Derived.Deep.DeepCutAuto
set_option linter.unusedVariables false
set_option linter.unusedSimpArgs false
namespace Go.Proofs.YtmlnmcoophnlaaaGreat
section
open Go.RowKit

def textE (k : Int) (c : Con) : Int :=
  if k = 9 then (if c.text.size = 0 then 0 else globE c.text)
  else if k = 12 ∧ c.text.size = 0 then 9
  else if (k = 12 ∧ 32 < c.text.size) ∨ 400 < c.text.size then 7 else 0
def numE (k n : Int) : Int :=
  if k = 2 then (if n < 0 ∨ 4 < n then 2 else 0)
  else if k = 8 then (if n < 0 ∨ 1000000000 < n then 2 else 0)
  else if k = 10 then (if n < 1 ∨ 10000 < n then 2 else 0)
  else if k = 9 then (if n = 1 ∨ n = 2 ∨ n = 6 then 0 else 2)
  else (if n < 0 ∨ 3 < n then 2 else 0)
def targetE (k : Int) (c : Con) : Int := if c.target < 0 ∨ (c.target = 0 ∧ k ≠ 11) then 2 else 0
def threadE (c : Con) : Int := if c.thread = true ∧ c.target = 0 then 1 else 0
def viaE (c : Con) : Int := if c.via.size = 0 then 0 else if c.n ≠ 3 then 1 else if userB c.via = true then 0 else 3
def rulesE (c : Con) : Int := if 0 < c.allow.length ∧ c.n ≠ 3 then 1 else roomsE c.allow
def allowE (k : Int) (c : Con) : Int := if k = 6 then patternsE c.allow else rulesE c
/-- nothing in the levels -/
def bareB (l : Lev) : Bool := l.users.isEmpty && l.kinds.isEmpty && decide (l.user = 0) && decide (l.message = 0) && decide (l.state = 0) && decide (l.invite = 0) && decide (l.kick = 0) && decide (l.ban = 0) && decide (l.redact = 0)
def bitI (b : Bool) (n : Int) : Int := if b then n else 0
/-- the fields that are not zero -/
def setN (c : Con) : Int := bitI (decide (c.text.size ≠ 0)) 1 + bitI (decide (c.n ≠ 0)) 2 + bitI (decide (c.target ≠ 0)) 4 + bitI c.thread 8 + bitI (decide (c.via.size ≠ 0)) 16 + bitI (decide (c.allow.length ≠ 0)) 32 + bitI (decide (c.deny.length ≠ 0)) 64 + bitI (!bareB c.lv) 128
/-- the bit of a mask -/
def hasB (m : Int) (i : Nat) : Bool := m.toNat.testBit i
def onlyB (k : Int) (c : Con) : Bool :=
  (decide (c.text.size = 0) || hasB (usesN k) 0) && (decide (c.n = 0) || hasB (usesN k) 1) && (decide (c.target = 0) || hasB (usesN k) 2) && (!c.thread || hasB (usesN k) 3) &&
  (decide (c.via.size = 0) || hasB (usesN k) 4) && (decide (c.allow.length = 0) || hasB (usesN k) 5) && (decide (c.deny.length = 0) || hasB (usesN k) 6) && (bareB c.lv || hasB (usesN k) 7)
def errOf (k : Int) (c : Con) : Nat → Int
  | 0 => textE k c
  | 1 => numE k c.n
  | 2 => targetE k c
  | 3 => threadE c
  | 4 => viaE c
  | _ => allowE k c
/-- the first error of the fields that the kind uses, from a field on -/
def fieldsE (k : Int) (c : Con) : List Nat → Int
  | [] => 0
  | i :: r => if hasB (usesN k) i = false then fieldsE k c r else if errOf k c i ≠ 0 then errOf k c i else fieldsE k c r
def lastE (k : Int) (c : Con) : Int := if hasB (usesN k) 6 = true then patternsE c.deny else if hasB (usesN k) 7 = true then levelsE c.lv else 0
def ckE (k : Int) (c : Con) : Int :=
  if knownB k = false ∨ onlyB k c = false then 1
  else if setN c = 0 ∧ keepsN k = 0 then 0
  else if fieldsE k c [0, 1, 2, 3, 4, 5] ≠ 0 then fieldsE k c [0, 1, 2, 3, 4, 5]
  else lastE k c

/-- the reference's order -/
def thenE (a b : Int) : Int := if a ≠ 0 then a else b
def bareK (k : Int) : Bool := decide (k = 7) || decide (k = 8) || decide (k = 9) || decide (k = 10) || decide (k = 11) || decide (k = 12) || decide (k = 13)
def numR (k n : Int) : Int :=
  if k = 2 then (if n < 0 ∨ 4 < n then 2 else 0)
  else if k = 4 ∨ k = 5 then (if n < 0 ∨ 3 < n then 2 else 0)
  else if k = 8 then (if n < 0 ∨ 1000000000 < n then 2 else 0)
  else if k = 10 then (if n < 1 ∨ 10000 < n then 2 else 0)
  else if k = 9 then (if n = 1 ∨ n = 2 ∨ n = 6 then 0 else 2)
  else 0
def targetR (k : Int) (c : Con) : Int := if hasB (usesN k) 2 = true ∧ (c.target < 0 ∨ (c.target = 0 ∧ k ≠ 11)) then 2 else if c.thread = true ∧ c.target = 0 then 1 else 0
def ckR (k : Int) (c : Con) : Int :=
  if knownB k = false ∨ onlyB k c = false then 1
  else if bareK k = true ∧ setN c = 0 then 0
  else thenE (textE k c) (thenE (numR k c.n) (thenE (targetR k c) (thenE (viaE c) (if k = 4 then rulesE c else thenE (patternsE c.allow) (thenE (patternsE c.deny) (levelsE c.lv))))))

theorem known_cases {k : Int} (h : knownB k = true) : k = 1 ∨ k = 2 ∨ k = 3 ∨ k = 4 ∨ k = 5 ∨ k = 6 ∨ k = 7 ∨ k = 8 ∨ k = 9 ∨ k = 10 ∨ k = 11 ∨ k = 12 ∨ k = 13 ∨ k = 14 := by
  unfold knownB at h; simp at h; omega
theorem patternsE_nil {l : List ByteArray} (h : l.length = 0) : patternsE l = 0 := by
  cases l with
  | nil => rfl
  | cons a l => simp at h
theorem bare_zero {l : Lev} (h : bareB l = true) : l = Lev.zero := by
  obtain ⟨a, b, c, d, e, f, g, h', i⟩ := l
  simp only [bareB, Bool.and_eq_true, decide_eq_true_eq, List.isEmpty_iff] at h
  obtain ⟨⟨⟨⟨⟨⟨⟨⟨rfl, rfl⟩, rfl⟩, rfl⟩, rfl⟩, rfl⟩, rfl⟩, rfl⟩, rfl⟩ := h
  rfl
theorem levelsE_zero {l : Lev} (h : bareB l = true) : levelsE l = 0 := by rw [bare_zero h]; decide
theorem bitI_nn (b : Bool) {n : Int} (h : 0 ≤ n) : 0 ≤ bitI b n := by unfold bitI; split <;> omega
theorem setN_zero {c : Con} : setN c = 0 ↔ (c.text.size = 0 ∧ c.n = 0 ∧ c.target = 0 ∧ c.thread = false ∧ c.via.size = 0 ∧ c.allow.length = 0 ∧ c.deny.length = 0 ∧ bareB c.lv = true) := by
  unfold setN bitI
  constructor
  · intro h
    refine ⟨?_, ?_, ?_, ?_, ?_, ?_, ?_, ?_⟩
    all_goals (simp only [decide_eq_true_eq, Bool.not_eq_true', ne_eq] at h)
    · by_cases e : c.text.size = 0
      · exact e
      · exfalso; rw [if_pos e] at h; repeat' split at h
        all_goals omega
    · by_cases e : c.n = 0
      · exact e
      · exfalso; rw [if_pos e] at h; repeat' split at h
        all_goals omega
    · by_cases e : c.target = 0
      · exact e
      · exfalso; rw [if_pos e] at h; repeat' split at h
        all_goals omega
    · cases e : c.thread
      · rfl
      · exfalso; rw [if_pos e] at h; repeat' split at h
        all_goals omega
    · by_cases e : c.via.size = 0
      · exact e
      · exfalso; rw [if_pos e] at h; repeat' split at h
        all_goals omega
    · by_cases e : c.allow.length = 0
      · exact e
      · exfalso; rw [if_pos e] at h; repeat' split at h
        all_goals omega
    · by_cases e : c.deny.length = 0
      · exact e
      · exfalso; rw [if_pos e] at h; repeat' split at h
        all_goals omega
    · cases e : bareB c.lv
      · exfalso; rw [if_pos e] at h; repeat' split at h
        all_goals omega
      · rfl
  · rintro ⟨h1, h2, h3, h4, h5, h6, h7, h8⟩
    simp [h1, h2, h3, h4, h5, h6, h7, h8]
theorem empty_of {s : ByteArray} (h : s.size = 0) : s = ⟨#[]⟩ := by
  cases s with | mk a => simp [ByteArray.size] at h; rw [h]
theorem len0_nil {α : Type} {l : List α} (h : l.length = 0) : l = [] := List.eq_nil_of_length_eq_zero h
theorem setN_Con {c : Con} : setN c = 0 ↔ c = Con.zero := by
  rw [setN_zero]
  constructor
  · rintro ⟨h1, h2, h3, h4, h5, h6, h7, h8⟩
    obtain ⟨a, b, d, e, f, g, h, i⟩ := c
    dsimp only at *
    rw [empty_of h1, h2, h3, h4, empty_of h5, len0_nil h6, len0_nil h7, bare_zero h8]; rfl
  · rintro rfl
    exact ⟨rfl, rfl, rfl, rfl, rfl, rfl, rfl, by decide⟩
theorem thenE_z {b : Int} : thenE 0 b = b := if_neg (by simp)
theorem thenE_r {a : Int} : thenE a 0 = a := by unfold thenE; split; rfl; omega
theorem ckE_R (k : Int) (c : Con) : ckR k c = ckE k c := by
  unfold ckR ckE
  by_cases h1 : knownB k = false ∨ onlyB k c = false
  · rw [if_pos h1, if_pos h1]
  · rw [if_neg h1, if_neg h1]
    have hk : knownB k = true := by cases h : knownB k; exact absurd (.inl h) h1; rfl
    have ho : onlyB k c = true := by cases h : onlyB k c; exact absurd (.inr h) h1; rfl
    simp only [onlyB, Bool.and_eq_true, Bool.or_eq_true, decide_eq_true_eq, Bool.not_eq_true'] at ho
    obtain ⟨⟨⟨⟨⟨⟨⟨o0, o1⟩, o2⟩, o3⟩, o4⟩, o5⟩, o6⟩, o7⟩ := ho
    by_cases hz : setN c = 0
    · obtain ⟨z0, z1, z2, z3, z4, z5, z6, z7⟩ := setN_zero.1 hz
      rcases known_cases hk with rfl | rfl | rfl | rfl | rfl | rfl | rfl | rfl | rfl | rfl | rfl | rfl | rfl | rfl
      all_goals first
        | rw [if_pos ⟨by decide, hz⟩, if_pos ⟨hz, by decide⟩]
        | (simp [bareK, keepsN, hz, textE, z0, numR, numE, z1, targetR, targetE, threadE, z2, z3, viaE, z4, patternsE_nil z5, patternsE_nil z6, levelsE_zero z7, fieldsE, lastE, hasB, usesN, errOf, allowE, thenE, rulesE, z5, roomsE, len0_nil z5, firstE, Nat.testBit, show patternsE [] = 0 from rfl]; done)
    · have n1 : ¬ (bareK k = true ∧ setN c = 0) := fun h => hz h.2
      have n2 : ¬ (setN c = 0 ∧ keepsN k = 0) := fun h => hz h.1
      rw [if_neg n1, if_neg n2]
      clear n1 n2 hz h1
      have p5 : c.allow.length = 0 → patternsE c.allow = 0 := patternsE_nil
      have p6 : c.deny.length = 0 → patternsE c.deny = 0 := patternsE_nil
      have p7 : bareB c.lv = true → levelsE c.lv = 0 := levelsE_zero
      have p8 : c.via.size = 0 → viaE c = 0 := fun h => if_pos h
      have p9 : c.allow.length = 0 → rulesE c = 0 := fun h => by unfold rulesE; rw [if_neg (by omega), len0_nil h]; rfl
      have p0 : c.text.size = 0 → k ≠ 12 → textE k c = 0 := fun h h' => by unfold textE; simp [h, h']
      have hT : threadE c = if c.thread = true ∧ c.target = 0 then 1 else 0 := rfl
      rcases known_cases hk with rfl | rfl | rfl | rfl | rfl | rfl | rfl | rfl | rfl | rfl | rfl | rfl | rfl | rfl
      all_goals
        simp [hasB, usesN, Nat.testBit] at o0 o1 o2 o3 o4 o5 o6 o7
        simp only [fieldsE, lastE, errOf, allowE]
        simp [hasB, usesN, thenE, Nat.testBit, numR, numE, targetR, targetE, hT]
        clear hk
        generalize textE _ c = PT at *
        generalize patternsE c.allow = P5 at *
        generalize patternsE c.deny = P6 at *
        generalize levelsE c.lv = P7 at *
        generalize rulesE c = PR at *
        generalize viaE c = PV at *
        simp [p0, p5, p6, p7, p8, p9, o0, o1, o2, o3, o4, o5, o6, o7]
      all_goals (clear p0 p5 p6 p7 p8 p9; first | omega | (repeat' split <;> first | omega | rfl | simp_all; done))
end

section
open Go.RowKit
attribute [local go_sem] Addr.add_mid
theorem ConR.gets {w : World} {S : Nat → Prop} {cs : List Value} {c : Con} (h : ConR w S cs c) : cs[0]? = some (.string c.text) ∧ cs[1]? = some (.int .i64 c.n) ∧ cs[2]? = some (.int .i64 c.target) ∧ cs[3]? = some (.bool c.thread) ∧ cs[4]? = some (.string c.via) := by
  obtain ⟨_, _, _, _, rfl, _⟩ := h; exact ⟨rfl, rfl, rfl, rfl, rfl⟩
theorem ConR.lists {w : World} {S : Nat → Prop} {cs : List Value} {c : Con} (h : ConR w S cs c) : ∃ A1 c1 A2 c2, cs[5]? = some (.slice A1 c.allow.length c1) ∧ cs[6]? = some (.slice A2 c.deny.length c2) ∧ Row w w.heap.size A1 (svs c.allow) ∧ Row w w.heap.size A2 (svs c.deny) := by
  obtain ⟨va, vd, vu, vk, rfl, h1, h2, h3, h4⟩ := h
  obtain ⟨A1, c1, rfl, _, _, _, h1, _⟩ := h1.form
  obtain ⟨A2, c2, rfl, _, _, _, h2, _⟩ := h2.form
  exact ⟨A1, c1, A2, c2, rfl, rfl, h1, h2⟩
theorem box_from {w : World} {g k : Nat} {C : List Value} {tb : TypeId} (hB : w.heap[g]? = some (.cells C.toArray tb (0, 0))) : CellsAt w ⟨g, k, none⟩ (C.drop k) := fun j u hu => by
  rw [Addr.add_mid]; exact box_at hB (by simpa using hu)
theorem or_bit_dec : ∀ k < 8, ∀ n < 2 ^ k, bits BinOp.or IntKind.i64 ((n : Nat) : Int) ((2 ^ k : Nat) : Int) = ((n + 2 ^ k : Nat) : Int) := by decide +kernel
theorem or_bit {a : Int} (k : Nat) (hk : k < 8) (h0 : 0 ≤ a) (h1 : a < ((2 ^ k : Nat) : Int)) : bits BinOp.or IntKind.i64 a ((2 ^ k : Nat) : Int) = a + ((2 ^ k : Nat) : Int) := by
  obtain ⟨n, rfl⟩ := Int.eq_ofNat_of_zero_le h0
  exact or_bit_dec k hk n (by exact_mod_cast h1)
theorem bitI_bd (b : Bool) (n : Int) (h : 0 < n) : 0 ≤ bitI b n ∧ bitI b n ≤ n := by unfold bitI; split <;> omega
theorem size_empty {s : ByteArray} (h : s.toList = []) : s.size = 0 := by rw [ByteArray.toList_eq] at h; rw [← Enc.size_toList, h]; rfl
theorem empty_size {s : ByteArray} (h : s.size = 0) : s.toList = [] := by rw [ByteArray.toList_eq]; exact List.eq_nil_of_length_eq_zero (by rw [Enc.size_toList, h])

theorem str_b (s : ByteArray) : (!s.toList.isEmpty) = decide (s.size ≠ 0) := by
  by_cases h : s.size = 0
  · rw [empty_size h]; simp [h]
  · have : s.toList ≠ [] := fun e => h (size_empty e)
    simp [h, this]
theorem int_b (n : Int) : (n != 0) = decide (n ≠ 0) := by by_cases h : n = 0 <;> simp [h]
theorem or_b7 {a : Int} (h0 : 0 ≤ a) (h1 : a < 128) : bits BinOp.or IntKind.i64 a 128 = a + 128 := or_bit 7 (by decide) h0 h1

set_option maxRecDepth 100000 in
set_option maxHeartbeats 1600000 in
theorem Cbare_any {S : Nat → Prop} {cs : List Value} {l : Lev} {w : World} (hr : LevR w S cs l) :
    Calls Tryz.prog 167 #[.agg cs.toArray] w (Says (bareB l) w) := by
  obtain ⟨vu, vk, rfl, hu, hk⟩ := hr
  obtain ⟨A1, c1, rfl, _⟩ := hu.form
  obtain ⟨A2, c2, rfl, _⟩ := hk.form
  rw [levCells_get]
  clear hu hk
  go_enter Tryz.func167, Tryz.ntmps167
  go_wp2_with fail
  all_goals (go_ret; exact ⟨ret_b (by simp [bareB, *]), ext_alloc (ext_refl w) _⟩)

set_option maxRecDepth 100000 in
set_option maxHeartbeats 1600000 in
theorem set_any {S : Nat → Prop} {cs : List Value} {c : Con} {w : World} (hr : ConR w S cs c) :
    Calls Tryz.prog 105 #[.agg cs.toArray] w (fun e w' => e = .returned (.int .i64 (setN c)) ∧ Below w.heap.size w w') := by
  obtain ⟨s0, s1, s2, s3, s4⟩ := hr.gets
  obtain ⟨A1, c1, A2, c2, s5, s6, _, _⟩ := hr.lists
  have HR := hide hr
  have hlen := hide hr.length
  have B := heap_alloc_new w (.cells cs.toArray 31)
  have hb := ext_alloc (ext_refl w) (.cells cs.toArray 31)
  clear hr
  go_enter Tryz.func105, Tryz.ntmps105
  go_upto_region 1 with fail
  generalize w.alloc (.cells cs.toArray 31) = W at B hb ⊢
  have r0 := box_at B s0
  have r1 := box_at B s1
  have r2 := box_at B s2
  have r3 := box_at B s3
  have r4 := box_at B s4
  have r5 := box_at B s5
  have r6 := box_at B s6
  clear s0 s1 s2 s3 s4 s5 s6
  have HB := hide B; clear B
  obtain ⟨a0, ha0⟩ : ∃ a0 : Int, a0 = 0 := ⟨_, rfl⟩
  obtain ⟨a1, ha1⟩ : ∃ x : Int, x = bitI (decide (c.text.size ≠ 0)) 1 := ⟨_, rfl⟩
  have hn1 : 0 ≤ a1 ∧ a1 < 2 := by have := bitI_bd (decide (c.text.size ≠ 0)) 1 (by decide); omega
  have HA1 := hide ha1; clear ha1
  obtain ⟨a2, ha2⟩ : ∃ x : Int, x = a1 + bitI (decide (c.n ≠ 0)) 2 := ⟨_, rfl⟩
  have hn2 : 0 ≤ a2 ∧ a2 < 4 := by have := bitI_bd (decide (c.n ≠ 0)) 2 (by decide); omega
  have ho1 : bits BinOp.or IntKind.i64 a1 2 = a1 + 2 := or_bit 1 (by decide) hn1.1 (by have := hn1.2; omega)
  have HA2 := hide ha2; clear ha2
  obtain ⟨a3, ha3⟩ : ∃ x : Int, x = a2 + bitI (decide (c.target ≠ 0)) 4 := ⟨_, rfl⟩
  have hn3 : 0 ≤ a3 ∧ a3 < 8 := by have := bitI_bd (decide (c.target ≠ 0)) 4 (by decide); omega
  have ho2 : bits BinOp.or IntKind.i64 a2 4 = a2 + 4 := or_bit 2 (by decide) hn2.1 (by have := hn2.2; omega)
  have HA3 := hide ha3; clear ha3
  obtain ⟨a4, ha4⟩ : ∃ x : Int, x = a3 + bitI (c.thread) 8 := ⟨_, rfl⟩
  have hn4 : 0 ≤ a4 ∧ a4 < 16 := by have := bitI_bd (c.thread) 8 (by decide); omega
  have ho3 : bits BinOp.or IntKind.i64 a3 8 = a3 + 8 := or_bit 3 (by decide) hn3.1 (by have := hn3.2; omega)
  have HA4 := hide ha4; clear ha4
  obtain ⟨a5, ha5⟩ : ∃ x : Int, x = a4 + bitI (decide (c.via.size ≠ 0)) 16 := ⟨_, rfl⟩
  have hn5 : 0 ≤ a5 ∧ a5 < 32 := by have := bitI_bd (decide (c.via.size ≠ 0)) 16 (by decide); omega
  have ho4 : bits BinOp.or IntKind.i64 a4 16 = a4 + 16 := or_bit 4 (by decide) hn4.1 (by have := hn4.2; omega)
  have HA5 := hide ha5; clear ha5
  obtain ⟨a6, ha6⟩ : ∃ x : Int, x = a5 + bitI (decide (c.allow.length ≠ 0)) 32 := ⟨_, rfl⟩
  have hn6 : 0 ≤ a6 ∧ a6 < 64 := by have := bitI_bd (decide (c.allow.length ≠ 0)) 32 (by decide); omega
  have ho5 : bits BinOp.or IntKind.i64 a5 32 = a5 + 32 := or_bit 5 (by decide) hn5.1 (by have := hn5.2; omega)
  have HA6 := hide ha6; clear ha6
  obtain ⟨a7, ha7⟩ : ∃ x : Int, x = a6 + bitI (decide (c.deny.length ≠ 0)) 64 := ⟨_, rfl⟩
  have hn7 : 0 ≤ a7 ∧ a7 < 128 := by have := bitI_bd (decide (c.deny.length ≠ 0)) 64 (by decide); omega
  have ho6 : bits BinOp.or IntKind.i64 a6 64 = a6 + 64 := or_bit 6 (by decide) hn6.1 (by have := hn6.2; omega)
  have HA7 := hide ha7; clear ha7
  clear ha0 a0
  go_upto_if 6 with fail
  go_cut [3] (fun s wx => s = .int .i64 a1 ∧ wx = W)
  case first =>
    go_wp2_with fail
    all_goals (go_meet; refine ⟨?_, rfl⟩; rw [HA1.out]; rename_i h; rw [str_b] at h; rw [h]; first | rfl | (rw [show bits BinOp.or IntKind.i64 0 1 = 1 by decide]; rfl))
  case rest =>
  obtain ⟨rfl, hw⟩ := hcut
  rw [hw]; clear hw wc
  go_upto_if 11 with fail
  go_cut [3] (fun s wx => s = .int .i64 a2 ∧ wx = W)
  case first =>
    go_wp2_with fail
    all_goals (go_meet; refine ⟨?_, rfl⟩; rw [HA2.out]; rename_i h; rw [int_b] at h; rw [h]; simp [bitI])
  case rest =>
  obtain ⟨rfl, hw⟩ := hcut
  rw [hw]; clear hw wc
  go_upto_if 16 with fail
  go_cut [3] (fun s wx => s = .int .i64 a3 ∧ wx = W)
  case first =>
    go_wp2_with fail
    all_goals (go_meet; refine ⟨?_, rfl⟩; rw [HA3.out]; rename_i h; rw [int_b] at h; rw [h]; simp [bitI])
  case rest =>
  obtain ⟨rfl, hw⟩ := hcut
  rw [hw]; clear hw wc
  go_upto_if 20 with fail
  go_cut [3] (fun s wx => s = .int .i64 a4 ∧ wx = W)
  case first =>
    go_wp2_with fail
    all_goals (go_meet; refine ⟨?_, rfl⟩; rw [HA4.out]; rename_i h; rw [h]; simp [bitI])
  case rest =>
  obtain ⟨rfl, hw⟩ := hcut
  rw [hw]; clear hw wc
  go_upto_if 25 with fail
  go_cut [3] (fun s wx => s = .int .i64 a5 ∧ wx = W)
  case first =>
    go_wp2_with fail
    all_goals (go_meet; refine ⟨?_, rfl⟩; rw [HA5.out]; rename_i h; rw [str_b] at h; rw [h]; simp [bitI])
  case rest =>
  obtain ⟨rfl, hw⟩ := hcut
  rw [hw]; clear hw wc
  go_upto_if 31 with fail
  go_cut [3] (fun s wx => s = .int .i64 a6 ∧ wx = W)
  case first =>
    go_wp2_with fail
    all_goals (go_meet; refine ⟨?_, rfl⟩; rw [HA6.out]; rename_i h; first | (rw [show decide (c.allow.length ≠ 0) = true from decide_eq_true (by omega)]; simp [bitI]; done) | (rw [show decide (c.allow.length ≠ 0) = false from decide_eq_false (by omega)]; simp [bitI]))
  case rest =>
  obtain ⟨rfl, hw⟩ := hcut
  rw [hw]; clear hw wc
  go_upto_if 37 with fail
  go_cut [3] (fun s wx => s = .int .i64 a7 ∧ wx = W)
  case first =>
    go_wp2_with fail
    all_goals (go_meet; refine ⟨?_, rfl⟩; rw [HA7.out]; rename_i h; first | (rw [show decide (c.deny.length ≠ 0) = true from decide_eq_true (by omega)]; simp [bitI]; done) | (rw [show decide (c.deny.length ≠ 0) = false from decide_eq_false (by omega)]; simp [bitI]))
  case rest =>
  obtain ⟨rfl, hw⟩ := hcut
  rw [hw]; clear hw wc
  have ho7 := or_b7 hn7.1 hn7.2
  have CB := fun W' (hb' : Below w.heap.size w W') => Cbare_any (HR.out.lev.ext hb')
  have HS := hide (show setN c = a7 + bitI (!bareB c.lv) 128 by unfold setN; rw [HA7.out, HA6.out, HA5.out, HA4.out, HA3.out, HA2.out, HA1.out])
  obtain ⟨bb, hbb⟩ : ∃ bb, bareB c.lv = bb := ⟨_, rfl⟩
  simp only [hbb] at CB
  have HBB := hide hbb; clear hbb
  have HN := hide (show (cs.drop 7).length = 9 by rw [List.length_drop, hlen.out])
  cases bb
  all_goals
    go_wp2_with (first
      | refine wpList_loadS rfl (.tmp 40) rfl strcL ⟨w.heap.size, 7, none⟩ rfl (cs.drop 7) HN.out (box_from HB.out) ?_
      | (go_at_call 167; refine (CB _ hb).mono ?_; rintro e w2 ⟨rfl, hb2⟩))
    go_ret
    exact ⟨by rw [HS.out, HBB.out]; simp [bitI], ext_trans hb hb2⟩
end
end Go.Proofs.YtmlnmcoophnlaaaGreat

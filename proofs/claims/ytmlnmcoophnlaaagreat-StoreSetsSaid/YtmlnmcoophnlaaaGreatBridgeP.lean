/-
  Plain: the escaped form of a name, and back.
  Plain: identifiers of users; the ghost of an identity, and the identity of a ghost.
  Plain: lists of ghosts, in order; one more; the first one of an identity.
  Plain: what User, Back, Check and Bind answer; right lists stay right.
-/
import Derived.Test.YtmlnmcoophnlaaaGreatEnc
set_option linter.unusedVariables false
set_option linter.unusedSimpArgs false
namespace Go.Proofs.YtmlnmcoophnlaaaGreat
section
open Go.RowKit

/-- a byte that stands for itself -/
def plainB (c : UInt8) : Bool := (decide (97 ≤ c.toNat) && decide (c.toNat ≤ 122)) || (decide (48 ≤ c.toNat) && decide (c.toNat ≤ 57))
def hexN (n : Nat) : Nat := if n < 10 then 48 + n else 87 + n
def hexB (n : Nat) : UInt8 := UInt8.ofNat (hexN n)
def escB (c : UInt8) : List UInt8 := if plainB c then [c] else [61, hexB (c.toNat / 16), hexB (c.toNat % 16)]
def escL (l : List UInt8) : List UInt8 := l.flatMap escB
/-- a digit's value, 0 for another byte -/
def digV (c : UInt8) : Nat := if 48 ≤ c.toNat ∧ c.toNat ≤ 57 then c.toNat - 48 else if 97 ≤ c.toNat ∧ c.toNat ≤ 102 then c.toNat - 87 else 0
def unescL : List UInt8 → List UInt8
  | [] => []
  | [c] => [c]
  | [c, d] => [c, d]
  | c :: a :: b :: r => if c = 61 then UInt8.ofNat (digV a * 16 + digV b) :: unescL r else c :: unescL (a :: b :: r)
theorem byte_all {p : UInt8 → Prop} (h : ∀ n : Fin 256, p (UInt8.ofNat n.val)) (c : UInt8) : p c := by
  have := h ⟨c.toNat, c.toNat_lt⟩
  simpa using this
theorem hex_back (c : UInt8) : UInt8.ofNat (digV (hexB (c.toNat / 16)) * 16 + digV (hexB (c.toNat % 16))) = c := by
  revert c
  exact byte_all (by decide +kernel)
theorem plain_not (c : UInt8) : plainB c = true → c ≠ 61 ∧ c ≠ 95 := by
  revert c
  exact byte_all (by decide +kernel)
theorem esc_not (c : UInt8) : ∀ d ∈ escB c, d ≠ 95 := by
  revert c
  exact byte_all (by decide +kernel)
theorem unescL_plain (c : UInt8) (h : c ≠ 61) (r : List UInt8) : unescL (c :: r) = c :: unescL r := by
  match r with
  | [] => rfl
  | [d] => rfl
  | a :: b :: r =>
    show (if c = 61 then UInt8.ofNat (digV a * 16 + digV b) :: unescL r else c :: unescL (a :: b :: r)) = _
    rw [if_neg h]
theorem unesc_esc : ∀ l : List UInt8, unescL (escL l) = l
  | [] => rfl
  | c :: l => by
    have ih := unesc_esc l
    have hs : escL (c :: l) = escB c ++ escL l := by simp [escL]
    rw [hs]
    unfold escB
    by_cases hp : plainB c = true
    · rw [if_pos hp, List.singleton_append, unescL_plain c (plain_not c hp).1, ih]
    · rw [if_neg hp]
      show unescL (61 :: hexB (c.toNat / 16) :: hexB (c.toNat % 16) :: escL l) = c :: l
      unfold unescL
      rw [if_pos rfl, hex_back, ih]
theorem escL_not (l : List UInt8) : ∀ d ∈ escL l, d ≠ 95 := fun d hd => by
  obtain ⟨c, _, hc⟩ := List.mem_flatMap.1 hd
  exact esc_not c d hc
theorem escL_inj {a b : List UInt8} (h : escL a = escL b) : a = b := by rw [← unesc_esc a, h, unesc_esc]
theorem escL_nil {l : List UInt8} : escL l = [] ↔ l = [] := ⟨fun h => escL_inj (h.trans rfl), fun h => by rw [h]; rfl⟩
theorem escL_length (l : List UInt8) : l.length ≤ (escL l).length ∧ (escL l).length ≤ 3 * l.length := by
  induction l with
  | nil => exact ⟨Nat.le_refl _, Nat.le_refl _⟩
  | cons c l ih =>
    have hs : escL (c :: l) = escB c ++ escL l := by simp [escL]
    have hb : 1 ≤ (escB c).length ∧ (escB c).length ≤ 3 := by unfold escB; split <;> simp
    rw [hs, List.length_append, List.length_cons]
    omega
theorem escL_append (a b : List UInt8) : escL (a ++ b) = escL a ++ escL b := by simp [escL]

/-- the reference's way back -/
def hexOk (c : UInt8) : Bool := (decide (48 ≤ c.toNat) && decide (c.toNat ≤ 57)) || (decide (97 ≤ c.toNat) && decide (c.toNat ≤ 102))
def refUnesc : List UInt8 → Option (List UInt8)
  | [] => some []
  | [c] => if c = 61 then none else some [c]
  | [c, d] => if c = 61 then none else (refUnesc [d]).map (c :: ·)
  | c :: a :: b :: r => if c = 61 then (if hexOk a && hexOk b then (refUnesc r).map (UInt8.ofNat (digV a * 16 + digV b) :: ·) else none) else (refUnesc (a :: b :: r)).map (c :: ·)
theorem refUnesc_some : ∀ {l n : List UInt8}, refUnesc l = some n → unescL l = n
  | [], n, h => by injection h
  | [c], n, h => by
    unfold refUnesc at h
    split at h
    · cases h
    · injection h
  | [c, d], n, h => by
    simp only [refUnesc] at h
    split at h
    · cases h
    · split at h
      · cases h
      · injection h
  | c :: a :: b :: r, n, h => by
    unfold refUnesc at h
    split at h
    · next e =>
      split at h
      · cases hr : refUnesc r with
        | none => rw [hr] at h; cases h
        | some m =>
          rw [hr] at h
          injection h with h
          subst h
          unfold unescL
          rw [if_pos e, refUnesc_some hr]
      · cases h
    · next e =>
      cases hr : refUnesc (a :: b :: r) with
      | none => rw [hr] at h; cases h
      | some m =>
        rw [hr] at h
        injection h with h
        subst h
        rw [unescL_plain c e, refUnesc_some hr]
theorem refUnesc_plain (c : UInt8) (h : c ≠ 61) (r : List UInt8) : refUnesc (c :: r) = (refUnesc r).map (c :: ·) := by
  match r with
  | [] => simp [refUnesc, h]
  | [d] =>
    show (if c = 61 then none else (refUnesc [d]).map (c :: ·)) = _
    rw [if_neg h]
  | a :: b :: r =>
    show (if c = 61 then _ else (refUnesc (a :: b :: r)).map (c :: ·)) = _
    rw [if_neg h]
theorem hex_ok (c : UInt8) : (hexOk (hexB (c.toNat / 16)) && hexOk (hexB (c.toNat % 16))) = true := by
  revert c
  exact byte_all (by decide +kernel)
theorem refUnesc_esc : ∀ l : List UInt8, refUnesc (escL l) = some l
  | [] => rfl
  | c :: l => by
    have ih := refUnesc_esc l
    have hs : escL (c :: l) = escB c ++ escL l := by simp [escL]
    rw [hs]
    unfold escB
    by_cases hp : plainB c = true
    · rw [if_pos hp, List.singleton_append, refUnesc_plain c (plain_not c hp).1, ih]; rfl
    · rw [if_neg hp]
      show refUnesc (61 :: hexB (c.toNat / 16) :: hexB (c.toNat % 16) :: escL l) = some (c :: l)
      unfold refUnesc
      rw [if_pos rfl, if_pos (hex_ok c), hex_back, ih]
      rfl
/-- what stands in front of the first c, and behind it (strings.Cut) -/
def cutL (c : UInt8) : List UInt8 → Option (List UInt8 × List UInt8)
  | [] => none
  | x :: r => if x = c then some ([], r) else (cutL c r).map fun p => (x :: p.1, p.2)
theorem cutL_some {c : UInt8} : ∀ {l a b : List UInt8}, cutL c l = some (a, b) → l = a ++ c :: b ∧ ∀ x ∈ a, x ≠ c
  | [], _, _, h => by cases h
  | x :: r, a, b, h => by
    unfold cutL at h
    split at h
    · next e => injection h with h; injection h with h1 h2; subst h1 h2 e; exact ⟨rfl, by simp⟩
    · next e =>
      cases hc : cutL c r with
      | none => rw [hc] at h; cases h
      | some p =>
        rw [hc] at h
        injection h with h; injection h with h1 h2
        subst h1 h2
        have := cutL_some (a := p.1) (b := p.2) hc
        refine ⟨by rw [List.cons_append, ← this.1], fun y hy => ?_⟩
        rcases List.mem_cons.1 hy with rfl | hy
        · exact e
        · exact this.2 y hy
theorem cutL_of {c : UInt8} : ∀ {a : List UInt8} (b : List UInt8), (∀ x ∈ a, x ≠ c) → cutL c (a ++ c :: b) = some (a, b)
  | [], b, _ => by simp [cutL]
  | x :: a, b, h => by
    have hx : x ≠ c := h x (by simp)
    rw [List.cons_append]
    unfold cutL
    rw [if_neg hx, cutL_of b (fun y hy => h y (by simp [hy]))]
    rfl
end

section
open Go.RowKit

def localC (c : UInt8) : Bool := plainB c || c == 95 || c == 46 || c == 45 || c == 61
def serverC (c : UInt8) : Bool := plainB c || c == 46 || c == 45
def localOk (l : List UInt8) : Prop := 1 ≤ l.length ∧ l.length ≤ 32 ∧ ∀ c ∈ l, localC c = true
def serverOk (l : List UInt8) : Prop := 1 ≤ l.length ∧ l.length ≤ 32 ∧ (∀ c ∈ l, serverC c = true) ∧ (∀ c, l.head? = some c → plainB c = true) ∧ ∀ c, l.getLast? = some c → plainB c = true
def netOk (l : List UInt8) : Prop := 1 ≤ l.length ∧ l.length ≤ 8 ∧ ∀ c ∈ l, plainB c = true
/-- these are the parts of an identifier with this mark -/
def Parts (m : UInt8) (u a b : List UInt8) : Prop := u = m :: (a ++ 58 :: b) ∧ localOk a ∧ serverOk b
theorem localC_not (c : UInt8) : localC c = true → c ≠ 58 := by
  revert c
  exact byte_all (by decide +kernel)
theorem Parts.cut {m : UInt8} {u a b : List UInt8} (h : Parts m u a b) : ∃ r, u = m :: r ∧ cutL 58 r = some (a, b) := ⟨_, h.1, cutL_of b fun x hx => localC_not x (h.2.1.2.2 x hx)⟩
theorem Parts.unique {m m' : UInt8} {u a b a' b' : List UInt8} (h : Parts m u a b) (h' : Parts m' u a' b') : m = m' ∧ a = a' ∧ b = b' := by
  obtain ⟨r, e, hc⟩ := h.cut
  obtain ⟨r', e', hc'⟩ := h'.cut
  rw [e] at e'
  injection e' with e1 e2
  subst e2
  rw [hc] at hc'
  injection hc' with hc'
  injection hc' with h1 h2
  exact ⟨e1, h1, h2⟩
def localOf (net name : List UInt8) : List UInt8 := 95 :: (net ++ 95 :: escL name)
def ghostL (net name srv : List UInt8) : List UInt8 := 64 :: (localOf net name ++ 58 :: srv)
/-- the identity has a ghost -/
def Has (net name srv : List UInt8) : Prop := netOk net ∧ name ≠ [] ∧ serverOk srv ∧ (localOf net name).length ≤ 32
theorem esc_local (c : UInt8) : ∀ d ∈ escB c, localC d = true := by
  revert c
  exact byte_all (by decide +kernel)
theorem plain_local (c : UInt8) : plainB c = true → localC c = true := by
  revert c
  exact byte_all (by decide +kernel)
theorem local_ok {net name srv : List UInt8} (h : Has net name srv) : localOk (localOf net name) := by
  refine ⟨by simp [localOf], h.2.2.2, fun c hc => ?_⟩
  unfold localOf at hc
  rcases List.mem_cons.1 hc with rfl | hc
  · decide
  · rcases List.mem_append.1 hc with hc | hc
    · exact plain_local c (h.1.2.2 c hc)
    · rcases List.mem_cons.1 hc with rfl | hc
      · decide
      · obtain ⟨d, _, hd⟩ := List.mem_flatMap.1 hc
        exact esc_local d c hd
/-- the ghost is a user of the server -/
theorem ghost_parts {net name srv : List UInt8} (h : Has net name srv) : Parts 64 (ghostL net name srv) (localOf net name) srv := ⟨rfl, local_ok h, h.2.2.1⟩
theorem net_cut {net form : List UInt8} (h : ∀ c ∈ net, plainB c = true) : cutL 95 (net ++ 95 :: form) = some (net, form) := cutL_of form fun x hx => (plain_not x (h x hx)).2
/-- these are the identity of a user, with the form as the code's 'unescaped' gives it -/
def Back (u net name : List UInt8) : Prop := ∃ srv, Has net name srv ∧ u = ghostL net name srv
theorem Back.unique {u net name net' name' : List UInt8} (h : Back u net name) (h' : Back u net' name') : net = net' ∧ name = name' := by
  obtain ⟨srv, hh, hu⟩ := h
  obtain ⟨srv', hh', hu'⟩ := h'
  have p := ghost_parts hh
  have p' := ghost_parts hh'
  rw [← hu] at p
  rw [← hu'] at p'
  obtain ⟨_, hl, _⟩ := p.unique p'
  unfold localOf at hl
  injection hl with _ hl
  have c1 := net_cut (form := escL name) hh.1.2.2
  rw [hl, net_cut hh'.1.2.2] at c1
  injection c1 with c1
  injection c1 with c1 c2
  exact ⟨c1.symm, (escL_inj c2).symm⟩
/-- different identities have different ghosts -/
theorem ghost_inj {net name srv net' name' srv' : List UInt8} (h : Has net name srv) (h' : Has net' name' srv') (he : ghostL net name srv = ghostL net' name' srv') : net = net' ∧ name = name' ∧ srv = srv' := by
  have hb := Back.unique ⟨srv, h, rfl⟩ ⟨srv', h', he⟩
  have hp := (ghost_parts h).unique (he ▸ ghost_parts h')
  exact ⟨hb.1, hb.2, hp.2.2⟩
/-- what the code does with a user's parts -/
theorem back_code {u loc srv rest net form : List UInt8} (hp : Parts 64 u loc srv) (hl : loc = 95 :: rest) (hc : cutL 95 rest = some (net, form)) (net' name' : List UInt8) :
    Back u net' name' ↔ (net' = net ∧ name' = unescL form ∧ Has net name' srv ∧ ghostL net name' srv = u) := by
  constructor
  · rintro ⟨srv', hh, hu⟩
    have p' := ghost_parts hh
    rw [← hu] at p'
    obtain ⟨_, h1, h2⟩ := hp.unique p'
    subst h2
    rw [hl] at h1
    unfold localOf at h1
    injection h1 with _ h1
    rw [h1, net_cut hh.1.2.2] at hc
    injection hc with hc
    injection hc with e1 e2
    subst e1 e2
    exact ⟨rfl, (unesc_esc _).symm, hh, hu.symm⟩
  · rintro ⟨rfl, _, hh, hu⟩
    exact ⟨srv, hh, hu.symm⟩
/-- no ghost where the local part has another form -/
theorem back_none {u loc srv : List UInt8} (hp : Parts 64 u loc srv) (hn : ∀ rest net form, loc = 95 :: rest → cutL 95 rest = some (net, form) → False) (net name : List UInt8) : ¬ Back u net name := by
  rintro ⟨srv', hh, hu⟩
  have p' := ghost_parts hh
  rw [← hu] at p'
  obtain ⟨_, h1, _⟩ := hp.unique p'
  exact hn _ _ _ h1 (net_cut hh.1.2.2)
/-- the reference: where the form cannot be read, there is no ghost -/
theorem back_ref {u loc srv rest net form : List UInt8} (hp : Parts 64 u loc srv) (hl : loc = 95 :: rest) (hc : cutL 95 rest = some (net, form)) (hr : refUnesc form = none) (net' name' : List UInt8) : ¬ Back u net' name' := by
  intro hb
  obtain ⟨rfl, hn, hh, hu⟩ := (back_code hp hl hc net' name').1 hb
  have p' := ghost_parts hh
  rw [hu] at p'
  obtain ⟨_, h1, _⟩ := hp.unique p'
  rw [hl] at h1
  unfold localOf at h1
  injection h1 with _ h1
  rw [h1, net_cut hh.1.2.2] at hc
  injection hc with hc
  injection hc with _ e2
  rw [← e2, refUnesc_esc] at hr
  cases hr
end

section
open Go.RowKit

theorem bless_tri : ∀ x y : List UInt8, Op.bytesLess x y = false → x ≠ y → Op.bytesLess y x = true
  | [], [], _, h => absurd rfl h
  | [], _ :: _, h, _ => by simp [Op.bytesLess] at h
  | _ :: _, [], _, _ => by simp [Op.bytesLess]
  | a :: x, b :: y, h, hn => by
    simp only [Op.bytesLess, Bool.or_eq_false_iff, Bool.and_eq_false_iff, decide_eq_false_iff_not, beq_eq_false_iff_ne] at h
    simp only [Op.bytesLess, Bool.or_eq_true, Bool.and_eq_true, decide_eq_true_eq, beq_iff_eq]
    by_cases hab : a = b
    · subst hab
      right
      refine ⟨rfl, bless_tri x y (h.2.resolve_left (fun h => h rfl)) fun e => hn (by rw [e])⟩
    · left
      have h1 := UInt8.not_lt.1 h.1
      exact UInt8.lt_of_le_of_ne h1 (fun e => hab e.symm)
theorem bless_trans : ∀ x y z : List UInt8, Op.bytesLess x y = true → Op.bytesLess y z = true → Op.bytesLess x z = true
  | _, [], _, h, _ => by simp [Op.bytesLess] at h
  | _, _ :: _, [], _, h => by simp [Op.bytesLess] at h
  | [], _ :: _, _ :: _, _, _ => by simp [Op.bytesLess]
  | a :: x, b :: y, c :: z, h1, h2 => by
    simp only [Op.bytesLess, Bool.or_eq_true, Bool.and_eq_true, decide_eq_true_eq, beq_iff_eq] at h1 h2 ⊢
    rcases h1 with h1 | ⟨rfl, h1⟩
    · rcases h2 with h2 | ⟨rfl, h2⟩
      · exact .inl (UInt8.lt_trans h1 h2)
      · exact .inl h1
    · rcases h2 with h2 | ⟨rfl, h2⟩
      · exact .inl h2
      · exact .inr ⟨rfl, bless_trans x y z h1 h2⟩
theorem bless_irr : ∀ x : List UInt8, Op.bytesLess x x = false
  | [] => rfl
  | a :: x => by simp [Op.bytesLess, bless_irr x]

structure Gh where (net name user : ByteArray)
abbrev Ident := List UInt8 × List UInt8
def Gh.id (g : Gh) : Ident := (g.net.toList, g.name.toList)
def idLt (a b : Ident) : Bool := Op.bytesLess a.1 b.1 || (a.1 == b.1 && Op.bytesLess a.2 b.2)
theorem idLt_irr (a : Ident) : idLt a a = false := by unfold idLt; simp [bless_irr]
theorem idLt_tri {a b : Ident} (h : idLt a b = false) (hn : a ≠ b) : idLt b a = true := by
  obtain ⟨a1, a2⟩ := a; obtain ⟨b1, b2⟩ := b
  unfold idLt at *
  simp only [Bool.or_eq_false_iff, Bool.and_eq_false_iff, beq_eq_false_iff_ne, Bool.or_eq_true, Bool.and_eq_true, beq_iff_eq] at *
  by_cases e : a1 = b1
  · subst e
    exact .inr ⟨rfl, bless_tri _ _ (h.2.resolve_left (fun h => h rfl)) fun e => hn (by rw [e])⟩
  · exact .inl (bless_tri _ _ h.1 e)
theorem idLt_trans {a b c : Ident} (h1 : idLt a b = true) (h2 : idLt b c = true) : idLt a c = true := by
  obtain ⟨a1, a2⟩ := a; obtain ⟨b1, b2⟩ := b; obtain ⟨c1, c2⟩ := c
  unfold idLt at *
  simp only [Bool.or_eq_true, Bool.and_eq_true, beq_iff_eq] at *
  rcases h1 with h1 | ⟨rfl, h1⟩
  · rcases h2 with h2 | ⟨rfl, h2⟩
    · exact .inl (bless_trans _ _ _ h1 h2)
    · exact .inl h1
  · rcases h2 with h2 | ⟨rfl, h2⟩
    · exact .inl h2
    · exact .inr ⟨rfl, bless_trans _ _ _ h1 h2⟩
/-- the first one of an identity -/
def findG (a : Ident) (l : List Gh) : Option Gh := l.find? fun g => decide (g.id = a)
/-- where the code puts one more: behind those that it does not precede -/
def atC (a : Ident) : List Gh → Nat
  | [] => 0
  | g :: l => if idLt a g.id = false then atC a l + 1 else 0
/-- where the reference puts it: behind those that precede it -/
def atR (a : Ident) : List Gh → Nat
  | [] => 0
  | g :: l => if idLt g.id a = true then atR a l + 1 else 0
theorem at_same {a : Ident} : ∀ {l : List Gh}, findG a l = none → atC a l = atR a l
  | [], _ => rfl
  | g :: l, h => by
    unfold findG at h
    rw [List.find?_eq_none] at h
    have hg : g.id ≠ a := by simpa using h g (by simp)
    have ih : atC a l = atR a l := at_same (by unfold findG; rw [List.find?_eq_none]; exact fun x hx => h x (by simp [hx]))
    unfold atC atR
    by_cases hl : idLt a g.id = false
    · rw [if_pos hl, if_pos (idLt_tri hl (fun e => hg e.symm)), ih]
    · rw [if_neg hl, if_neg]
      intro h2
      have h3 := idLt_trans (by simpa using hl) h2
      rw [idLt_irr] at h3
      cases h3
theorem atR_le (a : Ident) : ∀ l : List Gh, atR a l ≤ l.length
  | [] => Nat.le_refl _
  | g :: l => by unfold atR; have := atR_le a l; split <;> simp <;> omega
def putG (l : List Gh) (x : Gh) : List Gh := l.take (atR x.id l) ++ x :: l.drop (atR x.id l)
/-- in order, each before the next -/
def Inc : List Gh → Prop
  | [] => True
  | [_] => True
  | g :: h :: l => idLt g.id h.id = true ∧ Inc (h :: l)
theorem Inc.tail {g : Gh} {l : List Gh} (h : Inc (g :: l)) : Inc l := by
  cases l with
  | nil => trivial
  | cons _ _ => exact h.2
theorem putG_cons {g x : Gh} {l : List Gh} (h : idLt g.id x.id = true) : putG (g :: l) x = g :: putG l x := by
  unfold putG
  rw [show atR x.id (g :: l) = atR x.id l + 1 by conv => lhs; unfold atR; rw [if_pos h]]
  rfl
theorem putG_here {g x : Gh} {l : List Gh} (h : ¬ idLt g.id x.id = true) : putG (g :: l) x = x :: g :: l := by
  unfold putG
  rw [show atR x.id (g :: l) = 0 by conv => lhs; unfold atR; rw [if_neg h]]
  rfl
theorem putG_inc {x : Gh} : ∀ {l : List Gh}, Inc l → findG x.id l = none → Inc (putG l x)
  | [], _, _ => trivial
  | g :: l, h, hf => by
    unfold findG at hf
    rw [List.find?_eq_none] at hf
    have hg : g.id ≠ x.id := by simpa using hf g (by simp)
    have hf' : findG x.id l = none := by unfold findG; rw [List.find?_eq_none]; exact fun y hy => hf y (by simp [hy])
    by_cases hl : idLt g.id x.id = true
    · rw [putG_cons hl]
      have ih := putG_inc h.tail hf'
      cases l with
      | nil => exact ⟨hl, trivial⟩
      | cons k l =>
        by_cases hk : idLt k.id x.id = true
        · rw [putG_cons hk] at ih ⊢; exact ⟨h.1, ih⟩
        · rw [putG_here hk] at ih ⊢; exact ⟨hl, ih⟩
    · rw [putG_here hl]
      exact ⟨idLt_tri (by simpa using hl) hg, h⟩
theorem putG_mem {x y : Gh} {l : List Gh} : y ∈ putG l x ↔ y = x ∨ y ∈ l := by
  unfold putG
  conv => rhs; rw [← List.take_append_drop (atR x.id l) l]
  simp only [List.mem_append, List.mem_cons]
  constructor
  · rintro (h | h | h)
    · exact .inr (.inl h)
    · exact .inl h
    · exact .inr (.inr h)
  · rintro (h | h | h)
    · exact .inr (.inl h)
    · exact .inl h
    · exact .inr (.inr h)
theorem putG_length (l : List Gh) (x : Gh) : (putG l x).length = l.length + 1 := by
  have := atR_le x.id l
  simp [putG]; omega
theorem findG_some {a : Ident} {l : List Gh} {g : Gh} (h : findG a l = some g) : g ∈ l ∧ g.id = a := by
  unfold findG at h
  exact ⟨List.mem_of_find?_eq_some h, by simpa using List.find?_some h⟩
/-- one more, and looked for again -/
theorem findG_put {x : Gh} : ∀ {l : List Gh}, findG x.id l = none → findG x.id (putG l x) = some x
  | [], _ => by simp [putG, atR, findG]
  | g :: l, hf => by
    have hf0 := hf
    unfold findG at hf
    rw [List.find?_eq_none] at hf
    have hg : ¬ g.id = x.id := by simpa using hf g (by simp)
    have hf' : findG x.id l = none := by unfold findG; rw [List.find?_eq_none]; exact fun y hy => hf y (by simp [hy])
    by_cases hl : idLt g.id x.id = true
    · rw [putG_cons hl]
      have ih := findG_put hf'
      unfold findG at ih ⊢
      rw [List.find?_cons_of_neg (by simpa using hg)]
      exact ih
    · rw [putG_here hl]
      unfold findG
      rw [List.find?_cons_of_pos (by simp)]
end

section
open Go.RowKit
open Classical

/-! ### Cutting at an index -/
theorem cutL_none {c : UInt8} : ∀ {l : List UInt8}, (∀ x ∈ l, x ≠ c) → cutL c l = none
  | [], _ => rfl
  | x :: l, h => by
    unfold cutL
    rw [if_neg (h x (by simp)), cutL_none (fun y hy => h y (by simp [hy]))]
    rfl
theorem cutL_at {c : UInt8} {l : List UInt8} {k : Nat} (h : ∀ x ∈ l.take k, x ≠ c) (hk : l[k]? = some c) : cutL c l = some (l.take k, l.drop (k + 1)) := by
  have hlt := (List.getElem?_eq_some_iff.1 hk).1
  have he := (List.getElem?_eq_some_iff.1 hk).2
  have hs : l = l.take k ++ c :: l.drop (k + 1) := by
    conv => lhs; rw [← List.take_append_drop k l, List.drop_eq_getElem_cons hlt, he]
  conv => lhs; rw [hs]
  exact cutL_of _ h
theorem parts_cut {m : UInt8} {r a b : List UInt8} (hc : cutL 58 r = some (a, b)) (a' b' : List UInt8) : Parts m (m :: r) a' b' ↔ (a' = a ∧ b' = b ∧ localOk a ∧ serverOk b) := by
  constructor
  · intro h
    obtain ⟨r', e, hc'⟩ := h.cut
    injection e with _ e
    subst e
    rw [hc] at hc'
    injection hc' with hc'
    injection hc' with e1 e2
    subst e1 e2
    exact ⟨rfl, rfl, h.2⟩
  · rintro ⟨rfl, rfl, h⟩
    exact ⟨by rw [(cutL_some hc).1], h⟩
theorem parts_none {m : UInt8} {r : List UInt8} (hc : cutL 58 r = none) (a b : List UInt8) : ¬ Parts m (m :: r) a b := fun h => by
  obtain ⟨r', e, hc'⟩ := h.cut
  injection e with _ e
  subst e
  rw [hc] at hc'
  cases hc'
theorem parts_mark {m : UInt8} {u : List UInt8} (h : u.head? ≠ some m) (a b : List UInt8) : ¬ Parts m u a b := fun hp => h (by rw [hp.1]; rfl)

theorem Has.server {net name srv srv' : List UInt8} (h : Has net name srv) (hs : serverOk srv') : Has net name srv' := ⟨h.1, h.2.1, hs, h.2.2.2⟩
/-- User's error -/
noncomputable def userE (net name srv : List UInt8) : Int := if ¬ netOk net then 3 else if name = [] then 9 else if ¬ serverOk srv then 3 else if 32 < (localOf net name).length then 7 else 0
theorem userE_zero {net name srv : List UInt8} : userE net name srv = 0 ↔ Has net name srv := by
  unfold userE Has
  by_cases h1 : netOk net
  · rw [if_neg (by simpa using h1)]
    by_cases h2 : name = []
    · rw [if_pos h2]; simp [h2]
    · rw [if_neg h2]
      by_cases h3 : serverOk srv
      · rw [if_neg (by simpa using h3)]
        by_cases h4 : 32 < (localOf net name).length
        · rw [if_pos h4]; simp [h1, h2, h3]; omega
        · rw [if_neg h4]; simp only [true_iff]; exact ⟨h1, h2, h3, by omega⟩
      · rw [if_pos h3]; simp [h3]
  · rw [if_pos h1]; simp [h1]
/-- the code asks once more -/
theorem long_name {net name : List UInt8} (h : 32 < name.length) : 32 < (localOf net name).length := by
  have := (escL_length name).1
  simp [localOf]; omega
/-- a user's identity and Back's error -/
noncomputable def backE (u : List UInt8) : Int := if ∃ a b, Parts 64 u a b then (if ∃ net name, Back u net name then 0 else 6) else 3
theorem Back.parts {u net name : List UInt8} (h : Back u net name) : ∃ a b, Parts 64 u a b := by
  obtain ⟨srv, hh, rfl⟩ := h
  exact ⟨_, _, ghost_parts hh⟩
theorem backE_zero {u : List UInt8} : backE u = 0 ↔ ∃ net name, Back u net name := by
  unfold backE
  by_cases h1 : ∃ a b, Parts 64 u a b
  · rw [if_pos h1]
    by_cases h2 : ∃ net name, Back u net name
    · rw [if_pos h2]; simp [h2]
    · rw [if_neg h2]; simp [h2]
  · rw [if_neg h1]
    constructor
    · intro h; cases h
    · rintro ⟨n, m, h⟩; exact absurd h.parts h1
def Gh.true (g : Gh) : Prop := Back g.user.toList g.net.toList g.name.toList
/-- Check's error, one element after the other -/
noncomputable def checkE (prev : Option Gh) : List Gh → Int
  | [] => 0
  | g :: l => if backE g.user.toList ≠ 0 then backE g.user.toList else if ¬ g.true then 6 else if ∃ p, prev = some p ∧ idLt p.id g.id = false then 8 else checkE (some g) l
theorem checkE_zero : ∀ {l : List Gh} {prev : Option Gh}, checkE prev l = 0 ↔ (∀ g ∈ l, g.true) ∧ Inc l ∧ ∀ p g, prev = some p → l.head? = some g → idLt p.id g.id = true
  | [], prev => by simp [checkE, Inc]
  | g :: l, prev => by
    unfold checkE
    by_cases h1 : backE g.user.toList = 0
    · rw [if_neg (by simpa using h1)]
      by_cases h2 : g.true
      · rw [if_neg (by simpa using h2)]
        by_cases h3 : ∃ p, prev = some p ∧ idLt p.id g.id = false
        · rw [if_pos h3]
          obtain ⟨p, rfl, hp⟩ := h3
          constructor
          · intro h; cases h
          · rintro ⟨_, _, h⟩
            have := h p g rfl rfl
            rw [hp] at this; cases this
        · rw [if_neg h3, checkE_zero]
          constructor
          · rintro ⟨k1, k2, k3⟩
            refine ⟨fun x hx => ?_, ?_, fun p q hp hq => ?_⟩
            · rcases List.mem_cons.1 hx with rfl | hx
              · exact h2
              · exact k1 x hx
            · cases l with
              | nil => trivial
              | cons k l => exact ⟨k3 g k rfl rfl, k2⟩
            · injection hq with hq; subst hq
              cases hb : idLt p.id g.id with
              | true => rfl
              | false => exact absurd ⟨p, hp, hb⟩ h3
          · rintro ⟨k1, k2, _⟩
            refine ⟨fun x hx => k1 x (by simp [hx]), k2.tail, fun p q hp hq => ?_⟩
            injection hp with hp; subst hp
            cases l with
            | nil => cases hq
            | cons k l => injection hq with hq; subst hq; exact k2.1
      · rw [if_pos h2]
        constructor
        · intro h; cases h
        · rintro ⟨h, _⟩; exact absurd (h g (by simp)) h2
    · rw [if_pos h1]
      constructor
      · intro h; exact absurd h h1
      · rintro ⟨h, _⟩; exact absurd (backE_zero.2 ⟨_, _, h g (by simp)⟩) h1
/-- the list that Bind returns, and the user -/
noncomputable def bindG (l : List Gh) (x : Gh) : List Gh := match findG x.id l with | some _ => l | none => putG l x
noncomputable def bindU (l : List Gh) (x : Gh) : ByteArray := match findG x.id l with | some g => g.user | none => x.user
noncomputable def bindE (l : List Gh) (x : Gh) (srv : List UInt8) : Int := if userE x.net.toList x.name.toList srv ≠ 0 then userE x.net.toList x.name.toList srv else match findG x.id l with | some _ => 0 | none => if 200 ≤ l.length then 29 else 0
/-- a list that Check accepts -/
def Right (l : List Gh) : Prop := l.length ≤ 200 ∧ (∀ g ∈ l, g.true) ∧ Inc l
theorem right_bind {l : List Gh} {x : Gh} (h : Right l) (hx : x.true) (hl : findG x.id l = none → l.length < 200) : Right (bindG l x) := by
  unfold bindG
  cases hf : findG x.id l with
  | some g => exact h
  | none =>
    refine ⟨by have := hl hf; simp only [putG_length]; omega, fun g hg => ?_, putG_inc h.2.2 hf⟩
    rcases putG_mem.1 hg with rfl | hg
    · exact hx
    · exact h.2.1 g hg
/-- bound again: the same list, the same user -/
theorem bind_again {l : List Gh} {x y : Gh} (hxy : y.id = x.id) : bindG (bindG l x) y = bindG l x ∧ bindU (bindG l x) y = bindU l x ∧ ∃ g, findG y.id (bindG l x) = some g := by
  unfold bindG bindU
  rw [hxy]
  cases hf : findG x.id l with
  | some g => simp [hf]
  | none => simp [findG_put hf]
end
end Go.Proofs.YtmlnmcoophnlaaaGreat

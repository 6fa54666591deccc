/-
  Plain: identifiers of users; the ghost of an identity, and the identity of a ghost.
-/
import Derived.Test.YtimdcnickfaddaaBridgeP
set_option linter.unusedVariables false
set_option linter.unusedSimpArgs false
namespace Go.Proofs.Ytimdcnickfaddaa
open Go.RowKit

def localC (c : UInt8) : Bool := plainB c || c == 95 || c == 46 || c == 45 || c == 61
def serverC (c : UInt8) : Bool := plainB c || c == 46 || c == 45
def localOk (l : List UInt8) : Prop := 1 ≤ l.length ∧ l.length ≤ 32 ∧ ∀ c ∈ l, localC c = true
def serverOk (l : List UInt8) : Prop := 1 ≤ l.length ∧ l.length ≤ 32 ∧ (∀ c ∈ l, serverC c = true) ∧ (∀ c, l.head? = some c → plainB c = true) ∧ ∀ c, l.getLast? = some c → plainB c = true
def netOk (l : List UInt8) : Prop := 1 ≤ l.length ∧ l.length ≤ 8 ∧ ∀ c ∈ l, plainB c = true
/-- these are the parts of an identifier with this mark -/
def Parts (m : UInt8) (u a b : List UInt8) : Prop := u = m :: (a ++ 58 :: b) ∧ localOk a ∧ serverOk b
theorem localC_not (c : UInt8) : localC c = true → c ≠ 58 := by
  revert c
  exact byte_all (by decide +kernel)
theorem Parts.cut {m : UInt8} {u a b : List UInt8} (h : Parts m u a b) : ∃ r, u = m :: r ∧ cutL 58 r = some (a, b) := ⟨_, h.1, cutL_of b fun x hx => localC_not x (h.2.1.2.2 x hx)⟩
theorem Parts.unique {m m' : UInt8} {u a b a' b' : List UInt8} (h : Parts m u a b) (h' : Parts m' u a' b') : m = m' ∧ a = a' ∧ b = b' := by
  obtain ⟨r, e, hc⟩ := h.cut
  obtain ⟨r', e', hc'⟩ := h'.cut
  rw [e] at e'
  injection e' with e1 e2
  subst e2
  rw [hc] at hc'
  injection hc' with hc'
  injection hc' with h1 h2
  exact ⟨e1, h1, h2⟩
def localOf (net name : List UInt8) : List UInt8 := 95 :: (net ++ 95 :: escL name)
def ghostL (net name srv : List UInt8) : List UInt8 := 64 :: (localOf net name ++ 58 :: srv)
/-- the identity has a ghost -/
def Has (net name srv : List UInt8) : Prop := netOk net ∧ name ≠ [] ∧ serverOk srv ∧ (localOf net name).length ≤ 32
theorem esc_local (c : UInt8) : ∀ d ∈ escB c, localC d = true := by
  revert c
  exact byte_all (by decide +kernel)
theorem plain_local (c : UInt8) : plainB c = true → localC c = true := by
  revert c
  exact byte_all (by decide +kernel)
theorem local_ok {net name srv : List UInt8} (h : Has net name srv) : localOk (localOf net name) := by
  refine ⟨by simp [localOf], h.2.2.2, fun c hc => ?_⟩
  unfold localOf at hc
  rcases List.mem_cons.1 hc with rfl | hc
  · decide
  · rcases List.mem_append.1 hc with hc | hc
    · exact plain_local c (h.1.2.2 c hc)
    · rcases List.mem_cons.1 hc with rfl | hc
      · decide
      · obtain ⟨d, _, hd⟩ := List.mem_flatMap.1 hc
        exact esc_local d c hd
/-- the ghost is a user of the server -/
theorem ghost_parts {net name srv : List UInt8} (h : Has net name srv) : Parts 64 (ghostL net name srv) (localOf net name) srv := ⟨rfl, local_ok h, h.2.2.1⟩
theorem net_cut {net form : List UInt8} (h : ∀ c ∈ net, plainB c = true) : cutL 95 (net ++ 95 :: form) = some (net, form) := cutL_of form fun x hx => (plain_not x (h x hx)).2
/-- these are the identity of a user, with the form as the code's 'unescaped' gives it -/
def Back (u net name : List UInt8) : Prop := ∃ srv, Has net name srv ∧ u = ghostL net name srv
theorem Back.unique {u net name net' name' : List UInt8} (h : Back u net name) (h' : Back u net' name') : net = net' ∧ name = name' := by
  obtain ⟨srv, hh, hu⟩ := h
  obtain ⟨srv', hh', hu'⟩ := h'
  have p := ghost_parts hh
  have p' := ghost_parts hh'
  rw [← hu] at p
  rw [← hu'] at p'
  obtain ⟨_, hl, _⟩ := p.unique p'
  unfold localOf at hl
  injection hl with _ hl
  have c1 := net_cut (form := escL name) hh.1.2.2
  rw [hl, net_cut hh'.1.2.2] at c1
  injection c1 with c1
  injection c1 with c1 c2
  exact ⟨c1.symm, (escL_inj c2).symm⟩
/-- different identities have different ghosts -/
theorem ghost_inj {net name srv net' name' srv' : List UInt8} (h : Has net name srv) (h' : Has net' name' srv') (he : ghostL net name srv = ghostL net' name' srv') : net = net' ∧ name = name' ∧ srv = srv' := by
  have hb := Back.unique ⟨srv, h, rfl⟩ ⟨srv', h', he⟩
  have hp := (ghost_parts h).unique (he ▸ ghost_parts h')
  exact ⟨hb.1, hb.2, hp.2.2⟩
/-- what the code does with a user's parts -/
theorem back_code {u loc srv rest net form : List UInt8} (hp : Parts 64 u loc srv) (hl : loc = 95 :: rest) (hc : cutL 95 rest = some (net, form)) (net' name' : List UInt8) :
    Back u net' name' ↔ (net' = net ∧ name' = unescL form ∧ Has net name' srv ∧ ghostL net name' srv = u) := by
  constructor
  · rintro ⟨srv', hh, hu⟩
    have p' := ghost_parts hh
    rw [← hu] at p'
    obtain ⟨_, h1, h2⟩ := hp.unique p'
    subst h2
    rw [hl] at h1
    unfold localOf at h1
    injection h1 with _ h1
    rw [h1, net_cut hh.1.2.2] at hc
    injection hc with hc
    injection hc with e1 e2
    subst e1 e2
    exact ⟨rfl, (unesc_esc _).symm, hh, hu.symm⟩
  · rintro ⟨rfl, _, hh, hu⟩
    exact ⟨srv, hh, hu.symm⟩
/-- no ghost where the local part has another form -/
theorem back_none {u loc srv : List UInt8} (hp : Parts 64 u loc srv) (hn : ∀ rest net form, loc = 95 :: rest → cutL 95 rest = some (net, form) → False) (net name : List UInt8) : ¬ Back u net name := by
  rintro ⟨srv', hh, hu⟩
  have p' := ghost_parts hh
  rw [← hu] at p'
  obtain ⟨_, h1, _⟩ := hp.unique p'
  exact hn _ _ _ h1 (net_cut hh.1.2.2)
/-- the reference: where the form cannot be read, there is no ghost -/
theorem back_ref {u loc srv rest net form : List UInt8} (hp : Parts 64 u loc srv) (hl : loc = 95 :: rest) (hc : cutL 95 rest = some (net, form)) (hr : refUnesc form = none) (net' name' : List UInt8) : ¬ Back u net' name' := by
  intro hb
  obtain ⟨rfl, hn, hh, hu⟩ := (back_code hp hl hc net' name').1 hb
  have p' := ghost_parts hh
  rw [hu] at p'
  obtain ⟨_, h1, _⟩ := hp.unique p'
  rw [hl] at h1
  unfold localOf at h1
  injection h1 with _ h1
  rw [h1, net_cut hh.1.2.2] at hc
  injection hc with hc
  injection hc with _ e2
  rw [← e2, refUnesc_esc] at hr
  cases hr
end Go.Proofs.Ytimdcnickfaddaa

/-
  The reference's find; both Relays.
-/
import Derived.Test.YtimdcnickfaddaaGhC
set_option linter.unusedVariables false
set_option linter.unusedSimpArgs false
namespace Go.Proofs.Ytimdcnickfaddaa
open Go.RowKit Go.Maps
section
attribute [local go_sem] Addr.add_mid

def findN (a : Ident) : List Gh → Nat
  | [] => 0
  | g :: l => if g.id = a then 0 else findN a l + 1
/-- find's answer -/
def findI (a : Ident) (l : List Gh) : Int := if (findG a l).isSome then (findN a l : Int) else -1
theorem findG_at {a : Ident} : ∀ {l : List Gh} {k : Nat} (hk : k < l.length), (∀ g ∈ l.take k, ¬ g.id = a) → l[k].id = a → findG a l = some l[k] ∧ findN a l = k
  | g :: l, 0, _, _, h => by
    have h' : g.id = a := h
    exact ⟨by unfold findG; rw [List.find?_cons_of_pos (by simpa using h')]; rfl, by unfold findN; rw [if_pos h']⟩
  | g :: l, k + 1, hk, hn, h => by
    have h0 : ¬ g.id = a := hn g (by simp)
    obtain ⟨h1, h2⟩ := findG_at (a := a) (l := l) (k := k) (by simpa using hk) (fun x hx => hn x (by simp [hx])) h
    exact ⟨by unfold findG at h1 ⊢; rw [List.find?_cons_of_neg (by simpa using h0)]; exact h1, by unfold findN; rw [if_neg h0, h2]⟩
theorem findG_no {a : Ident} {l : List Gh} (h : ∀ g ∈ l, ¬ g.id = a) : findG a l = none := by
  unfold findG
  rw [List.find?_eq_none]
  intro g hg
  simpa using h g hg
theorem findG_in {a : Ident} : ∀ {l : List Gh} {g : Gh}, findG a l = some g → ∃ h : findN a l < l.length, l[findN a l] = g
  | x :: l, g, h => by
    by_cases hx : x.id = a
    · have h' : findG a (x :: l) = some x := by unfold findG; rw [List.find?_cons_of_pos (by simpa using hx)]
      rw [h'] at h
      injection h with h
      have hn : findN a (x :: l) = 0 := by show (if x.id = a then 0 else findN a l + 1) = _; rw [if_pos hx]
      exact ⟨by rw [hn]; simp, by simp only [hn]; exact h⟩
    · have h' : findG a (x :: l) = findG a l := by unfold findG; rw [List.find?_cons_of_neg (by simpa using hx)]
      rw [h'] at h
      obtain ⟨h1, h2⟩ := findG_in h
      have hn : findN a (x :: l) = findN a l + 1 := by show (if x.id = a then 0 else findN a l + 1) = _; rw [if_neg hx]
      exact ⟨by rw [hn]; simpa using h1, by simp only [hn]; exact h2⟩
theorem findG_ix {a : Ident} {l : List Gh} {g : Gh} (h : findG a l = some g) : ∃ k, ∃ hk : k < l.length, l[k] = g ∧ findI a l = (k : Int) := by
  obtain ⟨h1, h2⟩ := findG_in h
  exact ⟨_, h1, h2, by unfold findI; rw [h]; rfl⟩
theorem id_ne {g : Gh} {x y : ByteArray} (h : (g.net.toList == x.toList) = false ∨ (g.name.toList == y.toList) = false) : ¬ g.id = idOf x y := by
  intro e
  unfold Gh.id idOf at e
  injection e with e1 e2
  rcases h with h | h
  · rw [e1] at h; simp at h
  · rw [e2] at h; simp at h
theorem id_eq {g : Gh} {x y : ByteArray} (h1 : (g.net.toList == x.toList) = true) (h2 : (g.name.toList == y.toList) = true) : g.id = idOf x y := by
  unfold Gh.id idOf
  rw [beq_iff_eq.1 h1, beq_iff_eq.1 h2]
theorem take_next {α : Type} {p : α → Prop} {l : List α} {k : Nat} (h : ∀ g ∈ l.take k, p g) (hk : k < l.length) (hs : p l[k]) : ∀ g ∈ l.take (k + 1), p g := by
  rw [List.take_succ_eq_append_getElem hk]
  intro s hs'
  rcases List.mem_append.1 hs' with h1 | h1
  · exact h s h1
  · rw [List.mem_singleton] at h1; rw [h1]; exact hs
theorem gh_three {w : World} {b o k : Nat} {g : Gh} (h : CellsAt w ⟨b, o + k * 3, none⟩ (gc g)) : w.cell? ⟨b, o + k * 3, none⟩ = some (.string g.net) ∧ w.cell? ⟨b, o + k * 3 + 1, none⟩ = some (.string g.name) ∧ w.cell? ⟨b, o + k * 3 + 2, none⟩ = some (.string g.user) := by
  have h0 := h 0 (.string g.net) rfl
  have h1 := h 1 (.string g.name) rfl
  have h2 := h 2 (.string g.user) rfl
  rw [Addr.add_mid] at h0 h1 h2
  exact ⟨h0, h1, h2⟩
set_option maxRecDepth 100000 in
set_option maxHeartbeats 1600000 in
theorem r51_find (A : Option Addr) (c : Nat) (l : List Gh) (net name : ByteArray) (w : World) (hr : Row w w.heap.size A (ghs l)) (hl : l.length ≤ 1000) :
    Calls Try.prog 46 #[.slice A l.length c, .string net, .string name] w (fun e w' => e = .returned (.int .i64 (findI (idOf net name) l)) ∧ w' = w) := by
  go_enter Try.func46, Try.ntmps46
  go_wp2_with fail
  go_loop [7] (fun i => ∃ k : Nat, k ≤ l.length ∧ i = .int .i64 (k : Int) ∧ Hid (∀ g ∈ l.take k, ¬ g.id = idOf net name)) (fun i => l.length - (intOf i).toNat)
  case atStart => exact ⟨0, Nat.zero_le _, rfl, by simp [Hid]⟩
  case round =>
  obtain ⟨k, hk, rfl, HT⟩ := hrel
  by_cases hlt : k < l.length
  · obtain ⟨b, o, rfl, hb, hc⟩ := gh_cells hr hlt
    obtain ⟨c0, c1, c2⟩ := gh_three hc
    clear hc
    obtain ⟨x, hx⟩ : ∃ x, (l[k].net.toList == net.toList) = x := ⟨_, rfl⟩
    obtain ⟨y, hy⟩ : ∃ y, (l[k].name.toList == name.toList) = y := ⟨_, rfl⟩
    cases x
    · have HN := hide (take_next HT.out hlt (id_ne (.inl hx)))
      go_wp2_with fail
      go_round
      case rel => exact ⟨k + 1, by omega, by go_num, HN.out⟩
      case measure => (simp [intOf]; try omega)
    · cases y
      · have HN := hide (take_next HT.out hlt (id_ne (.inr hy)))
        go_wp2_with fail
        go_round
        case rel => exact ⟨k + 1, by omega, by go_num, HN.out⟩
        case measure => (simp [intOf]; try omega)
      · have HF := hide (show findI (idOf net name) l = (k : Int) from by
          obtain ⟨h1, h2⟩ := findG_at hlt HT.out (id_eq hx hy)
          unfold findI
          rw [h1, h2]; rfl)
        go_wp2_with fail
        go_ret
        exact ⟨by rw [HF.out]; rfl, rfl⟩
  · obtain rfl : k = l.length := by omega
    have HF := hide (show findI (idOf net name) l = -1 from by
      unfold findI
      rw [findG_no (by have := HT.out; rwa [List.take_length] at this)]; rfl)
    clear HT
    go_wp2_with fail
    go_ret
    exact ⟨by rw [HF.out]; rfl, rfl⟩
end
end Go.Proofs.Ytimdcnickfaddaa

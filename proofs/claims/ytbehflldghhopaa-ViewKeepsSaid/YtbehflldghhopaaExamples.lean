/-
  The chapter's examples, plain.
  A view in a variable of the caller.
  The law's numbered.
-/
import Derived.Test.YtbehflldghhopaaRCheck
set_option linter.unusedVariables false
set_option linter.unusedSimpArgs false
namespace Go.Proofs.Ytbehflldghhopaa
section
open Go.RowKit
attribute [local go_sem] Addr.add_mid

def levNone : Lev := { users := [], kinds := [], user := 0, message := 0, state := 0, invite := 0, kick := 0, ban := 0, redact := 0 }
def conNone : Con := { text := ⟨#[]⟩, n := 0, target := 0, thread := false, via := ⟨#[]⟩, allow := [], deny := [], lv := levNone }
def evN (i : Int) : Ev := { id := i, room := ⟨#[]⟩, sender := ⟨#[]⟩, kind := 11, state := false, key := ⟨#[]⟩, time := 0, depth := 0, prev := [], auth := [], con := { conNone with text := ⟨#[120]⟩ }, hash := 0, server := ⟨#[]⟩, sum := 0 }
def numL (a : Int) : Nat → List Ev
  | 0 => []
  | n + 1 => numL a n ++ [evN (a + (n : Int))]
theorem numL_length (a : Int) : ∀ n, (numL a n).length = n
  | 0 => rfl
  | n + 1 => by simp [numL, numL_length a n]
def evNc (i : Int) : List Value := evCells (evN i) (.slice none 0 0) (.slice none 0 0) (.slice none 0 0) (.slice none 0 0) (.slice none 0 0) (.slice none 0 0)
theorem evN_R (w : World) (S : Nat → Prop) (i : Int) : EvR w S (evNc i) (evN i) := ⟨_, _, _, _, _, _, rfl, Slc.nil _ _ _, Slc.nil _ _ _, Slc.nil _ _ _, Slc.nil _ _ _, Slc.nil _ _ _, Slc.nil _ _ _⟩

set_option maxRecDepth 100000 in
set_option maxHeartbeats 1000000 in
theorem numbered_any {a b : Int} {n : Nat} {w : World} (h0 : 0 ≤ a) (ha : a ≤ 1000) (hn : n ≤ 1000) (hab : b + 1 = a + (n : Int)) :
    Calls Try.prog 36 #[.int .i64 a, .int .i64 b] w (GivesO (fun _ => False) (numL a n) w) := by
  obtain ⟨an, rfl⟩ : ∃ k : Nat, a = (k : Int) := ⟨a.toNat, by omega⟩
  go_enter Try.func36, Try.ntmps36
  go_wp2_with fail
  go_loopw [5, 6] (fun v i wr => ∃ k : Nat, k ≤ n ∧ i = .int .i64 ((an : Int) + (k : Int)) ∧ OwnE w.heap.size wr (fun _ => False) v (numL an k) ∧ Below w.heap.size w wr) (fun _ i _ => (an + n) - (intOf i).toNat)
  case atStart => exact ⟨0, Nat.zero_le _, by go_num, ownE_nil _ _ _, ext_refl _⟩
  case round =>
    obtain ⟨k, hk, rfl, ⟨css, ho, ht⟩, hb⟩ := hrel
    by_cases hlt : k < n
    · have hnl := numL_length an k
      rw [hnl] at ho
      obtain ⟨A, c, rfl, _⟩ := own_form ho
      have HT := hide ht
      have t1 : decide ((an : Int) + (k : Int) ≤ b) = true := decide_eq_true (by omega)
      clear ht hnl
      go_wp2_with (first
        | refine wpList_buildS (te := 0) rfl (.tmp 16) rfl Try.underlying22 strcE (by decide) (by decide) (evNc ((an : Int) + (k : Int))).toArray rfl rfl ?_
        | (at_builtin; go_must (refine wpList_append_new rfl (.tmp 13) (.tmp 17) rfl elemE w.heap.size _ k css.flatten rfl ho 1 _ rfl rfl (EvR.one (evN_R w (fun _ => False) _)) (by decide) (by unfold maxLen; omega) (by omega) hb.size ?_)))
      intro v5 w5 ho5 hg5
      have hb5 := below_of_own hb ho hg5 hb.size (Nat.le_refl _)
      have HO5 := hide ho5
      have HT5 : Hid (Told (EvR w5 fun _ => False) (css ++ [evNc ((an : Int) + (k : Int))]) (numL an (k + 1))) := (HT.out.imp fun _ _ h => h.grown hg5 fun _ h => h.elim).append (Told.one (evN_R _ _ _))
      clear ho5 hg5 ho HT
      go_wp2_with fail
      go_roundw
      case rel =>
        refine ⟨k + 1, by omega, by go_num, ⟨_, ?_, HT5.out⟩, hb5⟩
        rw [numL_length, List.flatten_append]
        simpa using HO5.out
      case measure => simp [intOf]; omega
    · obtain rfl : k = n := by omega
      have t1 : decide ((an : Int) + (k : Int) ≤ b) = false := decide_eq_false (by omega)
      go_wp2_with fail
      go_ret
      exact ⟨_, rfl, ⟨css, ho, ht⟩, hb⟩
end

section
open Go.RowKit

def roomS : ByteArray := ⟨#[33, 114, 58, 97]⟩
def part1 : Pt := { room := roomS, member := 3, anew := false, timeline := numL 1 2, limited := false, back := 0, state := [], gone := [] }
def part2 : Pt := { room := roomS, member := 3, anew := false, timeline := numL 8 2, limited := true, back := 7, state := [], gone := [] }
def exV (l : List Ev) (g : List (Int × Int)) : Vw := { room := roomS, member := 3, events := l, gaps := g, state := [] }
theorem applyV_go {V : Vw} {p : Pt} (h : V.room = ⟨#[]⟩ ∨ V.room = p.room) : applyV V p = goneV (laidV (roomV V p) p p.state.length) p := by
  unfold applyV
  rw [if_neg]
  rintro ⟨h1, h2⟩
  rcases h with h | h
  · rw [h] at h1; exact h1 (by rw [ByteArray.toList_eq])
  · rw [h] at h2; exact h2 rfl
theorem ex1 : applyV zeroVw part1 = exV (numL 1 2) [] := by
  rw [applyV_go (.inl rfl)]
  decide +kernel
theorem ex2 : applyV (exV (numL 1 2) []) part2 = exV (numL 1 2 ++ numL 8 2) [(2, 7)] := by
  rw [applyV_go (.inr rfl)]
  decide +kernel
theorem ex3 : fillV (exV (numL 1 2 ++ numL 8 2) [(2, 7)]) 0 (numL 5 3) 4 true = exV (numL 1 2 ++ (numL 5 3 ++ numL 8 2)) [(2, 4)] := by decide +kernel
theorem ex4 : fillV (exV (numL 1 2 ++ (numL 5 3 ++ numL 8 2)) [(2, 4)]) 0 (numL 2 3) 1 true = exV (numL 1 9) [] := by decide +kernel
theorem ex5 : (redactV (exV (numL 1 9) []) 5).events.length = 9 ∧ ((redactV (exV (numL 1 9) []) 5).events[4]?).map (·.con.text) = some ⟨#[]⟩ ∧ ((redactV (exV (numL 1 9) []) 5).events[3]?).map (·.con.text) = some ⟨#[120]⟩ := by decide +kernel
theorem ex6 : checkV (exV (numL 1 9) []) = 0 := by decide +kernel
theorem ex7 : checkV { zeroVw with events := numL 1 1, gaps := [(1, 0)] } = 2 := by decide +kernel
theorem ex8 : ids (numL 1 2 ++ numL 8 2) = [1, 2, 8, 9] ∧ ids (numL 1 2 ++ (numL 5 3 ++ numL 8 2)) = [1, 2, 5, 6, 7, 8, 9] ∧ ids (numL 1 9) = [1, 2, 3, 4, 5, 6, 7, 8, 9] := by decide +kernel
end

section
open Go.RowKit

/-- a view lies in block g, and none of its rows does -/
def VBox (w : World) (g : Nat) (V : Vw) : Prop := ∃ cs, w.heap[g]? = some (.cells cs.toArray 25 (0, 0)) ∧ VwR w (· ≠ g) cs V
section
variable {w w' : World} {g : Nat} {V : Vw}
theorem VBox.lt (h : VBox w g V) : g < w.heap.size := by obtain ⟨cs, h1, _⟩ := h; exact (Array.getElem?_eq_some_iff.1 h1).1
theorem VBox.ext (h : VBox w g V) (hb : Below w.heap.size w w') : VBox w' g V := by
  obtain ⟨cs, h1, h2⟩ := h
  exact ⟨cs, box_below h1 hb, h2.ext hb⟩
theorem VBox.new {S : Nat → Prop} {cs : List Value} (h : VwR w S cs V) : VBox (w.alloc (.cells cs.toArray 25)) w.heap.size V := by
  refine ⟨cs, heap_alloc_new w _, ?_⟩
  obtain ⟨ve, vg, vs, rfl, h1, h2, h3⟩ := h
  have hb : Below w.heap.size w (w.alloc (.cells (vwCells V ve vg vs).toArray 25)) := ext_alloc (ext_refl w) _
  exact ⟨ve, vg, vs, rfl, (h1.weak fun b _ hb => Nat.ne_of_lt hb).ext hb, h2.ext hb, (h3.weak fun b _ hb => Nat.ne_of_lt hb).ext hb⟩
theorem box_cell {C : List Value} {t : TypeId} (hB : w.heap[g]? = some (.cells C.toArray t (0, 0))) (j : Nat) : w.cell? ⟨g, j, none⟩ = C[j]? := by
  rw [cell_of_row w g j _ t _ hB]; simp
/-- a view's outer rows do not lie in a view's box -/
theorem VBox.apart {V0 : Vw} {cs : List Value} (h0 : VBox w g V0) (h : VwR w (· ≠ g) cs V) (hg : w.grownBy w' (some g)) : VwR w' (· ≠ g) cs V := by
  obtain ⟨cs0, hB, hv0⟩ := h0
  obtain ⟨A, c, A2, c2, A3, c3, rfl, _⟩ := hv0.form
  have hev : ∀ {v : Value} {l : List Ev}, EvsR w (· ≠ g) v l → EvsR w' (· ≠ g) v l := by
    rintro v l ⟨css, hs, ht⟩
    refine ⟨css, ?_, ht.imp fun _ _ h => h.grown hg fun b hb e => by injection e with e; exact hb e.symm⟩
    have hs' : Slc w (· ≠ g) v 29 l.length css.flatten := by
      obtain ⟨A, c, rfl, k1, k2, k3, k4, k5, _⟩ := hs
      refine ⟨A, c, rfl, k1, k2, k3, k4, k5, fun hne ad ha hbg => ?_⟩
      subst ha
      have hlen : 0 < css.flatten.length := List.length_pos_iff.2 hne
      obtain ⟨b, o, e, hb, hc⟩ := Row.fix k5 (List.getElem?_eq_getElem hlen)
      injection e with e; subst e
      have hlt : 28 < css.flatten.length := by rw [k1] at hlen ⊢; omega
      have h28 := hc 28 _ (List.getElem?_eq_getElem hlt)
      simp only at hbg
      subst hbg
      rw [box_cell hB] at h28
      have := (List.getElem?_eq_some_iff.1 h28).1
      simp [vwCells] at this
      omega
    exact (hs'.grown hg fun b hb e => by injection e with e; exact hb e.symm).any
  have hga : ∀ {v : Value} {l : List (Int × Int)}, Slc w Any v 2 l.length (kcs l) → Slc w' Any v 2 l.length (kcs l) := by
    intro v l hs
    have hs' : Slc w (· ≠ g) v 2 l.length (kcs l) := by
      obtain ⟨A, c, rfl, k1, k2, k3, k4, k5, _⟩ := hs
      refine ⟨A, c, rfl, k1, k2, k3, k4, k5, fun hne ad ha hbg => ?_⟩
      subst ha
      have hl : 0 < l.length := by
        cases l with
        | nil => exact absurd rfl hne
        | cons _ _ => simp
      obtain ⟨b, o, e, hb, hc⟩ := Row.fix k5 (kcs_get l 0 hl).1
      injection e with e; subst e
      simp only at hbg
      subst hbg
      have h0 := hc _ _ (kcs_get l 0 hl).1
      have h1 := hc _ _ (kcs_get l 0 hl).2
      rw [box_cell hB] at h0 h1
      have hlt := (List.getElem?_eq_some_iff.1 h1).1
      simp only [vwCells, List.length_cons, List.length_nil] at hlt
      match o, hlt, h0, h1 with
      | 0, _, h0, _ => simp [vwCells] at h0
      | 1, _, _, h1 => simp [vwCells] at h1
      | 2, _, h0, _ => simp [vwCells] at h0
      | 3, _, h0, _ => simp [vwCells] at h0
    exact (hs'.grown hg fun b hb e => by injection e with e; exact hb e.symm).any
  obtain ⟨ve, vg, vs, rfl, h1, h2, h3⟩ := h
  exact ⟨ve, vg, vs, rfl, hev h1, hga h2, hev h3⟩
/-- 'v = ..' -/
theorem VBox.store {V0 : Vw} {cs : List Value} (h0 : VBox w g V0) (h : VwR w (· ≠ g) cs V) (hg : w.grownBy w' (some g)) (hB : w'.heap[g]? = some (.cells cs.toArray 25 (0, 0))) : VBox w' g V := ⟨cs, hB, h0.apart h hg⟩
end
/-- a call's result, for the variable g -/
theorem GivesV.off {S : Nat → Prop} {g : Nat} {V : Vw} {w w' : World} {e : Ending} (h : GivesV S V w e w') (hg : g < w.heap.size) (hS : ∀ b, S b → b ≠ g) : ∃ cs, e = .returned (.agg cs.toArray) ∧ VwR w' (· ≠ g) cs V ∧ Below w.heap.size w w' := by
  obtain ⟨cs, h1, ⟨ve, vg, vs, h2, h3, h4, h5⟩, h6⟩ := h
  exact ⟨cs, h1, ⟨ve, vg, vs, h2, h3.weak fun b hb _ => hb.elim (hS b) (by omega), h4, h5.weak fun b hb _ => hb.elim (hS b) (by omega)⟩, h6⟩
theorem GivesVE.off {S : Nat → Prop} {g : Nat} {V : Vw} {n : Int} {w w' : World} {e : Ending} (h : GivesVE S V n w e w') (hg : g < w.heap.size) (hS : ∀ b, S b → b ≠ g) : ∃ cs, e = .returned (.tuple #[.agg cs.toArray, .int .i64 n]) ∧ VwR w' (· ≠ g) cs V ∧ Below w.heap.size w w' := by
  obtain ⟨cs, h1, ⟨ve, vg, vs, h2, h3, h4, h5⟩, h6⟩ := h
  exact ⟨cs, h1, ⟨ve, vg, vs, h2, h3.weak fun b hb _ => hb.elim (hS b) (by omega), h4, h5.weak fun b hb _ => hb.elim (hS b) (by omega)⟩, h6⟩
theorem vwZero_R (w : World) (S : Nat → Prop) : VwR w S vwZero.toList zeroVw := ⟨_, _, _, rfl, EvsR.nil _ _, Slc.nil _ _ _, EvsR.nil _ _⟩
/-- a part that was just built -/
theorem part_R {w : World} {S : Nat → Prop} {p : Pt} {v : Value} (h : EvsR w S v p.timeline) (hs : p.state = []) (hg : p.gone = []) :
    PtR w S (ptCells p v (.slice none 0 0) (.slice none 0 0) (.slice none 0 0) (.slice none 0 0) (.int .i64 0)) p := ⟨_, _, _, _, _, _, rfl, h, by rw [hs]; exact EvsR.nil _ _, by rw [hg]; exact Slc.nil _ _ _, rfl, rfl, rfl⟩
end
end Go.Proofs.Ytbehflldghhopaa

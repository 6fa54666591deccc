/-
  The reference's Sorted: as many numbers as were given only where they are different.
-/
import Derived.Test.YtbehflldghhopaaPutI
set_option linter.unusedVariables false
set_option linter.unusedSimpArgs false
namespace Go.Proofs.Ytbehflldghhopaa
open Go.RowKit
attribute [local go_sem] Addr.add_mid

/-- what is known after k numbers -/
structure SortRel (l : List Int) (k : Nat) (r : List Int) : Prop where
  all : ∀ x ∈ l.take k, x ∈ r
  few : r.length ≤ k
  full : r.length = k → (l.take k).Nodup
theorem SortRel.step {l : List Int} {k : Nat} {r ys : List Int} (h : SortRel l k r) (hk : k < l.length) (hp : PutL r l[k] ys) : SortRel l (k + 1) ys := by
  have hmem : ∀ x, x ∈ l.take (k + 1) → x ∈ l.take k ∨ x = l[k] := fun x hx => by
    rw [List.take_succ_eq_append_getElem hk] at hx
    rcases List.mem_append.1 hx with hx | hx
    · exact .inl hx
    · rw [List.mem_singleton] at hx; exact .inr hx
  rcases hp with ⟨hin, rfl⟩ | ⟨hnot, j, hj, rfl⟩
  · refine ⟨fun x hx => ?_, by have := h.few; omega, fun e => ?_⟩
    · rcases hmem x hx with hx | rfl
      · exact h.all x hx
      · exact hin
    · have := h.few; omega
  · have hlen : (r.take j ++ ([l[k]] ++ r.drop j)).length = r.length + 1 := by simp only [List.length_append, List.length_take, List.length_drop, List.length_cons, List.length_nil]; omega
    refine ⟨fun x hx => ?_, by rw [hlen]; have := h.few; omega, fun e => ?_⟩
    · rcases hmem x hx with hx | rfl
      · have := h.all x hx
        rw [← List.take_append_drop j r] at this
        rcases List.mem_append.1 this with h1 | h1
        · exact List.mem_append_left _ h1
        · exact List.mem_append_right _ (List.mem_append_right _ h1)
      · exact List.mem_append_right _ (List.mem_append_left _ (List.mem_singleton.2 rfl))
    · rw [hlen] at e
      exact (nodup_step hk).2 ⟨h.full (by omega), fun hx => hnot (h.all _ hx)⟩
def GivesS (l : List Int) (w : World) (e : Ending) (w' : World) : Prop := ∃ v r, e = .returned v ∧ SlI w' v r ∧ SortRel l l.length r ∧ Below w.heap.size w w'

set_option maxRecDepth 100000 in
set_option maxHeartbeats 1000000 in
theorem Sorted_any {v : Value} {l : List Int} {w : World} (hr : SlI w v l) (hl : l.length ≤ 1048576) :
    Calls Try.prog 28 #[v] w (GivesS l w) := by
  obtain ⟨A, c, rfl, hrow, hA, hc⟩ := hr
  go_enter Try.func28, Try.ntmps28
  go_wp2_with fail
  go_loopw [3, 4] (fun u i wr => ∃ (k : Nat) (r : List Int), k ≤ l.length ∧ i = .int .i64 (k : Int) ∧ SlI wr u r ∧ SortRel l k r ∧ Below w.heap.size w wr) (fun _ i _ => l.length - (intOf i).toNat)
  case atStart =>
    refine ⟨0, [], Nat.zero_le _, rfl, ⟨_, 0, rfl, Row.nil, fun h => rfl, Nat.zero_le _⟩, ⟨by simp, Nat.le_refl _, by simp⟩, ext_alloc (ext_refl w) _⟩
  case round =>
    obtain ⟨k, r, hk, rfl, hs, hR, hb⟩ := hrel
    by_cases hlt : k < l.length
    · have i0 : (0 : Int) ≤ (k : Int) := by omega
      have i1 : (k : Int) < (l.length : Int) := by omega
      obtain ⟨b, o, rfl, hbb, hcc⟩ := Row.fix (hrow.ext hb) (ivs_get l k hlt)
      have hc0 := hcc _ _ (ivs_get l k hlt)
      have HPU := hide (Put_any (n := l[k]) hs (by have := hR.few; omega))
      have HST := hide (fun ys (h : PutL r l[k] ys) => hR.step hlt h)
      obtain ⟨x, hx⟩ : ∃ x, x = l[k] := ⟨_, rfl⟩
      rw [← hx] at hc0 HPU HST
      clear hcc hx hs hR
      go_wp2_with fail
      refine HPU.out.mono ?_
      rintro z w2 ⟨v2, ys, rfl, hs2, hp2, hb2⟩
      have HR2 := hide (HST.out ys hp2)
      clear HPU HST hc0
      go_wp2_with fail
      go_roundw
      case rel => exact ⟨k + 1, ys, by omega, by go_num, hs2, HR2.out, hb.trans (hb2.mono hb.size)⟩
      case measure => simp [intOf]; omega
    · obtain rfl : k = l.length := by omega
      go_wp2_with fail
      go_ret
      exact ⟨_, r, rfl, hs, hR, hb⟩
end Go.Proofs.Ytbehflldghhopaa

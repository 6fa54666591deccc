/-
  The law's among.
-/
import Derived.Test.YtbehflldghhopaaKeepsL
set_option linter.unusedVariables false
set_option linter.unusedSimpArgs false
namespace Go.Proofs.Ytbehflldghhopaa
open Go.RowKit
attribute [local go_sem] Addr.add_mid

theorem among_step {l inn : List Int} {k : Nat} (hk : k < l.length) : amongL (l.take (k + 1)) inn = amongL (l.take k) inn ++ (if l[k] ∈ inn then [l[k]] else []) := by
  unfold amongL
  rw [List.take_succ_eq_append_getElem hk, List.filter_append]
  congr 1
  by_cases h : l[k] ∈ inn <;> simp [h]
def GivesI (l : List Int) (w : World) (e : Ending) (w' : World) : Prop := ∃ v', e = .returned v' ∧ w'.ownsRow w.heap.size 3 1 v' l.length (ivs l) ∧ Below w.heap.size w w'

set_option maxRecDepth 100000 in
set_option maxHeartbeats 1000000 in
theorem among_any {A A2 : Option Addr} {c c2 : Nat} {l inn : List Int} {w : World} (hr : Row w w.heap.size A (ivs l)) (hr2 : Row w w.heap.size A2 (ivs inn)) (hl : l.length ≤ 1048576) (hm : inn.length ≤ 1048576) :
    Calls Try.prog 27 #[.slice A l.length c, .slice A2 inn.length c2] w (GivesI (amongL l inn) w) := by
  go_enter Try.func27, Try.ntmps27
  go_wp2_with fail
  go_loopw [5, 6] (fun v i wr => ∃ k : Nat, k ≤ l.length ∧ i = .int .i64 (k : Int) ∧ wr.ownsRow w.heap.size 3 1 v (amongL (l.take k) inn).length (ivs (amongL (l.take k) inn)) ∧ (amongL (l.take k) inn).length ≤ k ∧ Below w.heap.size w wr) (fun _ i _ => l.length - (intOf i).toNat)
  case atStart => exact ⟨0, Nat.zero_le _, rfl, by rw [List.take_zero]; exact World.ownsRow_nil _ _ _ _, by simp [amongL], ext_refl _⟩
  case round =>
    obtain ⟨k, hk, rfl, ho, hol, hb⟩ := hrel
    by_cases hlt : k < l.length
    · have i0 : (0 : Int) ≤ (k : Int) := by omega
      have i1 : (k : Int) < (l.length : Int) := by omega
      obtain ⟨b, o, rfl, hbb, hc⟩ := Row.fix (hr.ext hb) (ivs_get l k hlt)
      have hc0 := hc _ _ (ivs_get l k hlt)
      have hst := among_step (inn := inn) hlt
      have hca := R1Has_any (n := l[k]) (c := c2) (hr2.ext hb) (by omega)
      obtain ⟨X, hX⟩ : ∃ X, X = amongL (l.take k) inn := ⟨_, rfl⟩
      rw [← hX] at ho hol hst
      obtain ⟨x, hx⟩ : ∃ x, x = l[k] := ⟨_, rfl⟩
      rw [← hx] at hc0 hst hca
      obtain ⟨mb, hmb⟩ : ∃ z, z = decide (x ∈ inn) := ⟨_, rfl⟩
      rw [← hmb] at hca
      have HST := hide hst; have HCA := hide hca; have HMB := hide hmb
      obtain ⟨Ao, co, rfl, _⟩ := own_form ho
      clear hX hx hst hca hmb hc
      go_wp2_with fail
      refine HCA.out.mono ?_
      rintro z w2 ⟨rfl, rfl⟩
      cases mb
      · have HS : Hid (amongL (l.take (k + 1)) inn = X) := by
          have e := HST.out
          rw [if_neg (of_decide_eq_false HMB.out.symm), List.append_nil] at e
          exact e
        clear HCA hc0
        go_wp2_with fail
        go_roundw
        case rel => exact ⟨k + 1, by omega, by go_num, by rw [HS.out]; exact ho, by rw [HS.out]; omega, hb⟩
        case measure => simp [intOf]; omega
      · have HS : Hid (amongL (l.take (k + 1)) inn = X ++ [x]) := by
          have e := HST.out
          rw [if_pos (of_decide_eq_true HMB.out.symm)] at e
          exact e
        clear HCA
        go_wp2_with (at_builtin; go_must (refine wpList_append_new rfl (.tmp 19) (.tmp 24) rfl elemI w.heap.size _ X.length (ivs X) rfl ho 1 _ rfl rfl (by simp [Value.oneCell']) (by decide) (by unfold maxLen; omega) (by omega) hb.size ?_))
        intro v5 w5 ho5 hg5
        have hb5 := below_of_own hb ho hg5 hb.size (Nat.le_refl _)
        have HO5 := hide ho5
        clear ho5 hg5 ho hc0
        go_wp2_with fail
        go_roundw
        case rel =>
          refine ⟨k + 1, by omega, by go_num, ?_, by rw [HS.out, List.length_append]; simp; omega, hb5⟩
          rw [HS.out, List.length_append]
          have h := HO5.out
          simpa [ivs] using h
        case measure => simp [intOf]; omega
    · obtain rfl : k = l.length := by omega
      rw [List.take_length] at ho
      go_wp2_with fail
      go_ret
      exact ⟨_, rfl, ho, hb⟩
end Go.Proofs.Ytbehflldghhopaa

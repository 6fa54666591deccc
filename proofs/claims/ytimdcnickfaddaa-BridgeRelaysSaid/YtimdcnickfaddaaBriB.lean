/-
  The reference: digit, value, Escape.
-/
import Derived.Test.YtimdcnickfaddaaBriA
import Derived.Test.YtimdcnickfaddaaPhases
set_option linter.unusedVariables false
set_option linter.unusedSimpArgs false
namespace Go.Proofs.Ytimdcnickfaddaa
open Go.RowKit

theorem elemB : Elem Try.prog 92 5 (.int .u8 0) 1 1 := ⟨Try.underlying92, by kernel_rfl, rfl, by decide⟩
theorem hexB_val (n : Nat) (h : n < 16) : (hexB n).toNat = hexN n := by
  have : ∀ m : Fin 16, (hexB m.val).toNat = hexN m.val := by decide +kernel
  exact this ⟨n, h⟩
set_option maxRecDepth 100000 in
set_option maxHeartbeats 1600000 in
theorem r51_digit (n : Nat) (hn : n < 16) (m : Int) (hm : m = (n : Int)) (w : World) : Calls Try.prog 69 #[.int .u8 m] w (fun e w' => e = .returned (.int .u8 ((hexB n).toNat : Int)) ∧ w' = w) := by
  have HV := hide (hexB_val n hn)
  subst hm
  by_cases h : n < 10
  · go_enter Try.func69, Try.ntmps69
    go_wp2_with fail
    go_ret
    exact ⟨by rw [HV.out]; unfold hexN; rw [if_pos h]; simp, rfl⟩
  · go_enter Try.func69, Try.ntmps69
    go_wp2_with fail
    go_ret
    exact ⟨by rw [HV.out]; unfold hexN; rw [if_neg h]; simp; omega, rfl⟩
/-- a digit's value, 16 for another byte -/
def valN (c : UInt8) : Nat := if hexOk c then digV c else 16
set_option maxRecDepth 100000 in
set_option maxHeartbeats 1600000 in
theorem r51_value (c : UInt8) (w : World) : Calls Try.prog 75 #[.int .u8 (c.toNat : Int)] w (fun e w' => e = .returned (.int .u8 (valN c : Int)) ∧ w' = w) := by
  have hc := c.toNat_lt
  have HV := hide (show valN c = if 48 ≤ c.toNat ∧ c.toNat ≤ 57 then c.toNat - 48 else if 97 ≤ c.toNat ∧ c.toNat ≤ 102 then c.toNat - 87 else 16 from by
    unfold valN digV hexOk
    by_cases h1 : 48 ≤ c.toNat ∧ c.toNat ≤ 57
    · simp [h1]
    · by_cases h2 : 97 ≤ c.toNat ∧ c.toNat ≤ 102
      · simp [h2]
      · have : (decide (48 ≤ c.toNat) && decide (c.toNat ≤ 57) || decide (97 ≤ c.toNat) && decide (c.toNat ≤ 102)) = false := by
          simp; omega
        rw [this]
        simp [h1, h2])
  by_cases h1 : 48 ≤ c.toNat ∧ c.toNat ≤ 57
  · rw [if_pos h1] at HV
    obtain ⟨a1, a2⟩ := h1
    go_enter Try.func75, Try.ntmps75
    go_wp2_with fail
    go_ret
    exact ⟨by rw [HV.out]; simp; omega, rfl⟩
  · rw [if_neg h1] at HV
    by_cases h2 : 97 ≤ c.toNat ∧ c.toNat ≤ 102
    · rw [if_pos h2] at HV
      obtain ⟨a1, a2⟩ := h2
      clear h1
      go_enter Try.func75, Try.ntmps75
      go_wp2_with fail
      go_ret
      exact ⟨by rw [HV.out]; simp; omega, rfl⟩
    · rw [if_neg h2] at HV
      go_enter Try.func75, Try.ntmps75
      go_wp2_with fail
      all_goals (go_ret; exact ⟨by rw [HV.out]; simp; try omega, rfl⟩)

theorem wrap_16 (c : UInt8) : IntKind.u8.wrap ((c.toNat : Int) / 16) = (c.toNat : Int) / 16 := by
  have := c.toNat_lt
  simp [IntKind.wrap, IntKind.bits, IntKind.signed]; omega
theorem bvs_byte (l : List UInt8) (c : UInt8) : bvs l ++ [Value.int .u8 (c.toNat : Int)] = bvs (l ++ [c]) := by simp [bvs, bv]
theorem bvs_three (l : List UInt8) (c d : UInt8) : bvs l ++ [Value.int .u8 61, Value.int .u8 (c.toNat : Int), Value.int .u8 (d.toNat : Int)] = bvs (l ++ [61, c, d]) := by simp [bvs, bv]
set_option maxRecDepth 100000 in
set_option maxHeartbeats 3000000 in
theorem r51_Escape (s : ByteArray) (w : World) (hs : s.size ≤ 1000) : Calls Try.prog 34 #[.string s] w (fun e w' => e = .returned (.string (str (escL s.data.toList))) ∧ Below w.heap.size w w') := by
  have HZ := hide (Enc.size_toList s)
  go_enter Try.func34, Try.ntmps34
  go_wp2_with fail
  go_loopw [3, 4] (fun v i wr => ∃ k : Nat, k ≤ s.size ∧ i = .int .i64 (k : Int) ∧ wr.ownsRow w.heap.size 5 1 v (escL (s.data.toList.take k)).length (bvs (escL (s.data.toList.take k))) ∧ Below w.heap.size w wr) (fun _ i _ => s.size - (intOf i).toNat)
  case atStart => exact ⟨0, Nat.zero_le _, rfl, by rw [List.take_zero]; exact World.ownsRow_nil _ _ _ _, ext_refl w⟩
  case round =>
  obtain ⟨k, hk, rfl, hown, hbel⟩ := hrel
  by_cases hlt : k < s.size
  · have C1 := r51_plain s[k]
    obtain ⟨b1, h1⟩ : ∃ b, plainB s[k] = b := ⟨_, rfl⟩
    simp only [h1] at C1
    have hlen : (escL (List.take k s.data.toList)).length ≤ 4000 := by
      have := (escL_length (List.take k s.data.toList)).2
      have h2 : (List.take k s.data.toList).length ≤ k := by simp; omega
      omega
    have hst := esc_step s k hlt
    obtain ⟨l, hl⟩ : ∃ l, escL (List.take k s.data.toList) = l := ⟨_, rfl⟩
    rw [hl] at hown hlen hst
    have hB0 : w.heap.size ≤ wr.heap.size := hbel.size
    cases b1
    · have hst' : escL (List.take (k + 1) s.data.toList) = l ++ [61, hexB (s[k].toNat / 16), hexB (s[k].toNat % 16)] := by rw [hst]; unfold escB; rw [h1]; rfl
      have HST := hide hst'
      clear hst hst' hl h1
      go_wp2_with (first | (go_at_call 68; refine (C1 _).mono ?_; rintro e w' ⟨rfl, rfl⟩))
      refine wp_region_phase (fun _ => True) [] (by kernel_rfl) ?_
      obtain ⟨wd, hwd⟩ : ∃ wd : World, wd = { w' with drawn := w'.drawn + 1 } := ⟨_, rfl⟩
      rw [← hwd]
      have hown1 : wd.ownsRow w.heap.size 5 1 u3 l.length (bvs l) := by rw [hwd]; exact hown
      have hbel1 : Below w.heap.size w wd := by rw [hwd]; exact hbel.drew
      clear hwd hown hbel hB0
      have hB1 := hbel1.size
      refine wpAnyP_take (i := 0) rfl (by kernel_rfl) (by kernel_rfl) (by kernel_rfl) (by kernel_rfl) (fun _ _ _ h => h) (yieldsIf_run (u3) rfl (fun w' => by go_simp)) trivial ?_
      refine wpAnyP_take (i := 1) rfl (by kernel_rfl) (by kernel_rfl) (by kernel_rfl) (by kernel_rfl) (fun _ _ _ h => h) (yieldsIf_run (.string s) rfl (fun w' => by go_simp)) trivial ?_
      refine wpAnyP_take (i := 2) rfl (by kernel_rfl) (by kernel_rfl) (by kernel_rfl) (by kernel_rfl) (fun _ _ _ h => h) (yieldsIf_run (.int .i64 (k : Int)) rfl (fun w' => by go_simp)) trivial ?_
      go_simp
      refine wpAnyP_take (i := 3) rfl (by kernel_rfl) (by kernel_rfl) (by kernel_rfl) (by kernel_rfl) (fun _ _ _ h => h) (yieldsIf_run (.int .u8 (s[k].toNat : Int)) rfl (fun w' => by go_simp)) trivial ?_
      go_simp
      refine wpAnyP_take (i := 4) rfl (by kernel_rfl) (by kernel_rfl) (by kernel_rfl) (by kernel_rfl) (fun _ _ _ h => h) (yieldsIf_run (.int .u8 ((s[k].toNat : Int) / 16)) rfl (fun w' => by go_simp; exact wrap_16 s[k])) trivial ?_
      refine wpAnyP_take (i := 6) rfl (by kernel_rfl) (by kernel_rfl) (by kernel_rfl) (by kernel_rfl) (fun _ _ _ h => h) (yieldsIf_run (.string s) rfl (fun w' => by go_simp)) trivial ?_
      refine wpAnyP_take (i := 7) rfl (by kernel_rfl) (by kernel_rfl) (by kernel_rfl) (by kernel_rfl) (fun _ _ _ h => h) (yieldsIf_run (.int .i64 (k : Int)) rfl (fun w' => by go_simp)) trivial ?_
      go_simp
      refine wpAnyP_take (i := 8) rfl (by kernel_rfl) (by kernel_rfl) (by kernel_rfl) (by kernel_rfl) (fun _ _ _ h => h) (yieldsIf_run (.int .u8 (s[k].toNat : Int)) rfl (fun w' => by go_simp)) trivial ?_
      go_simp
      refine wpAnyP_take (i := 9) rfl (by kernel_rfl) (by kernel_rfl) (by kernel_rfl) (by kernel_rfl) (fun _ _ _ h => h) (yieldsIf_run (.int .u8 ((s[k].toNat : Int) % 16)) rfl (fun w' => by go_simp; exact Int.tmod_eq_emod_of_nonneg (by omega))) trivial ?_
      go_simp
      refine wpAnyP_oneQ (i := 5) (by kernel_rfl) rfl ?_
      go_wp2_with fail
      refine (r51_digit (s[k].toNat / 16) (by have := s[k].toNat_lt; omega) _ (by omega) _).mono ?_
      rintro e w4 ⟨rfl, rfl⟩
      go_wp2_with fail
      refine nextQ trivial ?_
      go_simp
      refine wpAnyP_oneQ (i := 10) (by kernel_rfl) rfl ?_
      go_wp2_with fail
      refine (r51_digit (s[k].toNat % 16) (Nat.mod_lt _ (by decide)) _ (by omega) _).mono ?_
      rintro e w5 ⟨rfl, rfl⟩
      go_wp2_with fail
      refine nextQ trivial ?_
      go_simp
      refine wpAnyP_oneQ (i := 11) (by kernel_rfl) rfl ?_
      go_wp2_with fail
      refine nextQ trivial ?_
      go_simp
      refine wpAnyP_oneQ (i := 12) (by kernel_rfl) rfl ?_
      refine wpList_append_new rfl (.tmp 21) (.tmp 32) rfl elemB w.heap.size _ _ _ rfl hown1 3 _ rfl rfl (by simp [Value.oneCell']) (by decide) (by unfold maxLen; omega) (by omega) hB1 ?_
      intro v2 w2 hown2 hgrow
      rw [bvs_three] at hown2
      have hbel4 := hbel1.grown hgrow hbel1.size (fun q hq => (hown1.lt q hq).1)
      refine nextQ trivial ?_
      go_simp
      refine wpAnyP_oneQ (i := 13) (by kernel_rfl) rfl ?_
      go_wp2_with fail
      refine nextQ trivial ?_
      go_simp
      refine wpAnyP_done (by kernel_rfl) ?_
      clear hown1 hbel1 hgrow
      go_simp
      go_wp2_with fail
      go_roundw
      case rel => exact ⟨k + 1, by omega, by go_num, by rw [HST.out, List.length_append]; exact hown2, hbel4⟩
      case measure => simp [intOf]; omega
    · have hst' : escL (List.take (k + 1) s.data.toList) = l ++ [s[k]] := by rw [hst]; unfold escB; rw [h1]; rfl
      have HST := hide hst'
      clear hst hst' hl h1
      go_wp2_with (first | (go_at_call 68; refine (C1 _).mono ?_; rintro e w' ⟨rfl, rfl⟩) | (at_builtin; go_must (refine wpList_append_new rfl (.tmp 15) (.tmp 19) rfl elemB w.heap.size _ _ _ rfl hown 1 _ rfl rfl (by simp [Value.oneCell']) (by decide) (by unfold maxLen; omega) (by omega) hB0 ?_)))
      intro v2 w2 hown2 hgrow
      rw [bvs_byte] at hown2
      have hbel4 := hbel.grown hgrow hbel.size (fun q hq => (hown.lt q hq).1)
      go_wp2_with fail
      go_roundw
      case rel => exact ⟨k + 1, by omega, by go_num, by rw [HST.out, List.length_append]; exact hown2, hbel4⟩
      case measure => simp [intOf]; omega
  · obtain rfl : k = s.size := by omega
    rw [← HZ.out, List.take_length] at hown
    obtain ⟨A, c, rfl, _, _⟩ := own_form hown
    have hr := Row.own hown
    have hconv := run_string (P := Try.prog) wr 92 9 5 Try.underlying92 Try.underlying5 Try.underlying9 (c := c) hr rfl (fun h => row_none hr h)
    go_wp2_with fail
    go_ret
    exact ⟨rfl, hbel⟩
end Go.Proofs.Ytimdcnickfaddaa

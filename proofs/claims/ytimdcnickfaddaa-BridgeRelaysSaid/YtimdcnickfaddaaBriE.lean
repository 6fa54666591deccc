/-
  The reference's unescape.
-/
import Derived.Test.YtimdcnickfaddaaBriD
set_option linter.unusedVariables false
set_option linter.unusedSimpArgs false
namespace Go.Proofs.Ytimdcnickfaddaa
open Go.RowKit

def Run (l out : List UInt8) (k : Nat) : Prop := refUnesc l = (refUnesc (l.drop k)).map (out ++ ·)
theorem Run.start (l : List UInt8) : Run l [] 0 := by
  unfold Run
  rw [List.drop_zero]
  cases refUnesc l <;> simp
theorem Run.fin {l out : List UInt8} (h : Run l out l.length) : refUnesc l = some out := by
  unfold Run at h
  rw [List.drop_length] at h
  rw [h]; simp [refUnesc]
theorem Run.one {s : ByteArray} {out : List UInt8} {k : Nat} (h : Run s.data.toList out k) (hk : k < s.size) (hc : s[k] ≠ 61) : Run s.data.toList (out ++ [s[k]]) (k + 1) := by
  obtain ⟨hl, hg⟩ := list_at s hk
  unfold Run at h ⊢
  rw [h, List.drop_eq_getElem_cons hl, hg, refUnesc_plain _ hc]
  cases refUnesc (List.drop (k + 1) s.data.toList) <;> simp
theorem Run.three {s : ByteArray} {out : List UInt8} {k : Nat} (h : Run s.data.toList out k) (hk : k + 2 < s.size) (hc : s[k] = 61) (h1 : hexOk s[k + 1] = true) (h2 : hexOk s[k + 2] = true) : Run s.data.toList (out ++ [UInt8.ofNat (digV s[k + 1] * 16 + digV s[k + 2])]) (k + 3) := by
  obtain ⟨hl, hg⟩ := list_at s (k := k) (by omega)
  obtain ⟨hl1, hg1⟩ := list_at s (k := k + 1) (by omega)
  obtain ⟨hl2, hg2⟩ := list_at s (k := k + 2) (by omega)
  unfold Run at h ⊢
  rw [h, List.drop_eq_getElem_cons hl, List.drop_eq_getElem_cons hl1, List.drop_eq_getElem_cons hl2, hg, hg1, hg2, hc]
  have : refUnesc (61 :: s[k + 1] :: s[k + 2] :: List.drop (k + 3) s.data.toList) = (refUnesc (List.drop (k + 3) s.data.toList)).map (UInt8.ofNat (digV s[k + 1] * 16 + digV s[k + 2]) :: ·) := by
    show (if (61 : UInt8) = 61 then (if (hexOk s[k + 1] && hexOk s[k + 2]) = true then _ else none) else _) = _
    rw [if_pos rfl, h1, h2]; rfl
  show ((refUnesc (61 :: s[k + 1] :: s[k + 2] :: List.drop (k + 3) s.data.toList)).map _) = _
  rw [this]
  cases refUnesc (List.drop (k + 3) s.data.toList) <;> simp
theorem Run.bad {s : ByteArray} {out : List UInt8} {k : Nat} (h : Run s.data.toList out k) (hk : k + 2 < s.size) (hc : s[k] = 61) (h1 : (hexOk s[k + 1] && hexOk s[k + 2]) = false) : refUnesc s.data.toList = none := by
  obtain ⟨hl, hg⟩ := list_at s (k := k) (by omega)
  obtain ⟨hl1, hg1⟩ := list_at s (k := k + 1) (by omega)
  obtain ⟨hl2, hg2⟩ := list_at s (k := k + 2) (by omega)
  unfold Run at h
  rw [h, List.drop_eq_getElem_cons hl, List.drop_eq_getElem_cons hl1, List.drop_eq_getElem_cons hl2, hg, hg1, hg2, hc]
  have : refUnesc (61 :: s[k + 1] :: s[k + 2] :: List.drop (k + 3) s.data.toList) = none := by
    show (if (61 : UInt8) = 61 then (if (hexOk s[k + 1] && hexOk s[k + 2]) = true then _ else none) else _) = _
    rw [if_pos rfl, h1]; rfl
  show ((refUnesc (61 :: s[k + 1] :: s[k + 2] :: List.drop (k + 3) s.data.toList)).map _) = _
  rw [this]; rfl
theorem Run.end_ {s : ByteArray} {out : List UInt8} {k : Nat} (h : Run s.data.toList out k) (hk : k < s.size) (hk2 : ¬ k + 2 < s.size) (hc : s[k] = 61) : refUnesc s.data.toList = none := by
  obtain ⟨hl, hg⟩ := list_at s (k := k) (by omega)
  have hz := Enc.size_toList s
  unfold Run at h
  rw [h, List.drop_eq_getElem_cons hl, hg, hc]
  have hd : (s.data.toList.drop (k + 1)).length ≤ 1 := by rw [List.length_drop]; omega
  match hm : s.data.toList.drop (k + 1) with
  | [] => rfl
  | [d] => rfl
  | a :: b :: r => rw [hm] at hd; simp at hd
theorem valN_ok {c : UInt8} (h : hexOk c = true) : valN c = digV c ∧ digV c < 16 := ⟨by unfold valN; rw [if_pos h], digV_lt c⟩
theorem valN_no {c : UInt8} (h : hexOk c = false) : valN c = 16 := by unfold valN; rw [h]; rfl
theorem wrap_kB (k : Nat) (c : Int) (h : k ≤ 1000) (h2 : 0 ≤ c ∧ c ≤ 10) : IntKind.i64.wrap ((k : Int) + c) = (k : Int) + c := by
  simp [IntKind.wrap, IntKind.bits, IntKind.signed]; omega
theorem wrap_mul (a : Nat) (h : a < 16) : IntKind.u8.wrap (16 * (a : Int)) = 16 * (a : Int) := by
  simp [IntKind.wrap, IntKind.bits, IntKind.signed]; omega
theorem wrap_sum (a b : Nat) (h : a < 16) (h2 : b < 16) : IntKind.u8.wrap (16 * (a : Int) + b) = ((UInt8.ofNat (a * 16 + b)).toNat : Int) := by
  simp [IntKind.wrap, IntKind.bits, IntKind.signed]; omega
/-- what unescape hands back -/
def unV (l : List UInt8) : Value := match refUnesc l with
  | some n => .tuple #[.string (str n), .bool true]
  | none => .tuple #[.string ⟨#[]⟩, .bool false]

set_option maxRecDepth 100000 in
set_option maxHeartbeats 4000000 in
theorem r51_unescape (s : ByteArray) (w : World) (hs : s.size ≤ 1000) : Calls Try.prog 42 #[.string s] w (fun e w' => e = .returned (unV s.data.toList) ∧ Below w.heap.size w w') := by
  have HZ := hide (Enc.size_toList s)
  go_enter Try.func42, Try.ntmps42
  go_wp2_with fail
  go_loopw [4, 5] (fun v i wr => ∃ k : Nat, ∃ out : List UInt8, k ≤ s.size ∧ i = .int .i64 (k : Int) ∧ Hid (Run s.data.toList out k) ∧ out.length ≤ k ∧ wr.ownsRow w.heap.size 5 1 v out.length (bvs out) ∧ Below w.heap.size w wr) (fun _ i _ => s.size - (intOf i).toNat)
  case atStart => exact ⟨0, [], Nat.zero_le _, rfl, Run.start _, Nat.le_refl _, World.ownsRow_nil _ _ _ _, ext_refl w⟩
  case round =>
  obtain ⟨k, out, hk, rfl, HU, hol, hown, hbel⟩ := hrel
  have hB0 : w.heap.size ≤ wr.heap.size := hbel.size
  by_cases hlt : k < s.size
  · have hbi := byte_int s[k] 61 (by decide)
    by_cases hx : s[k] = 61
    · have hxi := hbi.1 hx
      by_cases hk2 : k + 2 < s.size
      · have C1 := r51_value s[k + 1]
        have C2 := r51_value s[k + 2]
        cases h1 : hexOk s[k + 1] with
        | false =>
          have HF := hide (HU.out.bad hk2 hx (by rw [h1]; rfl))
          have V1 := hide (valN_no h1)
          clear hbi hx h1 C1 C2
          go_wp2_with (go_at_call 75; refine (r51_value _ _).mono ?_; rintro e w2 ⟨rfl, rfl⟩; rw [V1.out])
          go_ret2
          exact ⟨by unfold unV; rw [HF.out]; rfl, hbel⟩
        | true =>
          obtain ⟨g1, g2⟩ := valN_ok h1
          obtain ⟨va, hva⟩ : ∃ v, digV s[k + 1] = v := ⟨_, rfl⟩
          rw [hva] at g1 g2
          have V1 := hide g1
          cases h2 : hexOk s[k + 2] with
          | false =>
            have HF := hide (HU.out.bad hk2 hx (by rw [h1, h2]; rfl))
            have V2 := hide (valN_no h2)
            clear hbi hx h1 h2 g1 hva C1 C2
            go_wp2_with (go_at_call 75; refine (r51_value _ _).mono ?_; rintro e w2 ⟨rfl, rfl⟩; first | rw [V1.out] | rw [V2.out])
            go_ret2
            exact ⟨by unfold unV; rw [HF.out]; rfl, hbel⟩
          | true =>
            obtain ⟨g3, g4⟩ := valN_ok h2
            have HN := hide (HU.out.three hk2 hx h1 h2)
            obtain ⟨vb, hvb⟩ : ∃ v, digV s[k + 2] = v := ⟨_, rfl⟩
            rw [hvb] at g3 g4
            rw [hva, hvb] at HN
            have V2 := hide g3
            clear hbi hx h1 h2 g1 g3 hva hvb C1 C2
            go_wp2_with (go_at_call 75; refine (r51_value _ _).mono ?_; rintro e w2 ⟨rfl, rfl⟩; first | rw [V1.out] | rw [V2.out])
            refine wp_region_phase (fun _ => True) [] (by kernel_rfl) ?_
            obtain ⟨wd, hwd⟩ : ∃ wd : World, wd = { w2 with drawn := w2.drawn + 1 } := ⟨_, rfl⟩
            rw [← hwd]
            have hown1 : wd.ownsRow w.heap.size 5 1 u4 out.length (bvs out) := by rw [hwd]; exact hown
            have hbel1 : Below w.heap.size w wd := by rw [hwd]; exact hbel.drew
            clear hwd hown hbel hB0
            have hB1 := hbel1.size
            refine wpAnyP_take (i := 0) rfl (by kernel_rfl) (by kernel_rfl) (by kernel_rfl) (by kernel_rfl) (fun _ _ _ h => h) (yieldsIf_run (u4) rfl (fun w' => by go_simp)) trivial ?_
            refine wpAnyP_take (i := 1) rfl (by kernel_rfl) (by kernel_rfl) (by kernel_rfl) (by kernel_rfl) (fun _ _ _ h => h) (yieldsIf_run (.string s) rfl (fun w' => by go_simp)) trivial ?_
            refine wpAnyP_take (i := 2) rfl (by kernel_rfl) (by kernel_rfl) (by kernel_rfl) (by kernel_rfl) (fun _ _ _ h => h) (yieldsIf_run (.int .i64 (k : Int)) rfl (fun w' => by go_simp)) trivial ?_
            refine wpAnyP_take (i := 7) rfl (by kernel_rfl) (by kernel_rfl) (by kernel_rfl) (by kernel_rfl) (fun _ _ _ h => h) (yieldsIf_run (.string s) rfl (fun w' => by go_simp)) trivial ?_
            refine wpAnyP_take (i := 8) rfl (by kernel_rfl) (by kernel_rfl) (by kernel_rfl) (by kernel_rfl) (fun _ _ _ h => h) (yieldsIf_run (.int .i64 (k : Int)) rfl (fun w' => by go_simp)) trivial ?_
            go_simp
            refine wpAnyP_take (i := 3) rfl (by kernel_rfl) (by kernel_rfl) (by kernel_rfl) (by kernel_rfl) (fun _ _ _ h => h) (yieldsIf_run (.int .i64 ((k : Int) + 1)) rfl (fun w' => by go_simp; exact wrap_kB k 1 (by omega) (by decide))) trivial ?_
            refine wpAnyP_take (i := 9) rfl (by kernel_rfl) (by kernel_rfl) (by kernel_rfl) (by kernel_rfl) (fun _ _ _ h => h) (yieldsIf_run (.int .i64 ((k : Int) + 2)) rfl (fun w' => by go_simp; exact wrap_kB k 2 (by omega) (by decide))) trivial ?_
            go_simp
            refine wpAnyP_take (i := 4) rfl (by kernel_rfl) (by kernel_rfl) (by kernel_rfl) (by kernel_rfl) (fun _ _ _ h => h) (yieldsIf_run (.int .u8 (s[k + 1].toNat : Int)) rfl (fun w' => by go_simp)) trivial ?_
            refine wpAnyP_take (i := 10) rfl (by kernel_rfl) (by kernel_rfl) (by kernel_rfl) (by kernel_rfl) (fun _ _ _ h => h) (yieldsIf_run (.int .u8 (s[k + 2].toNat : Int)) rfl (fun w' => by go_simp; simp only [two_nat])) trivial ?_
            go_simp
            refine wpAnyP_oneQ (i := 5) (by kernel_rfl) rfl ?_
            go_wp2_with fail
            refine (r51_value _ _).mono ?_
            rintro e w4 ⟨rfl, rfl⟩
            rw [V1.out]
            go_wp2_with fail
            refine nextQ trivial ?_
            go_simp
            refine wpAnyP_take (i := 6) rfl (by kernel_rfl) (by kernel_rfl) (by kernel_rfl) (by kernel_rfl) (fun _ _ _ h => h) (yieldsIf_run (.int .u8 (16 * (va : Int))) rfl (fun w' => by go_simp; exact wrap_mul va g2)) trivial ?_
            go_simp
            refine wpAnyP_oneQ (i := 11) (by kernel_rfl) rfl ?_
            go_wp2_with fail
            refine (r51_value _ _).mono ?_
            rintro e w5 ⟨rfl, rfl⟩
            rw [V2.out]
            go_wp2_with fail
            refine nextQ trivial ?_
            go_simp
            obtain ⟨x, hx⟩ : ∃ x : Int, ((UInt8.ofNat (va * 16 + vb)).toNat : Int) = x := ⟨_, rfl⟩
            have HX := hide hx
            clear hx
            refine wpAnyP_take (i := 12) rfl (by kernel_rfl) (by kernel_rfl) (by kernel_rfl) (by kernel_rfl) (fun _ _ _ h => h) (yieldsIf_run (.int .u8 x) rfl (fun w' => by go_simp; exact (wrap_sum va vb g2 g4).trans HX.out)) trivial ?_
            go_simp
            refine wpAnyP_oneQ (i := 13) (by kernel_rfl) rfl ?_
            go_wp2_with fail
            refine nextQ trivial ?_
            go_simp
            refine wpAnyP_oneQ (i := 14) (by kernel_rfl) rfl ?_
            refine wpList_append_new rfl (.tmp 43) (.tmp 56) rfl elemB w.heap.size _ _ _ rfl hown1 1 _ rfl rfl (by simp [Value.oneCell']) (by decide) (by unfold maxLen; omega) (by omega) hB1 ?_
            intro v2 w6 hown2' hgrow
            have hown2 : w6.ownsRow w.heap.size 5 1 v2 (out.length + 1) (bvs (out ++ [UInt8.ofNat (va * 16 + vb)])) := by rw [← bvs_byte, HX.out]; exact hown2'
            clear hown2'
            have hbel4 := hbel1.grown hgrow hbel1.size (fun q hq => (hown1.lt q hq).1)
            refine nextQ trivial ?_
            go_simp
            refine wpAnyP_oneQ (i := 15) (by kernel_rfl) rfl ?_
            go_wp2_with fail
            refine nextQ trivial ?_
            go_simp
            refine wpAnyP_done (by kernel_rfl) ?_
            clear hown1 hbel1 hgrow
            go_simp
            go_wp2_with fail
            go_roundw
            case rel => exact ⟨k + 3, _, by omega, by go_num, HN.out, by simp; omega, by rw [List.length_append]; exact hown2, hbel4⟩
            case measure => simp [intOf]; omega
      · have HF := hide (HU.out.end_ hlt hk2 hx)
        have hk3 : s.size ≤ k + 2 := by omega
        clear hbi hx
        go_wp2_with fail
        all_goals (go_ret2; exact ⟨by unfold unV; rw [HF.out]; rfl, hbel⟩)
    · have HN := hide (HU.out.one hlt hx)
      have hxi : ((s[k].toNat : Int) != 61) = true := by
        have : ¬ (s[k].toNat : Int) = 61 := fun h => hx (hbi.2 h)
        simpa using this
      clear hbi hx
      go_wp2_with (first | (at_builtin; go_must (refine wpList_append_new rfl (.tmp 16) (.tmp 20) rfl elemB w.heap.size _ _ _ rfl hown 1 _ rfl rfl (by simp [Value.oneCell']) (by decide) (by unfold maxLen; omega) (by omega) hB0 ?_)))
      intro v2 w2 hown2 hgrow
      rw [bvs_byte] at hown2
      have hbel4 := hbel.grown hgrow hbel.size (fun q hq => (hown.lt q hq).1)
      go_wp2_with fail
      go_roundw
      case rel => exact ⟨k + 1, out ++ [s[k]], by omega, by go_num, HN.out, by simp; omega, by rw [List.length_append]; exact hown2, hbel4⟩
      case measure => simp [intOf]; omega
  · obtain rfl : k = s.size := by omega
    have HF := hide (show refUnesc s.data.toList = some out from Run.fin (by rw [HZ.out]; exact HU.out))
    obtain ⟨A, c, rfl, _, _⟩ := own_form hown
    have hr := Row.own hown
    have hconv := run_string (P := Try.prog) wr 92 9 5 Try.underlying92 Try.underlying5 Try.underlying9 (c := c) hr rfl (fun h => row_none hr h)
    clear HU
    go_wp2_with fail
    all_goals (try go_wp2)
    all_goals (go_ret2; exact ⟨by unfold unV; rw [HF.out]; rfl, hbel⟩)
end Go.Proofs.Ytimdcnickfaddaa

/-
  bridge.unescaped.
-/
import Derived.Test.YtimdcnickfaddaaBriC
import Derived.BigQuiet
set_option linter.unusedVariables false
set_option linter.unusedSimpArgs false
namespace Go.Proofs.Ytimdcnickfaddaa
open Go.RowKit

abbrev digS : ByteArray := ⟨#[48, 49, 50, 51, 52, 53, 54, 55, 56, 57, 97, 98, 99, 100, 101, 102]⟩
def digI (c : UInt8) : Int := Lib.indexByte digS.data.toList c
theorem digI_val (c : UInt8) : -1 ≤ digI c ∧ digI c ≤ 15 ∧ (if 0 ≤ digI c then digI c else 0) = (digV c : Int) := by
  revert c; exact byte_all (by decide +kernel)
theorem digI_max (c : UInt8) : max (digI c) 0 = (digV c : Int) := by
  revert c; exact byte_all (by decide +kernel)
theorem digV_lt (c : UInt8) : digV c < 16 := by
  revert c; exact byte_all (by decide +kernel)
theorem or_two (a b : UInt8) : bits BinOp.or IntKind.i64 (wrap64 (max (digI a) 0 * 16)) (max (digI b) 0) % 256 = ((UInt8.ofNat (digV a * 16 + digV b)).toNat : Int) := by
  rw [digI_max, digI_max]
  have h : ∀ x y : Fin 16, bits BinOp.or IntKind.i64 (wrap64 ((x.val : Int) * 16)) (y.val : Int) % 256 = ((UInt8.ofNat (x.val * 16 + y.val)).toNat : Int) := by decide +kernel
  exact h ⟨digV a, digV_lt a⟩ ⟨digV b, digV_lt b⟩
theorem two_nat (k : Nat) : ((k : Int) + 2).toNat = k + 2 := by omega
theorem dig_index (c : UInt8) (w : World) : Calls Try.prog 74 #[.string ⟨#[48, 49, 50, 51, 52, 53, 54, 55, 56, 57, 97, 98, 99, 100, 101, 102]⟩, .int .u8 (c.toNat : Int)] w (fun e w' => e = .returned (.int .i64 (digI c)) ∧ w' = w) := by
  have C := Try.strings_IndexByte digS (c.toNat : Int) w
  have hcc : ((c.toNat : Int)).toNat.toUInt8 = c := by simp
  rw [hcc] at C
  exact C
/-- what is written so far, and what is to come -/
def Un (l out : List UInt8) (k : Nat) : Prop := unescL l = out ++ unescL (l.drop k)
theorem Un.start (l : List UInt8) : Un l [] 0 := rfl
theorem Un.fin {l out : List UInt8} (h : Un l out l.length) : out = unescL l := by
  unfold Un at h
  rw [List.drop_length] at h
  rw [h]; exact (List.append_nil _).symm
theorem Un.one {s : ByteArray} {out : List UInt8} {k : Nat} (h : Un s.data.toList out k) (hk : k < s.size) (hc : s[k] ≠ 61 ∨ s.size ≤ k + 2) : Un s.data.toList (out ++ [s[k]]) (k + 1) := by
  obtain ⟨hl, hg⟩ := list_at s hk
  unfold Un at h ⊢
  rw [h, List.append_assoc]
  congr 1
  rw [List.drop_eq_getElem_cons hl, hg]
  rcases hc with hc | hc
  · rw [unescL_plain _ hc]; rfl
  · have hz := Enc.size_toList s
    have hd : (s.data.toList.drop (k + 1)).length ≤ 1 := by rw [List.length_drop]; omega
    match hm : s.data.toList.drop (k + 1) with
    | [] => rfl
    | [d] => rfl
    | a :: b :: r => rw [hm] at hd; simp at hd
theorem Un.three {s : ByteArray} {out : List UInt8} {k : Nat} (h : Un s.data.toList out k) (hk : k + 2 < s.size) (hc : s[k] = 61) : Un s.data.toList (out ++ [UInt8.ofNat (digV s[k + 1] * 16 + digV s[k + 2])]) (k + 3) := by
  obtain ⟨hl, hg⟩ := list_at s (k := k) (by omega)
  obtain ⟨hl1, hg1⟩ := list_at s (k := k + 1) (by omega)
  obtain ⟨hl2, hg2⟩ := list_at s (k := k + 2) (by omega)
  unfold Un at h ⊢
  rw [h, List.append_assoc]
  congr 1
  rw [List.drop_eq_getElem_cons hl, List.drop_eq_getElem_cons hl1, List.drop_eq_getElem_cons hl2, hg, hg1, hg2, hc]
  show (if (61 : UInt8) = 61 then _ else _) = _
  rw [if_pos rfl]
  rfl

set_option maxRecDepth 100000 in
set_option maxHeartbeats 3000000 in
theorem br_unescaped (s : ByteArray) (w : World) (hs : s.size ≤ 1000) : Calls Try.prog 39 #[.string s] w (fun e w' => e = .returned (.string (str (unescL s.data.toList))) ∧ Below w.heap.size w w') := by
  have HZ := hide (Enc.size_toList s)
  go_enter Try.func39, Try.ntmps39
  go_wp2_with fail
  go_loopw [4] (fun i wr => ∃ k : Nat, ∃ out : List UInt8, k ≤ s.size ∧ i = .int .i64 (k : Int) ∧ Hid (Un s.data.toList out k) ∧ out.length ≤ k ∧ IsB w.heap.size w.heap.size (Lib.byteCells out) wr ∧ Below w.heap.size w wr) (fun i _ => s.size - (intOf i).toNat)
  case atStart => exact ⟨0, [], Nat.zero_le _, rfl, Un.start _, Nat.le_refl _, new_b w, ext_alloc (ext_refl w) _⟩
  case round =>
  obtain ⟨k, out, hk, rfl, HU, hol, hB, hbel⟩ := hrel
  have hB0 : w.heap.size ≤ wr.heap.size := hbel.size
  have hlen : (Lib.byteCells out).length ≤ 4000 := by simp [Lib.byteCells]; omega
  by_cases hlt : k < s.size
  · have hbi := byte_int s[k] 61 (by decide)
    by_cases hx : s[k] = 61
    · have hxi := hbi.1 hx
      by_cases hk2 : k + 2 < s.size
      · have HN := hide (HU.out.three hk2 hx)
        clear hbi hx
        go_wp2_with fail
        have a1 : k + 1 < s.size := by omega
        have a2 : (k : Int) + 1 < (s.size : Int) := by omega
        have a3 : (k : Int) + 2 < (s.size : Int) := by omega
        have e1 : IntKind.i64.wrap ((k : Int) + 1) = (k : Int) + 1 := by simp [IntKind.wrap, IntKind.bits, IntKind.signed]; omega
        have e2 : IntKind.i64.wrap ((k : Int) + 2) = (k : Int) + 2 := by simp [IntKind.wrap, IntKind.bits, IntKind.signed]; omega
        refine wp_region_phase (fun _ => True) [] (by kernel_rfl) ?_
        obtain ⟨wd, hwd⟩ : ∃ wd : World, wd = { wr with drawn := wr.drawn + 1 } := ⟨_, rfl⟩
        rw [← hwd]
        have hB1 : IsB w.heap.size w.heap.size (Lib.byteCells out) wd := by rw [hwd]; exact hB
        have hbel1 : Below w.heap.size w wd := by rw [hwd]; exact hbel.drew
        clear hwd hB hbel hB0
        have hB0 := hbel1.size
        refine wpAnyP_take (i := 0) rfl (by kernel_rfl) (by kernel_rfl) (by kernel_rfl) (by kernel_rfl) (fun _ _ _ h => h) (yieldsIf_run (.string s) rfl (fun w' => by go_simp)) trivial ?_
        refine wpAnyP_take (i := 1) rfl (by kernel_rfl) (by kernel_rfl) (by kernel_rfl) (by kernel_rfl) (fun _ _ _ h => h) (yieldsIf_run (.int .i64 (k : Int)) rfl (fun w' => by go_simp)) trivial ?_
        refine wpAnyP_take (i := 5) rfl (by kernel_rfl) (by kernel_rfl) (by kernel_rfl) (by kernel_rfl) (fun _ _ _ h => h) (yieldsIf_run (.string s) rfl (fun w' => by go_simp)) trivial ?_
        refine wpAnyP_take (i := 6) rfl (by kernel_rfl) (by kernel_rfl) (by kernel_rfl) (by kernel_rfl) (fun _ _ _ h => h) (yieldsIf_run (.int .i64 (k : Int)) rfl (fun w' => by go_simp)) trivial ?_
        go_simp
        refine wpAnyP_take (i := 2) rfl (by kernel_rfl) (by kernel_rfl) (by kernel_rfl) (by kernel_rfl) (fun _ _ _ h => h) (yieldsIf_run (.int .i64 ((k : Int) + 1)) rfl (fun w' => by go_simp)) trivial ?_
        refine wpAnyP_take (i := 7) rfl (by kernel_rfl) (by kernel_rfl) (by kernel_rfl) (by kernel_rfl) (fun _ _ _ h => h) (yieldsIf_run (.int .i64 ((k : Int) + 2)) rfl (fun w' => by go_simp)) trivial ?_
        go_simp
        refine wpAnyP_take (i := 3) rfl (by kernel_rfl) (by kernel_rfl) (by kernel_rfl) (by kernel_rfl) (fun _ _ _ h => h) (yieldsIf_run (.int .u8 (s[k + 1].toNat : Int)) rfl (fun w' => by go_simp; rw [dif_pos (by omega)]; rfl)) trivial ?_
        refine wpAnyP_take (i := 8) rfl (by kernel_rfl) (by kernel_rfl) (by kernel_rfl) (by kernel_rfl) (fun _ _ _ h => h) (yieldsIf_run (.int .u8 (s[k + 2].toNat : Int)) rfl (fun w' => by go_simp; rw [dif_pos (by omega)]; simp only [two_nat]; rfl)) trivial ?_
        go_simp
        refine wpAnyP_oneQ (i := 4) (by kernel_rfl) rfl ?_
        go_wp2_with fail
        refine (dig_index _ _).mono ?_
        rintro e w4 ⟨rfl, rfl⟩
        go_wp2_with fail
        refine nextQ trivial ?_
        go_simp
        refine wpAnyP_oneQ (i := 9) (by kernel_rfl) rfl ?_
        go_wp2_with fail
        refine (dig_index _ _).mono ?_
        rintro e w5 ⟨rfl, rfl⟩
        go_wp2_with fail
        refine nextQ trivial ?_
        go_simp
        refine wpAnyP_oneQ (i := 10) (by kernel_rfl) rfl ?_
        go_wp2_with fail
        refine nextQ trivial ?_
        go_simp
        refine wpAnyP_oneQ (i := 11) (by kernel_rfl) rfl ?_
        go_wp2_with fail
        refine nextQ trivial ?_
        go_simp
        refine wpAnyP_done (by kernel_rfl) ?_
        go_simp
        go_wp2_with fail
        rw [or_two]
        go_at_call 66
        refine (write_byte _ _ _ _ _ hB1 (by omega) hB0).mono ?_
        rintro e w2 ⟨rfl, hB2, hb2⟩
        rw [bytes_snoc] at hB2
        have hbel2 := hbel1.trans hb2
        clear hB1 hb2 hbel1 e1 e2 hxi
        go_wp2_with fail
        go_roundw
        case rel => exact ⟨k + 3, _, by omega, by go_num, HN.out, by simp; omega, hB2, hbel2⟩
        case measure => simp [intOf]; omega
      · have HN := hide (HU.out.one hlt (.inr (by omega)))
        have HB := hide (show Lib.byteCells out ++ [.int .u8 61] = Lib.byteCells (out ++ [s[k]]) by rw [← bytes_snoc, hx]; rfl)
        have hk3 : s.size ≤ k + 2 := by omega
        clear hbi hx
        go_wp2_with (go_at_call 66; refine (write_byte _ _ _ _ _ hB (by omega) hB0).mono ?_; rintro e w2 ⟨rfl, hB2, hb2⟩)
        rw [HB.out] at hB2
        have hbel2 := hbel.trans hb2
        go_roundw
        case rel => exact ⟨k + 1, out ++ [s[k]], by omega, by go_num, HN.out, by simp; omega, hB2, hbel2⟩
        case measure => simp [intOf]; omega
    · have HN := hide (HU.out.one hlt (.inl hx))
      have HB := hide (bytes_snoc out s[k])
      have hxi : ((s[k].toNat : Int) != 61) = true := by
        have : ¬ (s[k].toNat : Int) = 61 := fun h => hx (hbi.2 h)
        simpa using this
      clear hbi hx
      go_wp2_with (go_at_call 66; refine (write_byte _ _ _ _ _ hB (by omega) hB0).mono ?_; rintro e w2 ⟨rfl, hB2, hb2⟩)
      rw [HB.out] at hB2
      have hbel2 := hbel.trans hb2
      go_roundw
      case rel => exact ⟨k + 1, out ++ [s[k]], by omega, by go_num, HN.out, by simp; omega, hB2, hbel2⟩
      case measure => simp [intOf]; omega
  · obtain rfl : k = s.size := by omega
    have HF := hide (show out = unescL s.data.toList from Un.fin (by rw [HZ.out]; exact HU.out))
    have CS := Try.Builder_String_any w.heap.size w.heap.size out
    clear HU
    go_wp2_with (go_at_call 67; refine (CS _ hB hbel.size).mono ?_; rintro e w2 ⟨rfl, hb2⟩)
    go_ret
    exact ⟨by rw [← HF.out]; rfl, hbel.trans hb2⟩
end Go.Proofs.Ytimdcnickfaddaa

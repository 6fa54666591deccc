/-
  fedchatlaw06.has; contents one of whose fields was set.
-/
import Derived.Test.YtehenalnkkkajaaSmall6
import Derived.Test.YtehenalnkkkajaaLaw6P
set_option linter.unusedVariables false
set_option linter.unusedSimpArgs false
namespace Go.Proofs.Ytehenalnkkkajaa
open Go.RowKit
attribute [local go_sem] Addr.add_mid
def inL (l : List ByteArray) (s : ByteArray) : Bool := l.any fun x => x.toList == s.toList
set_option maxRecDepth 100000 in
set_option maxHeartbeats 1600000 in
theorem has_any (k : Int) (s : ByteArray) (w : World) : Calls Try.prog 31 #[.int .i64 k, .string s] w (Says (inL (usesL k) s) w) := by
  have CU := Uses_any k w
  obtain ⟨us, hus⟩ : ∃ us, usesL k = us := ⟨_, rfl⟩
  have hul : us.length ≤ 8 := by rw [← hus]; exact namesL_len (usesN k) 8
  rw [hus] at CU ⊢
  clear hus
  go_enter Try.func31, Try.ntmps31
  go_upto_region 2 with (go_at_call 22; refine CU.mono ?_; rintro e w1 ⟨A, c, rfl, S, hb1⟩)
  obtain ⟨A', c', hv, _, _, _, hr, _⟩ := S.form
  injection hv with e1 e2 e3
  subst e1
  clear S CU
  go_wp2_with fail
  go_loop [6] (fun i => ∃ j : Nat, j ≤ us.length ∧ i = .int .i64 (j : Int) ∧ Hid (∀ x ∈ us.take j, x ≠ s)) (fun i => us.length - (intOf i).toNat)
  case atStart => exact ⟨0, Nat.zero_le _, rfl, by simp [Hid]⟩
  case round =>
  obtain ⟨j, hj, rfl, HK⟩ := hrel
  by_cases hlt : j < us.length
  · obtain ⟨b, o, rfl, hb, hc⟩ := hr.fix (svs_get us j hlt)
    have r0 := hc _ _ (svs_get us j hlt)
    clear hc
    by_cases he : us[j] = s
    · have HC := hide (show inL us s = true from List.any_eq_true.2 ⟨us[j], List.getElem_mem hlt, str_yes he⟩)
      have hq := str_yes he
      clear he
      go_wp2_with fail
      go_ret
      exact ⟨by rw [HC.out]; rfl, hb1⟩
    · have HN := hide (all_step (p := fun x => x ≠ s) HK.out hlt he)
      have hq := str_ne he
      clear he
      go_wp2_with fail
      go_round
      case rel => exact ⟨j + 1, by omega, by go_num, HN.out⟩
      case measure => (simp [intOf]; try omega)
  · obtain rfl : j = us.length := by omega
    have HC := hide (show inL us s = false by
      rw [← Bool.not_eq_true]
      intro h
      obtain ⟨x, hx, he⟩ := List.any_eq_true.1 h
      have := HK.out
      rw [List.take_length] at this
      exact this x hx (str_eq_of (eq_of_beq he)))
    go_wp2_with fail
    go_ret
    exact ⟨by rw [HC.out]; rfl, hb1⟩
theorem names_mem_dec : ∀ m ∈ maskL, ∀ i < 8, inL (namesL m 8) (nameB i) = hasB m i := by decide +kernel
theorem names_mem (k : Int) {i : Nat} (h : i < 8) : inL (usesL k) (nameB i) = hasB (usesN k) i := names_mem_dec _ (mask_mem k) i h
section
variable {w : World} {S : Nat → Prop} {cs : List Value} {c : Con}
theorem ConR.set0 (h : ConR w S cs c) (s : ByteArray) : ConR w S (patch cs 0 [.string s]) { c with text := s } := by
  obtain ⟨va, vd, vu, vk, rfl, h1, h2, h3, h4⟩ := h; exact ⟨va, vd, vu, vk, rfl, h1, h2, h3, h4⟩
theorem ConR.set1 (h : ConR w S cs c) (s : Int) : ConR w S (patch cs 1 [.int .i64 s]) { c with n := s } := by
  obtain ⟨va, vd, vu, vk, rfl, h1, h2, h3, h4⟩ := h; exact ⟨va, vd, vu, vk, rfl, h1, h2, h3, h4⟩
theorem ConR.set2 (h : ConR w S cs c) (s : Int) : ConR w S (patch cs 2 [.int .i64 s]) { c with target := s } := by
  obtain ⟨va, vd, vu, vk, rfl, h1, h2, h3, h4⟩ := h; exact ⟨va, vd, vu, vk, rfl, h1, h2, h3, h4⟩
theorem ConR.set3 (h : ConR w S cs c) (s : Bool) : ConR w S (patch cs 3 [.bool s]) { c with thread := s } := by
  obtain ⟨va, vd, vu, vk, rfl, h1, h2, h3, h4⟩ := h; exact ⟨va, vd, vu, vk, rfl, h1, h2, h3, h4⟩
theorem ConR.set4 (h : ConR w S cs c) (s : ByteArray) : ConR w S (patch cs 4 [.string s]) { c with via := s } := by
  obtain ⟨va, vd, vu, vk, rfl, h1, h2, h3, h4⟩ := h; exact ⟨va, vd, vu, vk, rfl, h1, h2, h3, h4⟩
theorem ConR.set5 (h : ConR w S cs c) {v : Value} {l : List ByteArray} (hv : Slc w S v 1 l.length (svs l)) : ConR w S (patch cs 5 [v]) { c with allow := l } := by
  obtain ⟨va, vd, vu, vk, rfl, h1, h2, h3, h4⟩ := h; exact ⟨v, vd, vu, vk, rfl, hv, h2, h3, h4⟩
theorem ConR.set6 (h : ConR w S cs c) {v : Value} {l : List ByteArray} (hv : Slc w S v 1 l.length (svs l)) : ConR w S (patch cs 6 [v]) { c with deny := l } := by
  obtain ⟨va, vd, vu, vk, rfl, h1, h2, h3, h4⟩ := h; exact ⟨va, v, vu, vk, rfl, h1, hv, h3, h4⟩
theorem ConR.set7 (h : ConR w S cs c) (s : Int) : ConR w S (patch cs 13 [.int .i64 s]) { c with lv := { c.lv with kick := s } } := by
  obtain ⟨va, vd, vu, vk, rfl, h1, h2, h3, h4⟩ := h; exact ⟨va, vd, vu, vk, rfl, h1, h2, h3, h4⟩
theorem slc_one {w : World} {b : Nat} {s : ByteArray} {t : TypeId} (h : w.heap[b]? = some (.cells #[.string s] t (0, 0))) : Slc w Any (.slice (some ⟨b, 0, none⟩) 1 1) 1 [s].length (svs [s]) := by
  have hlt := (Array.getElem?_eq_some_iff.1 h).1
  refine ⟨some ⟨b, 0, none⟩, 1, rfl, rfl, Nat.le_refl _, by decide, (fun h => by cases h), fun _ => ⟨⟨b, 0, none⟩, rfl, hlt, fun j u hu => ?_⟩, fun _ _ _ => trivial⟩
  rw [Addr.add_mid]
  match j, hu with
  | 0, hu => simp [svs] at hu; subst hu; exact box_at (C := [.string s]) h rfl
  | j + 1, hu => simp [svs] at hu
end
end Go.Proofs.Ytehenalnkkkajaa

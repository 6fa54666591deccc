/-
  fedchatref06: the parts of Check.
-/
import Derived.Test.YtehenalnkkkajaaGreatUs
import Derived.Test.YtehenalnkkkajaaGreatCkS
import Derived.Test.YtehenalnkkkajaaGreatGuards
set_option linter.unusedVariables false
set_option linter.unusedSimpArgs false
namespace Go.Proofs.YtehenalnkkkajaaGreat
open Go.RowKit
attribute [local go_sem] Addr.add_mid
set_option maxRecDepth 100000 in
set_option maxHeartbeats 1600000 in
theorem r3_glob (s : ByteArray) (w : World) : Calls Tryz.prog 50 #[.string s] w (fun e w' => e = .returned (.int .i64 (globE s)) ∧ w' = w) := by
  by_cases h1 : s.size = 0
  · have HF := hide (show globE s = 9 from if_pos h1)
    have hem : s.toList.isEmpty = true := by rw [size_zero_nil h1]; decide +kernel
    have hsz0 : ((s.size : Int) == 0) = true := by simp [h1]
    clear h1
    go_enter Tryz.func50, Tryz.ntmps50
    go_wp2_with fail
    go_ret
    exact ⟨by rw [HF.out]; rfl, rfl⟩
  have hne : s.toList.isEmpty = false := by
    rw [bt]
    cases h : s.data.toList with
    | nil => have := Enc.size_toList s; rw [h] at this; exact absurd this.symm h1
    | cons _ _ => rfl
  have hsz1 : ((s.size : Int) == 0) = false := by simpa using h1
  by_cases h2 : 64 < s.size
  · have HF := hide (show globE s = 7 by unfold globE; rw [if_neg h1, if_pos h2])
    clear h1
    go_enter Tryz.func50, Tryz.ntmps50
    go_wp2_with fail
    go_ret
    exact ⟨by rw [HF.out]; rfl, rfl⟩
  have HB := hide (fun k (hk : k < s.size) hb => globE_bad (k := k) h1 h2 hk hb)
  have HO := hide (globE_ok h1 h2)
  have hsz := hide (Enc.size_toList s)
  clear h1
  go_enter Tryz.func50, Tryz.ntmps50
  go_wp2_with fail
  go_loop [3] (fun i => ∃ k : Nat, k ≤ s.size ∧ i = .int .i64 (k : Int) ∧ Hid (∀ c ∈ s.data.toList.take k, badB c = false)) (fun i => s.size - (intOf i).toNat)
  case atStart => exact ⟨0, Nat.zero_le _, rfl, by simp [Hid]⟩
  case round =>
  obtain ⟨k, hk, rfl, HT⟩ := hrel
  by_cases hlt : k < s.size
  · have hi := bad_int s[k]
    cases hb : badB s[k]
    · have h3 : ¬ ((s[k].toNat : Int) < 33) := fun h => by rw [hi.2 (.inl h)] at hb; cases hb
      have h4 : ¬ (126 < (s[k].toNat : Int)) := fun h => by rw [hi.2 (.inr h)] at hb; cases hb
      have HN := hide (all_next HT.out hlt hb)
      clear hi hb
      go_wp2_with fail
      go_round
      case rel => exact ⟨k + 1, by omega, by go_num, HN.out⟩
      case measure => simp [intOf]; omega
    · have HF := hide (HB.out k hlt hb)
      by_cases h3 : (s[k].toNat : Int) < 33
      · clear hi hb
        go_wp2_with fail
        go_ret
        exact ⟨by rw [HF.out]; rfl, rfl⟩
      · have h4 : 126 < (s[k].toNat : Int) := (hi.1 hb).resolve_left h3
        clear hi hb
        go_wp2_with fail
        go_ret
        exact ⟨by rw [HF.out]; rfl, rfl⟩
  · obtain rfl : k = s.size := by omega
    have HF := hide (HO.out (by have := HT.out; rwa [← hsz.out, List.take_length] at this))
    clear HT
    go_wp2_with fail
    go_ret
    exact ⟨by rw [HF.out]; rfl, rfl⟩
def inL (l : List ByteArray) (s : ByteArray) : Bool := l.any fun x => x.toList == s.toList
theorem uses_step {l : List ByteArray} {s : ByteArray} {k : Nat} (h : ∀ x ∈ l.take k, x ≠ s) (hk : k < l.length) (hp : l[k] ≠ s) : ∀ x ∈ l.take (k + 1), x ≠ s := by
  intro x hx
  rw [List.take_succ_eq_append_getElem hk] at hx
  rcases List.mem_append.1 hx with h1 | h1
  · exact h x h1
  · simp only [List.mem_cons, List.not_mem_nil, or_false] at h1; subst h1; exact hp
set_option maxRecDepth 100000 in
set_option maxHeartbeats 1600000 in
theorem r6_uses (k : Int) (s : ByteArray) (w : World) : Calls Tryz.prog 46 #[.int .i64 k, .string s] w (Says (inL (usesL k) s) w) := by
  have CU := R6Uses_any k w
  obtain ⟨us, hus⟩ : ∃ us, usesL k = us := ⟨_, rfl⟩
  have hul : us.length ≤ 8 := by rw [← hus]; exact namesL_len (usesN k) 8
  rw [hus] at CU ⊢
  clear hus
  go_enter Tryz.func46, Tryz.ntmps46
  go_upto_region 2 with (go_at_call 71; refine CU.mono ?_; rintro e w1 ⟨A, c, rfl, S, hb1⟩)
  obtain ⟨A', c', hv, _, _, _, hr, _⟩ := S.form
  injection hv with e1 e2 e3
  subst e1
  clear S CU
  go_wp2_with fail
  go_loop [6] (fun i => ∃ j : Nat, j ≤ us.length ∧ i = .int .i64 (j : Int) ∧ Hid (∀ x ∈ us.take j, x ≠ s)) (fun i => us.length - (intOf i).toNat)
  case atStart => exact ⟨0, Nat.zero_le _, rfl, by simp [Hid]⟩
  case round =>
  obtain ⟨j, hj, rfl, HK⟩ := hrel
  by_cases hlt : j < us.length
  · obtain ⟨b, o, rfl, hb, hc⟩ := hr.fix (svs_get us j hlt)
    have r0 := hc _ _ (svs_get us j hlt)
    clear hc
    by_cases he : us[j] = s
    · have HC := hide (show inL us s = true from List.any_eq_true.2 ⟨us[j], List.getElem_mem hlt, str_yes he⟩)
      have hq := str_yes he
      clear he
      go_wp2_with fail
      go_ret
      exact ⟨by rw [HC.out]; rfl, hb1⟩
    · have HN := hide (uses_step HK.out hlt he)
      have hq := str_ne he
      clear he
      go_wp2_with fail
      go_round
      case rel => exact ⟨j + 1, by omega, by go_num, HN.out⟩
      case measure => (simp [intOf]; try omega)
  · obtain rfl : j = us.length := by omega
    have HC := hide (show inL us s = false by
      rw [← Bool.not_eq_true]
      intro h
      obtain ⟨x, hx, he⟩ := List.any_eq_true.1 h
      have := HK.out
      rw [List.take_length] at this
      exact this x hx (str_eq_of (eq_of_beq he)))
    go_wp2_with fail
    go_ret
    exact ⟨by rw [HC.out]; rfl, hb1⟩
theorem namesR_dec : ∀ m ∈ maskL, ∀ i < 8, inL (namesL m 8) (nameB i) = hasB m i := by decide +kernel
theorem namesR_mem (k : Int) {i : Nat} (h : i < 8) : inL (usesL k) (nameB i) = hasB (usesN k) i := namesR_dec _ (mask_mem k) i h
theorem r6_usesN (k : Int) (i : Nat) (hi : i < 8) (w : World) : Calls Tryz.prog 46 #[.int .i64 k, .string (nameB i)] w (Says (hasB (usesN k) i) w) := by
  have h := r6_uses k (nameB i) w
  rwa [namesR_mem k hi] at h
theorem bare_dec (l : Lev) : decide (l = Lev.zero) = bareB l := by
  cases h : bareB l
  · apply decide_eq_false
    rintro rfl
    exact absurd h (by decide)
  · exact decide_eq_true (bare_zero h)
set_option maxRecDepth 100000 in
set_option maxHeartbeats 1600000 in
theorem r6_plain {S : Nat → Prop} {cs : List Value} {l : Lev} {w : World} (hr : LevR w S cs l) (hl : l.users.length ≤ 1073741824 ∧ l.kinds.length ≤ 1073741824) :
    Calls Tryz.prog 47 #[.agg cs.toArray] w (Says (bareB l) w) := by
  have HR := hide hr
  have HL := hide hr.length
  have B := heap_alloc_new w (.cells cs.toArray 27)
  have hb := ext_alloc (ext_refl w) (.cells cs.toArray 27)
  have CS := fun W (h : Below w.heap.size w W) => R6Levels_any (S2 := Any) (cs2 := [.slice none 0 0, .slice none 0 0, .int .i64 0, .int .i64 0, .int .i64 0, .int .i64 0, .int .i64 0, .int .i64 0, .int .i64 0]) (m := Lev.zero) (HR.out.ext h) ⟨_, _, rfl, Slc.nil _ _ _, Slc.nil _ _ _⟩ hl ⟨Nat.zero_le _, Nat.zero_le _⟩
  simp only [bare_dec] at CS
  have HB := hide B
  clear hr B hl
  go_enter Tryz.func47, Tryz.ntmps47
  go_wp2_with (first
    | refine wpList_loadS rfl (.tmp 1) rfl strcL ⟨w.heap.size, 0, none⟩ rfl cs HL.out (box_all HB.out) ?_
    | (go_at_call 49; refine (CS _ hb).mono ?_; rintro e w2 ⟨rfl, hb2⟩))
  go_ret
  exact ⟨rfl, ext_trans hb hb2⟩
set_option maxRecDepth 100000 in
set_option maxHeartbeats 1600000 in
theorem r6_text {S : Nat → Prop} {cs : List Value} {c : Con} {k : Int} {w : World} (hr : ConR w S cs c) :
    Calls Tryz.prog 26 #[.int .i64 k, .agg cs.toArray] w (Errs (textE k c) w) := by
  obtain ⟨s0, s1, s2, s3, s4⟩ := hr.gets
  have hb := ext_alloc (ext_refl w) (.cells cs.toArray 29)
  have CG := fun W => r3_glob c.text W
  clear s1 s2 s3 s4 hr
  go_enter Tryz.func26, Tryz.ntmps26
  go_wp2_with (go_at_call 50; refine (CG _).mono ?_; rintro e w2 ⟨rfl, hw2⟩; rw [hw2]; clear hw2 w2)
  all_goals (go_ret; refine errs_mk ?_ hb)
  all_goals (try simp only [str_e, Bool.not_eq_true', Bool.not_eq_false', decide_eq_true_eq, decide_eq_false_iff_not, beq_iff_eq, beq_eq_false_iff_ne, ne_eq, bne_iff_ne] at *)
  all_goals (unfold textE; (repeat' split) <;> first | rfl | omega | simp_all)
set_option maxRecDepth 100000 in
set_option maxHeartbeats 1600000 in
theorem r6_number (k n : Int) (w : World) : Calls Tryz.prog 27 #[.int .i64 k, .int .i64 n] w (fun e w' => e = .returned (.int .i64 (numR k n)) ∧ w' = w) := by
  go_enter Tryz.func27, Tryz.ntmps27
  go_wp2_with fail
  all_goals (go_ret; refine ⟨?_, rfl⟩; refine congrArg (fun x => Ending.returned (.int .i64 x)) ?_)
  all_goals (try simp only [str_e, Bool.not_eq_true', Bool.not_eq_false', decide_eq_true_eq, decide_eq_false_iff_not, beq_iff_eq, beq_eq_false_iff_ne, ne_eq, bne_iff_ne] at *)
  all_goals (unfold numR; (repeat' split) <;> first | rfl | omega | simp_all)
set_option maxRecDepth 100000 in
set_option maxHeartbeats 1600000 in
theorem r6_target {S : Nat → Prop} {cs : List Value} {c : Con} {k : Int} {w : World} (hr : ConR w S cs c) :
    Calls Tryz.prog 28 #[.int .i64 k, .agg cs.toArray] w (Errs (targetR k c) w) := by
  obtain ⟨s0, s1, s2, s3, s4⟩ := hr.gets
  have B := heap_alloc_new w (.cells cs.toArray 29)
  have hb := ext_alloc (ext_refl w) (.cells cs.toArray 29)
  have CU : ∀ W, Calls Tryz.prog 46 #[.int .i64 k, .string ⟨#[84, 97, 114, 103, 101, 116]⟩] W (Says (hasB (usesN k) 2) W) := fun W => r6_usesN k 2 (by decide) W
  obtain ⟨u, hu⟩ : ∃ u, hasB (usesN k) 2 = u := ⟨_, rfl⟩
  simp only [hu] at CU
  have HU := hide hu
  clear s0 s1 s4 hr hu
  cases u
  all_goals
    go_enter Tryz.func28, Tryz.ntmps28
    go_wp2_with (go_at_call 46; refine (CU _).mono ?_; rintro e w2 ⟨rfl, hb2⟩; have B2 := box_below B hb2; have r2 := box_at B2 s2; have r3 := box_at B2 s3; have hb3 := ext_trans hb hb2; clear B2 hb2)
    all_goals (go_ret; refine errs_mk ?_ hb3)
    all_goals (try simp only [str_e, Bool.not_eq_true', Bool.not_eq_false', decide_eq_true_eq, decide_eq_false_iff_not, beq_iff_eq, beq_eq_false_iff_ne, ne_eq, bne_iff_ne] at *)
    all_goals (have hU := HU.out; unfold targetR; (repeat' split) <;> first | rfl | omega | simp_all)
set_option maxRecDepth 100000 in
set_option maxHeartbeats 1600000 in
theorem r6_via {S : Nat → Prop} {cs : List Value} {c : Con} {w : World} (hr : ConR w S cs c) (hv : c.via.size ≤ 1073741824) :
    Calls Tryz.prog 29 #[.agg cs.toArray] w (Errs (viaE c) w) := by
  obtain ⟨s0, s1, s2, s3, s4⟩ := hr.gets
  have hb := ext_alloc (ext_refl w) (.cells cs.toArray 29)
  have CU := fun W => r2_User c.via W (by omega)
  obtain ⟨ub, hub⟩ : ∃ ub, userB c.via = ub := ⟨_, rfl⟩
  have hub2 : (splitL [64] c.via.data.toList).isSome = ub := hub
  simp only [hub2] at CU
  have HU := hide hub
  clear hub hub2 s0 s2 s3 hr hv
  cases ub
  all_goals
    simp only [errN, if_true, if_false, Bool.false_eq_true] at CU
    go_enter Tryz.func29, Tryz.ntmps29
    go_wp2_with (go_at_call 51; refine (CU _).mono ?_; rintro e w2 ⟨rfl, hw2⟩; rw [hw2]; clear hw2 w2)
    all_goals (go_ret; refine errs_mk ?_ hb)
    all_goals (try simp only [str_e, Bool.not_eq_true', Bool.not_eq_false', decide_eq_true_eq, decide_eq_false_iff_not, beq_iff_eq, beq_eq_false_iff_ne, ne_eq, bne_iff_ne] at *)
    all_goals (have hu := HU.out; unfold viaE; (repeat' split) <;> first | rfl | omega | simp_all)
set_option maxRecDepth 100000 in
set_option maxHeartbeats 1600000 in
theorem r6_patterns (A : Option Addr) (c : Nat) (l : List ByteArray) (w : World) (hr : Row w w.heap.size A (svs l)) (hl : l.length ≤ 1073741824) :
    Calls Tryz.prog 31 #[.slice A l.length c] w (Errs (patternsE l) w) := by
  by_cases h100 : 100 < l.length
  · have HV := hide (show patternsE l = 7 from if_pos h100)
    go_enter Tryz.func31, Tryz.ntmps31
    go_wp2_with fail
    go_ret
    exact ⟨by rw [HV.out]; rfl, ext_refl _⟩
  have HV := hide (show patternsE l = firstE globF none l from if_neg h100)
  go_enter Tryz.func31, Tryz.ntmps31
  go_wp2_with fail
  go_loop [3] (fun i => ∃ k : Nat, k ≤ l.length ∧ i = .int .i64 (k : Int) ∧ Hid (FE globF l k)) (fun i => l.length - (intOf i).toNat)
  case atStart => exact ⟨0, Nat.zero_le _, rfl, FE.start⟩
  case round =>
  obtain ⟨k, hk, rfl, HK⟩ := hrel
  by_cases hlt : k < l.length
  · obtain ⟨b, o, rfl, hb, hc⟩ := hr.fix (svs_get l k hlt)
    have r0 := hc _ _ (svs_get l k hlt)
    have CG := fun W => r3_glob l[k] W
    obtain ⟨s, hs⟩ : ∃ s, s = l[k] := ⟨_, rfl⟩
    obtain ⟨g, hg⟩ : ∃ g, globE l[k] = g := ⟨_, rfl⟩
    have HE := hide (fun h0 : g ≠ 0 => HK.out.err (e := g) hlt hg h0)
    have HN := hide (fun h0 : g = 0 => HK.out.next hlt (hg.trans h0))
    simp only [hg] at CG
    rw [← hs] at r0 CG
    clear hs hg hc
    by_cases h0 : g = 0
    · have HN' := hide (HN.out h0)
      subst h0
      go_wp2_with (go_at_call 50; refine (CG _).mono ?_; rintro e w2 ⟨rfl, hw2⟩; rw [hw2]; clear hw2 w2)
      go_round
      case rel => exact ⟨k + 1, by omega, by go_num, HN'.out⟩
      case measure => (simp [intOf]; try omega)
    · have HE' := hide (HE.out h0)
      have h1 : (g != 0) = true := by simpa using h0
      clear h0
      go_wp2_with (go_at_call 50; refine (CG _).mono ?_; rintro e w2 ⟨rfl, hw2⟩; rw [hw2]; clear hw2 w2)
      go_ret
      exact ⟨by rw [HV.out, HE'.out]; rfl, ext_refl _⟩
  · obtain rfl : k = l.length := by omega
    have HF := hide HK.out.fin
    go_wp2_with fail
    go_ret
    exact ⟨by rw [HV.out, HF.out]; rfl, ext_refl _⟩
set_option maxRecDepth 100000 in
set_option maxHeartbeats 1600000 in
theorem r6_bare (k : Int) (w : World) : Calls Tryz.prog 24 #[.int .i64 k] w (fun e w' => e = .returned (.bool (bareK k)) ∧ w' = w) := by
  have HP := hide (show bareK k = true ↔ (7 ≤ k ∧ k ≤ 13) by simp [bareK]; omega)
  go_enter Tryz.func24, Tryz.ntmps24
  go_wp2_with fail
  all_goals (go_ret; refine ⟨ret_b ?_, rfl⟩)
  all_goals (try simp only [beq_iff_eq, beq_eq_false_iff_ne, ne_eq] at *)
  all_goals (rw [HP.out]; simp; try omega)

set_option maxRecDepth 100000 in
set_option maxHeartbeats 1600000 in
theorem r6_rooms {S : Nat → Prop} {cs : List Value} {c : Con} {w : World} (hr : ConR w S cs c) (hl : c.allow.length ≤ 1073741824) (hs : ∀ x ∈ c.allow, x.size ≤ 1073741824) :
    Calls Tryz.prog 30 #[.agg cs.toArray] w (Errs (rulesE c) w) := by
  obtain ⟨_, s1, _⟩ := hr.gets
  obtain ⟨A1, c1, A2, c2, s5, s6, h5, h6⟩ := hr.lists
  have hb := ext_alloc (ext_refl w) (.cells cs.toArray 29)
  have hr5 := h5.ext hb
  have B := heap_alloc_new w (.cells cs.toArray 29)
  clear hr h5 h6 s6
  have HS := hide hs; clear hs
  generalize hL : c.allow = l at *
  have HL := hide hL; clear hL
  by_cases h0 : 0 < l.length ∧ c.n ≠ 3
  · have HE := hide (show rulesE c = 1 by unfold rulesE; rw [HL.out, if_pos h0])
    obtain ⟨h1, h2⟩ := h0
    have t2 : (c.n != 3) = true := by simpa using h2
    clear h2 B hr5
    go_enter Tryz.func30, Tryz.ntmps30
    go_wp2_with fail
    go_ret
    exact ⟨by rw [HE.out]; rfl, hb⟩
  have HE := hide (show rulesE c = roomsE l by unfold rulesE; rw [HL.out, if_neg h0])
  have hx : l.length = 0 ∨ (c.n != 3) = false := by
    by_cases e : l.length = 0
    · exact .inl e
    · exact .inr (by have : c.n = 3 := by { by_cases e' : c.n = 3; exact e'; exact absurd ⟨by omega, e'⟩ h0 }
                     simp [this])
  clear h0
  by_cases h100 : 100 < l.length
  · have HV := hide (show roomsE l = 7 from if_pos h100)
    have t2 : (c.n != 3) = false := hx.resolve_left (by omega)
    clear hx B hr5
    go_enter Tryz.func30, Tryz.ntmps30
    go_wp2_with fail
    go_ret
    exact ⟨by rw [HE.out, HV.out]; rfl, hb⟩
  have HV := hide (show roomsE l = firstE roomF none l from if_neg h100)
  go_enter Tryz.func30, Tryz.ntmps30
  have hcase : (l.length = 0) ∨ (0 < l.length ∧ (c.n != 3) = false) := by
    rcases hx with h | h
    · exact .inl h
    · rcases Nat.eq_zero_or_pos l.length with h' | h'
      · exact .inl h'
      · exact .inr ⟨h', h⟩
  clear hx
  rcases hcase with hz | ⟨hpos, t2⟩
  · have HF := hide (show firstE roomF none l = 0 by rw [List.eq_nil_of_length_eq_zero hz]; rfl)
    rw [hz] at s5
    have r5 := box_at B s5
    clear hr5 B hl h100
    have HZ := hide hz; clear hz
    go_wp2_with fail
    go_loop [3] (fun i => i = .int .i64 0) (fun i => 1)
    case atStart => rfl
    case round =>
    obtain rfl := hrel
    go_wp2_with fail
    go_ret
    exact ⟨by rw [HE.out, HV.out, HF.out]; rfl, hb⟩
  go_upto_region 5 with fail
  generalize w.alloc (.cells cs.toArray 29) = W0 at B hb hr5 ⊢
  have hwl : w.heap.size < W0.heap.size := (Array.getElem?_eq_some_iff.1 B).1
  have r5 := box_at B s5
  clear s1 s5 B
  go_wp2_with fail
  go_loopw [3] (fun i wr => ∃ j : Nat, j ≤ l.length ∧ i = .int .i64 (j : Int) ∧ Hid (FE roomF l j) ∧ Below W0.heap.size W0 wr) (fun i _ => l.length - (intOf i).toNat)
  case atStart => exact ⟨0, Nat.zero_le _, rfl, FE.start, ext_refl W0⟩
  case round =>
  obtain ⟨j, hj, rfl, HK, hbel⟩ := hrel
  have p5 : wr.cell? ⟨w.heap.size, 5, none⟩ = some (.slice A1 l.length c1) := (Below.cell hbel hwl).trans r5
  by_cases hlt : j < l.length
  rotate_left
  · obtain rfl : j = l.length := by omega
    have HF := hide HK.out.fin
    go_wp2_with fail
    go_ret
    exact ⟨by rw [HE.out, HV.out, HF.out]; rfl, ext_trans hb hbel⟩
  obtain ⟨b, o, rfl, hbl, hc⟩ := hr5.fix (svs_get l j hlt)
  have q0 : wr.cell? ⟨b, o + j, none⟩ = some (.string l[j]) := (hbel.cell hbl).trans (hc _ _ (svs_get l j hlt))
  have CR := fun W => r2_Room l[j] W (by have := HS.out l[j] (List.getElem_mem hlt); omega)
  obtain ⟨x, hx⟩ : ∃ x, x = l[j] := ⟨_, rfl⟩
  have HX := hide hx
  rw [← hx] at q0 CR
  have HC := hide hc
  clear hx hc r5
  obtain ⟨rb, hrb⟩ : ∃ rb, roomB x = rb := ⟨_, rfl⟩
  simp only [hrb] at CR
  cases rb with
  | false =>
    simp only [errN, Bool.false_eq_true, if_false] at CR
    have HF := hide (HK.out.err (e := 3) hlt (by rw [← HX.out]; exact roomF_no hrb) (by decide))
    clear hrb
    go_wp2_with (go_at_call 52; refine (CR _).mono ?_; rintro e w2 ⟨rfl, hw2⟩; rw [hw2]; clear hw2 w2)
    go_ret
    exact ⟨by rw [HE.out, HV.out, HF.out]; rfl, ext_trans hb hbel⟩
  | true =>
    simp only [errN, if_true] at CR
    rcases Nat.eq_zero_or_pos j with rfl | hjp
    · have HN := hide (HK.out.next hlt (by rw [← HX.out]; exact roomF_ok hrb rfl))
      try simp only [Nat.add_zero] at q0
      clear hrb
      go_wp2_with (go_at_call 52; refine (CR _).mono ?_; rintro e w2 ⟨rfl, hw2⟩; rw [hw2]; clear hw2 w2)
      go_quiet (fail)
      go_wp2_with fail
      go_roundw
      case rel => exact ⟨1, by omega, rfl, HN.out, below_drewN hbel _⟩
      case measure => (simp [intOf]; try omega)
    · obtain ⟨i, rfl⟩ : ∃ i, j = i + 1 := ⟨j - 1, by omega⟩
      have hi : i < l.length := by omega
      have hprev := prev_succ hi
      obtain ⟨y, hy⟩ : ∃ y, y = l[i] := ⟨_, rfl⟩
      have hq := HC.out _ _ (svs_get l i hi)
      rw [← hy] at hprev hq
      clear hy
      have p0 : wr.cell? ⟨b, o + i, none⟩ = some (.string y) := (hbel.cell hbl).trans hq
      have HPREV := hide hprev
      have hwr := wrap_k i (by omega)
      clear hprev hq
      obtain ⟨s1, h1⟩ : ∃ s, Op.bytesLess x.toList y.toList = s := ⟨_, rfl⟩
      obtain ⟨s2, h2⟩ : ∃ s, (x.toList == y.toList) = s := ⟨_, rfl⟩
      have ho : outB (prevA l (i + 1)) x = (s1 || s2) := by rw [HPREV.out, ← h1, ← h2]; rfl
      have HO := hide ho
      clear ho
      cases s1 with
      | true =>
        have HF := hide (HK.out.err (e := 8) hlt (by rw [← HX.out]; exact roomF_out hrb (HO.out.trans rfl)) (by decide))
        clear hrb
        go_wp2_with (go_at_call 52; refine (CR _).mono ?_; rintro e w2 ⟨rfl, hw2⟩; rw [hw2]; clear hw2 w2)
        go_quiet (fail)
        go_wp2_with fail
        go_ret
        exact ⟨by rw [HE.out, HV.out, HF.out]; rfl, ext_trans hb (below_drewN hbel _)⟩
      | false =>
        cases s2 with
        | true =>
          have HF := hide (HK.out.err (e := 8) hlt (by rw [← HX.out]; exact roomF_out hrb (HO.out.trans rfl)) (by decide))
          clear hrb
          go_wp2_with (go_at_call 52; refine (CR _).mono ?_; rintro e w2 ⟨rfl, hw2⟩; rw [hw2]; clear hw2 w2)
          go_quiet (fail)
          go_wp2_with fail
          go_ret
          exact ⟨by rw [HE.out, HV.out, HF.out]; rfl, ext_trans hb (below_drewN hbel _)⟩
        | false =>
          have HN := hide (HK.out.next hlt (by rw [← HX.out]; exact roomF_ok hrb (HO.out.trans rfl)))
          clear hrb
          go_wp2_with (go_at_call 52; refine (CR _).mono ?_; rintro e w2 ⟨rfl, hw2⟩; rw [hw2]; clear hw2 w2)
          go_quiet (fail)
          go_wp2_with fail
          go_roundw
          case rel => exact ⟨i + 1 + 1, by omega, by go_num, HN.out, below_drewN hbel _⟩
          case measure => (simp [intOf]; try omega)
end Go.Proofs.YtehenalnkkkajaaGreat

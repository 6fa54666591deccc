/-
  content: what checks the fields of a content.
-/
import Derived.Test.YtmlnmcoophnlaaaGreatCkP
import Derived.Test.YtmlnmcoophnlaaaGreatCkC
import Derived.BigQuiet
import Derived.Deep.DeepCutAuto
set_option linter.unusedVariables false
set_option linter.unusedSimpArgs false
namespace Go.Proofs.YtmlnmcoophnlaaaGreat
open Go.RowKit
attribute [local go_sem] Addr.add_mid
theorem str_e (s : ByteArray) : s.toList.isEmpty = decide (s.size = 0) := by
  have := str_b s
  by_cases h : s.size = 0
  · rw [empty_size h]; simp [h]
  · cases hx : s.toList.isEmpty
    · simp [h]
    · rw [hx] at this; simp [h] at this

set_option maxRecDepth 100000 in
set_option maxHeartbeats 1600000 in
theorem checkText_any {S : Nat → Prop} {cs : List Value} {c : Con} {k : Int} {w : World} (hr : ConR w S cs c) :
    Calls Tryz.prog 106 #[.int .i64 k, .agg cs.toArray] w (Errs (textE k c) w) := by
  obtain ⟨s0, s1, s2, s3, s4⟩ := hr.gets
  have hb := ext_alloc (ext_refl w) (.cells cs.toArray 31)
  have CG := fun W => glob_any c.text W
  clear s1 s2 s3 s4 hr
  go_enter Tryz.func106, Tryz.ntmps106
  go_wp2_with (go_at_call 168; refine (CG _).mono ?_; rintro e w2 ⟨rfl, hw2⟩; rw [hw2]; clear hw2 w2)
  all_goals (go_ret; refine errs_mk ?_ hb)
  all_goals (try simp only [str_e, Bool.not_eq_true', Bool.not_eq_false', decide_eq_true_eq, decide_eq_false_iff_not, beq_iff_eq, beq_eq_false_iff_ne, ne_eq, bne_iff_ne] at *)
  all_goals (unfold textE; (repeat' split) <;> first | rfl | omega | simp_all)

set_option maxRecDepth 100000 in
set_option maxHeartbeats 1600000 in
theorem checkN_any {S : Nat → Prop} {cs : List Value} {c : Con} {k : Int} {w : World} (hr : ConR w S cs c) :
    Calls Tryz.prog 107 #[.int .i64 k, .agg cs.toArray] w (Errs (numE k c.n) w) := by
  obtain ⟨s0, s1, s2, s3, s4⟩ := hr.gets
  have hb := ext_alloc (ext_refl w) (.cells cs.toArray 31)
  clear s0 s2 s3 s4 hr
  go_enter Tryz.func107, Tryz.ntmps107
  go_wp2_with fail
  all_goals (go_ret; refine errs_mk ?_ hb)
  all_goals (try simp only [str_e, Bool.not_eq_true', Bool.not_eq_false', decide_eq_true_eq, decide_eq_false_iff_not, beq_iff_eq, beq_eq_false_iff_ne, ne_eq, bne_iff_ne] at *)
  all_goals (unfold numE; (repeat' split) <;> first | rfl | omega | simp_all)

set_option maxRecDepth 100000 in
set_option maxHeartbeats 1600000 in
theorem checkTarget_any {S : Nat → Prop} {cs : List Value} {c : Con} {k : Int} {w : World} (hr : ConR w S cs c) :
    Calls Tryz.prog 108 #[.int .i64 k, .agg cs.toArray] w (Errs (targetE k c) w) := by
  obtain ⟨s0, s1, s2, s3, s4⟩ := hr.gets
  have hb := ext_alloc (ext_refl w) (.cells cs.toArray 31)
  clear s0 s1 s3 s4 hr
  go_enter Tryz.func108, Tryz.ntmps108
  go_wp2_with fail
  all_goals (go_ret; refine errs_mk ?_ hb)
  all_goals (try simp only [str_e, Bool.not_eq_true', Bool.not_eq_false', decide_eq_true_eq, decide_eq_false_iff_not, beq_iff_eq, beq_eq_false_iff_ne, ne_eq, bne_iff_ne] at *)
  all_goals (unfold targetE; (repeat' split) <;> first | rfl | omega | simp_all)

set_option maxRecDepth 100000 in
set_option maxHeartbeats 1600000 in
theorem checkThread_any {S : Nat → Prop} {cs : List Value} {c : Con} {k : Int} {w : World} (hr : ConR w S cs c) :
    Calls Tryz.prog 109 #[.int .i64 k, .agg cs.toArray] w (Errs (threadE c) w) := by
  obtain ⟨s0, s1, s2, s3, s4⟩ := hr.gets
  have hb := ext_alloc (ext_refl w) (.cells cs.toArray 31)
  clear s0 s1 s4 hr
  go_enter Tryz.func109, Tryz.ntmps109
  go_wp2_with fail
  all_goals (go_ret; refine errs_mk ?_ hb)
  all_goals (try simp only [str_e, Bool.not_eq_true', Bool.not_eq_false', decide_eq_true_eq, decide_eq_false_iff_not, beq_iff_eq, beq_eq_false_iff_ne, ne_eq, bne_iff_ne] at *)
  all_goals (unfold threadE; (repeat' split) <;> first | rfl | omega | simp_all)

set_option maxRecDepth 100000 in
set_option maxHeartbeats 1600000 in
theorem checkVia_any {S : Nat → Prop} {cs : List Value} {c : Con} {k : Int} {w : World} (hr : ConR w S cs c) (hv : c.via.size ≤ 1073741824) :
    Calls Tryz.prog 110 #[.int .i64 k, .agg cs.toArray] w (Errs (viaE c) w) := by
  obtain ⟨s0, s1, s2, s3, s4⟩ := hr.gets
  have hb := ext_alloc (ext_refl w) (.cells cs.toArray 31)
  have CU := fun W => ids_User c.via W (by omega)
  obtain ⟨ub, hub⟩ : ∃ ub, userB c.via = ub := ⟨_, rfl⟩
  have hub2 : (splitL [64] c.via.data.toList).isSome = ub := hub
  simp only [hub2] at CU
  have HU := hide hub
  clear hub hub2 s0 s2 s3 hr hv
  cases ub
  all_goals
    simp only [errN, if_true, if_false, Bool.false_eq_true] at CU
    go_enter Tryz.func110, Tryz.ntmps110
    go_wp2_with (go_at_call 101; refine (CU _).mono ?_; rintro e w2 ⟨rfl, hb2⟩)
    all_goals (go_ret; refine errs_mk ?_ (by first | exact ext_trans hb hb2 | exact hb))
    all_goals (try simp only [str_e, Bool.not_eq_true', Bool.not_eq_false', decide_eq_true_eq, decide_eq_false_iff_not, beq_iff_eq, beq_eq_false_iff_ne, ne_eq, bne_iff_ne] at *)
    all_goals (have hu := HU.out; unfold viaE; (repeat' split) <;> first | rfl | omega | simp_all)

set_option maxRecDepth 100000 in
set_option maxHeartbeats 1600000 in
theorem allow_patterns {S : Nat → Prop} {cs : List Value} {c : Con} {w : World} (hr : ConR w S cs c) (hl : c.allow.length ≤ 1073741824) :
    Calls Tryz.prog 111 #[.int .i64 6, .agg cs.toArray] w (Errs (patternsE c.allow) w) := by
  obtain ⟨A1, c1, A2, c2, s5, s6, h5, h6⟩ := hr.lists
  have hb := ext_alloc (ext_refl w) (.cells cs.toArray 31)
  have CP := fun W (hb : Below w.heap.size w W) => patterns_any A1 c1 c.allow W (h5.ext hb) hl
  clear hr h5 h6 s6
  go_enter Tryz.func111, Tryz.ntmps111
  go_wp2_with (go_at_call 112; refine (CP _ hb).mono ?_; rintro e w2 ⟨rfl, hb2⟩)
  go_ret
  exact ⟨rfl, ext_trans hb hb2⟩
theorem roomF_no {p : Option ByteArray} {x : ByteArray} (h : roomB x = false) : roomF p x = 3 := by unfold roomF; rw [if_pos h]
theorem roomF_out {p : Option ByteArray} {x : ByteArray} (h : roomB x = true) (ho : outB p x = true) : roomF p x = 8 := by unfold roomF; rw [if_neg (by rw [h]; simp), if_pos ho]
theorem roomF_ok {p : Option ByteArray} {x : ByteArray} (h : roomB x = true) (ho : outB p x = false) : roomF p x = 0 := by unfold roomF; rw [if_neg (by rw [h]; simp), if_neg (by rw [ho]; simp)]

set_option maxRecDepth 100000 in
set_option maxHeartbeats 1600000 in
theorem allow_rules {S : Nat → Prop} {cs : List Value} {c : Con} {k : Int} {w : World} (hk : (k == 6) = false) (hr : ConR w S cs c) (hl : c.allow.length ≤ 1073741824) (hs : ∀ x ∈ c.allow, x.size ≤ 1073741824) :
    Calls Tryz.prog 111 #[.int .i64 k, .agg cs.toArray] w (Errs (rulesE c) w) := by
  obtain ⟨_, s1, _⟩ := hr.gets
  obtain ⟨A1, c1, A2, c2, s5, s6, h5, h6⟩ := hr.lists
  have hb := ext_alloc (ext_refl w) (.cells cs.toArray 31)
  have hr5 := h5.ext hb
  have B := heap_alloc_new w (.cells cs.toArray 31)
  clear hr h5 h6 s6
  have HS := hide hs; clear hs
  generalize hL : c.allow = l at *
  have HL := hide hL; clear hL
  by_cases h0 : 0 < l.length ∧ c.n ≠ 3
  · have HE := hide (show rulesE c = 1 by unfold rulesE; rw [HL.out, if_pos h0])
    obtain ⟨h1, h2⟩ := h0
    have t2 : (c.n != 3) = true := by simpa using h2
    clear h2 B hr5
    go_enter Tryz.func111, Tryz.ntmps111
    go_wp2_with fail
    go_ret
    exact ⟨by rw [HE.out]; rfl, hb⟩
  have HE := hide (show rulesE c = roomsE l by unfold rulesE; rw [HL.out, if_neg h0])
  have hx : l.length = 0 ∨ (c.n != 3) = false := by
    by_cases e : l.length = 0
    · exact .inl e
    · exact .inr (by have : c.n = 3 := by { by_cases e' : c.n = 3; exact e'; exact absurd ⟨by omega, e'⟩ h0 }
                     simp [this])
  clear h0
  by_cases h100 : 100 < l.length
  · have HV := hide (show roomsE l = 7 from if_pos h100)
    have t2 : (c.n != 3) = false := hx.resolve_left (by omega)
    clear hx B hr5
    go_enter Tryz.func111, Tryz.ntmps111
    go_wp2_with fail
    go_ret
    exact ⟨by rw [HE.out, HV.out]; rfl, hb⟩
  have HV := hide (show roomsE l = firstE roomF none l from if_neg h100)
  go_enter Tryz.func111, Tryz.ntmps111
  have hcase : (l.length = 0) ∨ (0 < l.length ∧ (c.n != 3) = false) := by
    rcases hx with h | h
    · exact .inl h
    · rcases Nat.eq_zero_or_pos l.length with h' | h'
      · exact .inl h'
      · exact .inr ⟨h', h⟩
  clear hx
  rcases hcase with hz | ⟨hpos, t2⟩
  · have HF := hide (show firstE roomF none l = 0 by rw [List.eq_nil_of_length_eq_zero hz]; rfl)
    rw [hz] at s5
    clear hr5 B hl h100
    have HZ := hide hz; clear hz
    go_upto_region 8 with fail
    go_loop [31] (fun i => i = .int .i64 0) (fun i => 1)
    case atStart => rfl
    case round =>
    obtain rfl := hrel
    go_wp2_with fail
    go_ret
    exact ⟨by rw [HE.out, HV.out, HF.out]; rfl, hb⟩
  go_upto_region 8 with fail
  generalize w.alloc (.cells cs.toArray 31) = W0 at B hb hr5 ⊢
  have hwl : w.heap.size < W0.heap.size := (Array.getElem?_eq_some_iff.1 B).1
  have r5 := box_at B s5
  clear s1 s5 B
  go_loopw [31] (fun i wr => ∃ j : Nat, j ≤ l.length ∧ i = .int .i64 (j : Int) ∧ Hid (FE roomF l j) ∧ Below W0.heap.size W0 wr) (fun i _ => l.length - (intOf i).toNat)
  case atStart => exact ⟨0, Nat.zero_le _, rfl, FE.start, ext_refl W0⟩
  case round =>
  obtain ⟨j, hj, rfl, HK, hbel⟩ := hrel
  by_cases hlt : j < l.length
  rotate_left
  · obtain rfl : j = l.length := by omega
    have HF := hide HK.out.fin
    go_wp2_with fail
    go_ret
    exact ⟨by rw [HE.out, HV.out, HF.out]; rfl, ext_trans hb hbel⟩
  obtain ⟨b, o, rfl, hbl, hc⟩ := hr5.fix (svs_get l j hlt)
  have q0 : wr.cell? ⟨b, o + j, none⟩ = some (.string l[j]) := (hbel.cell hbl).trans (hc _ _ (svs_get l j hlt))
  have CR := fun W => ids_Room l[j] W (by have := HS.out l[j] (List.getElem_mem hlt); omega)
  obtain ⟨x, hx⟩ : ∃ x, x = l[j] := ⟨_, rfl⟩
  have HX := hide hx
  rw [← hx] at q0 CR
  have HC := hide hc
  clear hx hc
  obtain ⟨rb, hrb⟩ : ∃ rb, roomB x = rb := ⟨_, rfl⟩
  simp only [hrb] at CR
  cases rb with
  | false =>
    simp only [errN, Bool.false_eq_true, if_false] at CR
    have HF := hide (HK.out.err (e := 3) hlt (by rw [← HX.out]; exact roomF_no hrb) (by decide))
    clear hrb
    go_wp2_with (go_at_call 100; refine (CR _).mono ?_; rintro e w2 ⟨rfl, hb2⟩)
    go_ret
    exact ⟨by rw [HE.out, HV.out, HF.out]; rfl, ext_trans hb (ext_trans hbel hb2)⟩
  | true =>
    simp only [errN, if_true] at CR
    rcases Nat.eq_zero_or_pos j with rfl | hjp
    · have HN := hide (HK.out.next hlt (by rw [← HX.out]; exact roomF_ok hrb rfl))
      try simp only [Nat.add_zero] at q0
      clear hrb
      go_wp2_with (go_at_call 100; refine (CR _).mono ?_; rintro e w2 ⟨rfl, hb2⟩)
      go_roundw
      case rel => exact ⟨1, by omega, rfl, HN.out, ext_trans hbel hb2⟩
      case measure => (simp [intOf]; try omega)
    · obtain ⟨i, rfl⟩ : ∃ i, j = i + 1 := ⟨j - 1, by omega⟩
      have hi : i < l.length := by omega
      have hprev := prev_succ hi
      obtain ⟨y, hy⟩ : ∃ y, y = l[i] := ⟨_, rfl⟩
      have hq := HC.out _ _ (svs_get l i hi)
      rw [← hy] at hprev hq
      clear hy
      have HPREV := hide hprev
      have HQ := hide hq
      have hwr := wrap_k i (by omega)
      clear hprev hq
      obtain ⟨s1, h1⟩ : ∃ s, Op.bytesLess x.toList y.toList = s := ⟨_, rfl⟩
      obtain ⟨s2, h2⟩ : ∃ s, (x.toList == y.toList) = s := ⟨_, rfl⟩
      have ho : outB (prevA l (i + 1)) x = (s1 || s2) := by rw [HPREV.out, ← h1, ← h2]; rfl
      have HO := hide ho
      clear ho
      cases s1 with
      | true =>
        have HF := hide (HK.out.err (e := 8) hlt (by rw [← HX.out]; exact roomF_out hrb (HO.out.trans rfl)) (by decide))
        clear hrb
        go_wp2_with (go_at_call 100; refine (CR _).mono ?_; rintro e w2 ⟨rfl, hb2⟩; have p5 : w2.cell? ⟨w.heap.size, 5, none⟩ = some (.slice (some ⟨b, o, none⟩) l.length c1) := (Below.cell (ext_trans hbel hb2) hwl).trans r5; have p0 : w2.cell? ⟨b, o + i, none⟩ = some (.string y) := (Below.cell (ext_trans hbel hb2) hbl).trans HQ.out)
        go_ret
        exact ⟨by rw [HE.out, HV.out, HF.out]; rfl, ext_trans hb (ext_trans hbel hb2)⟩
      | false =>
        cases s2 with
        | true =>
          have HF := hide (HK.out.err (e := 8) hlt (by rw [← HX.out]; exact roomF_out hrb (HO.out.trans rfl)) (by decide))
          clear hrb
          go_wp2_with (go_at_call 100; refine (CR _).mono ?_; rintro e w2 ⟨rfl, hb2⟩; have p5 : w2.cell? ⟨w.heap.size, 5, none⟩ = some (.slice (some ⟨b, o, none⟩) l.length c1) := (Below.cell (ext_trans hbel hb2) hwl).trans r5; have p0 : w2.cell? ⟨b, o + i, none⟩ = some (.string y) := (Below.cell (ext_trans hbel hb2) hbl).trans HQ.out)
          go_ret
          exact ⟨by rw [HE.out, HV.out, HF.out]; rfl, ext_trans hb (ext_trans hbel hb2)⟩
        | false =>
          have HN := hide (HK.out.next hlt (by rw [← HX.out]; exact roomF_ok hrb (HO.out.trans rfl)))
          clear hrb
          go_wp2_with (go_at_call 100; refine (CR _).mono ?_; rintro e w2 ⟨rfl, hb2⟩; have p5 : w2.cell? ⟨w.heap.size, 5, none⟩ = some (.slice (some ⟨b, o, none⟩) l.length c1) := (Below.cell (ext_trans hbel hb2) hwl).trans r5; have p0 : w2.cell? ⟨b, o + i, none⟩ = some (.string y) := (Below.cell (ext_trans hbel hb2) hbl).trans HQ.out)
          go_roundw
          case rel => exact ⟨i + 1 + 1, by omega, by go_num, HN.out, ext_trans hbel hb2⟩
          case measure => (simp [intOf]; try omega)
theorem checkAllow_any {S : Nat → Prop} {cs : List Value} {c : Con} {k : Int} {w : World} (hr : ConR w S cs c) (hl : c.allow.length ≤ 1073741824) (hs : ∀ x ∈ c.allow, x.size ≤ 1073741824) :
    Calls Tryz.prog 111 #[.int .i64 k, .agg cs.toArray] w (Errs (allowE k c) w) := by
  unfold allowE
  by_cases hk : k = 6
  · subst hk; rw [if_pos rfl]; exact allow_patterns hr hl
  · rw [if_neg hk]; exact allow_rules (by simpa using hk) hr hl hs
end Go.Proofs.YtmlnmcoophnlaaaGreat

/-
  fedchatlaw06: the examples that every statement asks (live).
-/
import Derived.Test.YtehenalnkkkajaaGreatUs
import Derived.Test.YtehenalnkkkajaaGreatDecC
import Derived.Test.YtehenalnkkkajaaGreatEncC
import Derived.Test.YtehenalnkkkajaaGreatStc6
set_option linter.unusedVariables false
set_option linter.unusedSimpArgs false
namespace Go.Proofs.YtehenalnkkkajaaGreat
open Go.RowKit
attribute [local go_sem] Addr.add_mid
def litC (t : ByteArray) (n g : Int) : Con := ⟨t, n, g, false, ⟨#[]⟩, [], [], Lev.zero⟩
theorem lit_R (w : World) (S : Nat → Prop) (t : ByteArray) (n g : Int) : ConR w S [.string t, .int .i64 n, .int .i64 g, .bool false, .string ⟨#[]⟩, .slice none 0 0, .slice none 0 0, .slice none 0 0, .slice none 0 0, .int .i64 0, .int .i64 0, .int .i64 0, .int .i64 0, .int .i64 0, .int .i64 0, .int .i64 0] (litC t n g) :=
  ⟨_, _, _, _, rfl, Slc.nil _ _ _, Slc.nil _ _ _, Slc.nil _ _ _, Slc.nil _ _ _⟩
theorem lit_mild (t : ByteArray) (n g : Int) : (litC t n g).mild := ⟨by show (0 : Nat) ≤ _; omega, Nat.zero_le _, Nat.zero_le _, Nat.zero_le _, Nat.zero_le _, fun x h => by simp [litC] at h, fun x h => by simp [litC, Lev.zero] at h⟩
theorem lit_fit (t : ByteArray) (n g : Int) : (litC t n g).fit := ⟨Nat.zero_le _, Nat.zero_le _, Nat.zero_le _, Nat.zero_le _⟩
theorem zero_puts : Con.zero.puts := ⟨by decide +kernel, by decide, ⟨by decide, by decide⟩, ⟨by decide, by decide⟩, by decide, by decide, by decide, by decide, by decide, fun u h => by simp [Con.zero, Lev.zero] at h, fun u h => by simp [Con.zero, Lev.zero] at h, zero_fine.lv.rest⟩
theorem encCon_pos (c : Con) : encCon c ≠ [] := by
  intro h
  have h1 := congrArg List.length h
  have h2 := encS_pos c.text
  unfold encCon at h1
  rw [List.length_append, List.length_nil] at h1
  omega
/-- the bytes of no content -/
theorem enc_zero : (encCon Con.zero).length = 16 := by decide +kernel
theorem live_enc (w : World) : Calls Tryz.prog 34 #[.agg #[.string ⟨#[]⟩, .int .i64 0, .int .i64 0, .bool false, .string ⟨#[]⟩, .slice none 0 0, .slice none 0 0, .slice none 0 0, .slice none 0 0, .int .i64 0, .int .i64 0, .int .i64 0, .int .i64 0, .int .i64 0, .int .i64 0, .int .i64 0]] w (fun e w' => ∃ A c, e = .returned (.slice A 16 c) ∧ 16 ≤ c ∧ Row w' w'.heap.size A (bvs (encCon Con.zero)) ∧ Below w.heap.size w w') := by
  refine (Encode_any (lit_R w Any ⟨#[]⟩ 0 0) zero_puts).mono ?_
  rintro e w' ⟨v, rfl, ⟨A, c, rfl, hc, hr⟩, hb⟩
  exact ⟨A, c, by rw [show (encCon (litC ⟨#[]⟩ 0 0)).length = 16 from enc_zero], (enc_zero ▸ hc : 16 ≤ c), hr, hb⟩
theorem live_dec {A : Option Addr} {c : Nat} {w : World} (hr : Row w w.heap.size A (bvs (encCon Con.zero))) (hc : 16 ≤ c) : Calls Tryz.prog 35 #[.slice A 16 c] w (fun e w' => ∃ cs, e = .returned (.tuple #[.agg cs.toArray, .bool true]) ∧ ConR w' (w.heap.size ≤ ·) cs Con.zero ∧ Below w.heap.size w w') := by
  have h := Decode_any hr (c := c) (by rw [enc_zero]; exact hc) (by rw [enc_zero]; decide)
  rw [enc_zero] at h
  refine h.mono ?_
  rintro e w' ⟨cs, C, ok, rfl, hC, hf, h1, h2, hb⟩
  cases ok with
  | true =>
    have := encCon_inj zero_fine.told hf.told (h1 rfl)
    subst this
    exact ⟨cs, rfl, hC, hb⟩
  | false => exact absurd rfl ((h2 rfl).2 Con.zero zero_fine.told)
theorem live_decN (w : World) : Calls Tryz.prog 35 #[.slice none 0 0] w (fun e w' => ∃ cs, e = .returned (.tuple #[.agg cs.toArray, .bool false]) ∧ ConR w' (w.heap.size ≤ ·) cs Con.zero ∧ Below w.heap.size w w') := by
  have h := Decode_any (l := []) (A := none) (c := 0) (w := w) Row.nil (Nat.le_refl _) (Nat.zero_le _)
  refine Calls.mono h ?_
  rintro e w' ⟨cs, C, ok, rfl, hC, hf, h1, h2, hb⟩
  cases ok with
  | true => exact absurd (h1 rfl).symm (encCon_pos C)
  | false =>
    have := (h2 rfl).1
    subst this
    exact ⟨cs, rfl, hC, hb⟩
theorem live_uses (w : World) : Calls Tryz.prog 33 #[.int .i64 2] w (fun e w' => ∃ b o c, e = .returned (.slice (some ⟨b, o, none⟩) 3 c) ∧ w'.cell? ⟨b, o, none⟩ = some (.string ⟨#[84, 101, 120, 116]⟩) ∧ w'.cell? ⟨b, o + 1, none⟩ = some (.string ⟨#[78]⟩) ∧ w'.cell? ⟨b, o + 2, none⟩ = some (.string ⟨#[86, 105, 97]⟩) ∧ Below w.heap.size w w') := by
  refine (Uses_any 2 w).mono ?_
  rintro e w' ⟨A, c, rfl, hs, hb⟩
  obtain ⟨A', c', hv, _, _, _, hr, _⟩ := hs.form
  injection hv with e1 e2 e3
  subst e1
  have hl : usesL 2 = [nameB 0, nameB 1, nameB 4] := by decide +kernel
  rw [hl] at hr
  obtain ⟨b, o, rfl, _, hc⟩ := hr.fix (k := 0) rfl
  exact ⟨b, o, c, by rw [hl]; rfl, hc 0 _ rfl, hc 1 _ rfl, hc 2 _ rfl, hb⟩
theorem live_ck1 (w : World) : Calls Tryz.prog 5 #[.int .i64 2, .agg #[.string ⟨#[]⟩, .int .i64 3, .int .i64 0, .bool false, .string ⟨#[]⟩, .slice none 0 0, .slice none 0 0, .slice none 0 0, .slice none 0 0, .int .i64 0, .int .i64 0, .int .i64 0, .int .i64 0, .int .i64 0, .int .i64 0, .int .i64 0]] w (Errs 0 w) := by
  have h := Check_any (k := 2) (lit_R w Any ⟨#[]⟩ 3 0) (lit_mild _ _ _)
  rwa [show ckE 2 (litC ⟨#[]⟩ 3 0) = 0 by decide +kernel] at h
theorem live_ck2 (w : World) : Calls Tryz.prog 5 #[.int .i64 2, .agg #[.string ⟨#[]⟩, .int .i64 5, .int .i64 0, .bool false, .string ⟨#[]⟩, .slice none 0 0, .slice none 0 0, .slice none 0 0, .slice none 0 0, .int .i64 0, .int .i64 0, .int .i64 0, .int .i64 0, .int .i64 0, .int .i64 0, .int .i64 0]] w (Errs 2 w) := by
  have h := Check_any (k := 2) (lit_R w Any ⟨#[]⟩ 5 0) (lit_mild _ _ _)
  rwa [show ckE 2 (litC ⟨#[]⟩ 5 0) = 2 by decide +kernel] at h
theorem live_ck3 (w : World) : Calls Tryz.prog 5 #[.int .i64 12, .agg #[.string ⟨#[]⟩, .int .i64 0, .int .i64 1, .bool false, .string ⟨#[]⟩, .slice none 0 0, .slice none 0 0, .slice none 0 0, .slice none 0 0, .int .i64 0, .int .i64 0, .int .i64 0, .int .i64 0, .int .i64 0, .int .i64 0, .int .i64 0]] w (Errs 9 w) := by
  have h := Check_any (k := 12) (lit_R w Any ⟨#[]⟩ 0 1) (lit_mild _ _ _)
  rwa [show ckE 12 (litC ⟨#[]⟩ 0 1) = 9 by decide +kernel] at h
theorem live_strip (w : World) : Calls Tryz.prog 37 #[.int .i64 2, .agg #[.string ⟨#[115, 112, 97, 109]⟩, .int .i64 4, .int .i64 0, .bool false, .string ⟨#[]⟩, .slice none 0 0, .slice none 0 0, .slice none 0 0, .slice none 0 0, .int .i64 0, .int .i64 0, .int .i64 0, .int .i64 0, .int .i64 0, .int .i64 0, .int .i64 0]] w (fun e w' => ∃ cs, e = .returned (.agg cs.toArray) ∧ ConR w' Any cs (litC ⟨#[]⟩ 4 0) ∧ Below w.heap.size w w') := by
  refine (CStrip_any (k := 2) (lit_R w Any ⟨#[115, 112, 97, 109]⟩ 4 0) (lit_fit _ _ _)).mono ?_
  rintro e w' ⟨cs, rfl, hC, hb⟩
  exact ⟨cs, rfl, hC.any, hb⟩
theorem live_same1 {S : Nat → Prop} {cs : List Value} {w : World} (h : ConR w S cs (litC ⟨#[]⟩ 4 0)) : Calls Tryz.prog 36 #[.agg cs.toArray, .agg #[.string ⟨#[]⟩, .int .i64 4, .int .i64 0, .bool false, .string ⟨#[]⟩, .slice none 0 0, .slice none 0 0, .slice none 0 0, .slice none 0 0, .int .i64 0, .int .i64 0, .int .i64 0, .int .i64 0, .int .i64 0, .int .i64 0, .int .i64 0]] w (Says true w) := by
  have h := CSame_any h (lit_R w Any ⟨#[]⟩ 4 0) (lit_fit _ _ _) (lit_fit _ _ _)
  rwa [decide_eq_true rfl] at h
theorem live_same2 (w : World) : Calls Tryz.prog 36 #[.agg #[.string ⟨#[115, 112, 97, 109]⟩, .int .i64 4, .int .i64 0, .bool false, .string ⟨#[]⟩, .slice none 0 0, .slice none 0 0, .slice none 0 0, .slice none 0 0, .int .i64 0, .int .i64 0, .int .i64 0, .int .i64 0, .int .i64 0, .int .i64 0, .int .i64 0], .agg #[.string ⟨#[]⟩, .int .i64 3, .int .i64 0, .bool false, .string ⟨#[]⟩, .slice none 0 0, .slice none 0 0, .slice none 0 0, .slice none 0 0, .int .i64 0, .int .i64 0, .int .i64 0, .int .i64 0, .int .i64 0, .int .i64 0, .int .i64 0]] w (Says false w) := by
  have h := CSame_any (lit_R w Any ⟨#[115, 112, 97, 109]⟩ 4 0) (lit_R w Any ⟨#[]⟩ 3 0) (lit_fit _ _ _) (lit_fit _ _ _)
  rwa [decide_eq_false (by intro e; injection e with e1 e2; revert e2; decide)] at h
theorem live_same3 {S : Nat → Prop} {cs : List Value} {w : World} (h : ConR w S cs Con.zero) : Calls Tryz.prog 36 #[.agg cs.toArray, .agg #[.string ⟨#[]⟩, .int .i64 0, .int .i64 0, .bool false, .string ⟨#[]⟩, .slice none 0 0, .slice none 0 0, .slice none 0 0, .slice none 0 0, .int .i64 0, .int .i64 0, .int .i64 0, .int .i64 0, .int .i64 0, .int .i64 0, .int .i64 0]] w (Says true w) := by
  have h := CSame_any h (lit_R w Any ⟨#[]⟩ 0 0) (lit_fit ⟨#[]⟩ 0 0) (lit_fit _ _ _)
  rwa [decide_eq_true (show Con.zero = litC ⟨#[]⟩ 0 0 from rfl)] at h
theorem live_levels (w : World) : Calls Tryz.prog 21 #[.agg #[.slice none 0 0, .slice none 0 0, .int .i64 0, .int .i64 0, .int .i64 0, .int .i64 0, .int .i64 1001, .int .i64 0, .int .i64 0]] w (Errs 2 w) := by
  have h := Levels_any (S := Any) (v := ⟨[], [], 0, 0, 0, 0, 1001, 0, 0⟩) (w := w) (cs := [.slice none 0 0, .slice none 0 0, .int .i64 0, .int .i64 0, .int .i64 0, .int .i64 0, .int .i64 1001, .int .i64 0, .int .i64 0]) ⟨_, _, rfl, Slc.nil _ _ _, Slc.nil _ _ _⟩ ⟨Nat.zero_le _, Nat.zero_le _⟩ (fun x h => by simp at h)
  rwa [show levelsE ⟨[], [], 0, 0, 0, 0, 1001, 0, 0⟩ = 2 by decide +kernel] at h
/-- what stands while live is walked -/
structure LB (g1 g2 g5 bu ou : Nat) (cs5 : List Value) (W : World) : Prop where
  j : W.heap[g1]? = some (.cells #[.string ⟨#[]⟩, .int .i64 3, .int .i64 0, .bool false, .string ⟨#[]⟩, .slice none 0 0, .slice none 0 0, .slice none 0 0, .slice none 0 0, .int .i64 0, .int .i64 0, .int .i64 0, .int .i64 0, .int .i64 0, .int .i64 0, .int .i64 0] 29 (0, 0))
  s : W.heap[g2]? = some (.cells #[.string ⟨#[115, 112, 97, 109]⟩, .int .i64 4, .int .i64 0, .bool false, .string ⟨#[]⟩, .slice none 0 0, .slice none 0 0, .slice none 0 0, .slice none 0 0, .int .i64 0, .int .i64 0, .int .i64 0, .int .i64 0, .int .i64 0, .int .i64 0, .int .i64 0] 29 (0, 0))
  d : W.heap[g5]? = some (.cells cs5.toArray 29 (0, 0))
  u0 : W.cell? ⟨bu, ou, none⟩ = some (.string ⟨#[84, 101, 120, 116]⟩)
  u1 : W.cell? ⟨bu, ou + 1, none⟩ = some (.string ⟨#[78]⟩)
  u2 : W.cell? ⟨bu, ou + 2, none⟩ = some (.string ⟨#[86, 105, 97]⟩)
  ub : bu < W.heap.size
  c : ConR W Any cs5 Con.zero
theorem LB.ext {g1 g2 g5 bu ou : Nat} {cs5 : List Value} {W W' : World} (h : LB g1 g2 g5 bu ou cs5 W) (k : Below W.heap.size W W') : LB g1 g2 g5 bu ou cs5 W' :=
  ⟨box_below h.j k, box_below h.s k, box_below h.d k, (k.cell h.ub).trans h.u0, (k.cell h.ub).trans h.u1, (k.cell h.ub).trans h.u2, Nat.lt_of_lt_of_le h.ub k.size, h.c.ext k⟩

set_option maxRecDepth 100000 in
set_option maxHeartbeats 8000000 in
theorem live_any (w : World) : Calls Tryz.prog 7 #[] w (Says true w) := by
  have B1 := heap_alloc2_old w (.cells #[.string ⟨#[]⟩, .int .i64 3, .int .i64 0, .bool false, .string ⟨#[]⟩, .slice none 0 0, .slice none 0 0, .slice none 0 0, .slice none 0 0, .int .i64 0, .int .i64 0, .int .i64 0, .int .i64 0, .int .i64 0, .int .i64 0, .int .i64 0] 29) (.cells #[.string ⟨#[115, 112, 97, 109]⟩, .int .i64 4, .int .i64 0, .bool false, .string ⟨#[]⟩, .slice none 0 0, .slice none 0 0, .slice none 0 0, .slice none 0 0, .int .i64 0, .int .i64 0, .int .i64 0, .int .i64 0, .int .i64 0, .int .i64 0, .int .i64 0] 29)
  have B2 := heap_alloc2_new w (.cells #[.string ⟨#[]⟩, .int .i64 3, .int .i64 0, .bool false, .string ⟨#[]⟩, .slice none 0 0, .slice none 0 0, .slice none 0 0, .slice none 0 0, .int .i64 0, .int .i64 0, .int .i64 0, .int .i64 0, .int .i64 0, .int .i64 0, .int .i64 0] 29) (.cells #[.string ⟨#[115, 112, 97, 109]⟩, .int .i64 4, .int .i64 0, .bool false, .string ⟨#[]⟩, .slice none 0 0, .slice none 0 0, .slice none 0 0, .slice none 0 0, .int .i64 0, .int .i64 0, .int .i64 0, .int .i64 0, .int .i64 0, .int .i64 0, .int .i64 0] 29)
  have hb0 := below_two w (.cells #[.string ⟨#[]⟩, .int .i64 3, .int .i64 0, .bool false, .string ⟨#[]⟩, .slice none 0 0, .slice none 0 0, .slice none 0 0, .slice none 0 0, .int .i64 0, .int .i64 0, .int .i64 0, .int .i64 0, .int .i64 0, .int .i64 0, .int .i64 0] 29) (.cells #[.string ⟨#[115, 112, 97, 109]⟩, .int .i64 4, .int .i64 0, .bool false, .string ⟨#[]⟩, .slice none 0 0, .slice none 0 0, .slice none 0 0, .slice none 0 0, .int .i64 0, .int .i64 0, .int .i64 0, .int .i64 0, .int .i64 0, .int .i64 0, .int .i64 0] 29)
  go_enter Tryz.func7, Tryz.ntmps7
  go_upto_region 3 with fail
  generalize (w.alloc (.cells #[.string ⟨#[]⟩, .int .i64 3, .int .i64 0, .bool false, .string ⟨#[]⟩, .slice none 0 0, .slice none 0 0, .slice none 0 0, .slice none 0 0, .int .i64 0, .int .i64 0, .int .i64 0, .int .i64 0, .int .i64 0, .int .i64 0, .int .i64 0] 29)).alloc (.cells #[.string ⟨#[115, 112, 97, 109]⟩, .int .i64 4, .int .i64 0, .bool false, .string ⟨#[]⟩, .slice none 0 0, .slice none 0 0, .slice none 0 0, .slice none 0 0, .int .i64 0, .int .i64 0, .int .i64 0, .int .i64 0, .int .i64 0, .int .i64 0, .int .i64 0] 29) = W0 at B1 B2 hb0 ⊢
  have HB1 := hide B1; have HB2 := hide B2
  clear B1 B2
  go_upto_region 4 with (go_at_call 33; refine (live_uses _).mono ?_; rintro e w1 ⟨bu, ou, cu, rfl, t0, t1, t2, k1⟩)
  have HT0 := hide t0; have HT1 := hide t1; have HT2 := hide t2
  have hub : bu < w1.heap.size := World.block_lt_of_cell? w1 ⟨bu, ou, none⟩ t0
  have HB1 := hide (box_below HB1.out k1); have HB2 := hide (box_below HB2.out k1)
  have hb1 := ext_trans hb0 k1
  clear t0 t1 t2 k1 hb0
  go_upto_region 5 with (go_at_call 34; refine (live_enc _).mono ?_; rintro e w2 ⟨A, c, rfl, hc, hr, k2⟩)
  have HR := hide hr
  have HC := hide hc
  have hb2 := ext_trans hb1 k2
  have CD := live_dec hr hc
  clear hr hc hb1
  go_upto_region 6 with (first
    | (go_at_call 35; refine CD.mono ?_; rintro e w3 ⟨cs5, rfl, R5, k3⟩)
    | refine wpList_newS rfl rfl strcC rfl (.tmp 5) (.tmp 17) rfl rfl rfl cs5.toArray rfl (by simpa using R5.length) (by simpa using R5.one) ?_)
  have k23 := ext_trans k2 k3
  have B5 := heap_alloc_new w3 (.cells cs5.toArray 29)
  have k4 := ext_alloc (ext_refl w3) (.cells cs5.toArray 29)
  have k24 := ext_trans k23 k4
  have hb4 := ext_trans hb2 (ext_trans k3 k4)
  have Z4 : LB w.heap.size (w.heap.size + 1) w3.heap.size bu ou cs5 (w3.alloc (.cells cs5.toArray 29)) := ⟨box_below HB1.out k24, box_below HB2.out k24, B5, (k24.cell hub).trans HT0.out, (k24.cell hub).trans HT1.out, (k24.cell hub).trans HT2.out, Nat.lt_of_lt_of_le hub k24.size, R5.any.ext k4⟩
  generalize w3.alloc (.cells cs5.toArray 29) = w4 at Z4 hb4 ⊢
  generalize w3.heap.size = g5 at Z4 ⊢
  have HL5 := hide R5.length
  clear B5 k4 k24 k23 k2 k3 hb2 hub R5 CD HB1 HB2 HT0 HT1 HT2
  go_upto_region 7 with (first
    | (go_at_call 35; (with_reducible refine (live_decN _).mono ?_); rintro e y0 ⟨cs7, rfl, R7, m0⟩; have L7 := R7.length; have O7 := R7.one; have HL7 := hide L7; have HO7 := hide O7; clear L7 O7; have Z5 := Z4.ext m0; have hb5 := ext_trans hb4 m0)
    | refine wpList_newS rfl rfl strcC rfl (.tmp 7) (.tmp 21) rfl rfl rfl cs7.toArray rfl (by simpa using HL7.out) (by simpa using HO7.out) ?_)
  have hxx := ext_alloc (ext_refl y0) (.cells cs7.toArray 29)
  have Z5b := Z5.ext hxx
  have hb5b := ext_trans hb5 hxx
  generalize y0.alloc (.cells cs7.toArray 29) = y00 at Z5b hb5b ⊢
  clear hxx Z5 hb5 R7 m0 Z4 hb4 HL7 HO7
  have h16 : ((16 : Nat) : Int) = 16 := rfl
  try simp only [List.append]
  go_wp2_with (first
    | refine wpList_loadS rfl (.tmp 1) rfl strcC ⟨w.heap.size, 0, none⟩ rfl [.string ⟨#[]⟩, .int .i64 3, .int .i64 0, .bool false, .string ⟨#[]⟩, .slice none 0 0, .slice none 0 0, .slice none 0 0, .slice none 0 0, .int .i64 0, .int .i64 0, .int .i64 0, .int .i64 0, .int .i64 0, .int .i64 0, .int .i64 0] rfl (box_all Z5b.j) ?_
    | (go_at_call 5; first
        | ((with_reducible refine (live_ck1 _).mono ?_); rintro e y1 ⟨rfl, m1⟩; have Z6 := Z5b.ext m1; have hb6 := ext_trans hb5b m1)
        | ((with_reducible refine (live_ck2 _).mono ?_); rintro e y2 ⟨rfl, m2⟩; have Z7 := Z6.ext m2; have hb7 := ext_trans hb6 m2)
        | ((with_reducible refine (live_ck3 _).mono ?_); rintro e y3 ⟨rfl, m3⟩; have Z8 := Z7.ext m3; have hb8 := ext_trans hb7 m3; have q0 := Z8.u0; have q1 := Z8.u1; have q2 := Z8.u2))
    | refine wpList_loadS rfl (.tmp 2) rfl strcC ⟨w.heap.size + 1, 0, none⟩ rfl [.string ⟨#[115, 112, 97, 109]⟩, .int .i64 4, .int .i64 0, .bool false, .string ⟨#[]⟩, .slice none 0 0, .slice none 0 0, .slice none 0 0, .slice none 0 0, .int .i64 0, .int .i64 0, .int .i64 0, .int .i64 0, .int .i64 0, .int .i64 0, .int .i64 0] rfl (box_all Z8.s) ?_
    | (go_at_call 37; (with_reducible refine (live_strip _).mono ?_); rintro e y4 ⟨cs61, rfl, R61, m4⟩; have Z9 := Z8.ext m4; have hb9 := ext_trans hb8 m4)
    | (go_at_call 36; first
        | ((with_reducible refine (live_same1 R61).mono ?_); rintro e y5 ⟨rfl, m5⟩; have Z10 := Z9.ext m5; have hb10 := ext_trans hb9 m5)
        | ((with_reducible refine (live_same2 _).mono ?_); rintro e y6 ⟨rfl, m6⟩; have Z11 := Z10.ext m6; have hb11 := ext_trans hb10 m6)
        | ((with_reducible refine (live_same3 Z11.c).mono ?_); rintro e y7 ⟨rfl, m7⟩; have hb12 := ext_trans hb11 m7))
    | refine wpList_loadS rfl (.tmp 2) rfl strcC ⟨w.heap.size + 1, 0, none⟩ rfl [.string ⟨#[115, 112, 97, 109]⟩, .int .i64 4, .int .i64 0, .bool false, .string ⟨#[]⟩, .slice none 0 0, .slice none 0 0, .slice none 0 0, .slice none 0 0, .int .i64 0, .int .i64 0, .int .i64 0, .int .i64 0, .int .i64 0, .int .i64 0, .int .i64 0] rfl (box_all Z10.s) ?_
    | refine wpList_loadS rfl (.tmp 1) rfl strcC ⟨w.heap.size, 0, none⟩ rfl [.string ⟨#[]⟩, .int .i64 3, .int .i64 0, .bool false, .string ⟨#[]⟩, .slice none 0 0, .slice none 0 0, .slice none 0 0, .slice none 0 0, .int .i64 0, .int .i64 0, .int .i64 0, .int .i64 0, .int .i64 0, .int .i64 0, .int .i64 0] rfl (box_all Z10.j) ?_
    | refine wpList_loadS rfl (.tmp 5) rfl strcC ⟨g5, 0, none⟩ rfl cs5 HL5.out (box_all Z11.d) ?_
    | (go_at_call 38; refine (state_any _ _).mono ?_; rintro e y8 ⟨rfl, hy⟩; rw [hy]; clear hy y8)
    | (go_at_call 21; (with_reducible refine (live_levels _).mono ?_); rintro e y9 ⟨rfl, m9⟩))
  go_ret
  exact ⟨by rfl, ext_trans hb12 m9⟩
end Go.Proofs.YtehenalnkkkajaaGreat

/-
  content.Check.
-/
import Derived.Test.YtmlnmcoophnlaaaGreatCkD
import Derived.Laws.EntriesVeiled
set_option linter.unusedVariables false
set_option linter.unusedSimpArgs false
namespace Go.Proofs.YtmlnmcoophnlaaaGreat
open Go.RowKit
attribute [local go_sem] Addr.add_mid

def FRel (k : Int) (c : Con) (j : Nat) : Prop := fieldsE k c [0, 1, 2, 3, 4, 5] = fieldsE k c ([0, 1, 2, 3, 4, 5].drop j)
theorem FRel.skip {k : Int} {c : Con} {j : Nat} (h : FRel k c j) (hj : j < 6) (hb : hasB (usesN k) j = false) : FRel k c (j + 1) := by
  unfold FRel at *
  rw [h]
  match j, hj with
  | 0, _ => exact if_pos hb
  | 1, _ => exact if_pos hb
  | 2, _ => exact if_pos hb
  | 3, _ => exact if_pos hb
  | 4, _ => exact if_pos hb
  | 5, _ => exact if_pos hb
theorem fields_step {k : Int} {c : Con} {i : Nat} {r : List Nat} (hb : hasB (usesN k) i = true) : fieldsE k c (i :: r) = if errOf k c i ≠ 0 then errOf k c i else fieldsE k c r := if_neg (by rw [hb]; simp)
theorem FRel.ok {k : Int} {c : Con} {j : Nat} (h : FRel k c j) (hj : j < 6) (hb : hasB (usesN k) j = true) (he : errOf k c j = 0) : FRel k c (j + 1) := by
  unfold FRel at *
  rw [h]
  match j, hj with
  | 0, _ => exact (fields_step hb).trans (if_neg (by simpa using he))
  | 1, _ => exact (fields_step hb).trans (if_neg (by simpa using he))
  | 2, _ => exact (fields_step hb).trans (if_neg (by simpa using he))
  | 3, _ => exact (fields_step hb).trans (if_neg (by simpa using he))
  | 4, _ => exact (fields_step hb).trans (if_neg (by simpa using he))
  | 5, _ => exact (fields_step hb).trans (if_neg (by simpa using he))
theorem FRel.bad {k : Int} {c : Con} {j : Nat} (h : FRel k c j) (hj : j < 6) (hb : hasB (usesN k) j = true) (he : errOf k c j ≠ 0) : fieldsE k c [0, 1, 2, 3, 4, 5] = errOf k c j := by
  unfold FRel at h
  rw [h]
  match j, hj with
  | 0, _ => exact (fields_step hb).trans (if_pos he)
  | 1, _ => exact (fields_step hb).trans (if_pos he)
  | 2, _ => exact (fields_step hb).trans (if_pos he)
  | 3, _ => exact (fields_step hb).trans (if_pos he)
  | 4, _ => exact (fields_step hb).trans (if_pos he)
  | 5, _ => exact (fields_step hb).trans (if_pos he)
theorem FRel.fin {k : Int} {c : Con} (h : FRel k c 6) : fieldsE k c [0, 1, 2, 3, 4, 5] = 0 := h
def maskL : List Int := [0, 19, 128, 34, 2, 96, 1, 3, 13, 5]
theorem mask_mem (k : Int) : usesN k ∈ maskL := by
  rcases uses_cases k with rfl | rfl | rfl | rfl | rfl | rfl | rfl | rfl | rfl | rfl | rfl | rfl | rfl | hk
  case inr.inr.inr.inr.inr.inr.inr.inr.inr.inr.inr.inr.inr =>
    have hs : usesN k = 0 := by simp [usesN, hk]
    rw [hs]; decide
  all_goals decide
theorem and_bit_dec : ∀ m ∈ maskL, ∀ i < 8, (bits BinOp.and IntKind.i64 m ((2 ^ i : Nat) : Int) == 0) = !hasB m i := by decide +kernel
theorem and_bit (k : Int) (i : Nat) (h : i < 8) : (bits BinOp.and IntKind.i64 (usesN k) ((2 ^ i : Nat) : Int) == 0) = !hasB (usesN k) i := and_bit_dec _ (mask_mem k) i h
theorem and_bit' (k : Int) (i : Nat) (h : i < 8) : (bits BinOp.and IntKind.i64 (usesN k) ((2 ^ i : Nat) : Int) != 0) = hasB (usesN k) i := by
  unfold bne; rw [and_bit k i h, Bool.not_not]
theorem only_dec : ∀ m ∈ maskL, ∀ b0 b1 b2 b3 b4 b5 b6 b7 : Bool, (bits BinOp.andNot IntKind.i64 (bitI (!b0) 1 + bitI (!b1) 2 + bitI (!b2) 4 + bitI b3 8 + bitI (!b4) 16 + bitI (!b5) 32 + bitI (!b6) 64 + bitI (!b7) 128) m != 0) =
    !((b0 || hasB m 0) && (b1 || hasB m 1) && (b2 || hasB m 2) && (!b3 || hasB m 3) && (b4 || hasB m 4) && (b5 || hasB m 5) && (b6 || hasB m 6) && (b7 || hasB m 7)) := by decide +kernel
theorem only_bits (k : Int) (c : Con) : (bits BinOp.andNot IntKind.i64 (setN c) (usesN k) != 0) = !onlyB k c := by
  have h := only_dec _ (mask_mem k) (decide (c.text.size = 0)) (decide (c.n = 0)) (decide (c.target = 0)) c.thread (decide (c.via.size = 0)) (decide (c.allow.length = 0)) (decide (c.deny.length = 0)) (bareB c.lv)
  unfold setN onlyB
  simp only [ne_eq, decide_not] at h ⊢
  exact h

theorem two_at0 {w : World} {g o : Nat} {u v : Value} (h0 : w.cell? ⟨g, o, none⟩ = some u) (h1 : w.cell? ⟨g, o + 1, none⟩ = some v) : CellsAt w ⟨g, o, none⟩ [u, v] := fun j x hx => by
  rw [Addr.add_mid]
  match j, hx with
  | 0, hx => simp at hx; subst hx; exact h0
  | 1, hx => simp at hx; subst hx; exact h1
  | j + 2, hx => simp at hx
theorem strcF : Strc Tryz.prog 109 #[.int .i64 0, .nilFunc] 2 := ⟨⟨_, Tryz.underlying109, rfl⟩, by kernel_rfl, rfl⟩

/-- what a content may be for its check to be walked -/
structure Con.mild (c : Con) : Prop where
  via : c.via.size ≤ 1073741824
  allowL : c.allow.length ≤ 1073741824
  denyL : c.deny.length ≤ 1073741824
  usersL : c.lv.users.length ≤ 1073741824
  kindsL : c.lv.kinds.length ≤ 1073741824
  allow : ∀ x ∈ c.allow, x.size ≤ 1073741824
  users : ∀ x ∈ c.lv.users, x.1.size ≤ 1073741824

set_option maxRecDepth 100000 in
set_option maxHeartbeats 1600000 in
theorem Check_any {S : Nat → Prop} {cs : List Value} {c : Con} {k : Int} {w : World} (hr : ConR w S cs c) (hm : c.mild) :
    Calls Tryz.prog 76 #[.int .i64 k, .agg cs.toArray] w (Errs (ckE k c) w) := by
  obtain ⟨A1, c1, A2, c2, s5, s6, h5, h6⟩ := hr.lists
  have HR := hide hr
  have hlen := hide hr.length
  have HM := hide hm
  have B := heap_alloc_new w (.cells cs.toArray 31)
  have hb := ext_alloc (ext_refl w) (.cells cs.toArray 31)
  clear hr hm h5 h6 s5
  obtain ⟨kn, hkn⟩ : ∃ b, knownB k = b := ⟨_, rfl⟩
  have CK := fun W => known_any k W
  simp only [hkn] at CK
  cases kn
  · have HE := hide (show ckE k c = 1 from if_pos (.inl hkn))
    clear hkn B s6
    go_enter Tryz.func76, Tryz.ntmps76
    go_wp2_with (first
      | (go_at_call 103; refine (uses_any _ _).mono ?_; rintro e w' ⟨rfl, rfl⟩)
      | (go_at_call 104; refine (CK _).mono ?_; rintro e w2 ⟨rfl, hw2⟩; rw [hw2]; clear hw2 w2))
    go_ret
    exact ⟨by rw [HE.out]; rfl, hb⟩
  have CS := fun W (hb : Below w.heap.size w W) => set_any (HR.out.ext hb)
  obtain ⟨sn, hsn⟩ : ∃ n, setN c = n := ⟨_, rfl⟩
  obtain ⟨un, hun⟩ : ∃ n, usesN k = n := ⟨_, rfl⟩
  have CU := fun W => uses_any k W
  have ho := only_bits k c
  simp only [hsn] at CS
  simp only [hun] at CU
  rw [hsn, hun] at ho
  obtain ⟨ob, hob⟩ : ∃ b, onlyB k c = b := ⟨_, rfl⟩
  rw [hob] at ho
  have HSN := hide hsn; have HUN := hide hun
  clear hsn hun
  cases ob
  · have HE := hide (show ckE k c = 1 from if_pos (.inr hob))
    have ho' : (bits BinOp.andNot IntKind.i64 sn un != 0) = true := ho
    have HB := hide B
    clear hob ho hkn B s6
    go_enter Tryz.func76, Tryz.ntmps76
    go_wp2_with (first
      | (go_at_call 103; refine (CU _).mono ?_; rintro e w' ⟨rfl, rfl⟩)
      | (go_at_call 104; refine (CK _).mono ?_; rintro e w2 ⟨rfl, hw2⟩; rw [hw2]; clear hw2 w2)
      | refine wpList_loadS rfl (.tmp 3) rfl strcC ⟨w.heap.size, 0, none⟩ rfl cs hlen.out (box_all HB.out) ?_
      | (go_at_call 105; refine (CS _ hb).mono ?_; rintro e w2 ⟨rfl, hb2⟩))
    go_ret
    exact ⟨by rw [HE.out]; rfl, ext_trans hb hb2⟩
  -- GEN
  have ho' : (bits BinOp.andNot IntKind.i64 sn un != 0) = false := ho
  have HNO := hide (show ¬ (knownB k = false ∨ onlyB k c = false) by rw [hkn, hob]; simp)
  have HB := hide B
  clear hob ho hkn B
  have CP := fun W => keeps_any k W
  obtain ⟨kp, hkp⟩ : ∃ n, keepsN k = n := ⟨_, rfl⟩
  simp only [hkp] at CP
  have HKP := hide hkp; clear hkp
  by_cases hz : sn = 0 ∧ kp = 0
  · have HE := hide (show ckE k c = 0 by unfold ckE; rw [if_neg HNO.out, if_pos ⟨by rw [HSN.out]; exact hz.1, by rw [HKP.out]; exact hz.2⟩])
    obtain ⟨h1, h2⟩ := hz
    have t1 : (sn == 0) = true := by simpa using h1
    have t2 : (kp == 0) = true := by simpa using h2
    clear h1 h2 s6
    go_enter Tryz.func76, Tryz.ntmps76
    go_wp2_with (first
      | (go_at_call 103; refine (CU _).mono ?_; rintro e w' ⟨rfl, rfl⟩)
      | (go_at_call 104; refine (CK _).mono ?_; rintro e w2 ⟨rfl, hw2⟩; rw [hw2]; clear hw2 w2)
      | refine wpList_loadS rfl (.tmp 3) rfl strcC ⟨w.heap.size, 0, none⟩ rfl cs hlen.out (box_all HB.out) ?_
      | (go_at_call 105; first
          | ((with_reducible refine (CS _ hb).mono ?_); rintro e w3 ⟨rfl, hb3⟩; have HB3 := hide (box_below HB.out hb3); have hb4 := ext_trans hb hb3)
          | ((with_reducible refine (CS _ hb4).mono ?_); rintro e w4 ⟨rfl, hb5⟩))
      | refine wpList_loadS rfl (.tmp 3) rfl strcC ⟨w.heap.size, 0, none⟩ rfl cs hlen.out (box_all HB3.out) ?_
      | (go_at_call 79; refine (CP _).mono ?_; rintro e w5 ⟨rfl, rfl⟩))
    go_ret
    exact ⟨by rw [HE.out]; rfl, ext_trans hb4 hb5⟩
  have HE := hide (show ckE k c = if fieldsE k c [0, 1, 2, 3, 4, 5] ≠ 0 then fieldsE k c [0, 1, 2, 3, 4, 5] else lastE k c by
    unfold ckE; rw [if_neg HNO.out, if_neg (by rw [HSN.out, HKP.out]; exact hz)])
  have hx : (sn == 0) = false ∨ (sn == 0) = true ∧ (kp == 0) = false := by
    by_cases e : sn = 0
    · exact .inr ⟨by simpa using e, by simpa using fun e' => hz ⟨e, e'⟩⟩
    · exact .inl (by simpa using e)
  clear hz
  go_enter Tryz.func76, Tryz.ntmps76
  go_upto_region 4 with (first
      | (go_at_call 103; refine (CU _).mono ?_; rintro e w' ⟨rfl, rfl⟩)
      | (go_at_call 104; refine (CK _).mono ?_; rintro e w2 ⟨rfl, hw2⟩; rw [hw2]; clear hw2 w2)
      | refine wpList_loadS rfl (.tmp 3) rfl strcC ⟨w.heap.size, 0, none⟩ rfl cs hlen.out (box_all HB.out) ?_
      | (go_at_call 105; first
          | ((with_reducible refine (CS _ hb).mono ?_); rintro e w3 ⟨rfl, hb3⟩; have HB3 := hide (box_below HB.out hb3); have hb4 := ext_trans hb hb3)
          | ((with_reducible refine (CS _ hb4).mono ?_); rintro e w4 ⟨rfl, hb5⟩))
      | refine wpList_loadS rfl (.tmp 3) rfl strcC ⟨w.heap.size, 0, none⟩ rfl cs hlen.out (box_all HB3.out) ?_
      | (go_at_call 79; refine (CP _).mono ?_; rintro e w5 ⟨rfl, rfl⟩))
  go_cut [29] (fun t wx => t = .bool false ∧ Below w.heap.size w wx ∧ wx.heap[w.heap.size]? = some (.cells cs.toArray 31 (0, 0)))
  case first =>
    rcases hx with t1 | ⟨t1, t2⟩
    all_goals
      go_wp2_with (first
      | (go_at_call 103; refine (CU _).mono ?_; rintro e w' ⟨rfl, rfl⟩)
      | (go_at_call 104; refine (CK _).mono ?_; rintro e w2 ⟨rfl, hw2⟩; rw [hw2]; clear hw2 w2)
      | refine wpList_loadS rfl (.tmp 3) rfl strcC ⟨w.heap.size, 0, none⟩ rfl cs hlen.out (box_all HB.out) ?_
      | (go_at_call 105; first
          | ((with_reducible refine (CS _ hb).mono ?_); rintro e w3 ⟨rfl, hb3⟩; have HB3 := hide (box_below HB.out hb3); have hb4 := ext_trans hb hb3)
          | ((with_reducible refine (CS _ hb4).mono ?_); rintro e w4 ⟨rfl, hb5⟩))
      | refine wpList_loadS rfl (.tmp 3) rfl strcC ⟨w.heap.size, 0, none⟩ rfl cs hlen.out (box_all HB3.out) ?_
      | (go_at_call 79; refine (CP _).mono ?_; rintro e w5 ⟨rfl, rfl⟩))
      go_meet
      exact ⟨rfl, ext_trans hb4 hb5, box_below HB3.out hb5⟩
  case rest =>
  obtain ⟨rfl, hb6, B6⟩ := hcut
  clear hx HB3
  go_upto_region 8 with fail
  have BF := heap_alloc_new wc (.cells #[.int .i64 1, .func (Fn.func 106) #[] #[], .int .i64 2, .func (Fn.func 107) #[] #[], .int .i64 4, .func (Fn.func 108) #[] #[], .int .i64 8, .func (Fn.func 109) #[] #[], .int .i64 16, .func (Fn.func 110) #[] #[], .int .i64 32, .func (Fn.func 111) #[] #[]] 109)
  have B7 := box_below B6 (ext_alloc (ext_refl wc) (.cells #[.int .i64 1, .func (Fn.func 106) #[] #[], .int .i64 2, .func (Fn.func 107) #[] #[], .int .i64 4, .func (Fn.func 108) #[] #[], .int .i64 8, .func (Fn.func 109) #[] #[], .int .i64 16, .func (Fn.func 110) #[] #[], .int .i64 32, .func (Fn.func 111) #[] #[]] 109))
  have hb7 := ext_alloc hb6 (.cells #[.int .i64 1, .func (Fn.func 106) #[] #[], .int .i64 2, .func (Fn.func 107) #[] #[], .int .i64 4, .func (Fn.func 108) #[] #[], .int .i64 8, .func (Fn.func 109) #[] #[], .int .i64 16, .func (Fn.func 110) #[] #[], .int .i64 32, .func (Fn.func 111) #[] #[]] 109)
  generalize wc.alloc (.cells #[.int .i64 1, .func (Fn.func 106) #[] #[], .int .i64 2, .func (Fn.func 107) #[] #[], .int .i64 4, .func (Fn.func 108) #[] #[], .int .i64 8, .func (Fn.func 109) #[] #[], .int .i64 16, .func (Fn.func 110) #[] #[], .int .i64 32, .func (Fn.func 111) #[] #[]] 109) = W at BF B7 hb7 ⊢
  generalize wc.heap.size = g at BF ⊢
  have HBF := hide BF; have HB7 := hide B7
  clear B6 hb6 BF B7
  go_loopw [39] (fun i wr => ∃ j : Nat, j ≤ 6 ∧ i = .int .i64 (j : Int) ∧ Hid (FRel k c j) ∧ Below W.heap.size W wr) (fun i _ => 6 - (intOf i).toNat)
  case atStart => exact ⟨0, by omega, rfl, rfl, ext_refl W⟩
  case round =>
  obtain ⟨j, hj, rfl, HK, hbr⟩ := hrel
  have hj : j = 0 ∨ j = 1 ∨ j = 2 ∨ j = 3 ∨ j = 4 ∨ j = 5 ∨ j = 6 := by omega
  rcases hj with rfl | rfl | rfl | rfl | rfl | rfl | rfl
  · have hc : ((0 : Nat) : Int) = 0 := rfl
    have CT := fun W (hb : Below w.heap.size w W) => checkText_any (k := k) (HR.out.ext hb)
    have hab := and_bit k 0 (by decide)
    rw [HUN.out] at hab
    have hab' : (bits BinOp.and IntKind.i64 un 1 == 0) = !hasB un 0 := hab
    clear hab
    have r0 : wr.cell? ⟨g, 0, none⟩ = some (.int .i64 1) := box_at (box_below HBF.out hbr) rfl
    have r1 : wr.cell? ⟨g, 1, none⟩ = some (.func (Fn.func 106) #[] #[]) := box_at (box_below HBF.out hbr) rfl
    have HB8 := hide (box_below HB7.out hbr)
    have hb8 := ext_trans hb7 hbr
    obtain ⟨ub, hub⟩ : ∃ b, hasB un 0 = b := ⟨_, rfl⟩
    rw [hub] at hab'
    rw [← HUN.out] at hub
    have HUB := hide hub; clear hub
    cases ub
    · have HN := hide (HK.out.skip (by omega) HUB.out)
      have t1 : (bits BinOp.and IntKind.i64 un 1 == 0) = true := hab'
      clear hab'
      go_wp2_with (refine wpList_loadS rfl (.tmp 41) rfl strcF ⟨g, 0, none⟩ rfl [.int .i64 1, .func (Fn.func 106) #[] #[]] rfl (two_at0 r0 r1) ?_)
      go_roundw
      case rel => exact ⟨1, by omega, rfl, HN.out, ext_alloc hbr _⟩
      case measure => (simp [intOf]; try omega)
    · have t1 : (bits BinOp.and IntKind.i64 un 1 == 0) = false := hab'
      clear hab'
      obtain ⟨ev, hev⟩ : ∃ n, errOf k c 0 = n := ⟨_, rfl⟩
      have hev' : textE k c = ev := hev
      simp only [hev'] at CT
      clear hev'
      by_cases h0 : ev = 0
      · have HN := hide (HK.out.ok (by omega) HUB.out (hev.trans h0))
        have t2 : (ev != 0) = false := by simpa using h0
        subst h0
        clear hev t2
        go_wp2_with (first
          | refine wpList_loadS rfl (.tmp 41) rfl strcF ⟨g, 0, none⟩ rfl [.int .i64 1, .func (Fn.func 106) #[] #[]] rfl (two_at0 r0 r1) ?_
          | refine wpList_loadS rfl (.tmp 3) rfl strcC ⟨w.heap.size, 0, none⟩ rfl cs hlen.out (box_all (box_below HB8.out (ext_alloc (ext_refl wr) _))) ?_
          | (go_at_call 106; refine (CT _ (ext_alloc hb8 _)).mono ?_; rintro e w9 ⟨rfl, hb9⟩))
        go_roundw
        case rel => exact ⟨1, by omega, rfl, HN.out, ext_trans (ext_alloc hbr _) hb9⟩
        case measure => (simp [intOf]; try omega)
      · have HF := hide (HK.out.bad (by omega) HUB.out (by rw [hev]; exact h0))
        have HV := hide hev
        have t2 : (ev != 0) = true := by simpa using h0
        have H0 := hide h0
        clear hev h0
        go_wp2_with (first
          | refine wpList_loadS rfl (.tmp 41) rfl strcF ⟨g, 0, none⟩ rfl [.int .i64 1, .func (Fn.func 106) #[] #[]] rfl (two_at0 r0 r1) ?_
          | refine wpList_loadS rfl (.tmp 3) rfl strcC ⟨w.heap.size, 0, none⟩ rfl cs hlen.out (box_all (box_below HB8.out (ext_alloc (ext_refl wr) _))) ?_
          | (go_at_call 106; refine (CT _ (ext_alloc hb8 _)).mono ?_; rintro e w9 ⟨rfl, hb9⟩))
        go_ret
        exact ⟨by rw [HE.out, HF.out, HV.out, if_pos H0.out]; rfl, ext_trans (ext_alloc hb8 _) hb9⟩
  · have hc : ((1 : Nat) : Int) = 1 := rfl
    have CT := fun W (hb : Below w.heap.size w W) => checkN_any (k := k) (HR.out.ext hb)
    have hab := and_bit k 1 (by decide)
    rw [HUN.out] at hab
    have hab' : (bits BinOp.and IntKind.i64 un 2 == 0) = !hasB un 1 := hab
    clear hab
    have r0 : wr.cell? ⟨g, 2, none⟩ = some (.int .i64 2) := box_at (box_below HBF.out hbr) rfl
    have r1 : wr.cell? ⟨g, 3, none⟩ = some (.func (Fn.func 107) #[] #[]) := box_at (box_below HBF.out hbr) rfl
    have HB8 := hide (box_below HB7.out hbr)
    have hb8 := ext_trans hb7 hbr
    obtain ⟨ub, hub⟩ : ∃ b, hasB un 1 = b := ⟨_, rfl⟩
    rw [hub] at hab'
    rw [← HUN.out] at hub
    have HUB := hide hub; clear hub
    cases ub
    · have HN := hide (HK.out.skip (by omega) HUB.out)
      have t1 : (bits BinOp.and IntKind.i64 un 2 == 0) = true := hab'
      clear hab'
      go_wp2_with (refine wpList_loadS rfl (.tmp 41) rfl strcF ⟨g, 2, none⟩ rfl [.int .i64 2, .func (Fn.func 107) #[] #[]] rfl (two_at0 r0 r1) ?_)
      go_roundw
      case rel => exact ⟨2, by omega, rfl, HN.out, ext_alloc hbr _⟩
      case measure => (simp [intOf]; try omega)
    · have t1 : (bits BinOp.and IntKind.i64 un 2 == 0) = false := hab'
      clear hab'
      obtain ⟨ev, hev⟩ : ∃ n, errOf k c 1 = n := ⟨_, rfl⟩
      have hev' : numE k c.n = ev := hev
      simp only [hev'] at CT
      clear hev'
      by_cases h0 : ev = 0
      · have HN := hide (HK.out.ok (by omega) HUB.out (hev.trans h0))
        have t2 : (ev != 0) = false := by simpa using h0
        subst h0
        clear hev t2
        go_wp2_with (first
          | refine wpList_loadS rfl (.tmp 41) rfl strcF ⟨g, 2, none⟩ rfl [.int .i64 2, .func (Fn.func 107) #[] #[]] rfl (two_at0 r0 r1) ?_
          | refine wpList_loadS rfl (.tmp 3) rfl strcC ⟨w.heap.size, 0, none⟩ rfl cs hlen.out (box_all (box_below HB8.out (ext_alloc (ext_refl wr) _))) ?_
          | (go_at_call 107; refine (CT _ (ext_alloc hb8 _)).mono ?_; rintro e w9 ⟨rfl, hb9⟩))
        go_roundw
        case rel => exact ⟨2, by omega, rfl, HN.out, ext_trans (ext_alloc hbr _) hb9⟩
        case measure => (simp [intOf]; try omega)
      · have HF := hide (HK.out.bad (by omega) HUB.out (by rw [hev]; exact h0))
        have HV := hide hev
        have t2 : (ev != 0) = true := by simpa using h0
        have H0 := hide h0
        clear hev h0
        go_wp2_with (first
          | refine wpList_loadS rfl (.tmp 41) rfl strcF ⟨g, 2, none⟩ rfl [.int .i64 2, .func (Fn.func 107) #[] #[]] rfl (two_at0 r0 r1) ?_
          | refine wpList_loadS rfl (.tmp 3) rfl strcC ⟨w.heap.size, 0, none⟩ rfl cs hlen.out (box_all (box_below HB8.out (ext_alloc (ext_refl wr) _))) ?_
          | (go_at_call 107; refine (CT _ (ext_alloc hb8 _)).mono ?_; rintro e w9 ⟨rfl, hb9⟩))
        go_ret
        exact ⟨by rw [HE.out, HF.out, HV.out, if_pos H0.out]; rfl, ext_trans (ext_alloc hb8 _) hb9⟩
  · have hc : ((2 : Nat) : Int) = 2 := rfl
    have CT := fun W (hb : Below w.heap.size w W) => checkTarget_any (k := k) (HR.out.ext hb)
    have hab := and_bit k 2 (by decide)
    rw [HUN.out] at hab
    have hab' : (bits BinOp.and IntKind.i64 un 4 == 0) = !hasB un 2 := hab
    clear hab
    have r0 : wr.cell? ⟨g, 4, none⟩ = some (.int .i64 4) := box_at (box_below HBF.out hbr) rfl
    have r1 : wr.cell? ⟨g, 5, none⟩ = some (.func (Fn.func 108) #[] #[]) := box_at (box_below HBF.out hbr) rfl
    have HB8 := hide (box_below HB7.out hbr)
    have hb8 := ext_trans hb7 hbr
    obtain ⟨ub, hub⟩ : ∃ b, hasB un 2 = b := ⟨_, rfl⟩
    rw [hub] at hab'
    rw [← HUN.out] at hub
    have HUB := hide hub; clear hub
    cases ub
    · have HN := hide (HK.out.skip (by omega) HUB.out)
      have t1 : (bits BinOp.and IntKind.i64 un 4 == 0) = true := hab'
      clear hab'
      go_wp2_with (refine wpList_loadS rfl (.tmp 41) rfl strcF ⟨g, 4, none⟩ rfl [.int .i64 4, .func (Fn.func 108) #[] #[]] rfl (two_at0 r0 r1) ?_)
      go_roundw
      case rel => exact ⟨3, by omega, rfl, HN.out, ext_alloc hbr _⟩
      case measure => (simp [intOf]; try omega)
    · have t1 : (bits BinOp.and IntKind.i64 un 4 == 0) = false := hab'
      clear hab'
      obtain ⟨ev, hev⟩ : ∃ n, errOf k c 2 = n := ⟨_, rfl⟩
      have hev' : targetE k c = ev := hev
      simp only [hev'] at CT
      clear hev'
      by_cases h0 : ev = 0
      · have HN := hide (HK.out.ok (by omega) HUB.out (hev.trans h0))
        have t2 : (ev != 0) = false := by simpa using h0
        subst h0
        clear hev t2
        go_wp2_with (first
          | refine wpList_loadS rfl (.tmp 41) rfl strcF ⟨g, 4, none⟩ rfl [.int .i64 4, .func (Fn.func 108) #[] #[]] rfl (two_at0 r0 r1) ?_
          | refine wpList_loadS rfl (.tmp 3) rfl strcC ⟨w.heap.size, 0, none⟩ rfl cs hlen.out (box_all (box_below HB8.out (ext_alloc (ext_refl wr) _))) ?_
          | (go_at_call 108; refine (CT _ (ext_alloc hb8 _)).mono ?_; rintro e w9 ⟨rfl, hb9⟩))
        go_roundw
        case rel => exact ⟨3, by omega, rfl, HN.out, ext_trans (ext_alloc hbr _) hb9⟩
        case measure => (simp [intOf]; try omega)
      · have HF := hide (HK.out.bad (by omega) HUB.out (by rw [hev]; exact h0))
        have HV := hide hev
        have t2 : (ev != 0) = true := by simpa using h0
        have H0 := hide h0
        clear hev h0
        go_wp2_with (first
          | refine wpList_loadS rfl (.tmp 41) rfl strcF ⟨g, 4, none⟩ rfl [.int .i64 4, .func (Fn.func 108) #[] #[]] rfl (two_at0 r0 r1) ?_
          | refine wpList_loadS rfl (.tmp 3) rfl strcC ⟨w.heap.size, 0, none⟩ rfl cs hlen.out (box_all (box_below HB8.out (ext_alloc (ext_refl wr) _))) ?_
          | (go_at_call 108; refine (CT _ (ext_alloc hb8 _)).mono ?_; rintro e w9 ⟨rfl, hb9⟩))
        go_ret
        exact ⟨by rw [HE.out, HF.out, HV.out, if_pos H0.out]; rfl, ext_trans (ext_alloc hb8 _) hb9⟩
  · have hc : ((3 : Nat) : Int) = 3 := rfl
    have CT := fun W (hb : Below w.heap.size w W) => checkThread_any (k := k) (HR.out.ext hb)
    have hab := and_bit k 3 (by decide)
    rw [HUN.out] at hab
    have hab' : (bits BinOp.and IntKind.i64 un 8 == 0) = !hasB un 3 := hab
    clear hab
    have r0 : wr.cell? ⟨g, 6, none⟩ = some (.int .i64 8) := box_at (box_below HBF.out hbr) rfl
    have r1 : wr.cell? ⟨g, 7, none⟩ = some (.func (Fn.func 109) #[] #[]) := box_at (box_below HBF.out hbr) rfl
    have HB8 := hide (box_below HB7.out hbr)
    have hb8 := ext_trans hb7 hbr
    obtain ⟨ub, hub⟩ : ∃ b, hasB un 3 = b := ⟨_, rfl⟩
    rw [hub] at hab'
    rw [← HUN.out] at hub
    have HUB := hide hub; clear hub
    cases ub
    · have HN := hide (HK.out.skip (by omega) HUB.out)
      have t1 : (bits BinOp.and IntKind.i64 un 8 == 0) = true := hab'
      clear hab'
      go_wp2_with (refine wpList_loadS rfl (.tmp 41) rfl strcF ⟨g, 6, none⟩ rfl [.int .i64 8, .func (Fn.func 109) #[] #[]] rfl (two_at0 r0 r1) ?_)
      go_roundw
      case rel => exact ⟨4, by omega, rfl, HN.out, ext_alloc hbr _⟩
      case measure => (simp [intOf]; try omega)
    · have t1 : (bits BinOp.and IntKind.i64 un 8 == 0) = false := hab'
      clear hab'
      obtain ⟨ev, hev⟩ : ∃ n, errOf k c 3 = n := ⟨_, rfl⟩
      have hev' : threadE c = ev := hev
      simp only [hev'] at CT
      clear hev'
      by_cases h0 : ev = 0
      · have HN := hide (HK.out.ok (by omega) HUB.out (hev.trans h0))
        have t2 : (ev != 0) = false := by simpa using h0
        subst h0
        clear hev t2
        go_wp2_with (first
          | refine wpList_loadS rfl (.tmp 41) rfl strcF ⟨g, 6, none⟩ rfl [.int .i64 8, .func (Fn.func 109) #[] #[]] rfl (two_at0 r0 r1) ?_
          | refine wpList_loadS rfl (.tmp 3) rfl strcC ⟨w.heap.size, 0, none⟩ rfl cs hlen.out (box_all (box_below HB8.out (ext_alloc (ext_refl wr) _))) ?_
          | (go_at_call 109; refine (CT _ (ext_alloc hb8 _)).mono ?_; rintro e w9 ⟨rfl, hb9⟩))
        go_roundw
        case rel => exact ⟨4, by omega, rfl, HN.out, ext_trans (ext_alloc hbr _) hb9⟩
        case measure => (simp [intOf]; try omega)
      · have HF := hide (HK.out.bad (by omega) HUB.out (by rw [hev]; exact h0))
        have HV := hide hev
        have t2 : (ev != 0) = true := by simpa using h0
        have H0 := hide h0
        clear hev h0
        go_wp2_with (first
          | refine wpList_loadS rfl (.tmp 41) rfl strcF ⟨g, 6, none⟩ rfl [.int .i64 8, .func (Fn.func 109) #[] #[]] rfl (two_at0 r0 r1) ?_
          | refine wpList_loadS rfl (.tmp 3) rfl strcC ⟨w.heap.size, 0, none⟩ rfl cs hlen.out (box_all (box_below HB8.out (ext_alloc (ext_refl wr) _))) ?_
          | (go_at_call 109; refine (CT _ (ext_alloc hb8 _)).mono ?_; rintro e w9 ⟨rfl, hb9⟩))
        go_ret
        exact ⟨by rw [HE.out, HF.out, HV.out, if_pos H0.out]; rfl, ext_trans (ext_alloc hb8 _) hb9⟩
  · have hc : ((4 : Nat) : Int) = 4 := rfl
    have CT := fun W (hb : Below w.heap.size w W) => checkVia_any (k := k) (HR.out.ext hb) HM.out.via
    have hab := and_bit k 4 (by decide)
    rw [HUN.out] at hab
    have hab' : (bits BinOp.and IntKind.i64 un 16 == 0) = !hasB un 4 := hab
    clear hab
    have r0 : wr.cell? ⟨g, 8, none⟩ = some (.int .i64 16) := box_at (box_below HBF.out hbr) rfl
    have r1 : wr.cell? ⟨g, 9, none⟩ = some (.func (Fn.func 110) #[] #[]) := box_at (box_below HBF.out hbr) rfl
    have HB8 := hide (box_below HB7.out hbr)
    have hb8 := ext_trans hb7 hbr
    obtain ⟨ub, hub⟩ : ∃ b, hasB un 4 = b := ⟨_, rfl⟩
    rw [hub] at hab'
    rw [← HUN.out] at hub
    have HUB := hide hub; clear hub
    cases ub
    · have HN := hide (HK.out.skip (by omega) HUB.out)
      have t1 : (bits BinOp.and IntKind.i64 un 16 == 0) = true := hab'
      clear hab'
      go_wp2_with (refine wpList_loadS rfl (.tmp 41) rfl strcF ⟨g, 8, none⟩ rfl [.int .i64 16, .func (Fn.func 110) #[] #[]] rfl (two_at0 r0 r1) ?_)
      go_roundw
      case rel => exact ⟨5, by omega, rfl, HN.out, ext_alloc hbr _⟩
      case measure => (simp [intOf]; try omega)
    · have t1 : (bits BinOp.and IntKind.i64 un 16 == 0) = false := hab'
      clear hab'
      obtain ⟨ev, hev⟩ : ∃ n, errOf k c 4 = n := ⟨_, rfl⟩
      have hev' : viaE c = ev := hev
      simp only [hev'] at CT
      clear hev'
      by_cases h0 : ev = 0
      · have HN := hide (HK.out.ok (by omega) HUB.out (hev.trans h0))
        have t2 : (ev != 0) = false := by simpa using h0
        subst h0
        clear hev t2
        go_wp2_with (first
          | refine wpList_loadS rfl (.tmp 41) rfl strcF ⟨g, 8, none⟩ rfl [.int .i64 16, .func (Fn.func 110) #[] #[]] rfl (two_at0 r0 r1) ?_
          | refine wpList_loadS rfl (.tmp 3) rfl strcC ⟨w.heap.size, 0, none⟩ rfl cs hlen.out (box_all (box_below HB8.out (ext_alloc (ext_refl wr) _))) ?_
          | (go_at_call 110; refine (CT _ (ext_alloc hb8 _)).mono ?_; rintro e w9 ⟨rfl, hb9⟩))
        go_roundw
        case rel => exact ⟨5, by omega, rfl, HN.out, ext_trans (ext_alloc hbr _) hb9⟩
        case measure => (simp [intOf]; try omega)
      · have HF := hide (HK.out.bad (by omega) HUB.out (by rw [hev]; exact h0))
        have HV := hide hev
        have t2 : (ev != 0) = true := by simpa using h0
        have H0 := hide h0
        clear hev h0
        go_wp2_with (first
          | refine wpList_loadS rfl (.tmp 41) rfl strcF ⟨g, 8, none⟩ rfl [.int .i64 16, .func (Fn.func 110) #[] #[]] rfl (two_at0 r0 r1) ?_
          | refine wpList_loadS rfl (.tmp 3) rfl strcC ⟨w.heap.size, 0, none⟩ rfl cs hlen.out (box_all (box_below HB8.out (ext_alloc (ext_refl wr) _))) ?_
          | (go_at_call 110; refine (CT _ (ext_alloc hb8 _)).mono ?_; rintro e w9 ⟨rfl, hb9⟩))
        go_ret
        exact ⟨by rw [HE.out, HF.out, HV.out, if_pos H0.out]; rfl, ext_trans (ext_alloc hb8 _) hb9⟩
  · have hc : ((5 : Nat) : Int) = 5 := rfl
    have CT := fun W (hb : Below w.heap.size w W) => checkAllow_any (k := k) (HR.out.ext hb) HM.out.allowL HM.out.allow
    have hab := and_bit k 5 (by decide)
    rw [HUN.out] at hab
    have hab' : (bits BinOp.and IntKind.i64 un 32 == 0) = !hasB un 5 := hab
    clear hab
    have r0 : wr.cell? ⟨g, 10, none⟩ = some (.int .i64 32) := box_at (box_below HBF.out hbr) rfl
    have r1 : wr.cell? ⟨g, 11, none⟩ = some (.func (Fn.func 111) #[] #[]) := box_at (box_below HBF.out hbr) rfl
    have HB8 := hide (box_below HB7.out hbr)
    have hb8 := ext_trans hb7 hbr
    obtain ⟨ub, hub⟩ : ∃ b, hasB un 5 = b := ⟨_, rfl⟩
    rw [hub] at hab'
    rw [← HUN.out] at hub
    have HUB := hide hub; clear hub
    cases ub
    · have HN := hide (HK.out.skip (by omega) HUB.out)
      have t1 : (bits BinOp.and IntKind.i64 un 32 == 0) = true := hab'
      clear hab'
      go_wp2_with (refine wpList_loadS rfl (.tmp 41) rfl strcF ⟨g, 10, none⟩ rfl [.int .i64 32, .func (Fn.func 111) #[] #[]] rfl (two_at0 r0 r1) ?_)
      go_roundw
      case rel => exact ⟨6, by omega, rfl, HN.out, ext_alloc hbr _⟩
      case measure => (simp [intOf]; try omega)
    · have t1 : (bits BinOp.and IntKind.i64 un 32 == 0) = false := hab'
      clear hab'
      obtain ⟨ev, hev⟩ : ∃ n, errOf k c 5 = n := ⟨_, rfl⟩
      have hev' : allowE k c = ev := hev
      simp only [hev'] at CT
      clear hev'
      by_cases h0 : ev = 0
      · have HN := hide (HK.out.ok (by omega) HUB.out (hev.trans h0))
        have t2 : (ev != 0) = false := by simpa using h0
        subst h0
        clear hev t2
        go_wp2_with (first
          | refine wpList_loadS rfl (.tmp 41) rfl strcF ⟨g, 10, none⟩ rfl [.int .i64 32, .func (Fn.func 111) #[] #[]] rfl (two_at0 r0 r1) ?_
          | refine wpList_loadS rfl (.tmp 3) rfl strcC ⟨w.heap.size, 0, none⟩ rfl cs hlen.out (box_all (box_below HB8.out (ext_alloc (ext_refl wr) _))) ?_
          | (go_at_call 111; refine (CT _ (ext_alloc hb8 _)).mono ?_; rintro e w9 ⟨rfl, hb9⟩))
        go_roundw
        case rel => exact ⟨6, by omega, rfl, HN.out, ext_trans (ext_alloc hbr _) hb9⟩
        case measure => (simp [intOf]; try omega)
      · have HF := hide (HK.out.bad (by omega) HUB.out (by rw [hev]; exact h0))
        have HV := hide hev
        have t2 : (ev != 0) = true := by simpa using h0
        have H0 := hide h0
        clear hev h0
        go_wp2_with (first
          | refine wpList_loadS rfl (.tmp 41) rfl strcF ⟨g, 10, none⟩ rfl [.int .i64 32, .func (Fn.func 111) #[] #[]] rfl (two_at0 r0 r1) ?_
          | refine wpList_loadS rfl (.tmp 3) rfl strcC ⟨w.heap.size, 0, none⟩ rfl cs hlen.out (box_all (box_below HB8.out (ext_alloc (ext_refl wr) _))) ?_
          | (go_at_call 111; refine (CT _ (ext_alloc hb8 _)).mono ?_; rintro e w9 ⟨rfl, hb9⟩))
        go_ret
        exact ⟨by rw [HE.out, HF.out, HV.out, if_pos H0.out]; rfl, ext_trans (ext_alloc hb8 _) hb9⟩
  · have hc : ((6 : Nat) : Int) = 6 := rfl
    have HF := hide HK.out.fin
    have HB8 := hide (box_below HB7.out hbr)
    have hb8 := ext_trans hb7 hbr
    have HL := hide (HE.out.trans (show _ = lastE k c by rw [HF.out]; rfl))
    have r6 := box_at HB8.out s6
    obtain ⟨_, _, A2', c2', _, s6', _, h6⟩ := HR.out.lists
    obtain ⟨rfl, rfl⟩ : A2' = A2 ∧ c2' = c2 := by rw [s6] at s6'; injection s6' with e; injection e with e1 e2 e3; exact ⟨e1.symm, e3.symm⟩
    clear s6'
    have CD := fun W (hb : Below w.heap.size w W) => patterns_any A2' c2' c.deny W (h6.ext hb) HM.out.denyL
    have CL := fun W (hb : Below w.heap.size w W) => Levels_any (HR.out.lev.ext hb) ⟨HM.out.usersL, HM.out.kindsL⟩ HM.out.users
    have h6b := and_bit' k 6 (by decide)
    have h7b := and_bit' k 7 (by decide)
    rw [HUN.out] at h6b h7b
    obtain ⟨b6, e6⟩ : ∃ b, hasB un 6 = b := ⟨_, rfl⟩
    obtain ⟨b7, e7⟩ : ∃ b, hasB un 7 = b := ⟨_, rfl⟩
    rw [e6] at h6b
    rw [e7] at h7b
    have t6 : (bits BinOp.and IntKind.i64 un 64 != 0) = b6 := h6b
    have t7 : (bits BinOp.and IntKind.i64 un 128 != 0) = b7 := h7b
    rw [← HUN.out] at e6 e7
    have HN := hide (show (cs.drop 7).length = 9 by rw [List.length_drop, hlen.out])
    clear h6b h7b h6
    cases b6
    · cases b7
      · have HV := hide (HL.out.trans (show lastE k c = 0 by unfold lastE; rw [if_neg (by rw [e6]; simp), if_neg (by rw [e7]; simp)]))
        clear e6 e7
        go_wp2_with fail
        go_ret
        exact ⟨by rw [HV.out]; rfl, hb8⟩
      · have HV := hide (HL.out.trans (show lastE k c = levelsE c.lv by unfold lastE; rw [if_neg (by rw [e6]; simp), if_pos e7]))
        clear e6 e7
        go_wp2_with (first
          | refine wpList_loadS rfl (.tmp 66) rfl strcL ⟨w.heap.size, 7, none⟩ rfl (cs.drop 7) HN.out (box_from HB8.out) ?_
          | (go_at_call 113; refine (CL _ hb8).mono ?_; rintro e w9 ⟨rfl, hb9⟩))
        go_ret
        exact ⟨by rw [HV.out]; rfl, ext_trans hb8 hb9⟩
    · have HV := hide (HL.out.trans (show lastE k c = patternsE c.deny by unfold lastE; rw [if_pos e6]))
      clear e6 e7
      go_wp2_with (go_at_call 112; refine (CD _ hb8).mono ?_; rintro e w9 ⟨rfl, hb9⟩)
      go_ret
      exact ⟨by rw [HV.out]; rfl, ext_trans hb8 hb9⟩
end Go.Proofs.YtmlnmcoophnlaaaGreat

/-
  fedchatref06: only.
-/
import Derived.Test.YtehenalnkkkajaaGreatCkT
set_option linter.unusedVariables false
set_option linter.unusedSimpArgs false
namespace Go.Proofs.YtehenalnkkkajaaGreat
open Go.RowKit
attribute [local go_sem] Addr.add_mid
set_option maxRecDepth 100000 in
set_option maxHeartbeats 8000000 in
theorem r6_only {S : Nat → Prop} {cs : List Value} {c : Con} {k : Int} {w : World} (hr : ConR w S cs c) (hl : c.lv.users.length ≤ 1073741824 ∧ c.lv.kinds.length ≤ 1073741824) :
    Calls Tryz.prog 23 #[.int .i64 k, .agg cs.toArray] w (Says (onlyB k c) w) := by
  obtain ⟨s0, s1, s2, s3, s4⟩ := hr.gets
  obtain ⟨A1, c1, A2, c2, s5, s6, _, _⟩ := hr.lists
  have HR := hide hr
  have HLL := hide hl
  have HN := hide (show (cs.drop 7).length = 9 by rw [List.length_drop, hr.length])
  have B := heap_alloc_new w (.cells cs.toArray 29)
  have hb := ext_alloc (ext_refl w) (.cells cs.toArray 29)
  clear hr hl
  go_enter Tryz.func23, Tryz.ntmps23
  go_upto_region 1 with fail
  generalize w.alloc (.cells cs.toArray 29) = W0 at B hb ⊢
  have HB := hide B
  clear B
  obtain ⟨a0, ha0⟩ : ∃ b, c.text.toList.isEmpty = b := ⟨_, rfl⟩
  obtain ⟨a1, ha1⟩ : ∃ b, (c.n == 0) = b := ⟨_, rfl⟩
  obtain ⟨a2, ha2⟩ : ∃ b, (c.target == 0) = b := ⟨_, rfl⟩
  obtain ⟨a3, ha3⟩ : ∃ b, (!c.thread) = b := ⟨_, rfl⟩
  obtain ⟨a4, ha4⟩ : ∃ b, c.via.toList.isEmpty = b := ⟨_, rfl⟩
  obtain ⟨a5, ha5⟩ : ∃ b, ((c.allow.length : Int) == 0) = b := ⟨_, rfl⟩
  obtain ⟨a6, ha6⟩ : ∃ b, ((c.deny.length : Int) == 0) = b := ⟨_, rfl⟩
  obtain ⟨a7, ha7⟩ : ∃ b, bareB c.lv = b := ⟨_, rfl⟩
  obtain ⟨u0, hu0⟩ : ∃ u, hasB (usesN k) 0 = u := ⟨_, rfl⟩
  have CH0 : ∀ W, Calls Tryz.prog 46 #[.int .i64 k, .string ⟨#[84, 101, 120, 116]⟩] W (Says u0 W) := fun W => by
    have h := r6_usesN k 0 (by decide) W
    rw [hu0] at h
    exact h
  obtain ⟨b0, hb0⟩ : ∃ b, (a0 || u0) = b := ⟨_, rfl⟩
  obtain ⟨u1, hu1⟩ : ∃ u, hasB (usesN k) 1 = u := ⟨_, rfl⟩
  have CH1 : ∀ W, Calls Tryz.prog 46 #[.int .i64 k, .string ⟨#[78]⟩] W (Says u1 W) := fun W => by
    have h := r6_usesN k 1 (by decide) W
    rw [hu1] at h
    exact h
  obtain ⟨b1, hb1⟩ : ∃ b, (a1 || u1) = b := ⟨_, rfl⟩
  obtain ⟨u2, hu2⟩ : ∃ u, hasB (usesN k) 2 = u := ⟨_, rfl⟩
  have CH2 : ∀ W, Calls Tryz.prog 46 #[.int .i64 k, .string ⟨#[84, 97, 114, 103, 101, 116]⟩] W (Says u2 W) := fun W => by
    have h := r6_usesN k 2 (by decide) W
    rw [hu2] at h
    exact h
  obtain ⟨b2, hb2⟩ : ∃ b, (a2 || u2) = b := ⟨_, rfl⟩
  obtain ⟨u3, hu3⟩ : ∃ u, hasB (usesN k) 3 = u := ⟨_, rfl⟩
  have CH3 : ∀ W, Calls Tryz.prog 46 #[.int .i64 k, .string ⟨#[84, 104, 114, 101, 97, 100]⟩] W (Says u3 W) := fun W => by
    have h := r6_usesN k 3 (by decide) W
    rw [hu3] at h
    exact h
  obtain ⟨b3, hb3⟩ : ∃ b, (a3 || u3) = b := ⟨_, rfl⟩
  obtain ⟨u4, hu4⟩ : ∃ u, hasB (usesN k) 4 = u := ⟨_, rfl⟩
  have CH4 : ∀ W, Calls Tryz.prog 46 #[.int .i64 k, .string ⟨#[86, 105, 97]⟩] W (Says u4 W) := fun W => by
    have h := r6_usesN k 4 (by decide) W
    rw [hu4] at h
    exact h
  obtain ⟨b4, hb4⟩ : ∃ b, (a4 || u4) = b := ⟨_, rfl⟩
  obtain ⟨u5, hu5⟩ : ∃ u, hasB (usesN k) 5 = u := ⟨_, rfl⟩
  have CH5 : ∀ W, Calls Tryz.prog 46 #[.int .i64 k, .string ⟨#[65, 108, 108, 111, 119]⟩] W (Says u5 W) := fun W => by
    have h := r6_usesN k 5 (by decide) W
    rw [hu5] at h
    exact h
  obtain ⟨b5, hb5⟩ : ∃ b, (a5 || u5) = b := ⟨_, rfl⟩
  obtain ⟨u6, hu6⟩ : ∃ u, hasB (usesN k) 6 = u := ⟨_, rfl⟩
  have CH6 : ∀ W, Calls Tryz.prog 46 #[.int .i64 k, .string ⟨#[68, 101, 110, 121]⟩] W (Says u6 W) := fun W => by
    have h := r6_usesN k 6 (by decide) W
    rw [hu6] at h
    exact h
  obtain ⟨b6, hb6⟩ : ∃ b, (a6 || u6) = b := ⟨_, rfl⟩
  obtain ⟨u7, hu7⟩ : ∃ u, hasB (usesN k) 7 = u := ⟨_, rfl⟩
  have CH7 : ∀ W, Calls Tryz.prog 46 #[.int .i64 k, .string ⟨#[76, 101, 118, 101, 108, 115]⟩] W (Says u7 W) := fun W => by
    have h := r6_usesN k 7 (by decide) W
    rw [hu7] at h
    exact h
  obtain ⟨b7, hb7⟩ : ∃ b, (a7 || u7) = b := ⟨_, rfl⟩
  have e1 : decide (c.n = 0) = a1 := by rw [← ha1]; rfl
  have e2 : decide (c.target = 0) = a2 := by rw [← ha2]; rfl
  have e5 : decide (c.allow.length = 0) = a5 := by rw [← ha5, Bool.eq_iff_iff, decide_eq_true_iff, beq_iff_eq]; omega
  have e6 : decide (c.deny.length = 0) = a6 := by rw [← ha6, Bool.eq_iff_iff, decide_eq_true_iff, beq_iff_eq]; omega
  have HO := hide (show onlyB k c = (b0 && b1 && b2 && b3 && b4 && b5 && b6 && b7) by
    unfold onlyB
    rw [← str_e, ← str_e, ha0, e1, e2, ha3, ha4, e5, e6, ha7, hu0, hu1, hu2, hu3, hu4, hu5, hu6, hu7, hb0, hb1, hb2, hb3, hb4, hb5, hb6, hb7])
  have HA0 := hide ha0; have HA1 := hide ha1; have HA2 := hide ha2; have HA3 := hide ha3; have HA4 := hide ha4; have HA5 := hide ha5; have HA6 := hide ha6; have HA7 := hide ha7
  clear ha0 ha1 ha2 ha3 ha4 ha5 ha6 ha7 e1 e2 e5 e6 hu0 hu1 hu2 hu3 hu4 hu5 hu6 hu7
  have KZ := ext_refl W0
  refine wp_region_list ?_
  try simp only [List.append]
  have r0 := box_at (box_below HB.out KZ) s0
  have hA := HA0.out
  refine wpList_val (.pointer (some ⟨w.heap.size, 0, none⟩)) rfl (by unfold execOp; go_simp) ?_
  go_simp
  refine wpList_val (.string c.text) rfl (by unfold execOp; go_simp) ?_
  go_simp
  refine wpList_val (.bool a0) rfl (by unfold execOp; go_simp) ?_
  go_simp
  refine wpList_val (.bool a0) rfl (by rfl) ?_
  clear r0 hA
  refine wpList_gval (b := !a0) (.int .i64 k) (by cases a0 <;> rfl) (fun _ => by rfl) ?_
  intro X1 hX1
  go_simp
  refine wpList_gcall (b := !a0) 46 #[X1, .string ⟨#[84, 101, 120, 116]⟩] (fun v w' => v = .bool u0 ∧ Below W0.heap.size W0 w') (by cases a0 <;> rfl) (fun _ => by unfold execOp; go_simp) (fun hb => by
    rw [hX1 hb]
    exact (CH0 W0).mono fun e w' hh => ⟨_, hh.1, rfl, hh.2⟩) ?_
  intro X3 wb0 hX3 hW
  have hbq : Below W0.heap.size W0 wb0 := by
    cases hu : a0
    · exact (hX3 (by rw [hu]; rfl)).2
    · rw [hW (by rw [hu]; rfl)]; exact ext_refl _
  have KZ := ext_trans KZ hbq
  refine wpList_val (.bool b0) rfl (by
    rw [← hb0]
    cases a0 with
    | false => obtain ⟨rfl, _⟩ := hX3 rfl; rfl
    | true => rfl) ?_
  clear hX1 hX3 hW hbq
  go_simp
  refine wpList_val (.bool b0) rfl (by rfl) ?_
  go_simp
  cases b0
  case false =>
    have HF := hide (show onlyB k c = false by rw [HO.out]; simp)
    clear HO
    go_wp2_with fail
    go_ret
    exact ⟨by rw [HF.out]; rfl, ext_trans hb KZ⟩
  have r0 := box_at (box_below HB.out KZ) s1
  have hA := HA1.out
  refine wpList_val (.pointer (some ⟨w.heap.size, 1, none⟩)) rfl (by unfold execOp; go_simp) ?_
  go_simp
  refine wpList_val (.int .i64 c.n) rfl (by unfold execOp; go_simp) ?_
  go_simp
  refine wpList_val (.bool a1) rfl (by unfold execOp; go_simp) ?_
  go_simp
  refine wpList_val (.bool a1) rfl (by rfl) ?_
  clear r0 hA
  refine wpList_gval (b := !a1) (.int .i64 k) (by cases a1 <;> rfl) (fun _ => by rfl) ?_
  intro X1 hX1
  go_simp
  refine wpList_gcall (b := !a1) 46 #[X1, .string ⟨#[78]⟩] (fun v w' => v = .bool u1 ∧ Below wb0.heap.size wb0 w') (by cases a1 <;> rfl) (fun _ => by unfold execOp; go_simp) (fun hb => by
    rw [hX1 hb]
    exact (CH1 wb0).mono fun e w' hh => ⟨_, hh.1, rfl, hh.2⟩) ?_
  intro X3 wb1 hX3 hW
  have hbq : Below wb0.heap.size wb0 wb1 := by
    cases hu : a1
    · exact (hX3 (by rw [hu]; rfl)).2
    · rw [hW (by rw [hu]; rfl)]; exact ext_refl _
  have KZ := ext_trans KZ hbq
  refine wpList_val (.bool b1) rfl (by
    rw [← hb1]
    cases a1 with
    | false => obtain ⟨rfl, _⟩ := hX3 rfl; rfl
    | true => rfl) ?_
  clear hX1 hX3 hW hbq
  go_simp
  refine wpList_val (.bool b1) rfl (by rfl) ?_
  go_simp
  refine wpList_val (.bool b1) rfl (by rfl) ?_
  go_simp
  cases b1
  case false =>
    have HF := hide (show onlyB k c = false by rw [HO.out]; simp)
    clear HO
    go_wp2_with fail
    go_ret
    exact ⟨by rw [HF.out]; rfl, ext_trans hb KZ⟩
  have r0 := box_at (box_below HB.out KZ) s2
  have hA := HA2.out
  refine wpList_val (.pointer (some ⟨w.heap.size, 2, none⟩)) rfl (by unfold execOp; go_simp) ?_
  go_simp
  refine wpList_val (.int .i64 c.target) rfl (by unfold execOp; go_simp) ?_
  go_simp
  refine wpList_val (.bool a2) rfl (by unfold execOp; go_simp) ?_
  go_simp
  refine wpList_val (.bool a2) rfl (by rfl) ?_
  clear r0 hA
  refine wpList_gval (b := !a2) (.int .i64 k) (by cases a2 <;> rfl) (fun _ => by rfl) ?_
  intro X1 hX1
  go_simp
  refine wpList_gcall (b := !a2) 46 #[X1, .string ⟨#[84, 97, 114, 103, 101, 116]⟩] (fun v w' => v = .bool u2 ∧ Below wb1.heap.size wb1 w') (by cases a2 <;> rfl) (fun _ => by unfold execOp; go_simp) (fun hb => by
    rw [hX1 hb]
    exact (CH2 wb1).mono fun e w' hh => ⟨_, hh.1, rfl, hh.2⟩) ?_
  intro X3 wb2 hX3 hW
  have hbq : Below wb1.heap.size wb1 wb2 := by
    cases hu : a2
    · exact (hX3 (by rw [hu]; rfl)).2
    · rw [hW (by rw [hu]; rfl)]; exact ext_refl _
  have KZ := ext_trans KZ hbq
  refine wpList_val (.bool b2) rfl (by
    rw [← hb2]
    cases a2 with
    | false => obtain ⟨rfl, _⟩ := hX3 rfl; rfl
    | true => rfl) ?_
  clear hX1 hX3 hW hbq
  go_simp
  refine wpList_val (.bool b2) rfl (by rfl) ?_
  go_simp
  refine wpList_val (.bool b2) rfl (by rfl) ?_
  go_simp
  cases b2
  case false =>
    have HF := hide (show onlyB k c = false by rw [HO.out]; simp)
    clear HO
    go_wp2_with fail
    go_ret
    exact ⟨by rw [HF.out]; rfl, ext_trans hb KZ⟩
  have r0 := box_at (box_below HB.out KZ) s3
  have hA := HA3.out
  refine wpList_val (.pointer (some ⟨w.heap.size, 3, none⟩)) rfl (by unfold execOp; go_simp) ?_
  go_simp
  refine wpList_val (.bool c.thread) rfl (by unfold execOp; go_simp) ?_
  go_simp
  refine wpList_val (.bool a3) rfl (by unfold execOp; go_simp) ?_
  go_simp
  refine wpList_val (.bool a3) rfl (by rfl) ?_
  clear r0 hA
  refine wpList_gval (b := !a3) (.int .i64 k) (by cases a3 <;> rfl) (fun _ => by rfl) ?_
  intro X1 hX1
  go_simp
  refine wpList_gcall (b := !a3) 46 #[X1, .string ⟨#[84, 104, 114, 101, 97, 100]⟩] (fun v w' => v = .bool u3 ∧ Below wb2.heap.size wb2 w') (by cases a3 <;> rfl) (fun _ => by unfold execOp; go_simp) (fun hb => by
    rw [hX1 hb]
    exact (CH3 wb2).mono fun e w' hh => ⟨_, hh.1, rfl, hh.2⟩) ?_
  intro X3 wb3 hX3 hW
  have hbq : Below wb2.heap.size wb2 wb3 := by
    cases hu : a3
    · exact (hX3 (by rw [hu]; rfl)).2
    · rw [hW (by rw [hu]; rfl)]; exact ext_refl _
  have KZ := ext_trans KZ hbq
  refine wpList_val (.bool b3) rfl (by
    rw [← hb3]
    cases a3 with
    | false => obtain ⟨rfl, _⟩ := hX3 rfl; rfl
    | true => rfl) ?_
  clear hX1 hX3 hW hbq
  go_simp
  refine wpList_val (.bool b3) rfl (by rfl) ?_
  go_simp
  refine wpList_val (.bool b3) rfl (by rfl) ?_
  go_simp
  cases b3
  case false =>
    have HF := hide (show onlyB k c = false by rw [HO.out]; simp)
    clear HO
    go_wp2_with fail
    go_ret
    exact ⟨by rw [HF.out]; rfl, ext_trans hb KZ⟩
  have r0 := box_at (box_below HB.out KZ) s4
  have hA := HA4.out
  refine wpList_val (.pointer (some ⟨w.heap.size, 4, none⟩)) rfl (by unfold execOp; go_simp) ?_
  go_simp
  refine wpList_val (.string c.via) rfl (by unfold execOp; go_simp) ?_
  go_simp
  refine wpList_val (.bool a4) rfl (by unfold execOp; go_simp) ?_
  go_simp
  refine wpList_val (.bool a4) rfl (by rfl) ?_
  clear r0 hA
  refine wpList_gval (b := !a4) (.int .i64 k) (by cases a4 <;> rfl) (fun _ => by rfl) ?_
  intro X1 hX1
  go_simp
  refine wpList_gcall (b := !a4) 46 #[X1, .string ⟨#[86, 105, 97]⟩] (fun v w' => v = .bool u4 ∧ Below wb3.heap.size wb3 w') (by cases a4 <;> rfl) (fun _ => by unfold execOp; go_simp) (fun hb => by
    rw [hX1 hb]
    exact (CH4 wb3).mono fun e w' hh => ⟨_, hh.1, rfl, hh.2⟩) ?_
  intro X3 wb4 hX3 hW
  have hbq : Below wb3.heap.size wb3 wb4 := by
    cases hu : a4
    · exact (hX3 (by rw [hu]; rfl)).2
    · rw [hW (by rw [hu]; rfl)]; exact ext_refl _
  have KZ := ext_trans KZ hbq
  refine wpList_val (.bool b4) rfl (by
    rw [← hb4]
    cases a4 with
    | false => obtain ⟨rfl, _⟩ := hX3 rfl; rfl
    | true => rfl) ?_
  clear hX1 hX3 hW hbq
  go_simp
  refine wpList_val (.bool b4) rfl (by rfl) ?_
  go_simp
  refine wpList_val (.bool b4) rfl (by rfl) ?_
  go_simp
  cases b4
  case false =>
    have HF := hide (show onlyB k c = false by rw [HO.out]; simp)
    clear HO
    go_wp2_with fail
    go_ret
    exact ⟨by rw [HF.out]; rfl, ext_trans hb KZ⟩
  have r0 := box_at (box_below HB.out KZ) s5
  have hA := HA5.out
  refine wpList_val (.pointer (some ⟨w.heap.size, 5, none⟩)) rfl (by unfold execOp; go_simp) ?_
  go_simp
  refine wpList_val (.slice A1 c.allow.length c1) rfl (by unfold execOp; go_simp) ?_
  go_simp
  refine wpList_val (.int .i64 (c.allow.length : Int)) rfl (by unfold execOp; go_simp) ?_
  go_simp
  refine wpList_val (.bool a5) rfl (by unfold execOp; go_simp) ?_
  go_simp
  refine wpList_val (.bool a5) rfl (by rfl) ?_
  clear r0 hA
  refine wpList_gval (b := !a5) (.int .i64 k) (by cases a5 <;> rfl) (fun _ => by rfl) ?_
  intro X1 hX1
  go_simp
  refine wpList_gcall (b := !a5) 46 #[X1, .string ⟨#[65, 108, 108, 111, 119]⟩] (fun v w' => v = .bool u5 ∧ Below wb4.heap.size wb4 w') (by cases a5 <;> rfl) (fun _ => by unfold execOp; go_simp) (fun hb => by
    rw [hX1 hb]
    exact (CH5 wb4).mono fun e w' hh => ⟨_, hh.1, rfl, hh.2⟩) ?_
  intro X3 wb5 hX3 hW
  have hbq : Below wb4.heap.size wb4 wb5 := by
    cases hu : a5
    · exact (hX3 (by rw [hu]; rfl)).2
    · rw [hW (by rw [hu]; rfl)]; exact ext_refl _
  have KZ := ext_trans KZ hbq
  refine wpList_val (.bool b5) rfl (by
    rw [← hb5]
    cases a5 with
    | false => obtain ⟨rfl, _⟩ := hX3 rfl; rfl
    | true => rfl) ?_
  clear hX1 hX3 hW hbq
  go_simp
  refine wpList_val (.bool b5) rfl (by rfl) ?_
  go_simp
  refine wpList_val (.bool b5) rfl (by rfl) ?_
  go_simp
  cases b5
  case false =>
    have HF := hide (show onlyB k c = false by rw [HO.out]; simp)
    clear HO
    go_wp2_with fail
    go_ret
    exact ⟨by rw [HF.out]; rfl, ext_trans hb KZ⟩
  have r0 := box_at (box_below HB.out KZ) s6
  have hA := HA6.out
  refine wpList_val (.pointer (some ⟨w.heap.size, 6, none⟩)) rfl (by unfold execOp; go_simp) ?_
  go_simp
  refine wpList_val (.slice A2 c.deny.length c2) rfl (by unfold execOp; go_simp) ?_
  go_simp
  refine wpList_val (.int .i64 (c.deny.length : Int)) rfl (by unfold execOp; go_simp) ?_
  go_simp
  refine wpList_val (.bool a6) rfl (by unfold execOp; go_simp) ?_
  go_simp
  refine wpList_val (.bool a6) rfl (by rfl) ?_
  clear r0 hA
  refine wpList_gval (b := !a6) (.int .i64 k) (by cases a6 <;> rfl) (fun _ => by rfl) ?_
  intro X1 hX1
  go_simp
  refine wpList_gcall (b := !a6) 46 #[X1, .string ⟨#[68, 101, 110, 121]⟩] (fun v w' => v = .bool u6 ∧ Below wb5.heap.size wb5 w') (by cases a6 <;> rfl) (fun _ => by unfold execOp; go_simp) (fun hb => by
    rw [hX1 hb]
    exact (CH6 wb5).mono fun e w' hh => ⟨_, hh.1, rfl, hh.2⟩) ?_
  intro X3 wb6 hX3 hW
  have hbq : Below wb5.heap.size wb5 wb6 := by
    cases hu : a6
    · exact (hX3 (by rw [hu]; rfl)).2
    · rw [hW (by rw [hu]; rfl)]; exact ext_refl _
  have KZ := ext_trans KZ hbq
  refine wpList_val (.bool b6) rfl (by
    rw [← hb6]
    cases a6 with
    | false => obtain ⟨rfl, _⟩ := hX3 rfl; rfl
    | true => rfl) ?_
  clear hX1 hX3 hW hbq
  go_simp
  refine wpList_val (.bool b6) rfl (by rfl) ?_
  go_simp
  refine wpList_val (.bool b6) rfl (by rfl) ?_
  go_simp
  cases b6
  case false =>
    have HF := hide (show onlyB k c = false by rw [HO.out]; simp)
    clear HO
    go_wp2_with fail
    go_ret
    exact ⟨by rw [HF.out]; rfl, ext_trans hb KZ⟩
  refine wpList_val (.pointer (some ⟨w.heap.size, 7, none⟩)) rfl (by unfold execOp; go_simp) ?_
  go_simp
  refine wpList_val (.agg (cs.drop 7).toArray) rfl (run_load_op (.tmp 69) rfl strcL ⟨w.heap.size, 7, none⟩ rfl (cs.drop 7) HN.out (box_from (box_below HB.out KZ))) ?_
  go_simp
  refine wpList_gcall (b := true) 47 #[.agg (cs.drop 7).toArray] (fun v w' => v = .bool a7 ∧ Below wb6.heap.size wb6 w') rfl (fun _ => by unfold execOp; go_simp) (fun _ => (r6_plain (HR.out.lev.ext (ext_trans hb KZ)) HLL.out).mono fun e w' hh => ⟨_, hh.1, by rw [HA7.out], hh.2⟩) ?_
  intro X wp hX _
  obtain ⟨rfl, hbp⟩ := hX rfl
  have KZ := ext_trans KZ hbp
  refine wpList_val (.bool a7) rfl (by rfl) ?_
  go_simp
  refine wpList_gval (b := !a7) (.int .i64 k) (by cases a7 <;> rfl) (fun _ => by rfl) ?_
  intro X1 hX1
  go_simp
  refine wpList_gcall (b := !a7) 46 #[X1, .string ⟨#[76, 101, 118, 101, 108, 115]⟩] (fun v w' => v = .bool u7 ∧ Below wp.heap.size wp w') (by cases a7 <;> rfl) (fun _ => by unfold execOp; go_simp) (fun hb => by
    rw [hX1 hb]
    exact (CH7 wp).mono fun e w' hh => ⟨_, hh.1, rfl, hh.2⟩) ?_
  intro X3 wb7 hX3 hW
  have hbq : Below wp.heap.size wp wb7 := by
    cases hu : a7
    · exact (hX3 (by rw [hu]; rfl)).2
    · rw [hW (by rw [hu]; rfl)]; exact ext_refl _
  have KZ := ext_trans KZ hbq
  refine wpList_val (.bool b7) rfl (by
    rw [← hb7]
    cases a7 with
    | false => obtain ⟨rfl, _⟩ := hX3 rfl; rfl
    | true => rfl) ?_
  clear hX1 hX3 hW hbq
  go_simp
  refine wpList_val (.bool b7) rfl (by rfl) ?_
  go_simp
  have HF := hide (show onlyB k c = b7 by rw [HO.out]; simp)
  clear HO
  go_wp2_with fail
  go_ret
  exact ⟨by rw [HF.out]; rfl, ext_trans hb KZ⟩
end Go.Proofs.YtehenalnkkkajaaGreat

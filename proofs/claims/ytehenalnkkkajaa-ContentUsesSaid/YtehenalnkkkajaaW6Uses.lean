/-
  ContentUses: the walk.
-/
import Derived.Test.YtehenalnkkkajaaHas6
import Derived.Test.YtehenalnkkkajaaAllocs
import Derived.Test.YtehenalnkkkajaaGuards
set_option linter.unusedVariables false
set_option linter.unusedSimpArgs false
namespace Go.Proofs.Ytehenalnkkkajaa
open Go.RowKit
open Classical
section
attribute [local go_sem] Addr.add_mid
set_option maxRecDepth 100000 in
set_option maxHeartbeats 16000000 in
theorem uses6_any {cs : List Value} {c : Con} {k : Int} {w : World} (hr : ConR w Any cs c) (ho : c.ok) : Calls Try.prog 10 #[.int .i64 k, .agg cs.toArray] w (Says true w) := by
  have HR := hide hr; have HO := hide ho; have HL := hide hr.length
  have B := heap_alloc_new w (.cells cs.toArray 33)
  have hb := ext_alloc (ext_refl w) (.cells cs.toArray 33)
  clear hr ho
  go_enter Try.func10, Try.ntmps10
  go_upto_region 1 with fail
  generalize w.alloc (.cells cs.toArray 33) = W at B hb ⊢
  have HB := hide B
  clear B
  go_wp2_with (refine wpList_loadS rfl (.tmp 3) rfl strcC ⟨w.heap.size, 0, none⟩ rfl cs HL.out (box_all HB.out) ?_)
  refine (small6_any (HR.out.ext hb)).mono ?_
  rintro e w1 ⟨b, rfl, hs, hb1⟩
  have hbb := ext_trans hb hb1
  cases b
  case false =>
    go_wp2_with (go_at_call 15; refine (live_any _).mono ?_; rintro e wl ⟨rfl, hbl⟩)
    go_ret
    exact ⟨rfl, ext_trans hbb hbl⟩
  have HS := hide (hs rfl)
  have HB1 := hide (box_below HB.out hb1)
  have R1 := HR.out.ext hbb
  clear hs hb hb1 HB
  have hm := (HS.out.fine HO.out).mild
  have CK := Check_any (k := k) R1 hm
  by_cases h0 : ckE k c = 0
  case neg =>
    obtain ⟨er, her⟩ : ∃ er, ckE k c = er := ⟨_, rfl⟩
    rw [her] at CK h0
    have h0' : (er != 0) = true := by simpa using h0
    clear her h0
    go_wp2_with (first | refine wpList_loadS rfl (.tmp 3) rfl strcC ⟨w.heap.size, 0, none⟩ rfl cs HL.out (box_all HB1.out) ?_ | (go_at_call 30; refine CK.mono ?_; rintro e w2 ⟨rfl, hb2⟩) | (go_at_call 15; refine (live_any _).mono ?_; rintro e wl ⟨rfl, hbl⟩))
    go_ret
    exact ⟨rfl, ext_trans hbb (ext_trans hb2 hbl)⟩
  rw [h0] at CK
  have HM := hide hm
  have H0 := hide h0
  clear h0 hm
  go_upto_region 3 with (first
    | refine wpList_loadS rfl (.tmp 3) rfl strcC ⟨w.heap.size, 0, none⟩ rfl cs HL.out (box_all HB1.out) ?_
    | (go_at_call 30; (with_reducible refine CK.mono ?_); rintro e w2 ⟨rfl, hb2⟩; have HB2 := hide (box_below HB1.out hb2)))
  have R2 := R1.ext hb2
  have hbc := ext_trans hbb hb2
  have HON := hide R2.one
  clear R1 CK hb2 HB1 hbb
  have KB := ext_refl w2
  refine wp_region_now (by kernel_rfl) ?_
  intro Y3 hY
  have T0 : Below Y3.heap.size Y3 Y3 := ext_refl Y3
  have hB0 := ext_trans KB hY
  have HBY := hide (box_below HB2.out hB0)
  have hwY := hB0.size
  refine wpAnyP_take (i := 0) rfl (by kernel_rfl) (by kernel_rfl) (by kernel_rfl) (by kernel_rfl) (fun _ _ _ h => h) (yieldsIf_loadS rfl (.tmp 3) rfl strcC ⟨w.heap.size, 0, none⟩ rfl cs HL.out (fun w2 hT => box_all (box_below HBY.out hT))) T0 ?_
  refine wpAnyP_take (i := 1) rfl (by kernel_rfl) (by kernel_rfl) (by kernel_rfl) (by kernel_rfl) (fun _ _ _ h => h) (yieldsIf_loadS rfl (.tmp 3) rfl strcC ⟨w.heap.size, 0, none⟩ rfl cs HL.out (fun w2 hT => box_all (box_below HBY.out hT))) T0 ?_
  refine wpAnyP_take (i := 2) rfl (by kernel_rfl) (by kernel_rfl) (by kernel_rfl) (by kernel_rfl) (fun _ _ _ h => h) (yieldsIf_loadS rfl (.tmp 3) rfl strcC ⟨w.heap.size, 0, none⟩ rfl cs HL.out (fun w2 hT => box_all (box_below HBY.out hT))) T0 ?_
  refine wpAnyP_take (i := 3) rfl (by kernel_rfl) (by kernel_rfl) (by kernel_rfl) (by kernel_rfl) (fun _ _ _ h => h) (yieldsIf_loadS rfl (.tmp 3) rfl strcC ⟨w.heap.size, 0, none⟩ rfl cs HL.out (fun w2 hT => box_all (box_below HBY.out hT))) T0 ?_
  go_simp
  refine wpAnyP_allocs strcC (fun i => i + 1) (fun w o h => ext_alloc h o) 4 [4, 5, 6, 7] _ _ _ rfl (by decide) (by intro i hi; simp only [List.mem_cons, List.not_mem_nil, or_false] at hi; rcases hi with rfl | rfl | rfl | rfl <;> exact ⟨_, rfl, rfl, rfl, rfl⟩) (by intro j _ k _ h; omega) (by kernel_rfl) T0 ?_
  intro a' v3 gg hM T1
  have hact := hM.four (by decide) (by decide) (by decide) (by decide) (by decide) (by decide)
  have b1 := hM.box 4 (by simp); have b2 := hM.box 5 (by simp); have b3 := hM.box 6 (by simp); have b4 := hM.box 7 (by simp)
  have n1 := hM.ge 4 (by simp); have n2 := hM.ge 5 (by simp); have n3 := hM.ge 6 (by simp); have n4 := hM.ge 7 (by simp)
  have p12 := hM.apart 4 (by simp) 5 (by simp) (by decide); have p13 := hM.apart 4 (by simp) 6 (by simp) (by decide); have p14 := hM.apart 4 (by simp) 7 (by simp) (by decide)
  have p23 := hM.apart 5 (by simp) 6 (by simp) (by decide); have p24 := hM.apart 5 (by simp) 7 (by simp) (by decide); have p34 := hM.apart 6 (by simp) 7 (by simp) (by decide)
  subst hact
  clear hM
  generalize gg 4 = ga3 at *
  generalize gg 5 = gb3 at *
  generalize gg 6 = gc3 at *
  generalize gg 7 = gd3 at *
  go_simp
  refine wpAnyP_oneQ (i := 8) (by kernel_rfl) rfl ?_
  refine wpList_storeB rfl (.tmp 5) (.tmp 23) rfl rfl strcC ga3 0 rfl cs rfl HL.out HON.out conZero.toList 33 b1 (by decide) ?_
  intro s30 B0 g0 z0
  rw [patch_all _ _ (by rw [HL.out]; rfl)] at B0
  have T2 := T1.grown g0 T1.size (fun q hq => by injection hq with hq; omega)
  have b2 := box_grown b2 g0 (p12)
  have b3 := box_grown b3 g0 (p13)
  have b4 := box_grown b4 g0 (p14)
  clear T1 g0 z0 b1
  refine nextQ T2 ?_
  go_simp
  refine wpAnyP_oneQ (i := 9) (by kernel_rfl) rfl ?_
  refine wpList_storeB rfl (.tmp 6) (.tmp 24) rfl rfl strcC gb3 0 rfl cs rfl HL.out HON.out conZero.toList 33 b2 (by decide) ?_
  intro s31 B1 g1 z1
  rw [patch_all _ _ (by rw [HL.out]; rfl)] at B1
  have T3 := T2.grown g1 T2.size (fun q hq => by injection hq with hq; omega)
  have B0 := box_grown B0 g1 (p12.symm)
  have b3 := box_grown b3 g1 (p23)
  have b4 := box_grown b4 g1 (p24)
  clear T2 g1 z1 b2
  refine nextQ T3 ?_
  go_simp
  refine wpAnyP_oneQ (i := 10) (by kernel_rfl) rfl ?_
  refine wpList_storeB rfl (.tmp 7) (.tmp 25) rfl rfl strcC gc3 0 rfl cs rfl HL.out HON.out conZero.toList 33 b3 (by decide) ?_
  intro s32 B2 g2 z2
  rw [patch_all _ _ (by rw [HL.out]; rfl)] at B2
  have T4 := T3.grown g2 T3.size (fun q hq => by injection hq with hq; omega)
  have B0 := box_grown B0 g2 (p13.symm)
  have B1 := box_grown B1 g2 (p23.symm)
  have b4 := box_grown b4 g2 (p34)
  clear T3 g2 z2 b3
  refine nextQ T4 ?_
  go_simp
  refine wpAnyP_oneQ (i := 11) (by kernel_rfl) rfl ?_
  refine wpList_storeB rfl (.tmp 8) (.tmp 26) rfl rfl strcC gd3 0 rfl cs rfl HL.out HON.out conZero.toList 33 b4 (by decide) ?_
  intro s33 B3 g3 z3
  rw [patch_all _ _ (by rw [HL.out]; rfl)] at B3
  have T5 := T4.grown g3 T4.size (fun q hq => by injection hq with hq; omega)
  have B0 := box_grown B0 g3 (p14.symm)
  have B1 := box_grown B1 g3 (p24.symm)
  have B2 := box_grown B2 g3 (p34.symm)
  clear T4 g3 z3 b4
  refine nextQ T5 ?_
  go_simp
  refine wpAnyP_done (by kernel_rfl) ?_
  have k3 := ext_trans hY T5
  have KB := ext_trans KB k3
  have E30 := B0
  have E31 := B1
  have E32 := B2
  have E33 := B3
  have q12_3 := p12; have q13_3 := p13; have q14_3 := p14; have q23_3 := p23; have q24_3 := p24; have q34_3 := p34
  have hsY3 := hY.size
  have m1_3 := Nat.le_trans hY.size n1; have l1_3 := Nat.le_trans hwY n1
  have m2_3 := Nat.le_trans hY.size n2; have l2_3 := Nat.le_trans hwY n2
  have m3_3 := Nat.le_trans hY.size n3; have l3_3 := Nat.le_trans hwY n3
  have m4_3 := Nat.le_trans hY.size n4; have l4_3 := Nat.le_trans hwY n4
  clear T0 T5 B0 B1 B2 B3 p12 p13 p14 p23 p24 p34 n1 n2 n3 n4 HBY hB0 hwY hY gg
  go_wp2_with (refine wpList_store1 rfl (.tmp 27) (.const (.string ⟨#[120]⟩)) rfl rfl sizeS ga3 0 rfl (.string ⟨#[120]⟩) rfl rfl cs 33 E30 (by rw [HL.out]; decide) ?_)
  intro x30 F30 g z
  have KB := KB.grown g KB.size (fun q hq => by injection hq with hq; omega)
  have E31 := box_grown E31 g (q12_3)
  have E32 := box_grown E32 g (q13_3)
  have E33 := box_grown E33 g (q14_3)
  clear g z E30
  go_wp2_with (refine wpList_store1 rfl (.tmp 28) (.const (.int .i64 1)) rfl rfl sizeI gb3 1 rfl (.int .i64 1) rfl rfl cs 33 E31 (by rw [HL.out]; decide) ?_)
  intro x31 F31 g z
  have KB := KB.grown g KB.size (fun q hq => by injection hq with hq; omega)
  have F30 := box_grown F30 g (q12_3.symm)
  have E32 := box_grown E32 g (q23_3)
  have E33 := box_grown E33 g (q24_3)
  clear g z E31
  go_wp2_with (refine wpList_store1 rfl (.tmp 29) (.const (.int .i64 1)) rfl rfl sizeI gc3 2 rfl (.int .i64 1) rfl rfl cs 33 E32 (by rw [HL.out]; decide) ?_)
  intro x32 F32 g z
  have KB := KB.grown g KB.size (fun q hq => by injection hq with hq; omega)
  have F30 := box_grown F30 g (q13_3.symm)
  have F31 := box_grown F31 g (q23_3.symm)
  have E33 := box_grown E33 g (q34_3)
  clear g z E32
  go_wp2_with (refine wpList_store1 rfl (.tmp 30) (.const (.string ⟨#[64, 97, 58, 98]⟩)) rfl rfl sizeS gd3 4 rfl (.string ⟨#[64, 97, 58, 98]⟩) rfl rfl cs 33 E33 (by rw [HL.out]; decide) ?_)
  intro x33 F33 g z
  have KB := KB.grown g KB.size (fun q hq => by injection hq with hq; omega)
  have F30 := box_grown F30 g (q14_3.symm)
  have F31 := box_grown F31 g (q24_3.symm)
  have F32 := box_grown F32 g (q34_3.symm)
  clear g z E33
  have u4 : w2.heap.size ≤ x33.heap.size := KB.size
  have l1_3' := (Array.getElem?_eq_some_iff.1 F30).1; have l2_3' := (Array.getElem?_eq_some_iff.1 F31).1; have l3_3' := (Array.getElem?_eq_some_iff.1 F32).1; have l4_3' := (Array.getElem?_eq_some_iff.1 F33).1
  go_wp2_with fail
  refine wp_region_now (by kernel_rfl) ?_
  intro Y5 hY
  have T0 : Below Y5.heap.size Y5 Y5 := ext_refl Y5
  have hB0 := ext_trans KB hY
  have HBY := hide (box_below HB2.out hB0)
  have hwY := hB0.size
  refine wpAnyP_take (i := 0) rfl (by kernel_rfl) (by kernel_rfl) (by kernel_rfl) (by kernel_rfl) (fun _ _ _ h => h) (yieldsIf_loadS rfl (.tmp 3) rfl strcC ⟨w.heap.size, 0, none⟩ rfl cs HL.out (fun w2 hT => box_all (box_below HBY.out hT))) T0 ?_
  refine wpAnyP_take (i := 1) rfl (by kernel_rfl) (by kernel_rfl) (by kernel_rfl) (by kernel_rfl) (fun _ _ _ h => h) (yieldsIf_loadS rfl (.tmp 3) rfl strcC ⟨w.heap.size, 0, none⟩ rfl cs HL.out (fun w2 hT => box_all (box_below HBY.out hT))) T0 ?_
  refine wpAnyP_take (i := 2) rfl (by kernel_rfl) (by kernel_rfl) (by kernel_rfl) (by kernel_rfl) (fun _ _ _ h => h) (yieldsIf_loadS rfl (.tmp 3) rfl strcC ⟨w.heap.size, 0, none⟩ rfl cs HL.out (fun w2 hT => box_all (box_below HBY.out hT))) T0 ?_
  refine wpAnyP_take (i := 3) rfl (by kernel_rfl) (by kernel_rfl) (by kernel_rfl) (by kernel_rfl) (fun _ _ _ h => h) (yieldsIf_loadS rfl (.tmp 3) rfl strcC ⟨w.heap.size, 0, none⟩ rfl cs HL.out (fun w2 hT => box_all (box_below HBY.out hT))) T0 ?_
  go_simp
  refine wpAnyP_allocs strcC (fun i => i + 5) (fun w o h => ext_alloc h o) 4 [4, 5, 6, 7] _ _ _ rfl (by decide) (by intro i hi; simp only [List.mem_cons, List.not_mem_nil, or_false] at hi; rcases hi with rfl | rfl | rfl | rfl <;> exact ⟨_, rfl, rfl, rfl, rfl⟩) (by intro j _ k _ h; omega) (by kernel_rfl) T0 ?_
  intro a' v5 gg hM T1
  have hact := hM.four (by decide) (by decide) (by decide) (by decide) (by decide) (by decide)
  have b1 := hM.box 4 (by simp); have b2 := hM.box 5 (by simp); have b3 := hM.box 6 (by simp); have b4 := hM.box 7 (by simp)
  have n1 := hM.ge 4 (by simp); have n2 := hM.ge 5 (by simp); have n3 := hM.ge 6 (by simp); have n4 := hM.ge 7 (by simp)
  have p12 := hM.apart 4 (by simp) 5 (by simp) (by decide); have p13 := hM.apart 4 (by simp) 6 (by simp) (by decide); have p14 := hM.apart 4 (by simp) 7 (by simp) (by decide)
  have p23 := hM.apart 5 (by simp) 6 (by simp) (by decide); have p24 := hM.apart 5 (by simp) 7 (by simp) (by decide); have p34 := hM.apart 6 (by simp) 7 (by simp) (by decide)
  subst hact
  clear hM
  generalize gg 4 = ga5 at *
  generalize gg 5 = gb5 at *
  generalize gg 6 = gc5 at *
  generalize gg 7 = gd5 at *
  go_simp
  refine wpAnyP_oneQ (i := 8) (by kernel_rfl) rfl ?_
  refine wpList_storeB rfl (.tmp 9) (.tmp 31) rfl rfl strcC ga5 0 rfl cs rfl HL.out HON.out conZero.toList 33 b1 (by decide) ?_
  intro s50 B0 g0 z0
  rw [patch_all _ _ (by rw [HL.out]; rfl)] at B0
  have T2 := T1.grown g0 T1.size (fun q hq => by injection hq with hq; omega)
  have b2 := box_grown b2 g0 (p12)
  have b3 := box_grown b3 g0 (p13)
  have b4 := box_grown b4 g0 (p14)
  clear T1 g0 z0 b1
  refine nextQ T2 ?_
  go_simp
  refine wpAnyP_oneQ (i := 9) (by kernel_rfl) rfl ?_
  refine wpList_storeB rfl (.tmp 10) (.tmp 32) rfl rfl strcC gb5 0 rfl cs rfl HL.out HON.out conZero.toList 33 b2 (by decide) ?_
  intro s51 B1 g1 z1
  rw [patch_all _ _ (by rw [HL.out]; rfl)] at B1
  have T3 := T2.grown g1 T2.size (fun q hq => by injection hq with hq; omega)
  have B0 := box_grown B0 g1 (p12.symm)
  have b3 := box_grown b3 g1 (p23)
  have b4 := box_grown b4 g1 (p24)
  clear T2 g1 z1 b2
  refine nextQ T3 ?_
  go_simp
  refine wpAnyP_oneQ (i := 10) (by kernel_rfl) rfl ?_
  refine wpList_storeB rfl (.tmp 11) (.tmp 33) rfl rfl strcC gc5 0 rfl cs rfl HL.out HON.out conZero.toList 33 b3 (by decide) ?_
  intro s52 B2 g2 z2
  rw [patch_all _ _ (by rw [HL.out]; rfl)] at B2
  have T4 := T3.grown g2 T3.size (fun q hq => by injection hq with hq; omega)
  have B0 := box_grown B0 g2 (p13.symm)
  have B1 := box_grown B1 g2 (p23.symm)
  have b4 := box_grown b4 g2 (p34)
  clear T3 g2 z2 b3
  refine nextQ T4 ?_
  go_simp
  refine wpAnyP_oneQ (i := 11) (by kernel_rfl) rfl ?_
  refine wpList_storeB rfl (.tmp 12) (.tmp 34) rfl rfl strcC gd5 0 rfl cs rfl HL.out HON.out conZero.toList 33 b4 (by decide) ?_
  intro s53 B3 g3 z3
  rw [patch_all _ _ (by rw [HL.out]; rfl)] at B3
  have T5 := T4.grown g3 T4.size (fun q hq => by injection hq with hq; omega)
  have B0 := box_grown B0 g3 (p14.symm)
  have B1 := box_grown B1 g3 (p24.symm)
  have B2 := box_grown B2 g3 (p34.symm)
  clear T4 g3 z3 b4
  refine nextQ T5 ?_
  go_simp
  refine wpAnyP_done (by kernel_rfl) ?_
  have k5 := ext_trans hY T5
  have KB := ext_trans KB k5
  have E50 := B0
  have E51 := B1
  have E52 := B2
  have E53 := B3
  have q12_5 := p12; have q13_5 := p13; have q14_5 := p14; have q23_5 := p23; have q24_5 := p24; have q34_5 := p34
  have hsY5 := hY.size
  have m1_5 := Nat.le_trans hY.size n1; have l1_5 := Nat.le_trans hwY n1
  have m2_5 := Nat.le_trans hY.size n2; have l2_5 := Nat.le_trans hwY n2
  have m3_5 := Nat.le_trans hY.size n3; have l3_5 := Nat.le_trans hwY n3
  have m4_5 := Nat.le_trans hY.size n4; have l4_5 := Nat.le_trans hwY n4
  clear T0 T5 B0 B1 B2 B3 p12 p13 p14 p23 p24 p34 n1 n2 n3 n4 HBY hB0 hwY hY gg
  have F30 := box_below F30 k5
  have F31 := box_below F31 k5
  have F32 := box_below F32 k5
  have F33 := box_below F33 k5
  obtain ⟨gs, hgs⟩ : ∃ gs, s53.heap.size = gs := ⟨_, rfl⟩
  have kk := below_two s53 (.cells #[.string ⟨#[33, 97, 58, 98]⟩] 9) (.cells #[.string ⟨#[42]⟩] 9)
  have SA := heap_alloc2_old s53 (.cells #[.string ⟨#[33, 97, 58, 98]⟩] 9) (.cells #[.string ⟨#[42]⟩] 9)
  have SB := heap_alloc2_new s53 (.cells #[.string ⟨#[33, 97, 58, 98]⟩] 9) (.cells #[.string ⟨#[42]⟩] 9)
  have hE0 := (Array.getElem?_eq_some_iff.1 E50).1; have hE1 := (Array.getElem?_eq_some_iff.1 E51).1; have hE2 := (Array.getElem?_eq_some_iff.1 E52).1; have hE3 := (Array.getElem?_eq_some_iff.1 E53).1
  rw [hgs] at SA SB hE0 hE1 hE2 hE3
  have F30 := box_below F30 kk; have F31 := box_below F31 kk; have F32 := box_below F32 kk; have F33 := box_below F33 kk
  have KB := ext_trans KB kk
  go_wp2_with (refine wpList_store1 rfl (.tmp 37) (.const (.bool true)) rfl rfl sizeT1 ga5 3 rfl (.bool true) rfl rfl cs 33 (box_below E50 kk) (by rw [HL.out]; decide) ?_)
  intro x50 F50 g z
  have KB := KB.grown g KB.size (fun q hq => by injection hq with hq; omega)
  have E51 := box_grown (box_below E51 kk) g (q12_5)
  have E52 := box_grown (box_below E52 kk) g (q13_5)
  have E53 := box_grown (box_below E53 kk) g (q14_5)
  have SA := box_grown SA g ((by omega : ga5 ≠ gs))
  have SB := box_grown SB g ((by omega : ga5 ≠ gs + 1))
  have F30 := box_grown F30 g ((by omega : ga5 ≠ ga3))
  have F31 := box_grown F31 g ((by omega : ga5 ≠ gb3))
  have F32 := box_grown F32 g ((by omega : ga5 ≠ gc3))
  have F33 := box_grown F33 g ((by omega : ga5 ≠ gd3))
  clear g z E50
  go_wp2_with (refine wpList_store1 rfl (.tmp 38) (.tmp 35) rfl rfl sizeT gb5 5 rfl (.slice (some ⟨gs, 0, none⟩) 1 1) rfl rfl cs 33 E51 (by rw [HL.out]; decide) ?_)
  intro x51 F51 g z
  have KB := KB.grown g KB.size (fun q hq => by injection hq with hq; omega)
  have F50 := box_grown F50 g (q12_5.symm)
  have E52 := box_grown E52 g (q23_5)
  have E53 := box_grown E53 g (q24_5)
  have SA := box_grown SA g ((by omega : gb5 ≠ gs))
  have SB := box_grown SB g ((by omega : gb5 ≠ gs + 1))
  have F30 := box_grown F30 g ((by omega : gb5 ≠ ga3))
  have F31 := box_grown F31 g ((by omega : gb5 ≠ gb3))
  have F32 := box_grown F32 g ((by omega : gb5 ≠ gc3))
  have F33 := box_grown F33 g ((by omega : gb5 ≠ gd3))
  clear g z E51
  go_wp2_with (refine wpList_store1 rfl (.tmp 39) (.tmp 36) rfl rfl sizeT gc5 6 rfl (.slice (some ⟨gs + 1, 0, none⟩) 1 1) rfl rfl cs 33 E52 (by rw [HL.out]; decide) ?_)
  intro x52 F52 g z
  have KB := KB.grown g KB.size (fun q hq => by injection hq with hq; omega)
  have F50 := box_grown F50 g (q13_5.symm)
  have F51 := box_grown F51 g (q23_5.symm)
  have E53 := box_grown E53 g (q34_5)
  have SA := box_grown SA g ((by omega : gc5 ≠ gs))
  have SB := box_grown SB g ((by omega : gc5 ≠ gs + 1))
  have F30 := box_grown F30 g ((by omega : gc5 ≠ ga3))
  have F31 := box_grown F31 g ((by omega : gc5 ≠ gb3))
  have F32 := box_grown F32 g ((by omega : gc5 ≠ gc3))
  have F33 := box_grown F33 g ((by omega : gc5 ≠ gd3))
  clear g z E52
  go_wp2_with (refine wpList_store1 rfl (.tmp 41) (.const (.int .i64 1)) rfl rfl sizeI gd5 13 rfl (.int .i64 1) rfl rfl cs 33 E53 (by rw [HL.out]; decide) ?_)
  intro x53 F53 g z
  have KB := KB.grown g KB.size (fun q hq => by injection hq with hq; omega)
  have F50 := box_grown F50 g (q14_5.symm)
  have F51 := box_grown F51 g (q24_5.symm)
  have F52 := box_grown F52 g (q34_5.symm)
  have SA := box_grown SA g ((by omega : gd5 ≠ gs))
  have SB := box_grown SB g ((by omega : gd5 ≠ gs + 1))
  have F30 := box_grown F30 g ((by omega : gd5 ≠ ga3))
  have F31 := box_grown F31 g ((by omega : gd5 ≠ gb3))
  have F32 := box_grown F32 g ((by omega : gd5 ≠ gc3))
  have F33 := box_grown F33 g ((by omega : gd5 ≠ gd3))
  clear g z E53
  have KZ := ext_refl x53
  have sla := slc_one SA
  have slb := slc_one SB
  have hm := HM.out
  clear SA SB kk hE0 hE1 hE2 hE3 hgs
  go_upto_region 7 with fail
  refine wp_region_list ?_
  try simp only [List.append]
  obtain ⟨u0, hu0⟩ : ∃ u, hasB (usesN k) 0 = u := ⟨_, rfl⟩
  have CH0 : ∀ W, Calls Try.prog 31 #[.int .i64 k, .string ⟨#[84, 101, 120, 116]⟩] W (Says u0 W) := fun W => by
    have h := has_any k (nameB 0) W
    rw [names_mem k (by decide), hu0] at h
    exact h
  obtain ⟨u1, hu1⟩ : ∃ u, hasB (usesN k) 1 = u := ⟨_, rfl⟩
  have CH1 : ∀ W, Calls Try.prog 31 #[.int .i64 k, .string ⟨#[78]⟩] W (Says u1 W) := fun W => by
    have h := has_any k (nameB 1) W
    rw [names_mem k (by decide), hu1] at h
    exact h
  obtain ⟨u2, hu2⟩ : ∃ u, hasB (usesN k) 2 = u := ⟨_, rfl⟩
  have CH2 : ∀ W, Calls Try.prog 31 #[.int .i64 k, .string ⟨#[84, 97, 114, 103, 101, 116]⟩] W (Says u2 W) := fun W => by
    have h := has_any k (nameB 2) W
    rw [names_mem k (by decide), hu2] at h
    exact h
  obtain ⟨u3, hu3⟩ : ∃ u, hasB (usesN k) 3 = u := ⟨_, rfl⟩
  have CH3 : ∀ W, Calls Try.prog 31 #[.int .i64 k, .string ⟨#[84, 104, 114, 101, 97, 100]⟩] W (Says u3 W) := fun W => by
    have h := has_any k (nameB 3) W
    rw [names_mem k (by decide), hu3] at h
    exact h
  obtain ⟨u4, hu4⟩ : ∃ u, hasB (usesN k) 4 = u := ⟨_, rfl⟩
  have CH4 : ∀ W, Calls Try.prog 31 #[.int .i64 k, .string ⟨#[86, 105, 97]⟩] W (Says u4 W) := fun W => by
    have h := has_any k (nameB 4) W
    rw [names_mem k (by decide), hu4] at h
    exact h
  obtain ⟨u5, hu5⟩ : ∃ u, hasB (usesN k) 5 = u := ⟨_, rfl⟩
  have CH5 : ∀ W, Calls Try.prog 31 #[.int .i64 k, .string ⟨#[65, 108, 108, 111, 119]⟩] W (Says u5 W) := fun W => by
    have h := has_any k (nameB 5) W
    rw [names_mem k (by decide), hu5] at h
    exact h
  obtain ⟨u6, hu6⟩ : ∃ u, hasB (usesN k) 6 = u := ⟨_, rfl⟩
  have CH6 : ∀ W, Calls Try.prog 31 #[.int .i64 k, .string ⟨#[68, 101, 110, 121]⟩] W (Says u6 W) := fun W => by
    have h := has_any k (nameB 6) W
    rw [names_mem k (by decide), hu6] at h
    exact h
  obtain ⟨u7, hu7⟩ : ∃ u, hasB (usesN k) 7 = u := ⟨_, rfl⟩
  have CH7 : ∀ W, Calls Try.prog 31 #[.int .i64 k, .string ⟨#[76, 101, 118, 101, 108, 115]⟩] W (Says u7 W) := fun W => by
    have h := has_any k (nameB 7) W
    rw [names_mem k (by decide), hu7] at h
    exact h
  refine wpList_val (.int .i64 k) rfl (by rfl) ?_
  refine wpList_gcall (b := true) 31 #[.int .i64 k, .string ⟨#[84, 101, 120, 116]⟩] (fun v w' => v = .bool u0 ∧ Below x53.heap.size x53 w') rfl (fun _ => by unfold execOp; go_simp) (fun _ => (CH0 x53).mono fun e w' hh => ⟨_, hh.1, rfl, hh.2⟩) ?_
  intro X wa0 hX _
  obtain ⟨rfl, hb⟩ := hX rfl
  have KZ := ext_trans KZ hb
  refine wpList_val (.bool u0) rfl (by rfl) ?_
  go_simp
  refine wpList_gval (b := !u0) (.int .i64 k) (by cases u0 <;> rfl) (fun _ => by rfl) ?_
  intro X1 hX1
  refine wpList_gval (b := !u0) (.agg (patch cs 0 [.string ⟨#[120]⟩]).toArray) (by cases u0 <;> rfl) (fun _ => run_load_op (.tmp 5) rfl strcC ⟨ga3, 0, none⟩ rfl (patch cs 0 [.string ⟨#[120]⟩]) (by rw [patch_length _ _ _ (by rw [HL.out]; simp)]; exact HL.out) (box_all (box_below F30 KZ))) ?_
  intro X2 hX2
  go_simp
  refine wpList_gcall (b := !u0) 30 #[X1, X2] (fun v w' => v = .int .i64 1 ∧ Below wa0.heap.size wa0 w') (by cases u0 <;> rfl) (fun _ => by unfold execOp; go_simp) (fun hb => by
    have HU : hasB (usesN k) 0 = false := by rw [hu0]; simpa using hb
    rw [hX1 hb, hX2 hb]
    exact (Check_any (k := k) ((R2.ext (ext_trans KB KZ)).set0 ⟨#[120]⟩) ⟨hm.via, hm.allowL, hm.denyL, hm.usersL, hm.kindsL, hm.allow, hm.users⟩).mono fun e w' hh => ⟨_, hh.1, by rw [use0 HU (by decide)], hh.2⟩) ?_
  intro X3 wb0 hX3 hW
  have hb2 : Below wa0.heap.size wa0 wb0 := by
    cases hu : u0
    · exact (hX3 (by rw [hu]; rfl)).2
    · rw [hW (by rw [hu]; rfl)]; exact ext_refl _
  have KZ := ext_trans KZ hb2
  refine wpList_gval (b := !u0) (.bool true) (by cases u0 <;> rfl) (fun hb => by
    obtain ⟨rfl, _⟩ := hX3 hb
    rfl) ?_
  intro X4 hX4
  refine wpList_val (.bool true) rfl (by
    cases u0 with
    | false => obtain rfl := hX4 rfl; rfl
    | true => rfl) ?_
  clear hX1 hX2 hX3 hX4 hW hb hb2 hX
  go_simp
  refine wpList_val (.bool true) rfl (by rfl) ?_
  go_simp
  refine wpList_val (.int .i64 k) rfl (by rfl) ?_
  refine wpList_gcall (b := true) 31 #[.int .i64 k, .string ⟨#[78]⟩] (fun v w' => v = .bool u1 ∧ Below wb0.heap.size wb0 w') rfl (fun _ => by unfold execOp; go_simp) (fun _ => (CH1 wb0).mono fun e w' hh => ⟨_, hh.1, rfl, hh.2⟩) ?_
  intro X wa1 hX _
  obtain ⟨rfl, hb⟩ := hX rfl
  have KZ := ext_trans KZ hb
  refine wpList_val (.bool u1) rfl (by rfl) ?_
  go_simp
  refine wpList_gval (b := !u1) (.int .i64 k) (by cases u1 <;> rfl) (fun _ => by rfl) ?_
  intro X1 hX1
  refine wpList_gval (b := !u1) (.agg (patch cs 1 [.int .i64 1]).toArray) (by cases u1 <;> rfl) (fun _ => run_load_op (.tmp 6) rfl strcC ⟨gb3, 0, none⟩ rfl (patch cs 1 [.int .i64 1]) (by rw [patch_length _ _ _ (by rw [HL.out]; simp)]; exact HL.out) (box_all (box_below F31 KZ))) ?_
  intro X2 hX2
  go_simp
  refine wpList_gcall (b := !u1) 30 #[X1, X2] (fun v w' => v = .int .i64 1 ∧ Below wa1.heap.size wa1 w') (by cases u1 <;> rfl) (fun _ => by unfold execOp; go_simp) (fun hb => by
    have HU : hasB (usesN k) 1 = false := by rw [hu1]; simpa using hb
    rw [hX1 hb, hX2 hb]
    exact (Check_any (k := k) ((R2.ext (ext_trans KB KZ)).set1 1) ⟨hm.via, hm.allowL, hm.denyL, hm.usersL, hm.kindsL, hm.allow, hm.users⟩).mono fun e w' hh => ⟨_, hh.1, by rw [use1 HU], hh.2⟩) ?_
  intro X3 wb1 hX3 hW
  have hb2 : Below wa1.heap.size wa1 wb1 := by
    cases hu : u1
    · exact (hX3 (by rw [hu]; rfl)).2
    · rw [hW (by rw [hu]; rfl)]; exact ext_refl _
  have KZ := ext_trans KZ hb2
  refine wpList_gval (b := !u1) (.bool true) (by cases u1 <;> rfl) (fun hb => by
    obtain ⟨rfl, _⟩ := hX3 hb
    rfl) ?_
  intro X4 hX4
  refine wpList_val (.bool true) rfl (by
    cases u1 with
    | false => obtain rfl := hX4 rfl; rfl
    | true => rfl) ?_
  clear hX1 hX2 hX3 hX4 hW hb hb2 hX
  go_simp
  refine wpList_val (.bool true) rfl (by rfl) ?_
  refine wpList_val (.bool true) rfl (by rfl) ?_
  go_simp
  refine wpList_val (.int .i64 k) rfl (by rfl) ?_
  refine wpList_gcall (b := true) 31 #[.int .i64 k, .string ⟨#[84, 97, 114, 103, 101, 116]⟩] (fun v w' => v = .bool u2 ∧ Below wb1.heap.size wb1 w') rfl (fun _ => by unfold execOp; go_simp) (fun _ => (CH2 wb1).mono fun e w' hh => ⟨_, hh.1, rfl, hh.2⟩) ?_
  intro X wa2 hX _
  obtain ⟨rfl, hb⟩ := hX rfl
  have KZ := ext_trans KZ hb
  refine wpList_val (.bool u2) rfl (by rfl) ?_
  go_simp
  refine wpList_gval (b := !u2) (.int .i64 k) (by cases u2 <;> rfl) (fun _ => by rfl) ?_
  intro X1 hX1
  refine wpList_gval (b := !u2) (.agg (patch cs 2 [.int .i64 1]).toArray) (by cases u2 <;> rfl) (fun _ => run_load_op (.tmp 7) rfl strcC ⟨gc3, 0, none⟩ rfl (patch cs 2 [.int .i64 1]) (by rw [patch_length _ _ _ (by rw [HL.out]; simp)]; exact HL.out) (box_all (box_below F32 KZ))) ?_
  intro X2 hX2
  go_simp
  refine wpList_gcall (b := !u2) 30 #[X1, X2] (fun v w' => v = .int .i64 1 ∧ Below wa2.heap.size wa2 w') (by cases u2 <;> rfl) (fun _ => by unfold execOp; go_simp) (fun hb => by
    have HU : hasB (usesN k) 2 = false := by rw [hu2]; simpa using hb
    rw [hX1 hb, hX2 hb]
    exact (Check_any (k := k) ((R2.ext (ext_trans KB KZ)).set2 1) ⟨hm.via, hm.allowL, hm.denyL, hm.usersL, hm.kindsL, hm.allow, hm.users⟩).mono fun e w' hh => ⟨_, hh.1, by rw [use2 HU], hh.2⟩) ?_
  intro X3 wb2 hX3 hW
  have hb2 : Below wa2.heap.size wa2 wb2 := by
    cases hu : u2
    · exact (hX3 (by rw [hu]; rfl)).2
    · rw [hW (by rw [hu]; rfl)]; exact ext_refl _
  have KZ := ext_trans KZ hb2
  refine wpList_gval (b := !u2) (.bool true) (by cases u2 <;> rfl) (fun hb => by
    obtain ⟨rfl, _⟩ := hX3 hb
    rfl) ?_
  intro X4 hX4
  refine wpList_val (.bool true) rfl (by
    cases u2 with
    | false => obtain rfl := hX4 rfl; rfl
    | true => rfl) ?_
  clear hX1 hX2 hX3 hX4 hW hb hb2 hX
  go_simp
  refine wpList_val (.bool true) rfl (by rfl) ?_
  refine wpList_val (.bool true) rfl (by rfl) ?_
  go_simp
  refine wpList_val (.int .i64 k) rfl (by rfl) ?_
  refine wpList_gcall (b := true) 31 #[.int .i64 k, .string ⟨#[86, 105, 97]⟩] (fun v w' => v = .bool u4 ∧ Below wb2.heap.size wb2 w') rfl (fun _ => by unfold execOp; go_simp) (fun _ => (CH4 wb2).mono fun e w' hh => ⟨_, hh.1, rfl, hh.2⟩) ?_
  intro X wa3 hX _
  obtain ⟨rfl, hb⟩ := hX rfl
  have KZ := ext_trans KZ hb
  refine wpList_val (.bool u4) rfl (by rfl) ?_
  go_simp
  refine wpList_gval (b := !u4) (.int .i64 k) (by cases u4 <;> rfl) (fun _ => by rfl) ?_
  intro X1 hX1
  refine wpList_gval (b := !u4) (.agg (patch cs 4 [.string ⟨#[64, 97, 58, 98]⟩]).toArray) (by cases u4 <;> rfl) (fun _ => run_load_op (.tmp 8) rfl strcC ⟨gd3, 0, none⟩ rfl (patch cs 4 [.string ⟨#[64, 97, 58, 98]⟩]) (by rw [patch_length _ _ _ (by rw [HL.out]; simp)]; exact HL.out) (box_all (box_below F33 KZ))) ?_
  intro X2 hX2
  go_simp
  refine wpList_gcall (b := !u4) 30 #[X1, X2] (fun v w' => v = .int .i64 1 ∧ Below wa3.heap.size wa3 w') (by cases u4 <;> rfl) (fun _ => by unfold execOp; go_simp) (fun hb => by
    have HU : hasB (usesN k) 4 = false := by rw [hu4]; simpa using hb
    rw [hX1 hb, hX2 hb]
    exact (Check_any (k := k) ((R2.ext (ext_trans KB KZ)).set4 ⟨#[64, 97, 58, 98]⟩) ⟨(show 4 ≤ 1073741824 by decide), hm.allowL, hm.denyL, hm.usersL, hm.kindsL, hm.allow, hm.users⟩).mono fun e w' hh => ⟨_, hh.1, by rw [use4 HU (by decide)], hh.2⟩) ?_
  intro X3 wb3 hX3 hW
  have hb2 : Below wa3.heap.size wa3 wb3 := by
    cases hu : u4
    · exact (hX3 (by rw [hu]; rfl)).2
    · rw [hW (by rw [hu]; rfl)]; exact ext_refl _
  have KZ := ext_trans KZ hb2
  refine wpList_gval (b := !u4) (.bool true) (by cases u4 <;> rfl) (fun hb => by
    obtain ⟨rfl, _⟩ := hX3 hb
    rfl) ?_
  intro X4 hX4
  refine wpList_val (.bool true) rfl (by
    cases u4 with
    | false => obtain rfl := hX4 rfl; rfl
    | true => rfl) ?_
  clear hX1 hX2 hX3 hX4 hW hb hb2 hX
  go_simp
  refine wpList_val (.bool true) rfl (by rfl) ?_
  refine wpList_val (.bool true) rfl (by rfl) ?_
  go_simp
  refine wpList_val (.int .i64 k) rfl (by rfl) ?_
  refine wpList_gcall (b := true) 31 #[.int .i64 k, .string ⟨#[84, 104, 114, 101, 97, 100]⟩] (fun v w' => v = .bool u3 ∧ Below wb3.heap.size wb3 w') rfl (fun _ => by unfold execOp; go_simp) (fun _ => (CH3 wb3).mono fun e w' hh => ⟨_, hh.1, rfl, hh.2⟩) ?_
  intro X wa4 hX _
  obtain ⟨rfl, hb⟩ := hX rfl
  have KZ := ext_trans KZ hb
  refine wpList_val (.bool u3) rfl (by rfl) ?_
  go_simp
  refine wpList_gval (b := !u3) (.int .i64 k) (by cases u3 <;> rfl) (fun _ => by rfl) ?_
  intro X1 hX1
  refine wpList_gval (b := !u3) (.agg (patch cs 3 [.bool true]).toArray) (by cases u3 <;> rfl) (fun _ => run_load_op (.tmp 9) rfl strcC ⟨ga5, 0, none⟩ rfl (patch cs 3 [.bool true]) (by rw [patch_length _ _ _ (by rw [HL.out]; simp)]; exact HL.out) (box_all (box_below F50 KZ))) ?_
  intro X2 hX2
  go_simp
  refine wpList_gcall (b := !u3) 30 #[X1, X2] (fun v w' => v = .int .i64 1 ∧ Below wa4.heap.size wa4 w') (by cases u3 <;> rfl) (fun _ => by unfold execOp; go_simp) (fun hb => by
    have HU : hasB (usesN k) 3 = false := by rw [hu3]; simpa using hb
    rw [hX1 hb, hX2 hb]
    exact (Check_any (k := k) ((R2.ext (ext_trans KB KZ)).set3 true) ⟨hm.via, hm.allowL, hm.denyL, hm.usersL, hm.kindsL, hm.allow, hm.users⟩).mono fun e w' hh => ⟨_, hh.1, by rw [use3 HU], hh.2⟩) ?_
  intro X3 wb4 hX3 hW
  have hb2 : Below wa4.heap.size wa4 wb4 := by
    cases hu : u3
    · exact (hX3 (by rw [hu]; rfl)).2
    · rw [hW (by rw [hu]; rfl)]; exact ext_refl _
  have KZ := ext_trans KZ hb2
  refine wpList_gval (b := !u3) (.bool true) (by cases u3 <;> rfl) (fun hb => by
    obtain ⟨rfl, _⟩ := hX3 hb
    rfl) ?_
  intro X4 hX4
  refine wpList_val (.bool true) rfl (by
    cases u3 with
    | false => obtain rfl := hX4 rfl; rfl
    | true => rfl) ?_
  clear hX1 hX2 hX3 hX4 hW hb hb2 hX
  go_simp
  refine wpList_val (.bool true) rfl (by rfl) ?_
  refine wpList_val (.bool true) rfl (by rfl) ?_
  go_simp
  refine wpList_val (.int .i64 k) rfl (by rfl) ?_
  refine wpList_gcall (b := true) 31 #[.int .i64 k, .string ⟨#[65, 108, 108, 111, 119]⟩] (fun v w' => v = .bool u5 ∧ Below wb4.heap.size wb4 w') rfl (fun _ => by unfold execOp; go_simp) (fun _ => (CH5 wb4).mono fun e w' hh => ⟨_, hh.1, rfl, hh.2⟩) ?_
  intro X wa5 hX _
  obtain ⟨rfl, hb⟩ := hX rfl
  have KZ := ext_trans KZ hb
  refine wpList_val (.bool u5) rfl (by rfl) ?_
  go_simp
  refine wpList_gval (b := !u5) (.int .i64 k) (by cases u5 <;> rfl) (fun _ => by rfl) ?_
  intro X1 hX1
  refine wpList_gval (b := !u5) (.agg (patch cs 5 [.slice (some ⟨gs, 0, none⟩) 1 1]).toArray) (by cases u5 <;> rfl) (fun _ => run_load_op (.tmp 10) rfl strcC ⟨gb5, 0, none⟩ rfl (patch cs 5 [.slice (some ⟨gs, 0, none⟩) 1 1]) (by rw [patch_length _ _ _ (by rw [HL.out]; simp)]; exact HL.out) (box_all (box_below F51 KZ))) ?_
  intro X2 hX2
  go_simp
  refine wpList_gcall (b := !u5) 30 #[X1, X2] (fun v w' => v = .int .i64 1 ∧ Below wa5.heap.size wa5 w') (by cases u5 <;> rfl) (fun _ => by unfold execOp; go_simp) (fun hb => by
    have HU : hasB (usesN k) 5 = false := by rw [hu5]; simpa using hb
    rw [hX1 hb, hX2 hb]
    exact (Check_any (k := k) ((R2.ext (ext_trans KB KZ)).set5 (sla.ext KZ)) ⟨hm.via, (show 1 ≤ 1073741824 by decide), hm.denyL, hm.usersL, hm.kindsL, fun x hx => by simp only [List.mem_cons, List.not_mem_nil, or_false] at hx; subst hx; decide, hm.users⟩).mono fun e w' hh => ⟨_, hh.1, by rw [use5 HU], hh.2⟩) ?_
  intro X3 wb5 hX3 hW
  have hb2 : Below wa5.heap.size wa5 wb5 := by
    cases hu : u5
    · exact (hX3 (by rw [hu]; rfl)).2
    · rw [hW (by rw [hu]; rfl)]; exact ext_refl _
  have KZ := ext_trans KZ hb2
  refine wpList_gval (b := !u5) (.bool true) (by cases u5 <;> rfl) (fun hb => by
    obtain ⟨rfl, _⟩ := hX3 hb
    rfl) ?_
  intro X4 hX4
  refine wpList_val (.bool true) rfl (by
    cases u5 with
    | false => obtain rfl := hX4 rfl; rfl
    | true => rfl) ?_
  clear hX1 hX2 hX3 hX4 hW hb hb2 hX
  go_simp
  refine wpList_val (.bool true) rfl (by rfl) ?_
  refine wpList_val (.bool true) rfl (by rfl) ?_
  go_simp
  refine wpList_val (.int .i64 k) rfl (by rfl) ?_
  refine wpList_gcall (b := true) 31 #[.int .i64 k, .string ⟨#[68, 101, 110, 121]⟩] (fun v w' => v = .bool u6 ∧ Below wb5.heap.size wb5 w') rfl (fun _ => by unfold execOp; go_simp) (fun _ => (CH6 wb5).mono fun e w' hh => ⟨_, hh.1, rfl, hh.2⟩) ?_
  intro X wa6 hX _
  obtain ⟨rfl, hb⟩ := hX rfl
  have KZ := ext_trans KZ hb
  refine wpList_val (.bool u6) rfl (by rfl) ?_
  go_simp
  refine wpList_gval (b := !u6) (.int .i64 k) (by cases u6 <;> rfl) (fun _ => by rfl) ?_
  intro X1 hX1
  refine wpList_gval (b := !u6) (.agg (patch cs 6 [.slice (some ⟨gs + 1, 0, none⟩) 1 1]).toArray) (by cases u6 <;> rfl) (fun _ => run_load_op (.tmp 11) rfl strcC ⟨gc5, 0, none⟩ rfl (patch cs 6 [.slice (some ⟨gs + 1, 0, none⟩) 1 1]) (by rw [patch_length _ _ _ (by rw [HL.out]; simp)]; exact HL.out) (box_all (box_below F52 KZ))) ?_
  intro X2 hX2
  go_simp
  refine wpList_gcall (b := !u6) 30 #[X1, X2] (fun v w' => v = .int .i64 1 ∧ Below wa6.heap.size wa6 w') (by cases u6 <;> rfl) (fun _ => by unfold execOp; go_simp) (fun hb => by
    have HU : hasB (usesN k) 6 = false := by rw [hu6]; simpa using hb
    rw [hX1 hb, hX2 hb]
    exact (Check_any (k := k) ((R2.ext (ext_trans KB KZ)).set6 (slb.ext KZ)) ⟨hm.via, hm.allowL, (show 1 ≤ 1073741824 by decide), hm.usersL, hm.kindsL, hm.allow, hm.users⟩).mono fun e w' hh => ⟨_, hh.1, by rw [use6 HU], hh.2⟩) ?_
  intro X3 wb6 hX3 hW
  have hb2 : Below wa6.heap.size wa6 wb6 := by
    cases hu : u6
    · exact (hX3 (by rw [hu]; rfl)).2
    · rw [hW (by rw [hu]; rfl)]; exact ext_refl _
  have KZ := ext_trans KZ hb2
  refine wpList_gval (b := !u6) (.bool true) (by cases u6 <;> rfl) (fun hb => by
    obtain ⟨rfl, _⟩ := hX3 hb
    rfl) ?_
  intro X4 hX4
  refine wpList_val (.bool true) rfl (by
    cases u6 with
    | false => obtain rfl := hX4 rfl; rfl
    | true => rfl) ?_
  clear hX1 hX2 hX3 hX4 hW hb hb2 hX
  go_simp
  refine wpList_val (.bool true) rfl (by rfl) ?_
  refine wpList_val (.bool true) rfl (by rfl) ?_
  go_simp
  refine wpList_val (.int .i64 k) rfl (by rfl) ?_
  refine wpList_gcall (b := true) 31 #[.int .i64 k, .string ⟨#[76, 101, 118, 101, 108, 115]⟩] (fun v w' => v = .bool u7 ∧ Below wb6.heap.size wb6 w') rfl (fun _ => by unfold execOp; go_simp) (fun _ => (CH7 wb6).mono fun e w' hh => ⟨_, hh.1, rfl, hh.2⟩) ?_
  intro X wa7 hX _
  obtain ⟨rfl, hb⟩ := hX rfl
  have KZ := ext_trans KZ hb
  refine wpList_val (.bool u7) rfl (by rfl) ?_
  go_simp
  refine wpList_gval (b := !u7) (.int .i64 k) (by cases u7 <;> rfl) (fun _ => by rfl) ?_
  intro X1 hX1
  refine wpList_gval (b := !u7) (.agg (patch cs 13 [.int .i64 1]).toArray) (by cases u7 <;> rfl) (fun _ => run_load_op (.tmp 12) rfl strcC ⟨gd5, 0, none⟩ rfl (patch cs 13 [.int .i64 1]) (by rw [patch_length _ _ _ (by rw [HL.out]; simp)]; exact HL.out) (box_all (box_below F53 KZ))) ?_
  intro X2 hX2
  go_simp
  refine wpList_gcall (b := !u7) 30 #[X1, X2] (fun v w' => v = .int .i64 1 ∧ Below wa7.heap.size wa7 w') (by cases u7 <;> rfl) (fun _ => by unfold execOp; go_simp) (fun hb => by
    have HU : hasB (usesN k) 7 = false := by rw [hu7]; simpa using hb
    rw [hX1 hb, hX2 hb]
    exact (Check_any (k := k) ((R2.ext (ext_trans KB KZ)).set7 1) ⟨hm.via, hm.allowL, hm.denyL, hm.usersL, hm.kindsL, hm.allow, hm.users⟩).mono fun e w' hh => ⟨_, hh.1, by rw [use7 HU], hh.2⟩) ?_
  intro X3 wb7 hX3 hW
  have hb2 : Below wa7.heap.size wa7 wb7 := by
    cases hu : u7
    · exact (hX3 (by rw [hu]; rfl)).2
    · rw [hW (by rw [hu]; rfl)]; exact ext_refl _
  have KZ := ext_trans KZ hb2
  refine wpList_gval (b := !u7) (.bool true) (by cases u7 <;> rfl) (fun hb => by
    obtain ⟨rfl, _⟩ := hX3 hb
    rfl) ?_
  intro X4 hX4
  refine wpList_val (.bool true) rfl (by
    cases u7 with
    | false => obtain rfl := hX4 rfl; rfl
    | true => rfl) ?_
  clear hX1 hX2 hX3 hX4 hW hb hb2 hX
  go_simp
  refine wpList_val (.bool true) rfl (by rfl) ?_
  refine wpList_val (.bool true) rfl (by rfl) ?_
  go_simp
  have hE := ext_trans hbc (ext_trans KB KZ)
  clear R2 KB KZ F30 F31 F32 F33 F50 F51 F52 F53
  go_wp2_with (go_at_call 15; refine (live_any _).mono ?_; rintro e wl ⟨rfl, hbl⟩)
  go_ret
  exact ⟨rfl, ext_trans hE hbl⟩
end
end Go.Proofs.Ytehenalnkkkajaa

/-
  ContentStrips: the walk.
-/
import Derived.Test.YtehenalnkkkajaaSmall6
import Derived.Test.YtehenalnkkkajaaLaw6P
import Derived.Test.YtehenalnkkkajaaPhaseB
set_option linter.unusedVariables false
set_option linter.unusedSimpArgs false
namespace Go.Proofs.Ytehenalnkkkajaa
open Go.RowKit
open Classical
section
attribute [local go_sem] Addr.add_mid
theorem same_lists {w : World} {S S2 : Nat → Prop} {A A2 : Option Addr} {c c2 : Nat} {l : List ByteArray} (h : Slc w S (.slice A l.length c) 1 l.length (svs l)) (h2 : Slc w S2 (.slice A2 l.length c2) 1 l.length (svs l)) (hl : l.length ≤ 1073741824) :
    Calls Try.prog 21 #[.slice A l.length c, .slice A2 l.length c2] w (Asks true w) := by
  obtain ⟨A', c', hv, _, _, _, hr, _⟩ := h.form
  injection hv with e1 e2 e3
  subst e1
  obtain ⟨A2', c2', hv2, _, _, _, hr2, _⟩ := h2.form
  injection hv2 with e1 e2 e3
  subst e1
  have := R6Texts_any (c := c) (c2 := c2) hr hr2 hl hl
  rwa [decide_eq_true rfl] at this
set_option maxRecDepth 100000 in
set_option maxHeartbeats 4000000 in
theorem strips6_any {cs : List Value} {c : Con} {k : Int} {w : World} (hr : ConR w Any cs c) (ho : c.ok) : Calls Try.prog 4 #[.int .i64 k, .agg cs.toArray] w (Says true w) := by
  have HR := hide hr; have HO := hide ho; have HL := hide hr.length
  have B := heap_alloc_new w (.cells cs.toArray 33)
  have hb := ext_alloc (ext_refl w) (.cells cs.toArray 33)
  clear hr ho
  go_enter Try.func4, Try.ntmps4
  go_upto_region 1 with fail
  generalize w.alloc (.cells cs.toArray 33) = W at B hb ⊢
  have HB := hide B
  clear B
  go_wp2_with (refine wpList_loadS rfl (.tmp 3) rfl strcC ⟨w.heap.size, 0, none⟩ rfl cs HL.out (box_all HB.out) ?_)
  refine (small6_any (HR.out.ext hb)).mono ?_
  rintro e w1 ⟨b, rfl, hs, hb1⟩
  have hbb := ext_trans hb hb1
  cases b
  case false =>
    go_wp2_with fail
    go_ret
    exact ⟨rfl, hbb⟩
  have HS := hide (hs rfl)
  have HB1 := hide (box_below HB.out hb1)
  have R1 := HR.out.ext hbb
  clear hs hb hb1 HB
  have f1 := (HS.out.fine HO.out).fit
  have f2 := stripC_fit (k := k) f1
  have CA := fun W (h : Below w1.heap.size w1 W) => CStrip_any (k := k) (R1.ext h) f1
  have CB := fun W (h : Below w1.heap.size w1 W) => R6Strip_any (k := k) (R1.ext h)
  have CU := fun W => Uses_any k W
  have CV := fun W => R6Uses_any k W
  have CS := fun W => state_any k W
  have CT := fun W => r6_state k W
  obtain ⟨d, hd⟩ : ∃ d, stripC k c = d := ⟨_, rfl⟩
  obtain ⟨us, hus⟩ : ∃ us, usesL k = us := ⟨_, rfl⟩
  have hul : us.length ≤ 1073741824 := by rw [← hus]; have := namesL_len (usesN k) 8; unfold usesL; omega
  obtain ⟨st, hst⟩ : ∃ st, stateB k = st := ⟨_, rfl⟩
  rw [hd] at f2
  simp only [hd] at CA CB
  simp only [hus] at CU CV
  simp only [hst] at CS CT
  clear hd hus hst
  go_wp2_with fail
  refine wp_region_now (by kernel_rfl) ?_
  intro Y hY
  have T0 : Below Y.heap.size Y Y := ext_refl Y
  have HB1Y := hide (box_below HB1.out hY)
  refine wpAnyP_take (i := 0) rfl (by kernel_rfl) (by kernel_rfl) (by kernel_rfl) (by kernel_rfl) (fun _ _ _ h => h) (yieldsIf_run (.int .i64 k) rfl (fun w' => by go_simp)) T0 ?_
  refine wpAnyP_take (i := 1) rfl (by kernel_rfl) (by kernel_rfl) (by kernel_rfl) (by kernel_rfl) (fun _ _ _ h => h) (yieldsIf_loadS rfl (.tmp 3) rfl strcC ⟨w.heap.size, 0, none⟩ rfl cs HL.out (fun w2 hT => box_all (box_below HB1Y.out hT))) T0 ?_
  refine wpAnyP_take (i := 3) rfl (by kernel_rfl) (by kernel_rfl) (by kernel_rfl) (by kernel_rfl) (fun _ _ _ h => h) (yieldsIf_run (.int .i64 k) rfl (fun w' => by go_simp)) T0 ?_
  go_simp
  refine wpAnyP_take (i := 4) rfl (by kernel_rfl) (by kernel_rfl) (by kernel_rfl) (by kernel_rfl) (fun _ _ _ h => h) (yieldsIf_loadS rfl (.tmp 3) rfl strcC ⟨w.heap.size, 0, none⟩ rfl cs HL.out (fun w2 hT => box_all (box_below HB1Y.out hT))) T0 ?_
  go_simp
  refine wpAnyP_oneQ (i := 2) (by kernel_rfl) rfl ?_
  go_wp2_with fail
  refine (CA _ (ext_trans hY T0)).mono ?_
  rintro e c1 ⟨cs1, rfl, R1, hc1⟩
  have T1 := ext_trans T0 hc1
  go_wp2_with fail
  refine nextQ T1 ?_
  go_simp
  go_simp
  refine wpAnyP_oneQ (i := 5) (by kernel_rfl) rfl ?_
  go_wp2_with fail
  refine (CB _ (ext_trans hY T1)).mono ?_
  rintro e c2 ⟨cs2, rfl, R2, hc2⟩
  have T2 := ext_trans T1 hc2
  go_wp2_with fail
  refine nextQ T2 ?_
  go_simp
  go_simp
  refine wpAnyP_oneQ (i := 6) (by kernel_rfl) rfl ?_
  go_wp2_with fail
  have CX3 := CSame_any (R1.ext hc2) R2 f2 f2
  simp only [decide_true] at CX3
  refine CX3.mono ?_
  rintro e c3 ⟨rfl, hc3⟩
  clear CX3
  have T3 := ext_trans T2 hc3
  go_wp2_with fail
  refine nextQ T3 ?_
  go_simp
  refine wpAnyP_take (i := 7) rfl (by kernel_rfl) (by kernel_rfl) (by kernel_rfl) (by kernel_rfl) (fun _ _ _ h => h) (yieldsIf_run (.bool true) rfl (fun w' => by go_simp)) T3 ?_
  refine wpAnyP_take (i := 8) rfl (by kernel_rfl) (by kernel_rfl) (by kernel_rfl) (by kernel_rfl) (fun _ _ _ h => h) (yieldsIf_run (.int .i64 k) rfl (fun w' => by go_simp)) T3 ?_
  go_simp
  refine wpAnyP_take (i := 9) rfl (by kernel_rfl) (by kernel_rfl) (by kernel_rfl) (by kernel_rfl) (fun _ _ _ h => h) (yieldsIf_loadS rfl (.tmp 3) rfl strcC ⟨w.heap.size, 0, none⟩ rfl cs HL.out (fun w2 hT => box_all (box_below HB1Y.out hT))) T3 ?_
  refine wpAnyP_take (i := 11) rfl (by kernel_rfl) (by kernel_rfl) (by kernel_rfl) (by kernel_rfl) (fun _ _ _ h => h) (yieldsIf_run (.int .i64 k) rfl (fun w' => by go_simp)) T3 ?_
  refine wpAnyP_take (i := 12) rfl (by kernel_rfl) (by kernel_rfl) (by kernel_rfl) (by kernel_rfl) (fun _ _ _ h => h) (yieldsIf_loadS rfl (.tmp 3) rfl strcC ⟨w.heap.size, 0, none⟩ rfl cs HL.out (fun w2 hT => box_all (box_below HB1Y.out hT))) T3 ?_
  go_simp
  go_simp
  refine wpAnyP_oneQ (i := 10) (by kernel_rfl) rfl ?_
  go_wp2_with fail
  refine (CA _ (ext_trans hY T3)).mono ?_
  rintro e c4 ⟨cs4, rfl, R4, hc4⟩
  have T4 := ext_trans T3 hc4
  go_wp2_with fail
  refine nextQ T4 ?_
  go_simp
  go_simp
  refine wpAnyP_oneQ (i := 13) (by kernel_rfl) rfl ?_
  go_wp2_with fail
  refine (CB _ (ext_trans hY T4)).mono ?_
  rintro e c5 ⟨cs5, rfl, R5, hc5⟩
  have T5 := ext_trans T4 hc5
  go_wp2_with fail
  refine nextQ T5 ?_
  go_simp
  go_simp
  refine wpAnyP_oneQ (i := 14) (by kernel_rfl) rfl ?_
  go_wp2_with fail
  have CX6 := R6Same_any (R4.ext hc5) R5 f2 f2
  simp only [decide_true] at CX6
  refine CX6.mono ?_
  rintro e c6 ⟨rfl, hc6⟩
  clear CX6
  have T6 := ext_trans T5 hc6
  go_wp2_with fail
  refine nextQ T6 ?_
  go_simp
  refine wpAnyP_take (i := 15) rfl (by kernel_rfl) (by kernel_rfl) (by kernel_rfl) (by kernel_rfl) (fun _ _ _ h => h) (yieldsIf_run (.bool true) rfl (fun w' => by go_simp)) T6 ?_
  refine wpAnyP_take (i := 16) rfl (by kernel_rfl) (by kernel_rfl) (by kernel_rfl) (by kernel_rfl) (fun _ _ _ h => h) (yieldsIf_run (.bool true) rfl (fun w' => by go_simp)) T6 ?_
  refine wpAnyP_take (i := 17) rfl (by kernel_rfl) (by kernel_rfl) (by kernel_rfl) (by kernel_rfl) (fun _ _ _ h => h) (yieldsIf_run (.int .i64 k) rfl (fun w' => by go_simp)) T6 ?_
  go_simp
  refine wpAnyP_take (i := 19) rfl (by kernel_rfl) (by kernel_rfl) (by kernel_rfl) (by kernel_rfl) (fun _ _ _ h => h) (yieldsIf_run (.int .i64 k) rfl (fun w' => by go_simp)) T6 ?_
  go_simp
  refine wpAnyP_oneQ (i := 18) (by kernel_rfl) rfl ?_
  go_wp2_with fail
  refine (CU _).mono ?_
  rintro e c7 ⟨A7, k7, rfl, S7, hc7⟩
  have T7 := ext_trans T6 hc7
  go_wp2_with fail
  refine nextQ T7 ?_
  go_simp
  go_simp
  refine wpAnyP_oneQ (i := 20) (by kernel_rfl) rfl ?_
  go_wp2_with fail
  refine (CV _).mono ?_
  rintro e c8 ⟨A8, k8, rfl, S8, hc8⟩
  have T8 := ext_trans T7 hc8
  go_wp2_with fail
  refine nextQ T8 ?_
  go_simp
  go_simp
  refine wpAnyP_oneQ (i := 21) (by kernel_rfl) rfl ?_
  go_wp2_with fail
  refine (same_lists (S7.ext hc8) S8 hul).mono ?_
  rintro e c9 ⟨rfl, m9, hw9⟩
  have hc9 : Below c8.heap.size c8 c9 := by rw [hw9]; exact below_drewN (ext_refl _) m9
  have T9 := ext_trans T8 hc9
  clear hw9
  go_wp2_with fail
  refine nextQ T9 ?_
  go_simp
  refine wpAnyP_take (i := 22) rfl (by kernel_rfl) (by kernel_rfl) (by kernel_rfl) (by kernel_rfl) (fun _ _ _ h => h) (yieldsIf_run (.bool true) rfl (fun w' => by go_simp)) T9 ?_
  refine wpAnyP_take (i := 23) rfl (by kernel_rfl) (by kernel_rfl) (by kernel_rfl) (by kernel_rfl) (fun _ _ _ h => h) (yieldsIf_run (.bool true) rfl (fun w' => by go_simp)) T9 ?_
  go_simp
  refine wpAnyP_take (i := 24) rfl (by kernel_rfl) (by kernel_rfl) (by kernel_rfl) (by kernel_rfl) (fun _ _ _ h => h) (yieldsIf_run (.int .i64 k) rfl (fun w' => by go_simp)) T9 ?_
  refine wpAnyP_take (i := 26) rfl (by kernel_rfl) (by kernel_rfl) (by kernel_rfl) (by kernel_rfl) (fun _ _ _ h => h) (yieldsIf_run (.int .i64 k) rfl (fun w' => by go_simp)) T9 ?_
  go_simp
  refine wpAnyP_oneQ (i := 25) (by kernel_rfl) rfl ?_
  go_wp2_with fail
  refine (CS _).mono ?_
  rintro e c10 ⟨rfl, hw10⟩
  have hc10 : Below c9.heap.size c9 c10 := by rw [hw10]; exact ext_refl _
  have T10 := ext_trans T9 hc10
  clear hw10
  go_wp2_with fail
  refine nextQ T10 ?_
  go_simp
  go_simp
  refine wpAnyP_oneQ (i := 27) (by kernel_rfl) rfl ?_
  go_wp2_with fail
  refine (CT _).mono ?_
  rintro e c11 ⟨rfl, hw11⟩
  have hc11 : Below c10.heap.size c10 c11 := by rw [hw11]; exact ext_refl _
  have T11 := ext_trans T10 hc11
  clear hw11
  go_wp2_with fail
  refine nextQ T11 ?_
  go_simp
  refine wpAnyP_take (i := 28) rfl (by kernel_rfl) (by kernel_rfl) (by kernel_rfl) (by kernel_rfl) (fun _ _ _ h => h) (yieldsIf_run (.bool true) rfl (fun w' => by go_simp)) T11 ?_
  go_simp
  refine wpAnyP_take (i := 29) rfl (by kernel_rfl) (by kernel_rfl) (by kernel_rfl) (by kernel_rfl) (fun _ _ _ h => h) (yieldsIf_run (.bool true) rfl (fun w' => by go_simp)) T11 ?_
  refine wpAnyP_take (i := 30) rfl (by kernel_rfl) (by kernel_rfl) (by kernel_rfl) (by kernel_rfl) (fun _ _ _ h => h) (yieldsIf_run (.bool true) rfl (fun w' => by go_simp)) T11 ?_
  go_simp
  refine wpAnyP_oneQ (i := 31) (by kernel_rfl) rfl ?_
  go_wp2_with fail
  refine (live_any _).mono ?_
  rintro e c12 ⟨rfl, hc12⟩
  have T12 := ext_trans T11 hc12
  go_wp2_with fail
  refine nextQ T12 ?_
  go_simp
  refine wpAnyP_take (i := 32) rfl (by kernel_rfl) (by kernel_rfl) (by kernel_rfl) (by kernel_rfl) (fun _ _ _ h => h) (yieldsIf_run (.bool true) rfl (fun w' => by go_simp)) T12 ?_
  go_simp
  refine wpAnyP_take (i := 33) rfl (by kernel_rfl) (by kernel_rfl) (by kernel_rfl) (by kernel_rfl) (fun _ _ _ h => h) (yieldsIf_run (.bool true) rfl (fun w' => by go_simp)) T12 ?_
  go_simp
  refine wpAnyP_done (by kernel_rfl) ?_
  go_wp2_with fail
  go_ret
  exact ⟨rfl, ext_trans hbb (ext_trans hY T12)⟩
end
end Go.Proofs.Ytehenalnkkkajaa

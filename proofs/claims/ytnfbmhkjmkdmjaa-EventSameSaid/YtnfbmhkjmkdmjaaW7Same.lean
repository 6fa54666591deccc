/-
  EventSame: the walk.
-/
import Derived.Test.YtnfbmhkjmkdmjaaLives
import Derived.Test.YtnfbmhkjmkdmjaaEvP
import Derived.Test.YtnfbmhkjmkdmjaaPhaseB
set_option linter.unusedVariables false
set_option linter.unusedSimpArgs false
namespace Go.Proofs.Ytnfbmhkjmkdmjaa
open Go.RowKit
open Classical
section
attribute [local go_sem] Addr.add_mid
set_option maxRecDepth 100000 in
set_option maxHeartbeats 8000000 in
theorem same7_any {cs ds : List Value} {e d : Ev} {w : World} (hr : EvR w Any cs e) (ho : e.ok) (hr2 : EvR w Any ds d) (ho2 : d.ok) : Calls Try.prog 6 #[.agg cs.toArray, .agg ds.toArray] w (Says true w) := by
  have HR := hide hr; have HO := hide ho; have HL := hide hr.length
  have HR2 := hide hr2; have HO2 := hide ho2; have HM := hide hr2.length
  have BA := heap_alloc2_old w (.cells cs.toArray 34) (.cells ds.toArray 34)
  have BB := heap_alloc2_new w (.cells cs.toArray 34) (.cells ds.toArray 34)
  have hb := below_two w (.cells cs.toArray 34) (.cells ds.toArray 34)
  clear hr ho hr2 ho2
  go_enter Try.func6, Try.ntmps6
  go_upto_region 1 with fail
  generalize (w.alloc (.cells cs.toArray 34)).alloc (.cells ds.toArray 34) = W at BA BB hb ⊢
  have HA := hide BA; have HB := hide BB
  clear BA BB
  go_wp2_with (refine wpList_loadS rfl (.tmp 2) rfl strcE ⟨w.heap.size, 0, none⟩ rfl cs HL.out (box_all HA.out) ?_)
  refine (small7_any (HR.out.ext hb) HO.out).mono ?_
  rintro x w1 ⟨b, rfl, hs, hb1⟩
  have hbb := ext_trans hb hb1
  cases b
  case false =>
    go_wp2_with (go_at_call 8; refine (lives_any _).mono ?_; rintro x wl ⟨rfl, hbl⟩)
    go_ret
    exact ⟨rfl, ext_trans hbb hbl⟩
  have HG := hide (hs rfl)
  have HA1 := hide (box_below HA.out hb1); have HB1 := hide (box_below HB.out hb1)
  clear hs
  go_wp2_with (refine wpList_loadS rfl (.tmp 3) rfl strcE ⟨w.heap.size + 1, 0, none⟩ rfl ds HM.out (box_all HB1.out) ?_)
  refine (small7_any (HR2.out.ext hbb) HO2.out).mono ?_
  rintro x w2 ⟨b, rfl, hs, hb2⟩
  have hbc := ext_trans hbb hb2
  cases b
  case false =>
    go_wp2_with (go_at_call 8; refine (lives_any _).mono ?_; rintro x wl ⟨rfl, hbl⟩)
    go_ret
    exact ⟨rfl, ext_trans hbc hbl⟩
  have HG2 := hide (hs rfl)
  have HA2 := hide (box_below HA1.out hb2); have HB2 := hide (box_below HB1.out hb2)
  have R1 := HR.out.ext hbc
  have R2 := HR2.out.ext hbc
  clear hs hb hb1 hb2 hbb HA HB HA1 HB1
  have f1 := HG.out.fitE
  have f2 := HG2.out.fitE
  have CA := fun W (h : Below w2.heap.size w2 W) => ESame_any (R1.ext h) (R2.ext h) f1 f2
  have CB := fun W (h : Below w2.heap.size w2 W) => R7Same_any (R1.ext h) (R2.ext h) f1 f2
  have CC := fun W (h : Below w2.heap.size w2 W) => ESame_any (R1.ext h) (R1.ext h) f1 f1
  have CD := fun W (h : Below w2.heap.size w2 W) => ESame_any (R2.ext h) (R1.ext h) f2 f1
  have hde : decide (d = e) = decide (e = d) := by by_cases h : e = d <;> simp [h, eq_comm]
  simp only [hde] at CD
  obtain ⟨v, hv⟩ : ∃ v, decide (e = d) = v := ⟨_, rfl⟩
  simp only [hv] at CA CB CD
  simp only [decide_true] at CC
  clear hv R1 R2 f1 f2 hde
  go_wp2_with fail
  refine wp_region_now (by kernel_rfl) ?_
  intro Y hY
  have T0 : Below Y.heap.size Y Y := ext_refl Y
  have HA2Y := hide (box_below HA2.out hY)
  have HB2Y := hide (box_below HB2.out hY)
  refine wpAnyP_take (i := 0) rfl (by kernel_rfl) (by kernel_rfl) (by kernel_rfl) (by kernel_rfl) (fun _ _ _ h => h) (yieldsIf_loadS rfl (.tmp 2) rfl strcE ⟨w.heap.size, 0, none⟩ rfl cs HL.out (fun w2 hT => box_all (box_below HA2Y.out hT))) T0 ?_
  refine wpAnyP_take (i := 1) rfl (by kernel_rfl) (by kernel_rfl) (by kernel_rfl) (by kernel_rfl) (fun _ _ _ h => h) (yieldsIf_loadS rfl (.tmp 3) rfl strcE ⟨w.heap.size + 1, 0, none⟩ rfl ds HM.out (fun w2 hT => box_all (box_below HB2Y.out hT))) T0 ?_
  refine wpAnyP_take (i := 3) rfl (by kernel_rfl) (by kernel_rfl) (by kernel_rfl) (by kernel_rfl) (fun _ _ _ h => h) (yieldsIf_loadS rfl (.tmp 2) rfl strcE ⟨w.heap.size, 0, none⟩ rfl cs HL.out (fun w2 hT => box_all (box_below HA2Y.out hT))) T0 ?_
  go_simp
  refine wpAnyP_take (i := 4) rfl (by kernel_rfl) (by kernel_rfl) (by kernel_rfl) (by kernel_rfl) (fun _ _ _ h => h) (yieldsIf_loadS rfl (.tmp 3) rfl strcE ⟨w.heap.size + 1, 0, none⟩ rfl ds HM.out (fun w2 hT => box_all (box_below HB2Y.out hT))) T0 ?_
  go_simp
  refine wpAnyP_oneQ (i := 2) (by kernel_rfl) rfl ?_
  go_wp2_with fail
  refine (CA _ (ext_trans hY T0)).mono ?_
  rintro x c1 ⟨rfl, hc1⟩
  have T1 := ext_trans T0 hc1
  go_wp2_with fail
  refine nextQ T1 ?_
  go_simp
  go_simp
  refine wpAnyP_oneQ (i := 5) (by kernel_rfl) rfl ?_
  go_wp2_with fail
  refine (CB _ (ext_trans hY T1)).mono ?_
  rintro x c2 ⟨rfl, hc2⟩
  have T2 := ext_trans T1 hc2
  go_wp2_with fail
  refine nextQ T2 ?_
  go_simp
  refine wpAnyP_take (i := 6) rfl (by kernel_rfl) (by kernel_rfl) (by kernel_rfl) (by kernel_rfl) (fun _ _ _ h => h) (yieldsIf_run (.bool true) rfl (fun w' => by go_simp)) T2 ?_
  refine wpAnyP_take (i := 7) rfl (by kernel_rfl) (by kernel_rfl) (by kernel_rfl) (by kernel_rfl) (fun _ _ _ h => h) (yieldsIf_run (.bool true) rfl (fun w' => by go_simp)) T2 ?_
  go_simp
  refine wpAnyP_take (i := 8) rfl (by kernel_rfl) (by kernel_rfl) (by kernel_rfl) (by kernel_rfl) (fun _ _ _ h => h) (yieldsIf_loadS rfl (.tmp 2) rfl strcE ⟨w.heap.size, 0, none⟩ rfl cs HL.out (fun w2 hT => box_all (box_below HA2Y.out hT))) T2 ?_
  refine wpAnyP_take (i := 9) rfl (by kernel_rfl) (by kernel_rfl) (by kernel_rfl) (by kernel_rfl) (fun _ _ _ h => h) (yieldsIf_loadS rfl (.tmp 2) rfl strcE ⟨w.heap.size, 0, none⟩ rfl cs HL.out (fun w2 hT => box_all (box_below HA2Y.out hT))) T2 ?_
  go_simp
  refine wpAnyP_oneQ (i := 10) (by kernel_rfl) rfl ?_
  go_wp2_with fail
  refine (CC _ (ext_trans hY T2)).mono ?_
  rintro x c3 ⟨rfl, hc3⟩
  have T3 := ext_trans T2 hc3
  go_wp2_with fail
  refine nextQ T3 ?_
  go_simp
  refine wpAnyP_take (i := 11) rfl (by kernel_rfl) (by kernel_rfl) (by kernel_rfl) (by kernel_rfl) (fun _ _ _ h => h) (yieldsIf_run (.bool true) rfl (fun w' => by go_simp)) T3 ?_
  go_simp
  refine wpAnyP_take (i := 12) rfl (by kernel_rfl) (by kernel_rfl) (by kernel_rfl) (by kernel_rfl) (fun _ _ _ h => h) (yieldsIf_run (.bool true) rfl (fun w' => by go_simp)) T3 ?_
  refine wpAnyP_take (i := 13) rfl (by kernel_rfl) (by kernel_rfl) (by kernel_rfl) (by kernel_rfl) (fun _ _ _ h => h) (yieldsIf_loadS rfl (.tmp 3) rfl strcE ⟨w.heap.size + 1, 0, none⟩ rfl ds HM.out (fun w2 hT => box_all (box_below HB2Y.out hT))) T3 ?_
  refine wpAnyP_take (i := 14) rfl (by kernel_rfl) (by kernel_rfl) (by kernel_rfl) (by kernel_rfl) (fun _ _ _ h => h) (yieldsIf_loadS rfl (.tmp 2) rfl strcE ⟨w.heap.size, 0, none⟩ rfl cs HL.out (fun w2 hT => box_all (box_below HA2Y.out hT))) T3 ?_
  go_simp
  refine wpAnyP_take (i := 16) rfl (by kernel_rfl) (by kernel_rfl) (by kernel_rfl) (by kernel_rfl) (fun _ _ _ h => h) (yieldsIf_loadS rfl (.tmp 2) rfl strcE ⟨w.heap.size, 0, none⟩ rfl cs HL.out (fun w2 hT => box_all (box_below HA2Y.out hT))) T3 ?_
  refine wpAnyP_take (i := 17) rfl (by kernel_rfl) (by kernel_rfl) (by kernel_rfl) (by kernel_rfl) (fun _ _ _ h => h) (yieldsIf_loadS rfl (.tmp 3) rfl strcE ⟨w.heap.size + 1, 0, none⟩ rfl ds HM.out (fun w2 hT => box_all (box_below HB2Y.out hT))) T3 ?_
  go_simp
  refine wpAnyP_oneQ (i := 15) (by kernel_rfl) rfl ?_
  go_wp2_with fail
  refine (CD _ (ext_trans hY T3)).mono ?_
  rintro x c4 ⟨rfl, hc4⟩
  have T4 := ext_trans T3 hc4
  go_wp2_with fail
  refine nextQ T4 ?_
  go_simp
  go_simp
  refine wpAnyP_oneQ (i := 18) (by kernel_rfl) rfl ?_
  go_wp2_with fail
  refine (CA _ (ext_trans hY T4)).mono ?_
  rintro x c5 ⟨rfl, hc5⟩
  have T5 := ext_trans T4 hc5
  go_wp2_with fail
  refine nextQ T5 ?_
  go_simp
  refine wpAnyP_take (i := 19) rfl (by kernel_rfl) (by kernel_rfl) (by kernel_rfl) (by kernel_rfl) (fun _ _ _ h => h) (yieldsIf_run (.bool true) rfl (fun w' => by go_simp)) T5 ?_
  go_simp
  refine wpAnyP_take (i := 20) rfl (by kernel_rfl) (by kernel_rfl) (by kernel_rfl) (by kernel_rfl) (fun _ _ _ h => h) (yieldsIf_run (.bool true) rfl (fun w' => by go_simp)) T5 ?_
  refine wpAnyP_take (i := 21) rfl (by kernel_rfl) (by kernel_rfl) (by kernel_rfl) (by kernel_rfl) (fun _ _ _ h => h) (yieldsIf_run (.bool true) rfl (fun w' => by go_simp)) T5 ?_
  go_simp
  refine wpAnyP_oneQ (i := 22) (by kernel_rfl) rfl ?_
  go_wp2_with fail
  refine (lives_any _).mono ?_
  rintro x c6 ⟨rfl, hc6⟩
  have T6 := ext_trans T5 hc6
  go_wp2_with fail
  refine nextQ T6 ?_
  go_simp
  refine wpAnyP_take (i := 23) rfl (by kernel_rfl) (by kernel_rfl) (by kernel_rfl) (by kernel_rfl) (fun _ _ _ h => h) (yieldsIf_run (.bool true) rfl (fun w' => by go_simp)) T6 ?_
  go_simp
  refine wpAnyP_take (i := 24) rfl (by kernel_rfl) (by kernel_rfl) (by kernel_rfl) (by kernel_rfl) (fun _ _ _ h => h) (yieldsIf_run (.bool true) rfl (fun w' => by go_simp)) T6 ?_
  go_simp
  refine wpAnyP_done (by kernel_rfl) ?_
  go_wp2_with fail
  go_ret
  exact ⟨rfl, ext_trans hbc (ext_trans hY T6)⟩
end
end Go.Proofs.Ytnfbmhkjmkdmjaa

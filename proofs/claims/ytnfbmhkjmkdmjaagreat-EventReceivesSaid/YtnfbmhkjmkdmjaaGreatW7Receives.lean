/-
  EventReceives: the walk.
-/
import Derived.Test.YtnfbmhkjmkdmjaaGreatLives
import Derived.Test.YtnfbmhkjmkdmjaaGreatEvP
import Derived.Test.YtnfbmhkjmkdmjaaGreatREvVer
import Derived.Test.YtnfbmhkjmkdmjaaGreatPhaseB
set_option linter.unusedVariables false
set_option linter.unusedSimpArgs false
namespace Go.Proofs.YtnfbmhkjmkdmjaaGreat
open Go.RowKit
open Classical
section
attribute [local go_sem] Addr.add_mid
set_option maxRecDepth 100000 in
set_option maxHeartbeats 8000000 in
theorem receives7_any {cs : List Value} {e : Ev} {w : World} (hr : EvR w Any cs e) (ho : e.ok) : Calls Tryz.prog 6 #[.agg cs.toArray] w (Says true w) := by
  have HR := hide hr; have HO := hide ho; have HL := hide hr.length
  have B := heap_alloc_new w (.cells cs.toArray 34)
  have hb := ext_alloc (ext_refl w) (.cells cs.toArray 34)
  clear hr ho
  go_enter Tryz.func6, Tryz.ntmps6
  go_upto_region 1 with fail
  generalize w.alloc (.cells cs.toArray 34) = W at B hb ⊢
  have HB := hide B
  clear B
  go_wp2_with (refine wpList_loadS rfl (.tmp 1) rfl strcE ⟨w.heap.size, 0, none⟩ rfl cs HL.out (box_all HB.out) ?_)
  refine (small7_any (HR.out.ext hb) HO.out).mono ?_
  rintro x w1 ⟨b, rfl, hs, hb1⟩
  have hbb := ext_trans hb hb1
  cases b
  case false =>
    go_wp2_with (go_at_call 10; refine (lives_any _).mono ?_; rintro x wl ⟨rfl, hbl⟩)
    go_ret
    exact ⟨rfl, ext_trans hbb hbl⟩
  have HG := hide (hs rfl)
  have HB1 := hide (box_below HB.out hb1)
  have R1 := HR.out.ext hbb
  clear hs hb hb1 HB
  have CR := Receive_any R1 HG.out
  have CQ := fun W (h : Below w1.heap.size w1 W) => R7Receive_any (R1.ext h) HG.out
  have CA := fun W (h : Below w1.heap.size w1 W) => Verify_any (R1.ext h) HG.out
  have CB := fun W (h : Below w1.heap.size w1 W) => R7Verify_any (R1.ext h) HG.out
  obtain ⟨v, hv⟩ : ∃ v, verE e = v := ⟨_, rfl⟩
  obtain ⟨vr, hvr⟩ : ∃ v, verE (recE e) = v := ⟨_, rfl⟩
  have fX : (if vr = 0 then recE e else Ev.zero).fit := by
    split
    · exact (recE_good HG.out).fitE
    · exact zero7_fit
  unfold RecV at CR CQ
  simp only [hvr] at CR CQ
  obtain ⟨X, hX⟩ : ∃ X, (if vr = 0 then recE e else Ev.zero) = X := ⟨_, rfl⟩
  simp only [hX] at CR CQ
  rw [hX] at fX
  simp only [hv] at CA CB
  clear hv hvr hX R1
  go_upto_region 4 with (first
    | refine wpList_loadS rfl (.tmp 1) rfl strcE ⟨w.heap.size, 0, none⟩ rfl cs HL.out (box_all HB1.out) ?_
    | (go_at_call 23; refine CR.mono ?_; rintro x w2 ⟨cs3, rfl, R3, hb2⟩; have HL3 := hide R3.length; have HO3 := hide R3.one)
    | refine wpList_newS rfl rfl strcE rfl (.tmp 3) (.tmp 14) rfl rfl rfl cs3.toArray rfl (by simpa using HL3.out) (by simpa using HO3.out) ?_)
  have B3 := heap_alloc_new w2 (.cells cs3.toArray 34)
  have hb3 := ext_alloc (ext_refl w2) (.cells cs3.toArray 34)
  have hb13 := ext_trans hb2 hb3
  have R3 := R3.any.ext hb3
  have HB1 := hide (box_below HB1.out hb13)
  generalize w2.alloc (.cells cs3.toArray 34) = w3 at B3 hb13 R3 HB1 hb3 ⊢
  generalize w2.heap.size = g3 at B3 hb3 ⊢
  have HR3 := hide R3
  have HB3 := hide B3
  clear B3 hb3 hb2 R3 CR
  go_upto_region 5 with (first
    | refine wpList_loadS rfl (.tmp 1) rfl strcE ⟨w.heap.size, 0, none⟩ rfl cs HL.out (box_all HB1.out) ?_
    | (go_at_call 26; refine (CQ _ hb13).mono ?_; rintro x w4 ⟨cs5, rfl, R5, hb4⟩; have HL5 := hide R5.length; have HO5 := hide R5.one)
    | refine wpList_newS rfl rfl strcE rfl (.tmp 5) (.tmp 19) rfl rfl rfl cs5.toArray rfl (by simpa using HL5.out) (by simpa using HO5.out) ?_)
  have B5 := heap_alloc_new w4 (.cells cs5.toArray 34)
  have hb5 := ext_alloc (ext_refl w4) (.cells cs5.toArray 34)
  have hb35 := ext_trans hb4 hb5
  have hb15 := ext_trans hb13 hb35
  have R5 := R5.any.ext hb5
  have R3 := HR3.out.ext hb35
  have HB1 := hide (box_below HB1.out hb35)
  have HB3 := hide (box_below HB3.out hb35)
  generalize w4.alloc (.cells cs5.toArray 34) = w5 at B5 hb15 hb35 R5 R3 HB1 HB3 hb5 ⊢
  generalize w4.heap.size = g5 at B5 hb5 ⊢
  have HB5 := hide B5
  have CA := fun W (h : Below w5.heap.size w5 W) => CA W (ext_trans hb15 h)
  have CB := fun W (h : Below w5.heap.size w5 W) => CB W (ext_trans hb15 h)
  have CS := fun W (h : Below w5.heap.size w5 W) => R7Same_any (R3.ext h) (R5.ext h) fX fX
  simp only [decide_true] at CS
  clear B5 hb5 hb4 R3 R5 CQ HR3 hb13 hb35
  refine wp_region_now (by kernel_rfl) ?_
  intro Y hY
  have T0 : Below Y.heap.size Y Y := ext_refl Y
  have HB1Y := hide (box_below HB1.out hY)
  have HB3Y := hide (box_below HB3.out hY)
  have HB5Y := hide (box_below HB5.out hY)
  refine wpAnyP_take (i := 0) rfl (by kernel_rfl) (by kernel_rfl) (by kernel_rfl) (by kernel_rfl) (fun _ _ _ h => h) (yieldsIf_loadS rfl (.tmp 1) rfl strcE ⟨w.heap.size, 0, none⟩ rfl cs HL.out (fun w2 hT => box_all (box_below HB1Y.out hT))) T0 ?_
  refine wpAnyP_take (i := 2) rfl (by kernel_rfl) (by kernel_rfl) (by kernel_rfl) (by kernel_rfl) (fun _ _ _ h => h) (yieldsIf_loadS rfl (.tmp 1) rfl strcE ⟨w.heap.size, 0, none⟩ rfl cs HL.out (fun w2 hT => box_all (box_below HB1Y.out hT))) T0 ?_
  go_simp
  refine wpAnyP_oneQ (i := 1) (by kernel_rfl) rfl ?_
  go_wp2_with fail
  refine (CA _ (ext_trans hY T0)).mono ?_
  rintro x c1 ⟨rfl, hc1⟩
  have T1 := ext_trans T0 hc1
  go_wp2_with fail
  refine nextQ T1 ?_
  go_simp
  go_simp
  refine wpAnyP_oneQ (i := 3) (by kernel_rfl) rfl ?_
  go_wp2_with fail
  refine (CB _ (ext_trans hY T1)).mono ?_
  rintro x c2 ⟨rfl, hc2⟩
  have T2 := ext_trans T1 hc2
  go_wp2_with fail
  refine nextQ T2 ?_
  go_simp
  refine wpAnyP_take (i := 4) rfl (by kernel_rfl) (by kernel_rfl) (by kernel_rfl) (by kernel_rfl) (fun _ _ _ h => h) (yieldsIf_run (.bool true) rfl (fun w' => by go_simp)) T2 ?_
  go_simp
  refine wpAnyP_take (i := 5) rfl (by kernel_rfl) (by kernel_rfl) (by kernel_rfl) (by kernel_rfl) (fun _ _ _ h => h) (yieldsIf_run (.bool true) rfl (fun w' => by go_simp)) T2 ?_
  refine wpAnyP_take (i := 6) rfl (by kernel_rfl) (by kernel_rfl) (by kernel_rfl) (by kernel_rfl) (fun _ _ _ h => h) (yieldsIf_run (.int .i64 vr) rfl (fun w' => by go_simp)) T2 ?_
  refine wpAnyP_take (i := 7) rfl (by kernel_rfl) (by kernel_rfl) (by kernel_rfl) (by kernel_rfl) (fun _ _ _ h => h) (yieldsIf_run (.int .i64 vr) rfl (fun w' => by go_simp)) T2 ?_
  go_simp
  refine wpAnyP_take (i := 8) rfl (by kernel_rfl) (by kernel_rfl) (by kernel_rfl) (by kernel_rfl) (fun _ _ _ h => h) (yieldsIf_run (.bool true) rfl (fun w' => by go_simp)) T2 ?_
  refine wpAnyP_take (i := 9) rfl (by kernel_rfl) (by kernel_rfl) (by kernel_rfl) (by kernel_rfl) (fun _ _ _ h => h) (yieldsIf_run (.bool true) rfl (fun w' => by go_simp)) T2 ?_
  refine wpAnyP_take (i := 10) rfl (by kernel_rfl) (by kernel_rfl) (by kernel_rfl) (by kernel_rfl) (fun _ _ _ h => h) (yieldsIf_run (.bool true) rfl (fun w' => by go_simp)) T2 ?_
  go_simp
  refine wpAnyP_take (i := 11) rfl (by kernel_rfl) (by kernel_rfl) (by kernel_rfl) (by kernel_rfl) (fun _ _ _ h => h) (yieldsIf_loadS rfl (.tmp 3) rfl strcE ⟨g3, 0, none⟩ rfl cs3 HL3.out (fun w2 hT => box_all (box_below HB3Y.out hT))) T2 ?_
  refine wpAnyP_take (i := 12) rfl (by kernel_rfl) (by kernel_rfl) (by kernel_rfl) (by kernel_rfl) (fun _ _ _ h => h) (yieldsIf_loadS rfl (.tmp 5) rfl strcE ⟨g5, 0, none⟩ rfl cs5 HL5.out (fun w2 hT => box_all (box_below HB5Y.out hT))) T2 ?_
  go_simp
  refine wpAnyP_oneQ (i := 13) (by kernel_rfl) rfl ?_
  go_wp2_with fail
  refine (CS _ (ext_trans hY T2)).mono ?_
  rintro x c3 ⟨rfl, hc3⟩
  have T3 := ext_trans T2 hc3
  go_wp2_with fail
  refine nextQ T3 ?_
  go_simp
  refine wpAnyP_take (i := 14) rfl (by kernel_rfl) (by kernel_rfl) (by kernel_rfl) (by kernel_rfl) (fun _ _ _ h => h) (yieldsIf_run (.bool true) rfl (fun w' => by go_simp)) T3 ?_
  go_simp
  refine wpAnyP_take (i := 15) rfl (by kernel_rfl) (by kernel_rfl) (by kernel_rfl) (by kernel_rfl) (fun _ _ _ h => h) (yieldsIf_run (.bool true) rfl (fun w' => by go_simp)) T3 ?_
  go_simp
  refine wpAnyP_oneQ (i := 16) (by kernel_rfl) rfl ?_
  go_wp2_with fail
  refine (lives_any _).mono ?_
  rintro x c4 ⟨rfl, hc4⟩
  have T4 := ext_trans T3 hc4
  go_wp2_with fail
  refine nextQ T4 ?_
  go_simp
  refine wpAnyP_take (i := 17) rfl (by kernel_rfl) (by kernel_rfl) (by kernel_rfl) (by kernel_rfl) (fun _ _ _ h => h) (yieldsIf_run (.bool true) rfl (fun w' => by go_simp)) T4 ?_
  refine wpAnyP_take (i := 18) rfl (by kernel_rfl) (by kernel_rfl) (by kernel_rfl) (by kernel_rfl) (fun _ _ _ h => h) (yieldsIf_run (.bool true) rfl (fun w' => by go_simp)) T4 ?_
  go_simp
  go_simp
  refine wpAnyP_done (by kernel_rfl) ?_
  go_wp2_with fail
  go_ret
  exact ⟨rfl, ext_trans hbb (ext_trans hb15 (ext_trans hY T4))⟩
end
end Go.Proofs.YtnfbmhkjmkdmjaaGreat

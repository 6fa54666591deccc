/-
  EventChecks: the walk.
-/
import Derived.Test.YtnfbmhkjmkdmjaaGreatLives
import Derived.Test.YtnfbmhkjmkdmjaaGreatEvP
import Derived.Test.YtnfbmhkjmkdmjaaGreatREvVer
import Derived.Test.YtnfbmhkjmkdmjaaGreatPhaseB
set_option linter.unusedVariables false
set_option linter.unusedSimpArgs false
namespace Go.Proofs.YtnfbmhkjmkdmjaaGreat
open Go.RowKit
open Classical
section
attribute [local go_sem] Addr.add_mid
set_option maxRecDepth 100000 in
set_option maxHeartbeats 8000000 in
theorem checks7_any {cs : List Value} {e : Ev} {w : World} (hr : EvR w Any cs e) (ho : e.ok) : Calls Tryz.prog 3 #[.agg cs.toArray] w (Says true w) := by
  have HR := hide hr; have HO := hide ho; have HL := hide hr.length
  have B := heap_alloc_new w (.cells cs.toArray 34)
  have hb := ext_alloc (ext_refl w) (.cells cs.toArray 34)
  clear hr ho
  go_enter Tryz.func3, Tryz.ntmps3
  go_upto_region 1 with fail
  generalize w.alloc (.cells cs.toArray 34) = W at B hb ⊢
  have HB := hide B
  clear B
  go_wp2_with (refine wpList_loadS rfl (.tmp 1) rfl strcE ⟨w.heap.size, 0, none⟩ rfl cs HL.out (box_all HB.out) ?_)
  refine (small7_any (HR.out.ext hb) HO.out).mono ?_
  rintro x w1 ⟨b, rfl, hs, hb1⟩
  have hbb := ext_trans hb hb1
  cases b
  case false =>
    go_wp2_with (go_at_call 10; refine (lives_any _).mono ?_; rintro x wl ⟨rfl, hbl⟩)
    go_ret
    exact ⟨rfl, ext_trans hbb hbl⟩
  have HG := hide (hs rfl)
  have HB1 := hide (box_below HB.out hb1)
  have R1 := HR.out.ext hbb
  clear hs hb hb1 HB
  have CA := fun W (h : Below w1.heap.size w1 W) => Ev.good.check (R1.ext h) HG.out
  have CB := fun W (h : Below w1.heap.size w1 W) => RCheck7_any (R1.ext h) HG.out
  obtain ⟨v, hv⟩ : ∃ v, evE e = v := ⟨_, rfl⟩
  simp only [hv] at CA CB
  clear hv R1
  go_wp2_with fail
  refine wp_region_now (by kernel_rfl) ?_
  intro Y hY
  have T0 : Below Y.heap.size Y Y := ext_refl Y
  have HB1Y := hide (box_below HB1.out hY)
  refine wpAnyP_take (i := 0) rfl (by kernel_rfl) (by kernel_rfl) (by kernel_rfl) (by kernel_rfl) (fun _ _ _ h => h) (yieldsIf_loadS rfl (.tmp 1) rfl strcE ⟨w.heap.size, 0, none⟩ rfl cs HL.out (fun w2 hT => box_all (box_below HB1Y.out hT))) T0 ?_
  refine wpAnyP_take (i := 2) rfl (by kernel_rfl) (by kernel_rfl) (by kernel_rfl) (by kernel_rfl) (fun _ _ _ h => h) (yieldsIf_loadS rfl (.tmp 1) rfl strcE ⟨w.heap.size, 0, none⟩ rfl cs HL.out (fun w2 hT => box_all (box_below HB1Y.out hT))) T0 ?_
  go_simp
  refine wpAnyP_oneQ (i := 1) (by kernel_rfl) rfl ?_
  go_wp2_with fail
  refine (CA _ (ext_trans hY T0)).mono ?_
  rintro x c1 ⟨rfl, hc1⟩
  have T1 := ext_trans T0 hc1
  go_wp2_with fail
  refine nextQ T1 ?_
  go_simp
  go_simp
  refine wpAnyP_oneQ (i := 3) (by kernel_rfl) rfl ?_
  go_wp2_with fail
  refine (CB _ (ext_trans hY T1)).mono ?_
  rintro x c2 ⟨rfl, hc2⟩
  have T2 := ext_trans T1 hc2
  go_wp2_with fail
  refine nextQ T2 ?_
  go_simp
  refine wpAnyP_take (i := 4) rfl (by kernel_rfl) (by kernel_rfl) (by kernel_rfl) (by kernel_rfl) (fun _ _ _ h => h) (yieldsIf_run (.bool true) rfl (fun w' => by go_simp)) T2 ?_
  go_simp
  refine wpAnyP_take (i := 5) rfl (by kernel_rfl) (by kernel_rfl) (by kernel_rfl) (by kernel_rfl) (fun _ _ _ h => h) (yieldsIf_run (.bool true) rfl (fun w' => by go_simp)) T2 ?_
  go_simp
  refine wpAnyP_oneQ (i := 6) (by kernel_rfl) rfl ?_
  go_wp2_with fail
  refine (lives_any _).mono ?_
  rintro x c3 ⟨rfl, hc3⟩
  have T3 := ext_trans T2 hc3
  go_wp2_with fail
  refine nextQ T3 ?_
  go_simp
  refine wpAnyP_take (i := 7) rfl (by kernel_rfl) (by kernel_rfl) (by kernel_rfl) (by kernel_rfl) (fun _ _ _ h => h) (yieldsIf_run (.bool true) rfl (fun w' => by go_simp)) T3 ?_
  refine wpAnyP_take (i := 8) rfl (by kernel_rfl) (by kernel_rfl) (by kernel_rfl) (by kernel_rfl) (fun _ _ _ h => h) (yieldsIf_run (.bool true) rfl (fun w' => by go_simp)) T3 ?_
  go_simp
  go_simp
  refine wpAnyP_done (by kernel_rfl) ?_
  go_wp2_with fail
  go_ret
  exact ⟨rfl, ext_trans hbb (ext_trans hY T3)⟩
end
end Go.Proofs.YtnfbmhkjmkdmjaaGreat

/-
  ContentChecks: the walk.
-/
import Derived.Test.YtehenalnkkkajaaGreatSmall6
import Derived.Test.YtehenalnkkkajaaGreatCkQ
import Derived.Test.YtehenalnkkkajaaGreatPhaseB
set_option linter.unusedVariables false
set_option linter.unusedSimpArgs false
namespace Go.Proofs.YtehenalnkkkajaaGreat
open Go.RowKit
open Classical
section
attribute [local go_sem] Addr.add_mid
set_option maxRecDepth 100000 in
set_option maxHeartbeats 4000000 in
theorem checks6_any {cs : List Value} {c : Con} {k : Int} {w : World} (hr : ConR w Any cs c) (ho : c.ok) : Calls Tryz.prog 3 #[.int .i64 k, .agg cs.toArray] w (Says true w) := by
  have HR := hide hr; have HO := hide ho; have HL := hide hr.length
  have B := heap_alloc_new w (.cells cs.toArray 29)
  have hb := ext_alloc (ext_refl w) (.cells cs.toArray 29)
  clear hr ho
  go_enter Tryz.func3, Tryz.ntmps3
  go_upto_region 1 with fail
  generalize w.alloc (.cells cs.toArray 29) = W at B hb ⊢
  have HB := hide B
  clear B
  go_wp2_with (refine wpList_loadS rfl (.tmp 3) rfl strcC ⟨w.heap.size, 0, none⟩ rfl cs HL.out (box_all HB.out) ?_)
  refine (small6_any (HR.out.ext hb)).mono ?_
  rintro e w1 ⟨b, rfl, hs, hb1⟩
  have hbb := ext_trans hb hb1
  cases b
  case false =>
    go_wp2_with fail
    go_ret
    exact ⟨rfl, hbb⟩
  have HS := hide (hs rfl)
  have HB1 := hide (box_below HB.out hb1)
  have R1 := HR.out.ext hbb
  clear hs hb hb1 HB
  have hm := (HS.out.fine HO.out).mild
  have CA := fun W (h : Below w1.heap.size w1 W) => Check_any (k := k) (R1.ext h) hm
  have CB := fun W (h : Below w1.heap.size w1 W) => r6_Check (k := k) (R1.ext h) hm
  obtain ⟨v, hv⟩ : ∃ v, ckE k c = v := ⟨_, rfl⟩
  simp only [hv] at CA CB
  clear hv hm R1
  go_wp2_with fail
  refine wp_region_now (by kernel_rfl) ?_
  intro Y hY
  have T0 : Below Y.heap.size Y Y := ext_refl Y
  have HB1Y := hide (box_below HB1.out hY)
  refine wpAnyP_take (i := 0) rfl (by kernel_rfl) (by kernel_rfl) (by kernel_rfl) (by kernel_rfl) (fun _ _ _ h => h) (yieldsIf_run (.int .i64 k) rfl (fun w' => by go_simp)) T0 ?_
  refine wpAnyP_take (i := 1) rfl (by kernel_rfl) (by kernel_rfl) (by kernel_rfl) (by kernel_rfl) (fun _ _ _ h => h) (yieldsIf_loadS rfl (.tmp 3) rfl strcC ⟨w.heap.size, 0, none⟩ rfl cs HL.out (fun w2 hT => box_all (box_below HB1Y.out hT))) T0 ?_
  refine wpAnyP_take (i := 3) rfl (by kernel_rfl) (by kernel_rfl) (by kernel_rfl) (by kernel_rfl) (fun _ _ _ h => h) (yieldsIf_run (.int .i64 k) rfl (fun w' => by go_simp)) T0 ?_
  go_simp
  refine wpAnyP_take (i := 4) rfl (by kernel_rfl) (by kernel_rfl) (by kernel_rfl) (by kernel_rfl) (fun _ _ _ h => h) (yieldsIf_loadS rfl (.tmp 3) rfl strcC ⟨w.heap.size, 0, none⟩ rfl cs HL.out (fun w2 hT => box_all (box_below HB1Y.out hT))) T0 ?_
  go_simp
  refine wpAnyP_oneQ (i := 2) (by kernel_rfl) rfl ?_
  go_wp2_with fail
  refine (CA _ (ext_trans hY T0)).mono ?_
  rintro e c1 ⟨rfl, hc1⟩
  have T1 := ext_trans T0 hc1
  go_wp2_with fail
  refine nextQ T1 ?_
  go_simp
  go_simp
  refine wpAnyP_oneQ (i := 5) (by kernel_rfl) rfl ?_
  go_wp2_with fail
  refine (CB _ (ext_trans hY T1)).mono ?_
  rintro e c2 ⟨rfl, hc2⟩
  have T2 := ext_trans T1 hc2
  go_wp2_with fail
  refine nextQ T2 ?_
  go_simp
  refine wpAnyP_take (i := 6) rfl (by kernel_rfl) (by kernel_rfl) (by kernel_rfl) (by kernel_rfl) (fun _ _ _ h => h) (yieldsIf_run (.bool true) rfl (fun w' => by go_simp)) T2 ?_
  refine wpAnyP_take (i := 7) rfl (by kernel_rfl) (by kernel_rfl) (by kernel_rfl) (by kernel_rfl) (fun _ _ _ h => h) (yieldsIf_run (.bool true) rfl (fun w' => by go_simp)) T2 ?_
  go_simp
  go_simp
  refine wpAnyP_oneQ (i := 8) (by kernel_rfl) rfl ?_
  go_wp2_with fail
  refine (live_any _).mono ?_
  rintro e c3 ⟨rfl, hc3⟩
  have T3 := ext_trans T2 hc3
  go_wp2_with fail
  refine nextQ T3 ?_
  go_simp
  refine wpAnyP_take (i := 9) rfl (by kernel_rfl) (by kernel_rfl) (by kernel_rfl) (by kernel_rfl) (fun _ _ _ h => h) (yieldsIf_run (.bool true) rfl (fun w' => by go_simp)) T3 ?_
  refine wpAnyP_take (i := 10) rfl (by kernel_rfl) (by kernel_rfl) (by kernel_rfl) (by kernel_rfl) (fun _ _ _ h => h) (yieldsIf_run (.bool true) rfl (fun w' => by go_simp)) T3 ?_
  go_simp
  refine wpAnyP_done (by kernel_rfl) ?_
  go_wp2_with fail
  go_ret
  exact ⟨rfl, ext_trans hbb (ext_trans hY T3)⟩
end
end Go.Proofs.YtehenalnkkkajaaGreat

/-
  ContentStripsAgain: the walk.
-/
import Derived.Test.YtehenalnkkkajaaSmall6
import Derived.Test.YtehenalnkkkajaaLaw6P
import Derived.Test.YtehenalnkkkajaaPhaseB
set_option linter.unusedVariables false
set_option linter.unusedSimpArgs false
namespace Go.Proofs.Ytehenalnkkkajaa
open Go.RowKit
open Classical
section
attribute [local go_sem] Addr.add_mid
set_option maxRecDepth 100000 in
set_option maxHeartbeats 4000000 in
theorem stripsAgain6_any {cs : List Value} {c : Con} {k : Int} {w : World} (hr : ConR w Any cs c) (ho : c.ok) : Calls Try.prog 9 #[.int .i64 k, .agg cs.toArray] w (Says true w) := by
  have HR := hide hr; have HO := hide ho; have HL := hide hr.length
  have B := heap_alloc_new w (.cells cs.toArray 33)
  have hb := ext_alloc (ext_refl w) (.cells cs.toArray 33)
  clear hr ho
  go_enter Try.func9, Try.ntmps9
  go_upto_region 1 with fail
  generalize w.alloc (.cells cs.toArray 33) = W at B hb ⊢
  have HB := hide B
  clear B
  go_wp2_with (refine wpList_loadS rfl (.tmp 3) rfl strcC ⟨w.heap.size, 0, none⟩ rfl cs HL.out (box_all HB.out) ?_)
  refine (small6_any (HR.out.ext hb)).mono ?_
  rintro e w1 ⟨b, rfl, hs, hb1⟩
  have hbb := ext_trans hb hb1
  cases b
  case false =>
    go_wp2_with fail
    go_ret
    exact ⟨rfl, hbb⟩
  have HS := hide (hs rfl)
  have HB1 := hide (box_below HB.out hb1)
  have R1 := HR.out.ext hbb
  clear hs hb hb1 HB
  have f1 := (HS.out.fine HO.out).fit
  have f2 := stripC_fit (k := k) f1
  have ha := stripC_again k c
  have CA := fun W (h : Below w1.heap.size w1 W) => CStrip_any (k := k) (R1.ext h) f1
  obtain ⟨d, hd⟩ : ∃ d, stripC k c = d := ⟨_, rfl⟩
  rw [hd] at f2 ha
  simp only [hd] at CA
  clear hd
  go_upto_region 4 with (first
    | refine wpList_loadS rfl (.tmp 3) rfl strcC ⟨w.heap.size, 0, none⟩ rfl cs HL.out (box_all HB1.out) ?_
    | (go_at_call 18; (with_reducible refine (CA _ (ext_refl w1)).mono ?_); rintro e w2 ⟨cs2, rfl, R2, hb2⟩; have HL2 := hide R2.length; have HO2 := hide R2.one)
    | refine wpList_newS rfl rfl strcC rfl (.tmp 5) (.tmp 11) rfl rfl rfl cs2.toArray rfl (by simpa using HL2.out) (by simpa using HO2.out) ?_)
  have B2 := heap_alloc_new w2 (.cells cs2.toArray 33)
  have hb3 := ext_alloc (ext_refl w2) (.cells cs2.toArray 33)
  have R3 := R2.ext hb3
  generalize w2.alloc (.cells cs2.toArray 33) = w3 at B2 hb3 R3 ⊢
  generalize w2.heap.size = g2 at B2 ⊢
  have HB2 := hide B2
  clear B2
  have hb13 := ext_trans hb2 hb3
  have CB := fun W (h : Below w3.heap.size w3 W) => CStrip_any (k := k) (R3.ext h) f2
  simp only [ha] at CB
  go_wp2_with fail
  refine wp_region_now (by kernel_rfl) ?_
  intro Y hY
  have T0 : Below Y.heap.size Y Y := ext_refl Y
  have HB2Y := hide (box_below HB2.out hY)
  refine wpAnyP_take (i := 0) rfl (by kernel_rfl) (by kernel_rfl) (by kernel_rfl) (by kernel_rfl) (fun _ _ _ h => h) (yieldsIf_run (.int .i64 k) rfl (fun w' => by go_simp)) T0 ?_
  refine wpAnyP_take (i := 1) rfl (by kernel_rfl) (by kernel_rfl) (by kernel_rfl) (by kernel_rfl) (fun _ _ _ h => h) (yieldsIf_loadS rfl (.tmp 5) rfl strcC ⟨g2, 0, none⟩ rfl cs2 HL2.out (fun w2 hT => box_all (box_below HB2Y.out hT))) T0 ?_
  refine wpAnyP_take (i := 3) rfl (by kernel_rfl) (by kernel_rfl) (by kernel_rfl) (by kernel_rfl) (fun _ _ _ h => h) (yieldsIf_loadS rfl (.tmp 5) rfl strcC ⟨g2, 0, none⟩ rfl cs2 HL2.out (fun w2 hT => box_all (box_below HB2Y.out hT))) T0 ?_
  go_simp
  go_simp
  refine wpAnyP_oneQ (i := 2) (by kernel_rfl) rfl ?_
  go_wp2_with fail
  refine (CB _ (ext_trans hY T0)).mono ?_
  rintro e c1 ⟨cs1, rfl, R1, hc1⟩
  have T1 := ext_trans T0 hc1
  go_wp2_with fail
  refine nextQ T1 ?_
  go_simp
  go_simp
  refine wpAnyP_oneQ (i := 4) (by kernel_rfl) rfl ?_
  go_wp2_with fail
  have CX2 := CSame_any R1 (R3.ext (ext_trans hY T1)) f2 f2
  simp only [decide_true] at CX2
  refine CX2.mono ?_
  rintro e c2 ⟨rfl, hc2⟩
  clear CX2
  have T2 := ext_trans T1 hc2
  go_wp2_with fail
  refine nextQ T2 ?_
  go_simp
  refine wpAnyP_take (i := 5) rfl (by kernel_rfl) (by kernel_rfl) (by kernel_rfl) (by kernel_rfl) (fun _ _ _ h => h) (yieldsIf_run (.bool true) rfl (fun w' => by go_simp)) T2 ?_
  go_simp
  refine wpAnyP_oneQ (i := 6) (by kernel_rfl) rfl ?_
  go_wp2_with fail
  refine (live_any _).mono ?_
  rintro e c3 ⟨rfl, hc3⟩
  have T3 := ext_trans T2 hc3
  go_wp2_with fail
  refine nextQ T3 ?_
  go_simp
  refine wpAnyP_take (i := 7) rfl (by kernel_rfl) (by kernel_rfl) (by kernel_rfl) (by kernel_rfl) (fun _ _ _ h => h) (yieldsIf_run (.bool true) rfl (fun w' => by go_simp)) T3 ?_
  refine wpAnyP_take (i := 8) rfl (by kernel_rfl) (by kernel_rfl) (by kernel_rfl) (by kernel_rfl) (fun _ _ _ h => h) (yieldsIf_run (.bool true) rfl (fun w' => by go_simp)) T3 ?_
  go_simp
  go_simp
  refine wpAnyP_done (by kernel_rfl) ?_
  go_wp2_with fail
  go_ret
  exact ⟨rfl, ext_trans hbb (ext_trans hb13 (ext_trans hY T3))⟩
end
end Go.Proofs.Ytehenalnkkkajaa

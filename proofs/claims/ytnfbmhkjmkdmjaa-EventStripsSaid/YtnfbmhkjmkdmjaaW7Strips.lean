/-
  EventStrips: the walk.
-/
import Derived.Test.YtnfbmhkjmkdmjaaLives
import Derived.Test.YtnfbmhkjmkdmjaaEvP
import Derived.Test.YtnfbmhkjmkdmjaaW7P
import Derived.Test.YtnfbmhkjmkdmjaaREvStrM
import Derived.Test.YtnfbmhkjmkdmjaaPhaseB
set_option linter.unusedVariables false
set_option linter.unusedSimpArgs false
namespace Go.Proofs.Ytnfbmhkjmkdmjaa
open Go.RowKit
open Classical
section
attribute [local go_sem] Addr.add_mid
set_option maxRecDepth 100000 in
set_option maxHeartbeats 8000000 in
theorem strips7_any {cs : List Value} {e : Ev} {w : World} (hr : EvR w Any cs e) (ho : e.ok) : Calls Try.prog 3 #[.agg cs.toArray] w (Says true w) := by
  have HR := hide hr; have HO := hide ho; have HL := hide hr.length
  have B := heap_alloc_new w (.cells cs.toArray 34)
  have hb := ext_alloc (ext_refl w) (.cells cs.toArray 34)
  clear hr ho
  go_enter Try.func3, Try.ntmps3
  go_upto_region 1 with fail
  generalize w.alloc (.cells cs.toArray 34) = W at B hb ⊢
  have HB := hide B
  clear B
  go_wp2_with (refine wpList_loadS rfl (.tmp 1) rfl strcE ⟨w.heap.size, 0, none⟩ rfl cs HL.out (box_all HB.out) ?_)
  refine (small7_any (HR.out.ext hb) HO.out).mono ?_
  rintro x w1 ⟨b, rfl, hs, hb1⟩
  have hbb := ext_trans hb hb1
  cases b
  case false =>
    go_wp2_with (go_at_call 8; refine (lives_any _).mono ?_; rintro x wl ⟨rfl, hbl⟩)
    go_ret
    exact ⟨rfl, ext_trans hbb hbl⟩
  have HG := hide (hs rfl)
  have HB1 := hide (box_below HB.out hb1)
  have R1 := HR.out.ext hbb
  clear hs hb hb1 HB
  have CT := EStrip_any R1 HG.out.fit
  have CQ := fun W (h : Below w1.heap.size w1 W) => R7Strip_any (R1.ext h) HG.out.fit
  have CJ := fun W (h : Below w1.heap.size w1 W) => IdOf_any (R1.ext h) HG.out.fit HG.out.plain.puts
  have HG3 := hide HG.out.strip
  have ha := stripE_again e
  have hi := idV_strip e
  obtain ⟨E3, hE3⟩ : ∃ x, stripE e = x := ⟨_, rfl⟩
  rw [hE3] at CT HG3 ha hi
  simp only [hE3] at CQ
  obtain ⟨iv, hiv⟩ : ∃ v, idV e = v := ⟨_, rfl⟩
  simp only [hiv] at CJ
  rw [hiv] at hi
  have HA := hide ha
  have HI := hide hi
  clear hE3 ha hi hiv R1
  go_upto_region 4 with (first
    | refine wpList_loadS rfl (.tmp 1) rfl strcE ⟨w.heap.size, 0, none⟩ rfl cs HL.out (box_all HB1.out) ?_
    | (go_at_call 9; refine CT.mono ?_; rintro x w2 ⟨csA, rfl, RA, hb2⟩; have HL3 := hide RA.length; have HO3 := hide RA.one)
    | refine wpList_newS rfl rfl strcE rfl (.tmp 3) (.tmp 9) rfl rfl rfl csA.toArray rfl (by simpa using HL3.out) (by simpa using HO3.out) ?_)
  have B3 := heap_alloc_new w2 (.cells csA.toArray 34)
  have kx := ext_alloc (ext_refl w2) (.cells csA.toArray 34)
  have hb13 := ext_trans hb2 kx
  have RA := RA.any.ext kx
  have HB1 := hide (box_below HB1.out hb13)
  generalize w2.alloc (.cells csA.toArray 34) = w3 at B3 hb13 RA HB1 kx ⊢
  generalize w2.heap.size = g3 at B3 kx ⊢
  have HB3 := hide B3
  have f3 := HG3.out.fitE
  have CQ := fun W (h : Below w3.heap.size w3 W) => CQ W (ext_trans hb13 h)
  have CJ := fun W (h : Below w3.heap.size w3 W) => CJ W (ext_trans hb13 h)
  have CS := fun W (h : Below w3.heap.size w3 W) => EStrip_any (RA.ext h) HG3.out.fit
  have CI := fun W (h : Below w3.heap.size w3 W) => IdOf_any (RA.ext h) HG3.out.fit HG3.out.plain.puts
  simp only [HA.out] at CS
  simp only [HI.out] at CI
  clear B3 kx hb2 CT
  refine wp_region_now (by kernel_rfl) ?_
  intro Y hY
  have T0 : Below Y.heap.size Y Y := ext_refl Y
  have HB1Y := hide (box_below HB1.out hY)
  have HB3Y := hide (box_below HB3.out hY)
  refine wpAnyP_take (i := 0) rfl (by kernel_rfl) (by kernel_rfl) (by kernel_rfl) (by kernel_rfl) (fun _ _ _ h => h) (yieldsIf_loadS rfl (.tmp 3) rfl strcE ⟨g3, 0, none⟩ rfl csA HL3.out (fun w2 hT => box_all (box_below HB3Y.out hT))) T0 ?_
  refine wpAnyP_take (i := 1) rfl (by kernel_rfl) (by kernel_rfl) (by kernel_rfl) (by kernel_rfl) (fun _ _ _ h => h) (yieldsIf_loadS rfl (.tmp 1) rfl strcE ⟨w.heap.size, 0, none⟩ rfl cs HL.out (fun w2 hT => box_all (box_below HB1Y.out hT))) T0 ?_
  go_simp
  refine wpAnyP_oneQ (i := 2) (by kernel_rfl) rfl ?_
  go_wp2_with fail
  refine (CQ _ (ext_trans hY T0)).mono ?_
  rintro x c1 ⟨cs1, rfl, R1, hc1⟩
  have T1 := ext_trans T0 hc1
  go_wp2_with fail
  refine nextQ T1 ?_
  go_simp
  go_simp
  refine wpAnyP_oneQ (i := 3) (by kernel_rfl) rfl ?_
  go_wp2_with fail
  have CX2 := R7Same_any (RA.ext (ext_trans hY T1)) R1 f3 f3
  simp only [decide_true] at CX2
  refine CX2.mono ?_
  rintro x c2 ⟨rfl, hc2⟩
  clear CX2
  have T2 := ext_trans T1 hc2
  go_wp2_with fail
  refine nextQ T2 ?_
  go_simp
  refine wpAnyP_take (i := 4) rfl (by kernel_rfl) (by kernel_rfl) (by kernel_rfl) (by kernel_rfl) (fun _ _ _ h => h) (yieldsIf_run (.bool true) rfl (fun w' => by go_simp)) T2 ?_
  go_simp
  refine wpAnyP_take (i := 5) rfl (by kernel_rfl) (by kernel_rfl) (by kernel_rfl) (by kernel_rfl) (fun _ _ _ h => h) (yieldsIf_loadS rfl (.tmp 3) rfl strcE ⟨g3, 0, none⟩ rfl csA HL3.out (fun w2 hT => box_all (box_below HB3Y.out hT))) T2 ?_
  refine wpAnyP_take (i := 7) rfl (by kernel_rfl) (by kernel_rfl) (by kernel_rfl) (by kernel_rfl) (fun _ _ _ h => h) (yieldsIf_loadS rfl (.tmp 3) rfl strcE ⟨g3, 0, none⟩ rfl csA HL3.out (fun w2 hT => box_all (box_below HB3Y.out hT))) T2 ?_
  go_simp
  refine wpAnyP_oneQ (i := 6) (by kernel_rfl) rfl ?_
  go_wp2_with fail
  refine (CS _ (ext_trans hY T2)).mono ?_
  rintro x c3 ⟨cs3, rfl, R3, hc3⟩
  have T3 := ext_trans T2 hc3
  go_wp2_with fail
  refine nextQ T3 ?_
  go_simp
  go_simp
  refine wpAnyP_oneQ (i := 8) (by kernel_rfl) rfl ?_
  go_wp2_with fail
  have CX4 := R7Same_any R3 (RA.ext (ext_trans hY T3)) f3 f3
  simp only [decide_true] at CX4
  refine CX4.mono ?_
  rintro x c4 ⟨rfl, hc4⟩
  clear CX4
  have T4 := ext_trans T3 hc4
  go_wp2_with fail
  refine nextQ T4 ?_
  go_simp
  refine wpAnyP_take (i := 9) rfl (by kernel_rfl) (by kernel_rfl) (by kernel_rfl) (by kernel_rfl) (fun _ _ _ h => h) (yieldsIf_run (.bool true) rfl (fun w' => by go_simp)) T4 ?_
  go_simp
  refine wpAnyP_take (i := 10) rfl (by kernel_rfl) (by kernel_rfl) (by kernel_rfl) (by kernel_rfl) (fun _ _ _ h => h) (yieldsIf_run (.bool true) rfl (fun w' => by go_simp)) T4 ?_
  refine wpAnyP_take (i := 11) rfl (by kernel_rfl) (by kernel_rfl) (by kernel_rfl) (by kernel_rfl) (fun _ _ _ h => h) (yieldsIf_loadS rfl (.tmp 3) rfl strcE ⟨g3, 0, none⟩ rfl csA HL3.out (fun w2 hT => box_all (box_below HB3Y.out hT))) T4 ?_
  refine wpAnyP_take (i := 13) rfl (by kernel_rfl) (by kernel_rfl) (by kernel_rfl) (by kernel_rfl) (fun _ _ _ h => h) (yieldsIf_loadS rfl (.tmp 1) rfl strcE ⟨w.heap.size, 0, none⟩ rfl cs HL.out (fun w2 hT => box_all (box_below HB1Y.out hT))) T4 ?_
  go_simp
  go_simp
  refine wpAnyP_oneQ (i := 12) (by kernel_rfl) rfl ?_
  go_wp2_with fail
  refine (CI _ (ext_trans hY T4)).mono ?_
  rintro x c5 ⟨rfl, hc5⟩
  have T5 := ext_trans T4 hc5
  go_wp2_with fail
  refine nextQ T5 ?_
  go_simp
  go_simp
  refine wpAnyP_oneQ (i := 14) (by kernel_rfl) rfl ?_
  go_wp2_with fail
  refine (CJ _ (ext_trans hY T5)).mono ?_
  rintro x c6 ⟨rfl, hc6⟩
  have T6 := ext_trans T5 hc6
  go_wp2_with fail
  refine nextQ T6 ?_
  go_simp
  refine wpAnyP_take (i := 15) rfl (by kernel_rfl) (by kernel_rfl) (by kernel_rfl) (by kernel_rfl) (fun _ _ _ h => h) (yieldsIf_run (.bool true) rfl (fun w' => by go_simp)) T6 ?_
  refine wpAnyP_take (i := 16) rfl (by kernel_rfl) (by kernel_rfl) (by kernel_rfl) (by kernel_rfl) (fun _ _ _ h => h) (yieldsIf_run (.bool true) rfl (fun w' => by go_simp)) T6 ?_
  refine wpAnyP_take (i := 17) rfl (by kernel_rfl) (by kernel_rfl) (by kernel_rfl) (by kernel_rfl) (fun _ _ _ h => h) (yieldsIf_run (.bool true) rfl (fun w' => by go_simp)) T6 ?_
  go_simp
  go_simp
  refine wpAnyP_oneQ (i := 18) (by kernel_rfl) rfl ?_
  go_wp2_with fail
  refine (lives_any _).mono ?_
  rintro x c7 ⟨rfl, hc7⟩
  have T7 := ext_trans T6 hc7
  go_wp2_with fail
  refine nextQ T7 ?_
  go_simp
  refine wpAnyP_take (i := 19) rfl (by kernel_rfl) (by kernel_rfl) (by kernel_rfl) (by kernel_rfl) (fun _ _ _ h => h) (yieldsIf_run (.bool true) rfl (fun w' => by go_simp)) T7 ?_
  refine wpAnyP_take (i := 20) rfl (by kernel_rfl) (by kernel_rfl) (by kernel_rfl) (by kernel_rfl) (fun _ _ _ h => h) (yieldsIf_run (.bool true) rfl (fun w' => by go_simp)) T7 ?_
  go_simp
  refine wpAnyP_done (by kernel_rfl) ?_
  go_wp2_with fail
  go_ret
  exact ⟨rfl, ext_trans hbb (ext_trans hb13 (ext_trans hY T7))⟩
end
end Go.Proofs.Ytnfbmhkjmkdmjaa

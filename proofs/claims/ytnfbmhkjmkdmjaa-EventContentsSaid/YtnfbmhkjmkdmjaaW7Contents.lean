/-
  EventContents: the walk.
-/
import Derived.Test.YtnfbmhkjmkdmjaaLives
import Derived.Test.YtnfbmhkjmkdmjaaEvP
import Derived.Test.YtnfbmhkjmkdmjaaW7P
import Derived.Test.YtnfbmhkjmkdmjaaPhaseB
set_option linter.unusedVariables false
set_option linter.unusedSimpArgs false
namespace Go.Proofs.Ytnfbmhkjmkdmjaa
open Go.RowKit
open Classical
section
attribute [local go_sem] Addr.add_mid
theorem stripE_con (e : Ev) (c : Con) (h : stripC e.kind c = stripC e.kind e.con) : stripE { e with con := c } = stripE e := by
  show ({ e with con := stripC e.kind c } : Ev) = { e with con := stripC e.kind e.con }
  rw [h]
set_option maxRecDepth 100000 in
set_option maxHeartbeats 8000000 in
theorem contents7_any {cs ds : List Value} {e : Ev} {c : Con} {w : World} (hr : EvR w Any cs e) (ho : e.ok) (hr2 : ConR w Any ds c) (ho2 : c.ok) : Calls Try.prog 5 #[.agg cs.toArray, .agg ds.toArray] w (Says true w) := by
  have HR := hide hr; have HO := hide ho; have HL := hide hr.length
  have HM := hide hr2.length
  have HOC := hide ho2
  have s3 := hr.gets.2.2.2.1
  have HLC := hide (show ((cs.drop 10).take 16).length = 16 by rw [List.length_take, List.length_drop, hr.length]; rfl)
  have BA := heap_alloc2_old w (.cells cs.toArray 34) (.cells ds.toArray 30)
  have BB := heap_alloc2_new w (.cells cs.toArray 34) (.cells ds.toArray 30)
  have hb := below_two w (.cells cs.toArray 34) (.cells ds.toArray 30)
  have R1 := hr.ext hb
  have RC := hr2.ext hb
  clear hr ho hr2 ho2
  go_enter Try.func5, Try.ntmps5
  go_upto_region 1 with fail
  generalize (w.alloc (.cells cs.toArray 34)).alloc (.cells ds.toArray 30) = W at BA BB hb R1 RC ⊢
  have HA := hide BA; have HB := hide BB
  clear BA BB
  refine wp_region_now (by kernel_rfl) ?_
  intro Y hY
  have T0 : Below Y.heap.size Y Y := ext_refl Y
  have HAY := hide (box_below HA.out hY)
  have HBY := hide (box_below HB.out hY)
  refine wpAnyP_take (i := 0) rfl (by kernel_rfl) (by kernel_rfl) (by kernel_rfl) (by kernel_rfl) (fun _ _ _ h => h) (yieldsIf_loadS rfl (.tmp 2) rfl strcE ⟨w.heap.size, 0, none⟩ rfl cs HL.out (fun w2 hT => box_all (box_below HAY.out hT))) T0 ?_
  go_simp
  refine wpAnyP_oneQ (i := 1) (by kernel_rfl) rfl ?_
  go_wp2_with fail
  refine (small7_any (R1.ext (ext_trans hY T0)) HO.out).mono ?_
  rintro x c1 ⟨b, rfl, hs, hc1⟩
  cases b
  case false =>
    have T1 := ext_trans T0 hc1
    go_wp2_with fail
    refine nextQ T1 ?_
    go_simp
    refine wpAnyP_take (i := 2) rfl (by kernel_rfl) (by kernel_rfl) (by kernel_rfl) (by kernel_rfl) (fun _ _ _ h => h) (yieldsIf_run (.bool true) rfl (fun w' => by go_simp)) T1 ?_
    refine wpAnyP_take (i := 3) rfl (by kernel_rfl) (by kernel_rfl) (by kernel_rfl) (by kernel_rfl) (fun _ _ _ h => h) (yieldsIf_run (.bool true) rfl (fun w' => by go_simp)) T1 ?_
    go_simp
    refine wpAnyP_take (i := 4) rfl (by kernel_rfl) (by kernel_rfl) (by kernel_rfl) (by kernel_rfl) (fun _ _ _ h => h) (v := undef) (.inr ⟨rfl, rfl⟩) T1 ?_
    refine wpAnyP_take (i := 5) rfl (by kernel_rfl) (by kernel_rfl) (by kernel_rfl) (by kernel_rfl) (fun _ _ _ h => h) (v := undef) (.inr ⟨rfl, rfl⟩) T1 ?_
    refine wpAnyP_take (i := 6) rfl (by kernel_rfl) (by kernel_rfl) (by kernel_rfl) (by kernel_rfl) (fun _ _ _ h => h) (v := undef) (.inr ⟨rfl, rfl⟩) T1 ?_
    go_simp
    refine wpAnyP_take (i := 7) rfl (by kernel_rfl) (by kernel_rfl) (by kernel_rfl) (by kernel_rfl) (fun _ _ _ h => h) (yieldsIf_run (.bool true) rfl (fun w' => by go_simp)) T1 ?_
    refine wpAnyP_take (i := 8) rfl (by kernel_rfl) (by kernel_rfl) (by kernel_rfl) (by kernel_rfl) (fun _ _ _ h => h) (yieldsIf_run (.bool true) rfl (fun w' => by go_simp)) T1 ?_
    refine wpAnyP_take (i := 9) rfl (by kernel_rfl) (by kernel_rfl) (by kernel_rfl) (by kernel_rfl) (fun _ _ _ h => h) (v := undef) (.inr ⟨rfl, rfl⟩) T1 ?_
    go_simp
    refine wpAnyP_take (i := 10) rfl (by kernel_rfl) (by kernel_rfl) (by kernel_rfl) (by kernel_rfl) (fun _ _ _ h => h) (v := undef) (.inr ⟨rfl, rfl⟩) T1 ?_
    refine wpAnyP_take (i := 11) rfl (by kernel_rfl) (by kernel_rfl) (by kernel_rfl) (by kernel_rfl) (fun _ _ _ h => h) (v := undef) (.inr ⟨rfl, rfl⟩) T1 ?_
    refine wpAnyP_take (i := 12) rfl (by kernel_rfl) (by kernel_rfl) (by kernel_rfl) (by kernel_rfl) (fun _ _ _ h => h) (yieldsIf_run (.bool true) rfl (fun w' => by go_simp)) T1 ?_
    go_simp
    refine wpAnyP_take (i := 13) rfl (by kernel_rfl) (by kernel_rfl) (by kernel_rfl) (by kernel_rfl) (fun _ _ _ h => h) (yieldsIf_run (.bool true) rfl (fun w' => by go_simp)) T1 ?_
    refine wpAnyP_take (i := 14) rfl (by kernel_rfl) (by kernel_rfl) (by kernel_rfl) (by kernel_rfl) (fun _ _ _ h => h) (v := undef) (.inr ⟨rfl, rfl⟩) T1 ?_
    refine wpAnyP_take (i := 15) rfl (by kernel_rfl) (by kernel_rfl) (by kernel_rfl) (by kernel_rfl) (fun _ _ _ h => h) (v := undef) (.inr ⟨rfl, rfl⟩) T1 ?_
    go_simp
    refine wpAnyP_take (i := 16) rfl (by kernel_rfl) (by kernel_rfl) (by kernel_rfl) (by kernel_rfl) (fun _ _ _ h => h) (v := undef) (.inr ⟨rfl, rfl⟩) T1 ?_
    refine wpAnyP_take (i := 17) rfl (by kernel_rfl) (by kernel_rfl) (by kernel_rfl) (by kernel_rfl) (fun _ _ _ h => h) (v := undef) (.inr ⟨rfl, rfl⟩) T1 ?_
    refine wpAnyP_take (i := 18) rfl (by kernel_rfl) (by kernel_rfl) (by kernel_rfl) (by kernel_rfl) (fun _ _ _ h => h) (v := undef) (.inr ⟨rfl, rfl⟩) T1 ?_
    go_simp
    refine wpAnyP_take (i := 19) rfl (by kernel_rfl) (by kernel_rfl) (by kernel_rfl) (by kernel_rfl) (fun _ _ _ h => h) (v := undef) (.inr ⟨rfl, rfl⟩) T1 ?_
    refine wpAnyP_take (i := 20) rfl (by kernel_rfl) (by kernel_rfl) (by kernel_rfl) (by kernel_rfl) (fun _ _ _ h => h) (v := undef) (.inr ⟨rfl, rfl⟩) T1 ?_
    refine wpAnyP_take (i := 21) rfl (by kernel_rfl) (by kernel_rfl) (by kernel_rfl) (by kernel_rfl) (fun _ _ _ h => h) (v := undef) (.inr ⟨rfl, rfl⟩) T1 ?_
    go_simp
    refine wpAnyP_take (i := 22) rfl (by kernel_rfl) (by kernel_rfl) (by kernel_rfl) (by kernel_rfl) (fun _ _ _ h => h) (v := undef) (.inr ⟨rfl, rfl⟩) T1 ?_
    refine wpAnyP_take (i := 23) rfl (by kernel_rfl) (by kernel_rfl) (by kernel_rfl) (by kernel_rfl) (fun _ _ _ h => h) (v := undef) (.inr ⟨rfl, rfl⟩) T1 ?_
    refine wpAnyP_take (i := 24) rfl (by kernel_rfl) (by kernel_rfl) (by kernel_rfl) (by kernel_rfl) (fun _ _ _ h => h) (v := undef) (.inr ⟨rfl, rfl⟩) T1 ?_
    go_simp
    refine wpAnyP_take (i := 25) rfl (by kernel_rfl) (by kernel_rfl) (by kernel_rfl) (by kernel_rfl) (fun _ _ _ h => h) (yieldsIf_run (.bool true) rfl (fun w' => by go_simp)) T1 ?_
    go_simp
    refine wpAnyP_done (by kernel_rfl) ?_
    go_wp2_with (go_at_call 8; refine (lives_any _).mono ?_; rintro x wl ⟨rfl, hbl⟩)
    go_ret
    exact ⟨rfl, ext_trans hb (ext_trans hY (ext_trans T1 hbl))⟩
  have HG := hide (hs rfl)
  have T1 := ext_trans T0 hc1
  go_wp2_with fail
  refine nextQ T1 ?_
  go_simp
  refine wpAnyP_take (i := 2) rfl (by kernel_rfl) (by kernel_rfl) (by kernel_rfl) (by kernel_rfl) (fun _ _ _ h => h) (yieldsIf_run (.bool false) rfl (fun w' => by go_simp)) T1 ?_
  refine wpAnyP_take (i := 3) rfl (by kernel_rfl) (by kernel_rfl) (by kernel_rfl) (by kernel_rfl) (fun _ _ _ h => h) (yieldsIf_run (.bool false) rfl (fun w' => by go_simp)) T1 ?_
  go_simp
  refine wpAnyP_take (i := 4) rfl (by kernel_rfl) (by kernel_rfl) (by kernel_rfl) (by kernel_rfl) (fun _ _ _ h => h) (yieldsIf_loadS rfl (.tmp 3) rfl strcC ⟨w.heap.size + 1, 0, none⟩ rfl ds HM.out (fun w2 hT => box_all (box_below HBY.out hT))) T1 ?_
  go_simp
  refine wpAnyP_oneQ (i := 5) (by kernel_rfl) rfl ?_
  go_wp2_with fail
  refine (slight_any (RC.ext (ext_trans hY T1))).mono ?_
  rintro x c2 ⟨b, rfl, hs2, hc2⟩
  cases b
  case false =>
    have T2 := ext_trans T1 hc2
    go_wp2_with fail
    refine nextQ T2 ?_
    go_simp
    refine wpAnyP_take (i := 6) rfl (by kernel_rfl) (by kernel_rfl) (by kernel_rfl) (by kernel_rfl) (fun _ _ _ h => h) (yieldsIf_run (.bool true) rfl (fun w' => by go_simp)) T2 ?_
    refine wpAnyP_take (i := 7) rfl (by kernel_rfl) (by kernel_rfl) (by kernel_rfl) (by kernel_rfl) (fun _ _ _ h => h) (yieldsIf_run (.bool true) rfl (fun w' => by go_simp)) T2 ?_
    go_simp
    refine wpAnyP_take (i := 8) rfl (by kernel_rfl) (by kernel_rfl) (by kernel_rfl) (by kernel_rfl) (fun _ _ _ h => h) (yieldsIf_run (.bool true) rfl (fun w' => by go_simp)) T2 ?_
    refine wpAnyP_take (i := 9) rfl (by kernel_rfl) (by kernel_rfl) (by kernel_rfl) (by kernel_rfl) (fun _ _ _ h => h) (v := undef) (.inr ⟨rfl, rfl⟩) T2 ?_
    refine wpAnyP_take (i := 10) rfl (by kernel_rfl) (by kernel_rfl) (by kernel_rfl) (by kernel_rfl) (fun _ _ _ h => h) (v := undef) (.inr ⟨rfl, rfl⟩) T2 ?_
    go_simp
    refine wpAnyP_take (i := 11) rfl (by kernel_rfl) (by kernel_rfl) (by kernel_rfl) (by kernel_rfl) (fun _ _ _ h => h) (v := undef) (.inr ⟨rfl, rfl⟩) T2 ?_
    refine wpAnyP_take (i := 12) rfl (by kernel_rfl) (by kernel_rfl) (by kernel_rfl) (by kernel_rfl) (fun _ _ _ h => h) (yieldsIf_run (.bool true) rfl (fun w' => by go_simp)) T2 ?_
    refine wpAnyP_take (i := 13) rfl (by kernel_rfl) (by kernel_rfl) (by kernel_rfl) (by kernel_rfl) (fun _ _ _ h => h) (yieldsIf_run (.bool true) rfl (fun w' => by go_simp)) T2 ?_
    go_simp
    refine wpAnyP_take (i := 14) rfl (by kernel_rfl) (by kernel_rfl) (by kernel_rfl) (by kernel_rfl) (fun _ _ _ h => h) (v := undef) (.inr ⟨rfl, rfl⟩) T2 ?_
    refine wpAnyP_take (i := 15) rfl (by kernel_rfl) (by kernel_rfl) (by kernel_rfl) (by kernel_rfl) (fun _ _ _ h => h) (v := undef) (.inr ⟨rfl, rfl⟩) T2 ?_
    refine wpAnyP_take (i := 16) rfl (by kernel_rfl) (by kernel_rfl) (by kernel_rfl) (by kernel_rfl) (fun _ _ _ h => h) (v := undef) (.inr ⟨rfl, rfl⟩) T2 ?_
    go_simp
    refine wpAnyP_take (i := 17) rfl (by kernel_rfl) (by kernel_rfl) (by kernel_rfl) (by kernel_rfl) (fun _ _ _ h => h) (v := undef) (.inr ⟨rfl, rfl⟩) T2 ?_
    refine wpAnyP_take (i := 18) rfl (by kernel_rfl) (by kernel_rfl) (by kernel_rfl) (by kernel_rfl) (fun _ _ _ h => h) (v := undef) (.inr ⟨rfl, rfl⟩) T2 ?_
    refine wpAnyP_take (i := 19) rfl (by kernel_rfl) (by kernel_rfl) (by kernel_rfl) (by kernel_rfl) (fun _ _ _ h => h) (v := undef) (.inr ⟨rfl, rfl⟩) T2 ?_
    go_simp
    refine wpAnyP_take (i := 20) rfl (by kernel_rfl) (by kernel_rfl) (by kernel_rfl) (by kernel_rfl) (fun _ _ _ h => h) (v := undef) (.inr ⟨rfl, rfl⟩) T2 ?_
    refine wpAnyP_take (i := 21) rfl (by kernel_rfl) (by kernel_rfl) (by kernel_rfl) (by kernel_rfl) (fun _ _ _ h => h) (v := undef) (.inr ⟨rfl, rfl⟩) T2 ?_
    refine wpAnyP_take (i := 22) rfl (by kernel_rfl) (by kernel_rfl) (by kernel_rfl) (by kernel_rfl) (fun _ _ _ h => h) (v := undef) (.inr ⟨rfl, rfl⟩) T2 ?_
    go_simp
    refine wpAnyP_take (i := 23) rfl (by kernel_rfl) (by kernel_rfl) (by kernel_rfl) (by kernel_rfl) (fun _ _ _ h => h) (v := undef) (.inr ⟨rfl, rfl⟩) T2 ?_
    refine wpAnyP_take (i := 24) rfl (by kernel_rfl) (by kernel_rfl) (by kernel_rfl) (by kernel_rfl) (fun _ _ _ h => h) (v := undef) (.inr ⟨rfl, rfl⟩) T2 ?_
    refine wpAnyP_take (i := 25) rfl (by kernel_rfl) (by kernel_rfl) (by kernel_rfl) (by kernel_rfl) (fun _ _ _ h => h) (yieldsIf_run (.bool true) rfl (fun w' => by go_simp)) T2 ?_
    go_simp
    go_simp
    refine wpAnyP_done (by kernel_rfl) ?_
    go_wp2_with (go_at_call 8; refine (lives_any _).mono ?_; rintro x wl ⟨rfl, hbl⟩)
    go_ret
    exact ⟨rfl, ext_trans hb (ext_trans hY (ext_trans T2 hbl))⟩
  have HS2 := hide (hs2 rfl)
  clear hs2
  by_cases z : verE e = 0
  rotate_left
  · obtain ⟨v, hv⟩ : ∃ v, verE e = v := ⟨_, rfl⟩
    rw [hv] at z
    have z1 : (v != 0) = true := by simpa using z
    have HZ := hide hv
    clear z hv
    have T2 := ext_trans T1 hc2
    go_wp2_with fail
    refine nextQ T2 ?_
    go_simp
    refine wpAnyP_take (i := 6) rfl (by kernel_rfl) (by kernel_rfl) (by kernel_rfl) (by kernel_rfl) (fun _ _ _ h => h) (yieldsIf_run (.bool false) rfl (fun w' => by go_simp)) T2 ?_
    refine wpAnyP_take (i := 7) rfl (by kernel_rfl) (by kernel_rfl) (by kernel_rfl) (by kernel_rfl) (fun _ _ _ h => h) (yieldsIf_run (.bool false) rfl (fun w' => by go_simp)) T2 ?_
    go_simp
    refine wpAnyP_take (i := 8) rfl (by kernel_rfl) (by kernel_rfl) (by kernel_rfl) (by kernel_rfl) (fun _ _ _ h => h) (yieldsIf_run (.bool false) rfl (fun w' => by go_simp)) T2 ?_
    refine wpAnyP_take (i := 9) rfl (by kernel_rfl) (by kernel_rfl) (by kernel_rfl) (by kernel_rfl) (fun _ _ _ h => h) (yieldsIf_loadS rfl (.tmp 2) rfl strcE ⟨w.heap.size, 0, none⟩ rfl cs HL.out (fun w2 hT => box_all (box_below HAY.out hT))) T2 ?_
    go_simp
    refine wpAnyP_oneQ (i := 10) (by kernel_rfl) rfl ?_
    go_wp2_with fail
    have CX3 := Verify_any (R1.ext (ext_trans hY T2)) HG.out
    rw [HZ.out] at CX3
    refine CX3.mono ?_
    rintro x c3 ⟨rfl, hc3⟩
    clear CX3
    have T3 := ext_trans T2 hc3
    go_wp2_with fail
    refine nextQ T3 ?_
    go_simp
    refine wpAnyP_take (i := 11) rfl (by kernel_rfl) (by kernel_rfl) (by kernel_rfl) (by kernel_rfl) (fun _ _ _ h => h) (yieldsIf_run (.bool true) rfl (fun w' => by go_simp)) T3 ?_
    go_simp
    refine wpAnyP_take (i := 12) rfl (by kernel_rfl) (by kernel_rfl) (by kernel_rfl) (by kernel_rfl) (fun _ _ _ h => h) (yieldsIf_run (.bool true) rfl (fun w' => by go_simp)) T3 ?_
    refine wpAnyP_take (i := 13) rfl (by kernel_rfl) (by kernel_rfl) (by kernel_rfl) (by kernel_rfl) (fun _ _ _ h => h) (yieldsIf_run (.bool true) rfl (fun w' => by go_simp)) T3 ?_
    refine wpAnyP_take (i := 14) rfl (by kernel_rfl) (by kernel_rfl) (by kernel_rfl) (by kernel_rfl) (fun _ _ _ h => h) (v := undef) (.inr ⟨rfl, rfl⟩) T3 ?_
    go_simp
    refine wpAnyP_take (i := 15) rfl (by kernel_rfl) (by kernel_rfl) (by kernel_rfl) (by kernel_rfl) (fun _ _ _ h => h) (v := undef) (.inr ⟨rfl, rfl⟩) T3 ?_
    refine wpAnyP_take (i := 16) rfl (by kernel_rfl) (by kernel_rfl) (by kernel_rfl) (by kernel_rfl) (fun _ _ _ h => h) (v := undef) (.inr ⟨rfl, rfl⟩) T3 ?_
    refine wpAnyP_take (i := 17) rfl (by kernel_rfl) (by kernel_rfl) (by kernel_rfl) (by kernel_rfl) (fun _ _ _ h => h) (v := undef) (.inr ⟨rfl, rfl⟩) T3 ?_
    go_simp
    refine wpAnyP_take (i := 18) rfl (by kernel_rfl) (by kernel_rfl) (by kernel_rfl) (by kernel_rfl) (fun _ _ _ h => h) (v := undef) (.inr ⟨rfl, rfl⟩) T3 ?_
    refine wpAnyP_take (i := 19) rfl (by kernel_rfl) (by kernel_rfl) (by kernel_rfl) (by kernel_rfl) (fun _ _ _ h => h) (v := undef) (.inr ⟨rfl, rfl⟩) T3 ?_
    refine wpAnyP_take (i := 20) rfl (by kernel_rfl) (by kernel_rfl) (by kernel_rfl) (by kernel_rfl) (fun _ _ _ h => h) (v := undef) (.inr ⟨rfl, rfl⟩) T3 ?_
    go_simp
    refine wpAnyP_take (i := 21) rfl (by kernel_rfl) (by kernel_rfl) (by kernel_rfl) (by kernel_rfl) (fun _ _ _ h => h) (v := undef) (.inr ⟨rfl, rfl⟩) T3 ?_
    refine wpAnyP_take (i := 22) rfl (by kernel_rfl) (by kernel_rfl) (by kernel_rfl) (by kernel_rfl) (fun _ _ _ h => h) (v := undef) (.inr ⟨rfl, rfl⟩) T3 ?_
    refine wpAnyP_take (i := 23) rfl (by kernel_rfl) (by kernel_rfl) (by kernel_rfl) (by kernel_rfl) (fun _ _ _ h => h) (v := undef) (.inr ⟨rfl, rfl⟩) T3 ?_
    go_simp
    refine wpAnyP_take (i := 24) rfl (by kernel_rfl) (by kernel_rfl) (by kernel_rfl) (by kernel_rfl) (fun _ _ _ h => h) (v := undef) (.inr ⟨rfl, rfl⟩) T3 ?_
    refine wpAnyP_take (i := 25) rfl (by kernel_rfl) (by kernel_rfl) (by kernel_rfl) (by kernel_rfl) (fun _ _ _ h => h) (yieldsIf_run (.bool true) rfl (fun w' => by go_simp)) T3 ?_
    go_simp
    refine wpAnyP_done (by kernel_rfl) ?_
    go_wp2_with (go_at_call 8; refine (lives_any _).mono ?_; rintro x wl ⟨rfl, hbl⟩)
    go_ret
    exact ⟨rfl, ext_trans hb (ext_trans hY (ext_trans T3 hbl))⟩
  have HZ := hide z
  by_cases q : stripC e.kind c = stripC e.kind e.con
  rotate_left
  · have HQ := hide (decide_eq_false q)
    clear q
    have T2 := ext_trans T1 hc2
    go_wp2_with fail
    refine nextQ T2 ?_
    go_simp
    refine wpAnyP_take (i := 6) rfl (by kernel_rfl) (by kernel_rfl) (by kernel_rfl) (by kernel_rfl) (fun _ _ _ h => h) (yieldsIf_run (.bool false) rfl (fun w' => by go_simp)) T2 ?_
    refine wpAnyP_take (i := 7) rfl (by kernel_rfl) (by kernel_rfl) (by kernel_rfl) (by kernel_rfl) (fun _ _ _ h => h) (yieldsIf_run (.bool false) rfl (fun w' => by go_simp)) T2 ?_
    go_simp
    refine wpAnyP_take (i := 8) rfl (by kernel_rfl) (by kernel_rfl) (by kernel_rfl) (by kernel_rfl) (fun _ _ _ h => h) (yieldsIf_run (.bool false) rfl (fun w' => by go_simp)) T2 ?_
    refine wpAnyP_take (i := 9) rfl (by kernel_rfl) (by kernel_rfl) (by kernel_rfl) (by kernel_rfl) (fun _ _ _ h => h) (yieldsIf_loadS rfl (.tmp 2) rfl strcE ⟨w.heap.size, 0, none⟩ rfl cs HL.out (fun w2 hT => box_all (box_below HAY.out hT))) T2 ?_
    go_simp
    refine wpAnyP_oneQ (i := 10) (by kernel_rfl) rfl ?_
    go_wp2_with fail
    have CX3 := Verify_any (R1.ext (ext_trans hY T2)) HG.out
    rw [HZ.out] at CX3
    refine CX3.mono ?_
    rintro x c3 ⟨rfl, hc3⟩
    clear CX3
    have T3 := ext_trans T2 hc3
    go_wp2_with fail
    refine nextQ T3 ?_
    go_simp
    refine wpAnyP_take (i := 11) rfl (by kernel_rfl) (by kernel_rfl) (by kernel_rfl) (by kernel_rfl) (fun _ _ _ h => h) (yieldsIf_run (.bool false) rfl (fun w' => by go_simp)) T3 ?_
    go_simp
    refine wpAnyP_take (i := 12) rfl (by kernel_rfl) (by kernel_rfl) (by kernel_rfl) (by kernel_rfl) (fun _ _ _ h => h) (yieldsIf_run (.bool false) rfl (fun w' => by go_simp)) T3 ?_
    refine wpAnyP_take (i := 13) rfl (by kernel_rfl) (by kernel_rfl) (by kernel_rfl) (by kernel_rfl) (fun _ _ _ h => h) (yieldsIf_run (.bool false) rfl (fun w' => by go_simp)) T3 ?_
    refine wpAnyP_take (i := 14) rfl (by kernel_rfl) (by kernel_rfl) (by kernel_rfl) (by kernel_rfl) (fun _ _ _ h => h) (yieldsIf_run (.pointer (some ⟨w.heap.size, 3, none⟩)) rfl (fun w' => by go_simp)) T3 ?_
    go_simp
    refine wpAnyP_take (i := 15) rfl (by kernel_rfl) (by kernel_rfl) (by kernel_rfl) (by kernel_rfl) (fun _ _ _ h => h) (yieldsIf_load rfl rfl Try.underlying22 rfl rfl (fun w2 hT => box_at (box_below HAY.out hT) (j := 3) (u := .int .i64 e.kind) s3)) T3 ?_
    refine wpAnyP_take (i := 16) rfl (by kernel_rfl) (by kernel_rfl) (by kernel_rfl) (by kernel_rfl) (fun _ _ _ h => h) (yieldsIf_loadS rfl (.tmp 3) rfl strcC ⟨w.heap.size + 1, 0, none⟩ rfl ds HM.out (fun w2 hT => box_all (box_below HBY.out hT))) T3 ?_
    refine wpAnyP_take (i := 18) rfl (by kernel_rfl) (by kernel_rfl) (by kernel_rfl) (by kernel_rfl) (fun _ _ _ h => h) (yieldsIf_run (.pointer (some ⟨w.heap.size, 3, none⟩)) rfl (fun w' => by go_simp)) T3 ?_
    go_simp
    refine wpAnyP_take (i := 19) rfl (by kernel_rfl) (by kernel_rfl) (by kernel_rfl) (by kernel_rfl) (fun _ _ _ h => h) (yieldsIf_load rfl rfl Try.underlying22 rfl rfl (fun w2 hT => box_at (box_below HAY.out hT) (j := 3) (u := .int .i64 e.kind) s3)) T3 ?_
    refine wpAnyP_take (i := 20) rfl (by kernel_rfl) (by kernel_rfl) (by kernel_rfl) (by kernel_rfl) (fun _ _ _ h => h) (yieldsIf_run (.pointer (some ⟨w.heap.size, 10, none⟩)) rfl (fun w' => by go_simp)) T3 ?_
    refine wpAnyP_take (i := 21) rfl (by kernel_rfl) (by kernel_rfl) (by kernel_rfl) (by kernel_rfl) (fun _ _ _ h => h) (yieldsIf_loadS rfl (.tmp 28) rfl strcC ⟨w.heap.size, 10, none⟩ rfl ((cs.drop 10).take 16) HLC.out (fun w2 hT => box_cells (box_below HAY.out hT) 10 16)) T3 ?_
    go_simp
    go_simp
    refine wpAnyP_oneQ (i := 17) (by kernel_rfl) rfl ?_
    go_wp2_with fail
    refine (R6Strip_any (k := e.kind) (RC.ext (ext_trans hY T3))).mono ?_
    rintro x c4 ⟨cs4, rfl, Q4, hc4⟩
    have T4 := ext_trans T3 hc4
    go_wp2_with fail
    refine nextQ T4 ?_
    go_simp
    go_simp
    refine wpAnyP_oneQ (i := 22) (by kernel_rfl) rfl ?_
    go_wp2_with fail
    refine (R6Strip_any (k := e.kind) (R1.con.ext (ext_trans hY T4))).mono ?_
    rintro x c5 ⟨cs5, rfl, Q5, hc5⟩
    have T5 := ext_trans T4 hc5
    go_wp2_with fail
    refine nextQ T5 ?_
    go_simp
    go_simp
    refine wpAnyP_oneQ (i := 23) (by kernel_rfl) rfl ?_
    go_wp2_with fail
    have CX6 := R6Same_any (Q4.ext hc5) Q5 (stripC_fit (k := e.kind) (HS2.out.neat HOC.out).fit) (stripC_fit (k := e.kind) HG.out.fit)
    rw [HQ.out] at CX6
    refine CX6.mono ?_
    rintro x c6 ⟨rfl, hc6⟩
    clear CX6
    have T6 := ext_trans T5 hc6
    go_wp2_with fail
    refine nextQ T6 ?_
    go_simp
    refine wpAnyP_take (i := 24) rfl (by kernel_rfl) (by kernel_rfl) (by kernel_rfl) (by kernel_rfl) (fun _ _ _ h => h) (yieldsIf_run (.bool true) rfl (fun w' => by go_simp)) T6 ?_
    refine wpAnyP_take (i := 25) rfl (by kernel_rfl) (by kernel_rfl) (by kernel_rfl) (by kernel_rfl) (fun _ _ _ h => h) (yieldsIf_run (.bool true) rfl (fun w' => by go_simp)) T6 ?_
    go_simp
    refine wpAnyP_done (by kernel_rfl) ?_
    go_wp2_with (go_at_call 8; refine (lives_any _).mono ?_; rintro x wl ⟨rfl, hbl⟩)
    go_ret
    exact ⟨rfl, ext_trans hb (ext_trans hY (ext_trans T6 hbl))⟩
  have HQ := hide (decide_eq_true q)
  have HQQ := hide q
  clear q z
  have T2 := ext_trans T1 hc2
  go_wp2_with fail
  refine nextQ T2 ?_
  go_simp
  refine wpAnyP_take (i := 6) rfl (by kernel_rfl) (by kernel_rfl) (by kernel_rfl) (by kernel_rfl) (fun _ _ _ h => h) (yieldsIf_run (.bool false) rfl (fun w' => by go_simp)) T2 ?_
  refine wpAnyP_take (i := 7) rfl (by kernel_rfl) (by kernel_rfl) (by kernel_rfl) (by kernel_rfl) (fun _ _ _ h => h) (yieldsIf_run (.bool false) rfl (fun w' => by go_simp)) T2 ?_
  go_simp
  refine wpAnyP_take (i := 8) rfl (by kernel_rfl) (by kernel_rfl) (by kernel_rfl) (by kernel_rfl) (fun _ _ _ h => h) (yieldsIf_run (.bool false) rfl (fun w' => by go_simp)) T2 ?_
  refine wpAnyP_take (i := 9) rfl (by kernel_rfl) (by kernel_rfl) (by kernel_rfl) (by kernel_rfl) (fun _ _ _ h => h) (yieldsIf_loadS rfl (.tmp 2) rfl strcE ⟨w.heap.size, 0, none⟩ rfl cs HL.out (fun w2 hT => box_all (box_below HAY.out hT))) T2 ?_
  go_simp
  refine wpAnyP_oneQ (i := 10) (by kernel_rfl) rfl ?_
  go_wp2_with fail
  have CX3 := Verify_any (R1.ext (ext_trans hY T2)) HG.out
  rw [HZ.out] at CX3
  refine CX3.mono ?_
  rintro x c3 ⟨rfl, hc3⟩
  clear CX3
  have T3 := ext_trans T2 hc3
  go_wp2_with fail
  refine nextQ T3 ?_
  go_simp
  refine wpAnyP_take (i := 11) rfl (by kernel_rfl) (by kernel_rfl) (by kernel_rfl) (by kernel_rfl) (fun _ _ _ h => h) (yieldsIf_run (.bool false) rfl (fun w' => by go_simp)) T3 ?_
  go_simp
  refine wpAnyP_take (i := 12) rfl (by kernel_rfl) (by kernel_rfl) (by kernel_rfl) (by kernel_rfl) (fun _ _ _ h => h) (yieldsIf_run (.bool false) rfl (fun w' => by go_simp)) T3 ?_
  refine wpAnyP_take (i := 13) rfl (by kernel_rfl) (by kernel_rfl) (by kernel_rfl) (by kernel_rfl) (fun _ _ _ h => h) (yieldsIf_run (.bool false) rfl (fun w' => by go_simp)) T3 ?_
  refine wpAnyP_take (i := 14) rfl (by kernel_rfl) (by kernel_rfl) (by kernel_rfl) (by kernel_rfl) (fun _ _ _ h => h) (yieldsIf_run (.pointer (some ⟨w.heap.size, 3, none⟩)) rfl (fun w' => by go_simp)) T3 ?_
  go_simp
  refine wpAnyP_take (i := 15) rfl (by kernel_rfl) (by kernel_rfl) (by kernel_rfl) (by kernel_rfl) (fun _ _ _ h => h) (yieldsIf_load rfl rfl Try.underlying22 rfl rfl (fun w2 hT => box_at (box_below HAY.out hT) (j := 3) (u := .int .i64 e.kind) s3)) T3 ?_
  refine wpAnyP_take (i := 16) rfl (by kernel_rfl) (by kernel_rfl) (by kernel_rfl) (by kernel_rfl) (fun _ _ _ h => h) (yieldsIf_loadS rfl (.tmp 3) rfl strcC ⟨w.heap.size + 1, 0, none⟩ rfl ds HM.out (fun w2 hT => box_all (box_below HBY.out hT))) T3 ?_
  refine wpAnyP_take (i := 18) rfl (by kernel_rfl) (by kernel_rfl) (by kernel_rfl) (by kernel_rfl) (fun _ _ _ h => h) (yieldsIf_run (.pointer (some ⟨w.heap.size, 3, none⟩)) rfl (fun w' => by go_simp)) T3 ?_
  go_simp
  refine wpAnyP_take (i := 19) rfl (by kernel_rfl) (by kernel_rfl) (by kernel_rfl) (by kernel_rfl) (fun _ _ _ h => h) (yieldsIf_load rfl rfl Try.underlying22 rfl rfl (fun w2 hT => box_at (box_below HAY.out hT) (j := 3) (u := .int .i64 e.kind) s3)) T3 ?_
  refine wpAnyP_take (i := 20) rfl (by kernel_rfl) (by kernel_rfl) (by kernel_rfl) (by kernel_rfl) (fun _ _ _ h => h) (yieldsIf_run (.pointer (some ⟨w.heap.size, 10, none⟩)) rfl (fun w' => by go_simp)) T3 ?_
  refine wpAnyP_take (i := 21) rfl (by kernel_rfl) (by kernel_rfl) (by kernel_rfl) (by kernel_rfl) (fun _ _ _ h => h) (yieldsIf_loadS rfl (.tmp 28) rfl strcC ⟨w.heap.size, 10, none⟩ rfl ((cs.drop 10).take 16) HLC.out (fun w2 hT => box_cells (box_below HAY.out hT) 10 16)) T3 ?_
  go_simp
  go_simp
  refine wpAnyP_oneQ (i := 17) (by kernel_rfl) rfl ?_
  go_wp2_with fail
  refine (R6Strip_any (k := e.kind) (RC.ext (ext_trans hY T3))).mono ?_
  rintro x c4 ⟨cs4, rfl, Q4, hc4⟩
  have T4 := ext_trans T3 hc4
  go_wp2_with fail
  refine nextQ T4 ?_
  go_simp
  go_simp
  refine wpAnyP_oneQ (i := 22) (by kernel_rfl) rfl ?_
  go_wp2_with fail
  refine (R6Strip_any (k := e.kind) (R1.con.ext (ext_trans hY T4))).mono ?_
  rintro x c5 ⟨cs5, rfl, Q5, hc5⟩
  have T5 := ext_trans T4 hc5
  go_wp2_with fail
  refine nextQ T5 ?_
  go_simp
  go_simp
  refine wpAnyP_oneQ (i := 23) (by kernel_rfl) rfl ?_
  go_wp2_with fail
  have CX6 := R6Same_any (Q4.ext hc5) Q5 (stripC_fit (k := e.kind) (HS2.out.neat HOC.out).fit) (stripC_fit (k := e.kind) HG.out.fit)
  rw [HQ.out] at CX6
  refine CX6.mono ?_
  rintro x c6 ⟨rfl, hc6⟩
  clear CX6
  have T6 := ext_trans T5 hc6
  go_wp2_with fail
  refine nextQ T6 ?_
  go_simp
  refine wpAnyP_take (i := 24) rfl (by kernel_rfl) (by kernel_rfl) (by kernel_rfl) (by kernel_rfl) (fun _ _ _ h => h) (yieldsIf_run (.bool false) rfl (fun w' => by go_simp)) T6 ?_
  refine wpAnyP_take (i := 25) rfl (by kernel_rfl) (by kernel_rfl) (by kernel_rfl) (by kernel_rfl) (fun _ _ _ h => h) (yieldsIf_run (.bool false) rfl (fun w' => by go_simp)) T6 ?_
  go_simp
  refine wpAnyP_done (by kernel_rfl) ?_
  have kz := ext_trans hY T6
  have K1 := ext_trans hb kz
  have R1 := R1.ext kz
  have RC := RC.ext kz
  have HA := hide (box_below HA.out kz)
  have HB := hide (box_below HB.out kz)
  have HG2 := hide (HG.out.withCon HS2.out HOC.out)
  have hwg : w.heap.size + 1 < c6.heap.size := (Array.getElem?_eq_some_iff.1 HB.out).1
  clear hY T0 T1 T2 T3 T4 T5 T6 hc1 hc2 hc3 hc4 hc5 hc6 kz Q4 Q5 HAY HBY hs hb
  go_upto_region 4 with (first
    | refine wpList_loadS rfl (.tmp 2) rfl strcE ⟨w.heap.size, 0, none⟩ rfl cs HL.out (box_all HA.out) ?_
    | refine wpList_newS rfl rfl strcE rfl (.tmp 5) (.tmp 35) rfl rfl rfl cs.toArray rfl (by simpa using HL.out) (by simpa using R1.one) ?_)
  have BF := heap_alloc_new c6 (.cells cs.toArray 34)
  have kx := ext_alloc (ext_refl c6) (.cells cs.toArray 34)
  have RF := (R1.weak (S' := fun b => b < c6.heap.size) (fun b _ h => h)).ext kx
  have RD := (RC.weak (S' := fun b => b < c6.heap.size) (fun b _ h => h)).ext kx
  have K4 := ext_trans K1 kx
  have HA := hide (box_below HA.out kx)
  have HB := hide (box_below HB.out kx)
  have hone := RC.one
  generalize c6.alloc (.cells cs.toArray 34) = w4 at BF RF RD K4 HA HB kx ⊢
  generalize c6.heap.size = g5 at BF RF RD hwg kx ⊢
  clear kx K1 R1 RC
  go_wp2_with (first
    | refine wpList_loadS rfl (.tmp 3) rfl strcC ⟨w.heap.size + 1, 0, none⟩ rfl ds HM.out (box_all HB.out) ?_
    | refine wpList_storeB rfl (.tmp 37) (.tmp 36) rfl rfl strcC g5 10 rfl ds rfl HM.out hone cs 34 BF (by rw [HL.out]; simp) ?_)
  intro w5 B5 g5' z5
  have RF := RF.grown g5' (fun q hq e => by injection e with e; omega)
  have RD : ConR w5 (fun b => b < g5) ds c := by
    obtain ⟨va, vd, vu, vk, rfl, h3, h4, h5, h6⟩ := RD
    exact ⟨va, vd, vu, vk, rfl, h3.grown g5' (fun q hq e => by injection e with e; omega), h4.grown g5' (fun q hq e => by injection e with e; omega), h5.grown g5' (fun q hq e => by injection e with e; omega), h6.grown g5' (fun q hq e => by injection e with e; omega)⟩
  have K5 := K4.grown g5' K4.size (fun q hq => by injection hq with hq; omega)
  have HA := hide (box_grown HA.out g5' (by omega))
  have RF := RF.withCon RD
  rw [show cs.take 10 ++ (ds ++ cs.drop 26) = patch cs 10 ds by simp [patch, HM.out]] at RF
  have HFB := hide B5
  have HLP := hide RF.length
  have HV := hide (ver_strip HZ.out)
  have HSC := hide (stripE_con e c HQQ.out)
  clear K4 g5' z5 B5 BF HB hone RD
  obtain ⟨f, hf⟩ : ∃ f, ({ e with con := c } : Ev) = f := ⟨_, rfl⟩
  rw [hf] at RF HG2 HSC
  clear hf
  obtain ⟨wb, hwb⟩ : ∃ b, wholeB f = b := ⟨_, rfl⟩
  cases wb
  case true =>
    have CR : Calls Try.prog 15 #[.agg (patch cs 10 ds).toArray] w5 (fun x w' => ∃ cs', x = .returned (.tuple #[.agg cs'.toArray, .int .i64 (verE f)]) ∧ EvR w' Any cs' (if verE f = 0 then f else Ev.zero) ∧ Below w5.heap.size w5 w') := by
      refine (Receive_any RF HG2.out).mono ?_
      rintro x w' ⟨cs', k1, k2, k3⟩
      rw [show recE f = f by unfold recE; rw [if_pos hwb]] at k1 k2
      exact ⟨cs', k1, k2.any, k3⟩
    obtain ⟨vr, hvr⟩ : ∃ v, verE f = v := ⟨_, rfl⟩
    simp only [hvr] at CR
    go_upto_region 6 with (first
      | refine wpList_loadS rfl (.tmp 5) rfl strcE ⟨g5, 0, none⟩ rfl (patch cs 10 ds) HLP.out (box_all HFB.out) ?_
      | (go_at_call 15; refine CR.mono ?_; rintro x w6 ⟨csG, rfl, RG, hb6⟩; have HLG := hide RG.length; have HOG := hide RG.one)
      | refine wpList_newS rfl rfl strcE rfl (.tmp 6) (.tmp 41) rfl rfl rfl csG.toArray rfl (by simpa using HLG.out) (by simpa using HOG.out) ?_)
    have BG := heap_alloc_new w6 (.cells csG.toArray 34)
    have kx := ext_alloc (ext_refl w6) (.cells csG.toArray 34)
    have k57 := ext_trans hb6 kx
    have RG := RG.ext kx
    have HA := hide (box_below HA.out k57)
    have HFB := hide (box_below HFB.out k57)
    have K7 := ext_trans K5 k57
    have RF := RF.ext k57
    generalize w6.alloc (.cells csG.toArray 34) = w7 at BG RG HA HFB K7 RF kx k57 ⊢
    generalize w6.heap.size = g6 at BG kx ⊢
    have HGB := hide BG
    clear BG kx hb6
    have CW := Whole_any RF HG2.out.cputs
    rw [hwb] at CW
    have HRF := hide RF
    by_cases z : vr = 0
    rotate_left
    · have z1 : (vr != 0) = true := by simpa using z
      clear z
      go_wp2_with (first
        | refine wpList_loadS rfl (.tmp 5) rfl strcE ⟨g5, 0, none⟩ rfl (patch cs 10 ds) HLP.out (box_all HFB.out) ?_
        | (go_at_call 19; refine CW.mono ?_; rintro x w8 ⟨rfl, hb8⟩)
        | (go_at_call 8; refine (lives_any _).mono ?_; rintro x wl ⟨rfl, hbl⟩))
      go_ret
      exact ⟨rfl, ext_trans K7 (ext_trans hb8 hbl)⟩
    subst z
    rw [if_pos rfl] at RG
    have HRG := hide RG
    have f8 := HG2.out.fitE
    go_wp2_with (first
      | refine wpList_loadS rfl (.tmp 5) rfl strcE ⟨g5, 0, none⟩ rfl (patch cs 10 ds) HLP.out (box_all HFB.out) ?_
      | (go_at_call 19; refine CW.mono ?_; rintro x w8 ⟨rfl, hb8⟩; have HFB8 := hide (box_below HFB.out hb8); have HGB8 := hide (box_below HGB.out hb8); have CX := R7Same_any (HRG.out.ext hb8) (HRF.out.ext hb8) f8 f8; simp only [decide_true] at CX)
      | refine wpList_loadS rfl (.tmp 6) rfl strcE ⟨g6, 0, none⟩ rfl csG HLG.out (box_all HGB8.out) ?_
      | refine wpList_loadS rfl (.tmp 5) rfl strcE ⟨g5, 0, none⟩ rfl (patch cs 10 ds) HLP.out (box_all HFB8.out) ?_
      | (go_at_call 10; refine CX.mono ?_; rintro x w9 ⟨rfl, hb9⟩)
      | (go_at_call 8; refine (lives_any _).mono ?_; rintro x wl ⟨rfl, hbl⟩))
    go_ret
    exact ⟨rfl, ext_trans K7 (ext_trans hb8 (ext_trans hb9 hbl))⟩
  case false =>
    have CR : Calls Try.prog 15 #[.agg (patch cs 10 ds).toArray] w5 (fun x w' => ∃ cs', x = .returned (.tuple #[.agg cs'.toArray, .int .i64 0]) ∧ EvR w' Any cs' (stripE e) ∧ Below w5.heap.size w5 w') := by
      refine (Receive_any RF HG2.out).mono ?_
      rintro x w' ⟨cs', k1, k2, k3⟩
      rw [show recE f = stripE e by unfold recE; rw [if_neg (by rw [hwb]; simp)]; exact HSC.out, HV.out] at k1 k2
      exact ⟨cs', k1, k2.any, k3⟩
    go_upto_region 6 with (first
      | refine wpList_loadS rfl (.tmp 5) rfl strcE ⟨g5, 0, none⟩ rfl (patch cs 10 ds) HLP.out (box_all HFB.out) ?_
      | (go_at_call 15; refine CR.mono ?_; rintro x w6 ⟨csG, rfl, RG, hb6⟩; have HLG := hide RG.length; have HOG := hide RG.one)
      | refine wpList_newS rfl rfl strcE rfl (.tmp 6) (.tmp 41) rfl rfl rfl csG.toArray rfl (by simpa using HLG.out) (by simpa using HOG.out) ?_)
    have BG := heap_alloc_new w6 (.cells csG.toArray 34)
    have kx := ext_alloc (ext_refl w6) (.cells csG.toArray 34)
    have k57 := ext_trans hb6 kx
    have RG := RG.ext kx
    have HA := hide (box_below HA.out k57)
    have HFB := hide (box_below HFB.out k57)
    have K7 := ext_trans K5 k57
    have RF := RF.ext k57
    generalize w6.alloc (.cells csG.toArray 34) = w7 at BG RG HA HFB K7 RF kx k57 ⊢
    generalize w6.heap.size = g6 at BG kx ⊢
    have HGB := hide BG
    clear BG kx hb6
    have CW := Whole_any RF HG2.out.cputs
    rw [hwb] at CW
    clear RF
    go_upto_region 8 with (first
      | refine wpList_loadS rfl (.tmp 5) rfl strcE ⟨g5, 0, none⟩ rfl (patch cs 10 ds) HLP.out (box_all HFB.out) ?_
      | (go_at_call 19; refine CW.mono ?_; rintro x w8 ⟨rfl, hb8⟩))
    have HA := hide (box_below HA.out hb8)
    have HGB := hide (box_below HGB.out hb8)
    have RG := RG.ext hb8
    have K8 := ext_trans K7 hb8
    have f8 := HG.out.strip.fitE
    have HR1 := hide (HR.out.ext K8)
    have CS := fun W (h : Below w8.heap.size w8 W) => EStrip_any (HR1.out.ext h) HG.out.fit
    clear hb8 CW CR K7
    refine wp_region_now (by kernel_rfl) ?_
    intro Y hY
    have T0 : Below Y.heap.size Y Y := ext_refl Y
    have HAY := hide (box_below HA.out hY)
    have HGBY := hide (box_below HGB.out hY)
    refine wpAnyP_take (i := 0) rfl (by kernel_rfl) (by kernel_rfl) (by kernel_rfl) (by kernel_rfl) (fun _ _ _ h => h) (yieldsIf_run (.int .i64 0) rfl (fun w' => by go_simp)) T0 ?_
    refine wpAnyP_take (i := 1) rfl (by kernel_rfl) (by kernel_rfl) (by kernel_rfl) (by kernel_rfl) (fun _ _ _ h => h) (yieldsIf_run (.bool true) rfl (fun w' => by go_simp)) T0 ?_
    refine wpAnyP_take (i := 2) rfl (by kernel_rfl) (by kernel_rfl) (by kernel_rfl) (by kernel_rfl) (fun _ _ _ h => h) (yieldsIf_run (.bool true) rfl (fun w' => by go_simp)) T0 ?_
    go_simp
    refine wpAnyP_take (i := 3) rfl (by kernel_rfl) (by kernel_rfl) (by kernel_rfl) (by kernel_rfl) (fun _ _ _ h => h) (yieldsIf_loadS rfl (.tmp 6) rfl strcE ⟨g6, 0, none⟩ rfl csG HLG.out (fun w2 hT => box_all (box_below HGBY.out hT))) T0 ?_
    refine wpAnyP_take (i := 4) rfl (by kernel_rfl) (by kernel_rfl) (by kernel_rfl) (by kernel_rfl) (fun _ _ _ h => h) (yieldsIf_loadS rfl (.tmp 2) rfl strcE ⟨w.heap.size, 0, none⟩ rfl cs HL.out (fun w2 hT => box_all (box_below HAY.out hT))) T0 ?_
    go_simp
    refine wpAnyP_oneQ (i := 5) (by kernel_rfl) rfl ?_
    go_wp2_with fail
    refine (CS _ (ext_trans hY T0)).mono ?_
    rintro x c1 ⟨cs1, rfl, R1, hc1⟩
    have T1 := ext_trans T0 hc1
    go_wp2_with fail
    refine nextQ T1 ?_
    go_simp
    go_simp
    refine wpAnyP_oneQ (i := 6) (by kernel_rfl) rfl ?_
    go_wp2_with fail
    have CX2 := R7Same_any (RG.ext (ext_trans hY T1)) R1 f8 f8
    simp only [decide_true] at CX2
    refine CX2.mono ?_
    rintro x c2 ⟨rfl, hc2⟩
    clear CX2
    have T2 := ext_trans T1 hc2
    go_wp2_with fail
    refine nextQ T2 ?_
    go_simp
    refine wpAnyP_take (i := 7) rfl (by kernel_rfl) (by kernel_rfl) (by kernel_rfl) (by kernel_rfl) (fun _ _ _ h => h) (yieldsIf_run (.bool true) rfl (fun w' => by go_simp)) T2 ?_
    go_simp
    refine wpAnyP_take (i := 8) rfl (by kernel_rfl) (by kernel_rfl) (by kernel_rfl) (by kernel_rfl) (fun _ _ _ h => h) (yieldsIf_run (.bool true) rfl (fun w' => by go_simp)) T2 ?_
    go_simp
    refine wpAnyP_oneQ (i := 9) (by kernel_rfl) rfl ?_
    go_wp2_with fail
    refine (lives_any _).mono ?_
    rintro x c3 ⟨rfl, hc3⟩
    have T3 := ext_trans T2 hc3
    go_wp2_with fail
    refine nextQ T3 ?_
    go_simp
    refine wpAnyP_take (i := 10) rfl (by kernel_rfl) (by kernel_rfl) (by kernel_rfl) (by kernel_rfl) (fun _ _ _ h => h) (yieldsIf_run (.bool true) rfl (fun w' => by go_simp)) T3 ?_
    refine wpAnyP_take (i := 11) rfl (by kernel_rfl) (by kernel_rfl) (by kernel_rfl) (by kernel_rfl) (fun _ _ _ h => h) (yieldsIf_run (.bool true) rfl (fun w' => by go_simp)) T3 ?_
    go_simp
    go_simp
    refine wpAnyP_done (by kernel_rfl) ?_
    go_wp2_with fail
    go_ret
    exact ⟨rfl, ext_trans K8 (ext_trans hY T3)⟩
end
end Go.Proofs.Ytnfbmhkjmkdmjaa

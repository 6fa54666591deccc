/-
  ViewChecks: the walk of the law.
-/
import Derived.Test.YtbehflldghhopaaReadV
set_option linter.unusedVariables false
set_option linter.unusedSimpArgs false
namespace Go.Proofs.Ytbehflldghhopaa
open Go.RowKit
attribute [local go_sem] Addr.add_mid

set_option maxRecDepth 100000 in
set_option maxHeartbeats 4000000 in
theorem checks_any {cs : List Value} {V : Vw} {n : Int} {w : World} (hv : VwR w Any cs V) (hg : V.good) : Calls Try.prog 3 #[.agg cs.toArray, .int .i64 n] w (Says true w) := by
  have B0 := heap_alloc_new w (.cells cs.toArray 25)
  have hbW : Below w.heap.size w (w.alloc (.cells cs.toArray 25)) := ext_alloc (ext_refl w) _
  have HN := hide hv.length
  go_enter Try.func3, Try.ntmps3
  go_upto_region 1 with fail
  generalize hW : w.alloc (.cells cs.toArray 25) = W at *
  clear hW
  go_wp2_with (refine wpList_loadS rfl (.tmp 2) rfl strcV ⟨w.heap.size, 0, none⟩ rfl cs HN.out (box_all B0) ?_)
  refine (VGreat_any (n := 14) (hv.ext hbW) (by decide)).mono ?_
  rintro x w1 ⟨b, rfl, hsm, hb1⟩
  have hb01 := hbW.trans (hb1.mono hbW.size)
  have B1 := box_below B0 hb1
  clear hb1 B0 hbW
  cases b
  · have hs := hsm rfl
    have hcan := small_can hs
    have hl : V.events.length ≤ 1048576 ∧ V.gaps.length ≤ 1048576 ∧ V.state.length ≤ 1048576 := ⟨hcan.1, hcan.2.2.1, hcan.2.1⟩
    have hid : ∀ e ∈ V.events, I64 e.id := fun e he => (hg.1 e he).1
    clear hsm hs
    go_upto_region 3 with fail
    have hbx : Below w1.heap.size w1 w1.drew := ext_drew (ext_refl w1)
    have B2 := box_below B1 hbx
    have hb2 := hb01.trans (hbx.mono hb01.size)
    obtain ⟨wd, hWD⟩ : ∃ wd, wd = w1.drew := ⟨_, rfl⟩
    rw [← hWD] at B2 hb2
    refine wp_region_phase (fun w' => w'.heap[w.heap.size]? = some (.cells cs.toArray 25 (0, 0))) [] (by kernel_rfl) ?_
    rw [show { w1 with drawn := w1.drawn + 1 } = wd from hWD.symm]
    clear hWD hbx hb01 B1
    refine wpAnyP_take (i := 0) rfl (by kernel_rfl) (by kernel_rfl) (by kernel_rfl) (by kernel_rfl) (fun _ _ _ h => h) (yieldsIf_loadS rfl (.tmp 2) rfl strcV ⟨w.heap.size, 0, none⟩ rfl cs HN.out (fun w' hT => box_all hT)) B2 ?_
    go_simp
    refine wpAnyP_take (i := 2) rfl (by kernel_rfl) (by kernel_rfl) (by kernel_rfl) (by kernel_rfl) (fun _ _ _ h => h) (yieldsIf_loadS rfl (.tmp 2) rfl strcV ⟨w.heap.size, 0, none⟩ rfl cs HN.out (fun w' hT => box_all hT)) B2 ?_
    go_simp
    refine wpAnyP_one' (i := 1) (by kernel_rfl) rfl ?_
    go_wp2_with fail
    refine (Check_any (hv.ext hb2) hid hl).mono ?_
    rintro x w3 ⟨rfl, hx3⟩
    have hb3 := hb2.trans (hx3.mono hb2.size)
    have B3 := box_below B2 hx3
    go_wp2_with fail
    refine nextP B3 ?_
    go_simp
    refine wpAnyP_one' (i := 3) (by kernel_rfl) rfl ?_
    go_wp2_with fail
    refine (RCheck_any (hv.ext hb3) hl).mono ?_
    rintro x w4 ⟨rfl, hx4⟩
    have hb4 := hb3.trans (hx4.mono hb3.size)
    have B4 := box_below B3 hx4
    go_wp2_with fail
    refine nextP B4 ?_
    go_simp
    refine wpAnyP_take (i := 4) rfl (by kernel_rfl) (by kernel_rfl) (by kernel_rfl) (by kernel_rfl) (fun _ _ _ h => h) (yieldsIf_run (.bool true) rfl (fun w' => by go_simp)) B4 ?_
    go_simp
    refine wpAnyP_take (i := 5) rfl (by kernel_rfl) (by kernel_rfl) (by kernel_rfl) (by kernel_rfl) (fun _ _ _ h => h) (yieldsIf_run (.bool true) rfl (fun w' => by go_simp)) B4 ?_
    go_simp
    refine wpAnyP_take (i := 6) rfl (by kernel_rfl) (by kernel_rfl) (by kernel_rfl) (by kernel_rfl) (fun _ _ _ h => h) (yieldsIf_loadS rfl (.tmp 2) rfl strcV ⟨w.heap.size, 0, none⟩ rfl cs HN.out (fun w' hT => box_all hT)) B4 ?_
    go_simp
    refine wpAnyP_take (i := 8) rfl (by kernel_rfl) (by kernel_rfl) (by kernel_rfl) (by kernel_rfl) (fun _ _ _ h => h) (yieldsIf_loadS rfl (.tmp 2) rfl strcV ⟨w.heap.size, 0, none⟩ rfl cs HN.out (fun w' hT => box_all hT)) B4 ?_
    go_simp
    obtain ⟨gb, hgb⟩ : ∃ x, x = decide (V.gaps = []) := ⟨_, rfl⟩
    have hw1 := fun (wx : World) (h : VwR wx Any cs V) => VWhole_any h
    have hw2 := fun (wx : World) (h : VwR wx Any cs V) => RWhole_any h
    rw [← hgb] at hw1 hw2
    clear hgb
    refine wpAnyP_one' (i := 7) (by kernel_rfl) rfl ?_
    go_wp2_with fail
    refine (hw1 _ (hv.ext hb4)).mono ?_
    rintro x w5 ⟨rfl, hx5⟩
    have hb5 := hb4.trans (hx5.mono hb4.size)
    have B5 := box_below B4 hx5
    go_wp2_with fail
    refine nextP B5 ?_
    go_simp
    refine wpAnyP_one' (i := 9) (by kernel_rfl) rfl ?_
    go_wp2_with fail
    refine (hw2 _ (hv.ext hb5)).mono ?_
    rintro x w6 ⟨rfl, hx6⟩
    have hb6 := hb5.trans (hx6.mono hb5.size)
    have B6 := box_below B5 hx6
    go_wp2_with fail
    refine nextP B6 ?_
    go_simp
    clear hw1 hw2
    refine wpAnyP_take (i := 10) rfl (by kernel_rfl) (by kernel_rfl) (by kernel_rfl) (by kernel_rfl) (fun _ _ _ h => h) (yieldsIf_run (.bool true) rfl (fun w' => by go_simp)) B6 ?_
    go_simp
    refine wpAnyP_take (i := 11) rfl (by kernel_rfl) (by kernel_rfl) (by kernel_rfl) (by kernel_rfl) (fun _ _ _ h => h) (yieldsIf_run (.bool true) rfl (fun w' => by go_simp)) B6 ?_
    go_simp
    refine wpAnyP_take (i := 12) rfl (by kernel_rfl) (by kernel_rfl) (by kernel_rfl) (by kernel_rfl) (fun _ _ _ h => h) (yieldsIf_run (.bool true) rfl (fun w' => by go_simp)) B6 ?_
    go_simp
    refine wpAnyP_take (i := 13) rfl (by kernel_rfl) (by kernel_rfl) (by kernel_rfl) (by kernel_rfl) (fun _ _ _ h => h) (yieldsIf_loadS rfl (.tmp 2) rfl strcV ⟨w.heap.size, 0, none⟩ rfl cs HN.out (fun w' hT => box_all hT)) B6 ?_
    go_simp
    refine wpAnyP_take (i := 15) rfl (by kernel_rfl) (by kernel_rfl) (by kernel_rfl) (by kernel_rfl) (fun _ _ _ h => h) (yieldsIf_loadS rfl (.tmp 2) rfl strcV ⟨w.heap.size, 0, none⟩ rfl cs HN.out (fun w' hT => box_all hT)) B6 ?_
    go_simp
    refine wpAnyP_one' (i := 14) (by kernel_rfl) rfl ?_
    go_wp2_with fail
    refine (VIds_any (hv.ext hb6) hcan.1).mono ?_
    rintro x w7 ⟨v7, rfl, ho7, hx7⟩
    have hb7 := hb6.trans (hx7.mono hb6.size)
    have B7 := box_below B6 hx7
    rw [← ids_length] at ho7
    obtain ⟨A7, c7, rfl, _⟩ := own_form ho7
    have r7 := Row.own ho7
    clear ho7
    go_wp2_with fail
    refine nextP B7 ?_
    go_simp
    refine wpAnyP_one' (i := 16) (by kernel_rfl) rfl ?_
    go_wp2_with fail
    refine (RIds_any (hv.ext hb7) hcan.1).mono ?_
    rintro x w8 ⟨v8, rfl, ho8, hx8⟩
    have hb8 := hb7.trans (hx8.mono hb7.size)
    have B8 := box_below B7 hx8
    rw [← ids_length] at ho8
    obtain ⟨A8, c8, rfl, _⟩ := own_form ho8
    have r8 := Row.own ho8
    have q7 := r7.ext hx8
    clear ho8
    go_wp2_with fail
    refine nextP B8 ?_
    go_simp
    have hil : (ids V.events).length ≤ 1048576 := by rw [ids_length]; exact hcan.1
    have hsm := R1Same_any (c := c7) (c2 := c8) q7 r8 (by omega) (by omega)
    rw [decide_eq_true (rfl : ids V.events = ids V.events)] at hsm
    have HSM := hide hsm
    clear hsm
    refine wpAnyP_one' (i := 17) (by kernel_rfl) rfl ?_
    go_wp2_with fail
    refine (HSM.out).mono ?_
    rintro x w9 ⟨rfl, nq, hnq⟩
    have hx9 : Below w8.heap.size w8 w9 := by rw [hnq]; exact below_drewN (ext_refl _) nq
    clear hnq HSM q7 r7 r8
    have hb9 := hb8.trans (hx9.mono hb8.size)
    have B9 := box_below B8 hx9
    go_wp2_with fail
    refine nextP B9 ?_
    go_simp
    refine wpAnyP_take (i := 18) rfl (by kernel_rfl) (by kernel_rfl) (by kernel_rfl) (by kernel_rfl) (fun _ _ _ h => h) (yieldsIf_run (.bool true) rfl (fun w' => by go_simp)) B9 ?_
    go_simp
    refine wpAnyP_take (i := 19) rfl (by kernel_rfl) (by kernel_rfl) (by kernel_rfl) (by kernel_rfl) (fun _ _ _ h => h) (yieldsIf_run (.bool true) rfl (fun w' => by go_simp)) B9 ?_
    go_simp
    refine wpAnyP_take (i := 20) rfl (by kernel_rfl) (by kernel_rfl) (by kernel_rfl) (by kernel_rfl) (fun _ _ _ h => h) (yieldsIf_loadS rfl (.tmp 2) rfl strcV ⟨w.heap.size, 0, none⟩ rfl cs HN.out (fun w' hT => box_all hT)) B9 ?_
    go_simp
    refine wpAnyP_take (i := 21) rfl (by kernel_rfl) (by kernel_rfl) (by kernel_rfl) (by kernel_rfl) (fun _ _ _ h => h) (yieldsIf_run (.int .i64 n) rfl (fun w' => by go_simp)) B9 ?_
    go_simp
    refine wpAnyP_take (i := 23) rfl (by kernel_rfl) (by kernel_rfl) (by kernel_rfl) (by kernel_rfl) (fun _ _ _ h => h) (yieldsIf_loadS rfl (.tmp 2) rfl strcV ⟨w.heap.size, 0, none⟩ rfl cs HN.out (fun w' hT => box_all hT)) B9 ?_
    go_simp
    refine wpAnyP_take (i := 24) rfl (by kernel_rfl) (by kernel_rfl) (by kernel_rfl) (by kernel_rfl) (fun _ _ _ h => h) (yieldsIf_run (.int .i64 n) rfl (fun w' => by go_simp)) B9 ?_
    go_simp
    refine wpAnyP_one' (i := 22) (by kernel_rfl) rfl ?_
    go_wp2_with fail
    refine (Redacted_any (hv.ext hb9) ⟨hcan.1, hcan.2.1⟩ (can_fit hcan)).mono ?_
    rintro x w10 ⟨f10, rfl, v10, hx10⟩
    have hb10 := hb9.trans (hx10.mono hb9.size)
    have B10 := box_below B9 hx10
    go_wp2_with fail
    refine nextP B10 ?_
    go_simp
    refine wpAnyP_one' (i := 25) (by kernel_rfl) rfl ?_
    go_wp2_with fail
    refine (RRedacted_any (hv.ext hb10) ⟨hcan.1, hcan.2.1⟩).mono ?_
    rintro x w11 ⟨f11, rfl, v11, hx11⟩
    have hb11 := hb10.trans (hx11.mono hb10.size)
    have B11 := box_below B10 hx11
    have u10 := v10.ext hx11
    go_wp2_with fail
    refine nextP B11 ?_
    go_simp
    refine wpAnyP_one' (i := 26) (by kernel_rfl) rfl ?_
    go_wp2_with fail
    refine (VSame_yes u10 v11 (redactV_can hcan)).mono ?_
    rintro x w12 ⟨rfl, hx12⟩
    have hb12 := hb11.trans (hx12.mono hb11.size)
    have B12 := box_below B11 hx12
    go_wp2_with fail
    refine nextP B12 ?_
    go_simp
    refine wpAnyP_take (i := 27) rfl (by kernel_rfl) (by kernel_rfl) (by kernel_rfl) (by kernel_rfl) (fun _ _ _ h => h) (yieldsIf_run (.bool true) rfl (fun w' => by go_simp)) B12 ?_
    go_simp
    refine wpAnyP_take (i := 28) rfl (by kernel_rfl) (by kernel_rfl) (by kernel_rfl) (by kernel_rfl) (fun _ _ _ h => h) (yieldsIf_run (.bool true) rfl (fun w' => by go_simp)) B12 ?_
    go_simp
    refine wpAnyP_one' (i := 29) (by kernel_rfl) rfl ?_
    go_wp2_with fail
    refine (live_any _).mono ?_
    rintro x w13 ⟨rfl, hx13⟩
    have hb13 := hb12.trans (hx13.mono hb12.size)
    have B13 := box_below B12 hx13
    go_wp2_with fail
    refine nextP B13 ?_
    go_simp
    refine wpAnyP_take (i := 30) rfl (by kernel_rfl) (by kernel_rfl) (by kernel_rfl) (by kernel_rfl) (fun _ _ _ h => h) (yieldsIf_run (.bool true) rfl (fun w' => by go_simp)) B13 ?_
    go_simp
    refine wpAnyP_one' (i := 31) (by kernel_rfl) rfl ?_
    go_wp2_with fail
    refine nextP B13 (wpAnyP_done (by kernel_rfl) ?_)
    go_simp
    try go_wp2_with fail
    go_ret
    exact ⟨rfl, hb13⟩
  · go_wp2_with fail
    go_ret
    exact ⟨rfl, hb01⟩
end Go.Proofs.Ytbehflldghhopaa

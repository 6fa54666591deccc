/-
  EventSigns: the walk.
-/
import Derived.Test.YtnfbmhkjmkdmjaaGreatLives
import Derived.Test.YtnfbmhkjmkdmjaaGreatEvP
import Derived.Test.YtnfbmhkjmkdmjaaGreatREvStr
import Derived.Test.YtnfbmhkjmkdmjaaGreatW7P
import Derived.Test.YtnfbmhkjmkdmjaaGreatIdsR
import Derived.Test.YtnfbmhkjmkdmjaaGreatPhaseB
set_option linter.unusedVariables false
set_option linter.unusedSimpArgs false
namespace Go.Proofs.YtnfbmhkjmkdmjaaGreat
open Go.RowKit
open Classical
section
attribute [local go_sem] Addr.add_mid
set_option maxRecDepth 100000 in
set_option maxHeartbeats 8000000 in
theorem signs7_any {cs : List Value} {e : Ev} {srv : ByteArray} {w : World} (hr : EvR w Any cs e) (ho : e.ok) : Calls Tryz.prog 5 #[.agg cs.toArray, .string srv] w (Says true w) := by
  have HR := hide hr; have HO := hide ho; have HL := hide hr.length
  have s2 := hr.gets.2.2.1
  have B := heap_alloc_new w (.cells cs.toArray 34)
  have hb := ext_alloc (ext_refl w) (.cells cs.toArray 34)
  clear hr ho
  go_enter Tryz.func5, Tryz.ntmps5
  go_upto_region 1 with fail
  generalize w.alloc (.cells cs.toArray 34) = W at B hb ⊢
  have HB := hide B
  clear B
  go_wp2_with (refine wpList_loadS rfl (.tmp 2) rfl strcE ⟨w.heap.size, 0, none⟩ rfl cs HL.out (box_all HB.out) ?_)
  refine (small7_any (HR.out.ext hb) HO.out).mono ?_
  rintro x w1 ⟨b, rfl, hs, hb1⟩
  have hbb := ext_trans hb hb1
  cases b
  case false =>
    go_wp2_with (go_at_call 10; refine (lives_any _).mono ?_; rintro x wl ⟨rfl, hbl⟩)
    go_ret
    exact ⟨rfl, ext_trans hbb hbl⟩
  have HG := hide (hs rfl)
  have HB1 := hide (box_below HB.out hb1)
  have R1 := HR.out.ext hbb
  clear hs hb hb1 HB
  by_cases hlen : (100 : Int) < (srv.size : Int)
  · go_wp2_with (go_at_call 10; refine (lives_any _).mono ?_; rintro x wl ⟨rfl, hbl⟩)
    go_ret
    exact ⟨rfl, ext_trans hbb hbl⟩
  have g5 : (signE e srv).good := HG.out.sign (by omega)
  have CSg := Sign_any (srv := srv) R1 HG.out.fit HG.out.cputs HG.out.hashed.plain.puts
  have CQ := fun W (h : Below w1.heap.size w1 W) => R7Sign_any (srv := srv) (R1.ext h) HG.out.fit HG.out.cputs HG.out.hashed.plain.puts
  have CK := fun W (h : Below w1.heap.size w1 W) => Ev.good.check (R1.ext h) HG.out
  have HV1 := hide (fun (h1 : evE e = 0) (h2 : srv = partB e.sender) => show verE (signE e srv) = 0 from h2 ▸ sign_ver h1)
  have HW1 := hide (sign_rec e srv)
  obtain ⟨E1, hE1⟩ : ∃ x, signE e srv = x := ⟨_, rfl⟩
  rw [hE1] at g5 CSg HV1 HW1
  simp only [hE1] at CQ
  have HG5 := hide g5
  clear hE1 g5 R1
  go_upto_region 4 with (first
    | refine wpList_loadS rfl (.tmp 2) rfl strcE ⟨w.heap.size, 0, none⟩ rfl cs HL.out (box_all HB1.out) ?_
    | (go_at_call 19; refine CSg.mono ?_; rintro x w2 ⟨cs5, rfl, R5, hb2⟩; have HL5 := hide R5.length; have HO5 := hide R5.one)
    | refine wpList_newS rfl rfl strcE rfl (.tmp 5) (.tmp 21) rfl rfl rfl cs5.toArray rfl (by simpa using HL5.out) (by simpa using HO5.out) ?_)
  have B5 := heap_alloc_new w2 (.cells cs5.toArray 34)
  have kx := ext_alloc (ext_refl w2) (.cells cs5.toArray 34)
  have hb13 := ext_trans hb2 kx
  have R5 := R5.any.ext kx
  have HB1 := hide (box_below HB1.out hb13)
  generalize w2.alloc (.cells cs5.toArray 34) = w3 at B5 hb13 R5 HB1 kx ⊢
  generalize w2.heap.size = g5 at B5 kx ⊢
  have HB5 := hide B5
  have f5 := HG5.out.fitE
  have CQ := fun W (h : Below w3.heap.size w3 W) => CQ W (ext_trans hb13 h)
  clear B5 kx hb2 CSg
  refine wp_region_now (by kernel_rfl) ?_
  intro Y hY
  have T0 : Below Y.heap.size Y Y := ext_refl Y
  have HB1Y := hide (box_below HB1.out hY)
  have HB5Y := hide (box_below HB5.out hY)
  refine wpAnyP_take (i := 0) rfl (by kernel_rfl) (by kernel_rfl) (by kernel_rfl) (by kernel_rfl) (fun _ _ _ h => h) (yieldsIf_loadS rfl (.tmp 5) rfl strcE ⟨g5, 0, none⟩ rfl cs5 HL5.out (fun w2 hT => box_all (box_below HB5Y.out hT))) T0 ?_
  refine wpAnyP_take (i := 1) rfl (by kernel_rfl) (by kernel_rfl) (by kernel_rfl) (by kernel_rfl) (fun _ _ _ h => h) (yieldsIf_loadS rfl (.tmp 2) rfl strcE ⟨w.heap.size, 0, none⟩ rfl cs HL.out (fun w2 hT => box_all (box_below HB1Y.out hT))) T0 ?_
  refine wpAnyP_take (i := 2) rfl (by kernel_rfl) (by kernel_rfl) (by kernel_rfl) (by kernel_rfl) (fun _ _ _ h => h) (yieldsIf_run (.string srv) rfl (fun w' => by go_simp)) T0 ?_
  go_simp
  go_simp
  refine wpAnyP_oneQ (i := 3) (by kernel_rfl) rfl ?_
  go_wp2_with fail
  refine (CQ _ (ext_trans hY T0)).mono ?_
  rintro x c1 ⟨cs1, rfl, R1, hc1⟩
  have T1 := ext_trans T0 hc1
  go_wp2_with fail
  refine nextQ T1 ?_
  go_simp
  go_simp
  refine wpAnyP_oneQ (i := 4) (by kernel_rfl) rfl ?_
  go_wp2_with fail
  have CX := R7Same_any (R5.ext (ext_trans hY T1)) R1 f5 f5
  simp only [decide_true] at CX
  refine CX.mono ?_
  rintro x c2 ⟨rfl, hc2⟩
  clear CX
  have T2 := ext_trans T1 hc2
  go_wp2_with fail
  refine nextQ T2 ?_
  go_simp
  refine wpAnyP_take (i := 5) rfl (by kernel_rfl) (by kernel_rfl) (by kernel_rfl) (by kernel_rfl) (fun _ _ _ h => h) (yieldsIf_run (.bool false) rfl (fun w' => by go_simp)) T2 ?_
  go_simp
  refine wpAnyP_done (by kernel_rfl) ?_
  have kz := ext_trans hY T2
  have HB1 := hide (box_below HB1.out kz)
  have HB5 := hide (box_below HB5.out kz)
  have R5 := R5.ext kz
  have hb14 := ext_trans hb13 kz
  have CK := CK _ hb14
  clear hY T0 T1 T2 R1 HB1Y HB5Y CQ kz hb13
  have HV := hide (r2_ServerOf e.sender c2 (by have := HG.out.sender; omega))
  go_upto_region 6 with fail
  by_cases z : evE e = 0
  rotate_left
  · obtain ⟨v, hv⟩ : ∃ v, evE e = v := ⟨_, rfl⟩
    rw [hv] at CK z
    have z1 : (v == 0) = false := by simpa using z
    clear z hv HV1
    go_wp2_with (first
      | refine wpList_loadS rfl (.tmp 2) rfl strcE ⟨w.heap.size, 0, none⟩ rfl cs HL.out (box_all HB1.out) ?_
      | (go_at_call 11; refine CK.mono ?_; rintro x w6 ⟨rfl, hb6⟩)
      | (go_at_call 10; refine (lives_any _).mono ?_; rintro x wl ⟨rfl, hbl⟩))
    go_ret
    exact ⟨rfl, ext_trans hbb (ext_trans hb14 (ext_trans hb6 hbl))⟩
  rw [z] at CK
  replace HV1 := hide (HV1.out z)
  clear z
  have CVv := fun W => r2_ServerOf e.sender W (by have := HG.out.sender; omega)
  obtain ⟨pv, hpv⟩ : ∃ v, partB e.sender = v := ⟨_, rfl⟩
  rw [hpv] at HV1
  simp only [hpv] at CVv
  clear hpv HV
  by_cases z : srv = pv
  rotate_left
  · have z1 : (srv.toList == pv.toList) = false := beq_eq_false_iff_ne.2 fun h => z (str_eq_of h)
    clear z HV1
    go_wp2_with (first
      | refine wpList_loadS rfl (.tmp 2) rfl strcE ⟨w.heap.size, 0, none⟩ rfl cs HL.out (box_all HB1.out) ?_
      | (go_at_call 11; refine CK.mono ?_; rintro x w6 ⟨rfl, hb6⟩; have r2 := box_at (box_below HB1.out hb6) s2)
      | (go_at_call 22; refine (CVv _).mono ?_; rintro x w7 ⟨rfl, hw7⟩; rw [hw7]; clear hw7 w7)
      | (go_at_call 10; refine (lives_any _).mono ?_; rintro x wl ⟨rfl, hbl⟩))
    go_ret
    exact ⟨rfl, ext_trans hbb (ext_trans hb14 (ext_trans hb6 hbl))⟩
  subst z
  have V1 := HV1.out rfl
  go_upto_region 7 with (first
    | refine wpList_loadS rfl (.tmp 2) rfl strcE ⟨w.heap.size, 0, none⟩ rfl cs HL.out (box_all HB1.out) ?_
    | (go_at_call 11; refine CK.mono ?_; rintro x w6 ⟨rfl, hb6⟩; have r2 := box_at (box_below HB1.out hb6) s2)
    | (go_at_call 22; refine (CVv _).mono ?_; rintro x w7 ⟨rfl, hw7⟩; rw [hw7]; clear hw7 w7))
  have HB5 := hide (box_below HB5.out hb6)
  have R5 := R5.ext hb6
  have hb16 := ext_trans hb14 hb6
  have HV2 := hide (ver_strip V1)
  have HV3 := hide V1
  have CR := rec_ok R5 HG5.out HW1.out V1
  clear r2 hb6 hb14 CK CVv HV1 V1 HB1 s2
  go_upto_region 8 with (first
    | refine wpList_loadS rfl (.tmp 5) rfl strcE ⟨g5, 0, none⟩ rfl cs5 HL5.out (box_all HB5.out) ?_
    | (go_at_call 23; refine CR.mono ?_; rintro x w7 ⟨cs6, rfl, R6, hb7⟩; have HL6 := hide R6.length; have HO6 := hide R6.one)
    | refine wpList_newS rfl rfl strcE rfl (.tmp 6) (.tmp 41) rfl rfl rfl cs6.toArray rfl (by simpa using HL6.out) (by simpa using HO6.out) ?_)
  have B6 := heap_alloc_new w7 (.cells cs6.toArray 34)
  have kx := ext_alloc (ext_refl w7) (.cells cs6.toArray 34)
  have hb68 := ext_trans hb7 kx
  have R6 := R6.ext kx
  have R5 := R5.ext hb68
  have HB5 := hide (box_below HB5.out hb68)
  have hb18 := ext_trans hb16 hb68
  generalize w7.alloc (.cells cs6.toArray 34) = w8 at B6 R6 R5 HB5 hb18 kx ⊢
  generalize w7.heap.size = g6 at B6 kx ⊢
  have HB6 := hide B6
  have HR5 := hide R5
  have CT := EStrip_any R5 HG5.out.fit
  clear B6 kx hb7 hb68 hb16 CR R5
  go_upto_region 9 with (first
    | refine wpList_loadS rfl (.tmp 5) rfl strcE ⟨g5, 0, none⟩ rfl cs5 HL5.out (box_all HB5.out) ?_
    | (go_at_call 24; refine CT.mono ?_; rintro x w9 ⟨csx, rfl, Rx, hb9⟩; have CU := rec_ok Rx HG5.out.strip (recE_strip E1) HV2.out)
    | (go_at_call 23; refine CU.mono ?_; rintro x w10 ⟨cs8, rfl, R8, hb10⟩; have HL8 := hide R8.length; have HO8 := hide R8.one)
    | refine wpList_newS rfl rfl strcE rfl (.tmp 8) (.tmp 47) rfl rfl rfl cs8.toArray rfl (by simpa using HL8.out) (by simpa using HO8.out) ?_)
  have B8 := heap_alloc_new w10 (.cells cs8.toArray 34)
  have kx := ext_alloc (ext_refl w10) (.cells cs8.toArray 34)
  have k9 := ext_trans hb9 hb10
  have k11 := ext_trans k9 kx
  have R8 := R8.ext kx
  have R6 := R6.ext k11
  have R5 := HR5.out.ext k11
  have HB5 := hide (box_below HB5.out k11)
  have HB6 := hide (box_below HB6.out k11)
  have hb1b := ext_trans hb18 k11
  generalize w10.alloc (.cells cs8.toArray 34) = w11 at B8 R8 R6 R5 HB5 HB6 hb1b kx k11 ⊢
  generalize w10.heap.size = g8 at B8 kx ⊢
  have HB8 := hide B8
  have f8 := HG5.out.strip.fitE
  have CV := fun W (h : Below w11.heap.size w11 W) => Verify_any (R5.ext h) HG5.out
  rw [HV3.out] at CV
  have CS := fun W (h : Below w11.heap.size w11 W) => EStrip_any (R5.ext h) HG5.out.fit
  clear B8 kx k9 k11 hb9 hb10 CT CU Rx hb18 HR5
  refine wp_region_now (by kernel_rfl) ?_
  intro Y hY
  have T0 : Below Y.heap.size Y Y := ext_refl Y
  have HB5Y := hide (box_below HB5.out hY)
  have HB6Y := hide (box_below HB6.out hY)
  have HB8Y := hide (box_below HB8.out hY)
  refine wpAnyP_take (i := 0) rfl (by kernel_rfl) (by kernel_rfl) (by kernel_rfl) (by kernel_rfl) (fun _ _ _ h => h) (yieldsIf_loadS rfl (.tmp 5) rfl strcE ⟨g5, 0, none⟩ rfl cs5 HL5.out (fun w2 hT => box_all (box_below HB5Y.out hT))) T0 ?_
  go_simp
  refine wpAnyP_oneQ (i := 1) (by kernel_rfl) rfl ?_
  go_wp2_with fail
  refine (CV _ (ext_trans hY T0)).mono ?_
  rintro x c1 ⟨rfl, hc1⟩
  have T1 := ext_trans T0 hc1
  go_wp2_with fail
  refine nextQ T1 ?_
  go_simp
  refine wpAnyP_take (i := 2) rfl (by kernel_rfl) (by kernel_rfl) (by kernel_rfl) (by kernel_rfl) (fun _ _ _ h => h) (yieldsIf_run (.bool true) rfl (fun w' => by go_simp)) T1 ?_
  refine wpAnyP_take (i := 3) rfl (by kernel_rfl) (by kernel_rfl) (by kernel_rfl) (by kernel_rfl) (fun _ _ _ h => h) (yieldsIf_run (.bool true) rfl (fun w' => by go_simp)) T1 ?_
  go_simp
  refine wpAnyP_take (i := 4) rfl (by kernel_rfl) (by kernel_rfl) (by kernel_rfl) (by kernel_rfl) (fun _ _ _ h => h) (yieldsIf_run (.int .i64 0) rfl (fun w' => by go_simp)) T1 ?_
  refine wpAnyP_take (i := 5) rfl (by kernel_rfl) (by kernel_rfl) (by kernel_rfl) (by kernel_rfl) (fun _ _ _ h => h) (yieldsIf_run (.bool true) rfl (fun w' => by go_simp)) T1 ?_
  refine wpAnyP_take (i := 6) rfl (by kernel_rfl) (by kernel_rfl) (by kernel_rfl) (by kernel_rfl) (fun _ _ _ h => h) (yieldsIf_run (.bool true) rfl (fun w' => by go_simp)) T1 ?_
  go_simp
  refine wpAnyP_take (i := 7) rfl (by kernel_rfl) (by kernel_rfl) (by kernel_rfl) (by kernel_rfl) (fun _ _ _ h => h) (yieldsIf_run (.bool true) rfl (fun w' => by go_simp)) T1 ?_
  refine wpAnyP_take (i := 8) rfl (by kernel_rfl) (by kernel_rfl) (by kernel_rfl) (by kernel_rfl) (fun _ _ _ h => h) (yieldsIf_loadS rfl (.tmp 6) rfl strcE ⟨g6, 0, none⟩ rfl cs6 HL6.out (fun w2 hT => box_all (box_below HB6Y.out hT))) T1 ?_
  refine wpAnyP_take (i := 9) rfl (by kernel_rfl) (by kernel_rfl) (by kernel_rfl) (by kernel_rfl) (fun _ _ _ h => h) (yieldsIf_loadS rfl (.tmp 5) rfl strcE ⟨g5, 0, none⟩ rfl cs5 HL5.out (fun w2 hT => box_all (box_below HB5Y.out hT))) T1 ?_
  go_simp
  go_simp
  refine wpAnyP_oneQ (i := 10) (by kernel_rfl) rfl ?_
  go_wp2_with fail
  have CX2 := R7Same_any (R6.ext (ext_trans hY T1)) (R5.ext (ext_trans hY T1)) f5 f5
  simp only [decide_true] at CX2
  refine CX2.mono ?_
  rintro x c2 ⟨rfl, hc2⟩
  clear CX2
  have T2 := ext_trans T1 hc2
  go_wp2_with fail
  refine nextQ T2 ?_
  go_simp
  refine wpAnyP_take (i := 11) rfl (by kernel_rfl) (by kernel_rfl) (by kernel_rfl) (by kernel_rfl) (fun _ _ _ h => h) (yieldsIf_run (.bool true) rfl (fun w' => by go_simp)) T2 ?_
  refine wpAnyP_take (i := 12) rfl (by kernel_rfl) (by kernel_rfl) (by kernel_rfl) (by kernel_rfl) (fun _ _ _ h => h) (yieldsIf_run (.bool true) rfl (fun w' => by go_simp)) T2 ?_
  refine wpAnyP_take (i := 13) rfl (by kernel_rfl) (by kernel_rfl) (by kernel_rfl) (by kernel_rfl) (fun _ _ _ h => h) (yieldsIf_run (.int .i64 0) rfl (fun w' => by go_simp)) T2 ?_
  go_simp
  refine wpAnyP_take (i := 14) rfl (by kernel_rfl) (by kernel_rfl) (by kernel_rfl) (by kernel_rfl) (fun _ _ _ h => h) (yieldsIf_run (.bool true) rfl (fun w' => by go_simp)) T2 ?_
  refine wpAnyP_take (i := 15) rfl (by kernel_rfl) (by kernel_rfl) (by kernel_rfl) (by kernel_rfl) (fun _ _ _ h => h) (yieldsIf_run (.bool true) rfl (fun w' => by go_simp)) T2 ?_
  refine wpAnyP_take (i := 16) rfl (by kernel_rfl) (by kernel_rfl) (by kernel_rfl) (by kernel_rfl) (fun _ _ _ h => h) (yieldsIf_run (.bool true) rfl (fun w' => by go_simp)) T2 ?_
  go_simp
  refine wpAnyP_take (i := 17) rfl (by kernel_rfl) (by kernel_rfl) (by kernel_rfl) (by kernel_rfl) (fun _ _ _ h => h) (yieldsIf_loadS rfl (.tmp 8) rfl strcE ⟨g8, 0, none⟩ rfl cs8 HL8.out (fun w2 hT => box_all (box_below HB8Y.out hT))) T2 ?_
  refine wpAnyP_take (i := 18) rfl (by kernel_rfl) (by kernel_rfl) (by kernel_rfl) (by kernel_rfl) (fun _ _ _ h => h) (yieldsIf_loadS rfl (.tmp 5) rfl strcE ⟨g5, 0, none⟩ rfl cs5 HL5.out (fun w2 hT => box_all (box_below HB5Y.out hT))) T2 ?_
  go_simp
  refine wpAnyP_oneQ (i := 19) (by kernel_rfl) rfl ?_
  go_wp2_with fail
  refine (CS _ (ext_trans hY T2)).mono ?_
  rintro x c3 ⟨cs3, rfl, R3, hc3⟩
  have T3 := ext_trans T2 hc3
  go_wp2_with fail
  refine nextQ T3 ?_
  go_simp
  go_simp
  refine wpAnyP_oneQ (i := 20) (by kernel_rfl) rfl ?_
  go_wp2_with fail
  have CX4 := R7Same_any (R8.ext (ext_trans hY T3)) R3 f8 f8
  simp only [decide_true] at CX4
  refine CX4.mono ?_
  rintro x c4 ⟨rfl, hc4⟩
  clear CX4
  have T4 := ext_trans T3 hc4
  go_wp2_with fail
  refine nextQ T4 ?_
  go_simp
  refine wpAnyP_take (i := 21) rfl (by kernel_rfl) (by kernel_rfl) (by kernel_rfl) (by kernel_rfl) (fun _ _ _ h => h) (yieldsIf_run (.bool true) rfl (fun w' => by go_simp)) T4 ?_
  go_simp
  refine wpAnyP_take (i := 22) rfl (by kernel_rfl) (by kernel_rfl) (by kernel_rfl) (by kernel_rfl) (fun _ _ _ h => h) (yieldsIf_run (.bool true) rfl (fun w' => by go_simp)) T4 ?_
  go_simp
  refine wpAnyP_oneQ (i := 23) (by kernel_rfl) rfl ?_
  go_wp2_with fail
  refine (lives_any _).mono ?_
  rintro x c5 ⟨rfl, hc5⟩
  have T5 := ext_trans T4 hc5
  go_wp2_with fail
  refine nextQ T5 ?_
  go_simp
  refine wpAnyP_take (i := 24) rfl (by kernel_rfl) (by kernel_rfl) (by kernel_rfl) (by kernel_rfl) (fun _ _ _ h => h) (yieldsIf_run (.bool true) rfl (fun w' => by go_simp)) T5 ?_
  refine wpAnyP_take (i := 25) rfl (by kernel_rfl) (by kernel_rfl) (by kernel_rfl) (by kernel_rfl) (fun _ _ _ h => h) (yieldsIf_run (.bool true) rfl (fun w' => by go_simp)) T5 ?_
  go_simp
  go_simp
  refine wpAnyP_done (by kernel_rfl) ?_
  go_wp2_with fail
  go_ret
  exact ⟨rfl, ext_trans hbb (ext_trans hb1b (ext_trans hY T5))⟩
end
end Go.Proofs.YtnfbmhkjmkdmjaaGreat

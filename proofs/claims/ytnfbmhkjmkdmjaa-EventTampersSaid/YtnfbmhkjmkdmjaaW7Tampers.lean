/-
  EventTampers: the walk.
-/
import Derived.Test.YtnfbmhkjmkdmjaaTamp
set_option linter.unusedVariables false
set_option linter.unusedSimpArgs false
namespace Go.Proofs.Ytnfbmhkjmkdmjaa
open Go.RowKit
open Classical
section
open Go.ChangeShapes Go.WideShapes Go.ChangeAt Go.RowKit Go.Deep
variable {H : Type} {enc : TypeId × Value → H} {W : World} {base : Nat} {spare : Nat → Bool} {held : Bool}
theorem cCh : Try.prog.cellsOf 41 = 2 := by kernel_rfl
set_option maxRecDepth 100000 in
theorem read_change {r : Reach} {b0 : Nat} {v : Value} {d : DataW H} {p : List MemPlace} (hv : Value.okWide Try.prog W r b0 41 v) (h : DataW.Trod enc Try.prog W base spare held 41 v d p) :
    ∃ s n, v = .agg #[.int .i64 s, .int .i64 n] ∧ I64 n := by
  obtain ⟨cs, rfl, hsz⟩ := okWide_struct Try.underlying41 hv
  obtain ⟨fuel, hf⟩ := h
  have hcl : (Value.agg cs).cells.toList = cs.toList := by simp [Value.cells]
  rw [hcl] at hf
  have hl : cs.toList.length = 2 := by rw [Array.length_toList, hsz]; exact cCh
  obtain ⟨xs2, n2, _, _, _, hxl2, hf2⟩ := DataW.trod_struct Try.underlying41 hf
  obtain ⟨y13, t13⟩ := read_field hxl2 hf2 0 _ rfl 1 cI
  obtain ⟨y14, t14⟩ := read_field hxl2 hf2 1 _ rfl 1 cI
  obtain ⟨l⟩ := cs
  match l, hl with
  | [c0, c1], _ =>
    obtain ⟨s13, rfl, w13⟩ := field_int (c := c0) Try.underlying3 t13
    obtain ⟨i14, rfl, w14⟩ := field_int (c := c1) Try.underlying3 t14
    exact ⟨_, _, rfl, i64_of_wf w14⟩
end
theorem tamper_ver {e f : Ev} (h : verE e = 0) (hi : f.id = e.id) (hn : ¬ idV f = idV e) : verE f ≠ 0 := fun h2 => hn (by
  rw [(verE_zero h2).2.2.1, (verE_zero h).2.2.1, hi])
theorem tamper_rec {e f : Ev} (h : verE e = 0) (hi : f.id = e.id) (hn : ¬ idV f = idV e) : verE (recE f) ≠ 0 := by
  unfold recE
  split
  · exact tamper_ver h hi hn
  · intro h2
    have h3 := (verE_zero h2).2.2.1
    rw [idV_strip] at h3
    exact hn (by rw [h3, (verE_zero h).2.2.1]; exact hi)
section
attribute [local go_sem] Addr.add_mid
set_option maxRecDepth 100000 in
set_option maxHeartbeats 8000000 in
theorem tampers7_any {cs : List Value} {e : Ev} {fd by_ : Int} {w : World} (hr : EvR w Any cs e) (ho : e.ok) (hby : I64 by_) : Calls Try.prog 4 #[.agg cs.toArray, .agg #[.int .i64 fd, .int .i64 by_]] w (Says true w) := by
  have HR := hide hr; have HO := hide ho; have HL := hide hr.length
  have BA := heap_alloc2_old w (.cells cs.toArray 34) (.cells #[.int .i64 fd, .int .i64 by_] 41)
  have BB := heap_alloc2_new w (.cells cs.toArray 34) (.cells #[.int .i64 fd, .int .i64 by_] 41)
  have hb := below_two w (.cells cs.toArray 34) (.cells #[.int .i64 fd, .int .i64 by_] 41)
  clear hr ho
  go_enter Try.func4, Try.ntmps4
  go_upto_region 1 with fail
  generalize (w.alloc (.cells cs.toArray 34)).alloc (.cells #[.int .i64 fd, .int .i64 by_] 41) = W at BA BB hb ⊢
  have HA := hide BA; have HB := hide BB
  clear BA BB
  go_wp2_with (refine wpList_loadS rfl (.tmp 2) rfl strcE ⟨w.heap.size, 0, none⟩ rfl cs HL.out (box_all HA.out) ?_)
  refine (tight7_any (HR.out.ext hb) HO.out).mono ?_
  rintro x w1 ⟨b, rfl, hs, hb1⟩
  have hbb := ext_trans hb hb1
  cases b
  case false =>
    go_wp2_with (go_at_call 8; refine (lives_any _).mono ?_; rintro x wl ⟨rfl, hbl⟩)
    go_ret
    exact ⟨rfl, ext_trans hbb hbl⟩
  have HT := hide (hs rfl)
  have HG := hide HT.out.good
  have HA1 := hide (box_below HA.out hb1); have HB1 := hide (box_below HB.out hb1)
  have CV := Verify_any (HR.out.ext hbb) HG.out
  clear hs hb hb1 HA HB
  by_cases z : verE e = 0
  rotate_left
  · obtain ⟨v, hv⟩ : ∃ v, verE e = v := ⟨_, rfl⟩
    rw [hv] at CV z
    have z1 : (v != 0) = true := by simpa using z
    clear z hv
    go_wp2_with (first
      | refine wpList_loadS rfl (.tmp 2) rfl strcE ⟨w.heap.size, 0, none⟩ rfl cs HL.out (box_all HA1.out) ?_
      | (go_at_call 13; refine CV.mono ?_; rintro x w2 ⟨rfl, hb2⟩)
      | (go_at_call 8; refine (lives_any _).mono ?_; rintro x wl ⟨rfl, hbl⟩))
    go_ret
    exact ⟨rfl, ext_trans hbb (ext_trans hb2 hbl)⟩
  rw [z] at CV
  have HV := hide z
  clear z
  go_upto_region 3 with (first
    | refine wpList_loadS rfl (.tmp 2) rfl strcE ⟨w.heap.size, 0, none⟩ rfl cs HL.out (box_all HA1.out) ?_
    | (go_at_call 13; refine CV.mono ?_; rintro x w2 ⟨rfl, hb2⟩))
  have HA2 := hide (box_below HA1.out hb2); have HB2 := hide (box_below HB1.out hb2)
  have hbc := ext_trans hbb hb2
  have CC := changed_any (fd := fd) (HR.out.ext hbc) HT.out hby
  clear hb2 hbb CV HA1 HB1
  go_upto_region 4 with (first
    | refine wpList_loadS rfl (.tmp 2) rfl strcE ⟨w.heap.size, 0, none⟩ rfl cs HL.out (box_all HA2.out) ?_
    | refine wpList_loadS rfl (.tmp 3) rfl strcCh ⟨w.heap.size + 1, 0, none⟩ rfl [.int .i64 fd, .int .i64 by_] rfl (box_all HB2.out) ?_
    | (go_at_call 14; refine CC.mono ?_; rintro x w3 ⟨csF, f, rfl, RF, HAL, hb3⟩; have HLF := hide RF.length; have HOF := hide RF.one)
    | refine wpList_newS rfl rfl strcE rfl (.tmp 5) (.tmp 19) rfl rfl rfl csF.toArray rfl (by simpa using HLF.out) (by simpa using HOF.out) ?_)
  have BF := heap_alloc_new w3 (.cells csF.toArray 34)
  have kx := ext_alloc (ext_refl w3) (.cells csF.toArray 34)
  have k24 := ext_trans hb3 kx
  have RF := RF.ext kx
  have HA4 := hide (box_below HA2.out k24)
  have K4 := ext_trans hbc k24
  generalize w3.alloc (.cells csF.toArray 34) = w4 at BF RF HA4 K4 kx ⊢
  generalize w3.heap.size = g5 at BF kx ⊢
  have HF4 := hide BF
  have R1 := HR.out.ext K4
  obtain ⟨gF, hid⟩ := HAL
  have HGF := hide gF
  have HID := hide hid
  have f1 := HG.out.fitE
  have fF := gF.fitE
  clear BF kx hb3 k24 hbc CC HA2 HB2 gF hid
  by_cases q : e = f
  · have HQ := hide (decide_eq_true q)
    clear q
    refine wp_region_now (by kernel_rfl) ?_
    intro Y hY
    have T0 : Below Y.heap.size Y Y := ext_refl Y
    have HA4Y := hide (box_below HA4.out hY)
    have HF4Y := hide (box_below HF4.out hY)
    refine wpAnyP_take (i := 0) rfl (by kernel_rfl) (by kernel_rfl) (by kernel_rfl) (by kernel_rfl) (fun _ _ _ h => h) (yieldsIf_loadS rfl (.tmp 2) rfl strcE ⟨w.heap.size, 0, none⟩ rfl cs HL.out (fun w2 hT => box_all (box_below HA4Y.out hT))) T0 ?_
    refine wpAnyP_take (i := 1) rfl (by kernel_rfl) (by kernel_rfl) (by kernel_rfl) (by kernel_rfl) (fun _ _ _ h => h) (yieldsIf_loadS rfl (.tmp 5) rfl strcE ⟨g5, 0, none⟩ rfl csF HLF.out (fun w2 hT => box_all (box_below HF4Y.out hT))) T0 ?_
    go_simp
    refine wpAnyP_oneQ (i := 2) (by kernel_rfl) rfl ?_
    go_wp2_with fail
    have CX1 := R7Same_any (R1.ext (ext_trans hY T0)) (RF.ext (ext_trans hY T0)) f1 fF
    rw [HQ.out] at CX1
    refine CX1.mono ?_
    rintro x c1 ⟨rfl, hc1⟩
    clear CX1
    have T1 := ext_trans T0 hc1
    go_wp2_with fail
    refine nextQ T1 ?_
    go_simp
    refine wpAnyP_take (i := 3) rfl (by kernel_rfl) (by kernel_rfl) (by kernel_rfl) (by kernel_rfl) (fun _ _ _ h => h) (yieldsIf_run (.bool true) rfl (fun w' => by go_simp)) T1 ?_
    go_simp
    refine wpAnyP_take (i := 4) rfl (by kernel_rfl) (by kernel_rfl) (by kernel_rfl) (by kernel_rfl) (fun _ _ _ h => h) (v := undef) (.inr ⟨rfl, rfl⟩) T1 ?_
    refine wpAnyP_take (i := 5) rfl (by kernel_rfl) (by kernel_rfl) (by kernel_rfl) (by kernel_rfl) (fun _ _ _ h => h) (v := undef) (.inr ⟨rfl, rfl⟩) T1 ?_
    refine wpAnyP_take (i := 6) rfl (by kernel_rfl) (by kernel_rfl) (by kernel_rfl) (by kernel_rfl) (fun _ _ _ h => h) (v := undef) (.inr ⟨rfl, rfl⟩) T1 ?_
    go_simp
    refine wpAnyP_take (i := 7) rfl (by kernel_rfl) (by kernel_rfl) (by kernel_rfl) (by kernel_rfl) (fun _ _ _ h => h) (v := undef) (.inr ⟨rfl, rfl⟩) T1 ?_
    refine wpAnyP_take (i := 8) rfl (by kernel_rfl) (by kernel_rfl) (by kernel_rfl) (by kernel_rfl) (fun _ _ _ h => h) (v := undef) (.inr ⟨rfl, rfl⟩) T1 ?_
    refine wpAnyP_take (i := 9) rfl (by kernel_rfl) (by kernel_rfl) (by kernel_rfl) (by kernel_rfl) (fun _ _ _ h => h) (yieldsIf_run (.bool true) rfl (fun w' => by go_simp)) T1 ?_
    go_simp
    go_simp
    refine wpAnyP_done (by kernel_rfl) ?_
    go_wp2_with (go_at_call 8; refine (lives_any _).mono ?_; rintro x wl ⟨rfl, hbl⟩)
    go_ret
    exact ⟨rfl, ext_trans K4 (ext_trans hY (ext_trans T1 hbl))⟩
  have HQ := hide (decide_eq_false q)
  clear q
  have CIF := fun W (h : Below w4.heap.size w4 W) => IdOf_any (RF.ext h) HGF.out.fit HGF.out.plain.puts
  have CIE := fun W (h : Below w4.heap.size w4 W) => IdOf_any (R1.ext h) HG.out.fit HG.out.plain.puts
  by_cases q : idV f = idV e
  · simp only [q] at CIF
    obtain ⟨iv, hiv⟩ : ∃ v, idV e = v := ⟨_, rfl⟩
    simp only [hiv] at CIF CIE
    clear q hiv
    refine wp_region_now (by kernel_rfl) ?_
    intro Y hY
    have T0 : Below Y.heap.size Y Y := ext_refl Y
    have HA4Y := hide (box_below HA4.out hY)
    have HF4Y := hide (box_below HF4.out hY)
    refine wpAnyP_take (i := 0) rfl (by kernel_rfl) (by kernel_rfl) (by kernel_rfl) (by kernel_rfl) (fun _ _ _ h => h) (yieldsIf_loadS rfl (.tmp 2) rfl strcE ⟨w.heap.size, 0, none⟩ rfl cs HL.out (fun w2 hT => box_all (box_below HA4Y.out hT))) T0 ?_
    refine wpAnyP_take (i := 1) rfl (by kernel_rfl) (by kernel_rfl) (by kernel_rfl) (by kernel_rfl) (fun _ _ _ h => h) (yieldsIf_loadS rfl (.tmp 5) rfl strcE ⟨g5, 0, none⟩ rfl csF HLF.out (fun w2 hT => box_all (box_below HF4Y.out hT))) T0 ?_
    go_simp
    refine wpAnyP_oneQ (i := 2) (by kernel_rfl) rfl ?_
    go_wp2_with fail
    have CX1 := R7Same_any (R1.ext (ext_trans hY T0)) (RF.ext (ext_trans hY T0)) f1 fF
    rw [HQ.out] at CX1
    refine CX1.mono ?_
    rintro x c1 ⟨rfl, hc1⟩
    clear CX1
    have T1 := ext_trans T0 hc1
    go_wp2_with fail
    refine nextQ T1 ?_
    go_simp
    refine wpAnyP_take (i := 3) rfl (by kernel_rfl) (by kernel_rfl) (by kernel_rfl) (by kernel_rfl) (fun _ _ _ h => h) (yieldsIf_run (.bool false) rfl (fun w' => by go_simp)) T1 ?_
    go_simp
    refine wpAnyP_take (i := 4) rfl (by kernel_rfl) (by kernel_rfl) (by kernel_rfl) (by kernel_rfl) (fun _ _ _ h => h) (yieldsIf_loadS rfl (.tmp 5) rfl strcE ⟨g5, 0, none⟩ rfl csF HLF.out (fun w2 hT => box_all (box_below HF4Y.out hT))) T1 ?_
    refine wpAnyP_take (i := 6) rfl (by kernel_rfl) (by kernel_rfl) (by kernel_rfl) (by kernel_rfl) (fun _ _ _ h => h) (yieldsIf_loadS rfl (.tmp 2) rfl strcE ⟨w.heap.size, 0, none⟩ rfl cs HL.out (fun w2 hT => box_all (box_below HA4Y.out hT))) T1 ?_
    go_simp
    refine wpAnyP_oneQ (i := 5) (by kernel_rfl) rfl ?_
    go_wp2_with fail
    refine (CIF _ (ext_trans hY T1)).mono ?_
    rintro x c2 ⟨rfl, hc2⟩
    have T2 := ext_trans T1 hc2
    go_wp2_with fail
    refine nextQ T2 ?_
    go_simp
    go_simp
    refine wpAnyP_oneQ (i := 7) (by kernel_rfl) rfl ?_
    go_wp2_with fail
    refine (CIE _ (ext_trans hY T2)).mono ?_
    rintro x c3 ⟨rfl, hc3⟩
    have T3 := ext_trans T2 hc3
    go_wp2_with fail
    refine nextQ T3 ?_
    go_simp
    refine wpAnyP_take (i := 8) rfl (by kernel_rfl) (by kernel_rfl) (by kernel_rfl) (by kernel_rfl) (fun _ _ _ h => h) (yieldsIf_run (.bool true) rfl (fun w' => by go_simp)) T3 ?_
    go_simp
    refine wpAnyP_take (i := 9) rfl (by kernel_rfl) (by kernel_rfl) (by kernel_rfl) (by kernel_rfl) (fun _ _ _ h => h) (yieldsIf_run (.bool true) rfl (fun w' => by go_simp)) T3 ?_
    go_simp
    refine wpAnyP_done (by kernel_rfl) ?_
    go_wp2_with (go_at_call 8; refine (lives_any _).mono ?_; rintro x wl ⟨rfl, hbl⟩)
    go_ret
    exact ⟨rfl, ext_trans K4 (ext_trans hY (ext_trans T3 hbl))⟩
  have HV1 := hide (tamper_ver HV.out HID.out q)
  have HV2 := hide (tamper_rec HV.out HID.out q)
  obtain ⟨iF, hiF⟩ : ∃ v, idV f = v := ⟨_, rfl⟩
  obtain ⟨iE, hiE⟩ : ∃ v, idV e = v := ⟨_, rfl⟩
  simp only [hiF] at CIF
  simp only [hiE] at CIE
  rw [hiF, hiE] at q
  have HNE := hide q
  clear q hiF hiE
  refine wp_region_now (by kernel_rfl) ?_
  intro Y hY
  have T0 : Below Y.heap.size Y Y := ext_refl Y
  have HA4Y := hide (box_below HA4.out hY)
  have HF4Y := hide (box_below HF4.out hY)
  refine wpAnyP_take (i := 0) rfl (by kernel_rfl) (by kernel_rfl) (by kernel_rfl) (by kernel_rfl) (fun _ _ _ h => h) (yieldsIf_loadS rfl (.tmp 2) rfl strcE ⟨w.heap.size, 0, none⟩ rfl cs HL.out (fun w2 hT => box_all (box_below HA4Y.out hT))) T0 ?_
  refine wpAnyP_take (i := 1) rfl (by kernel_rfl) (by kernel_rfl) (by kernel_rfl) (by kernel_rfl) (fun _ _ _ h => h) (yieldsIf_loadS rfl (.tmp 5) rfl strcE ⟨g5, 0, none⟩ rfl csF HLF.out (fun w2 hT => box_all (box_below HF4Y.out hT))) T0 ?_
  go_simp
  refine wpAnyP_oneQ (i := 2) (by kernel_rfl) rfl ?_
  go_wp2_with fail
  have CX1 := R7Same_any (R1.ext (ext_trans hY T0)) (RF.ext (ext_trans hY T0)) f1 fF
  rw [HQ.out] at CX1
  refine CX1.mono ?_
  rintro x c1 ⟨rfl, hc1⟩
  clear CX1
  have T1 := ext_trans T0 hc1
  go_wp2_with fail
  refine nextQ T1 ?_
  go_simp
  refine wpAnyP_take (i := 3) rfl (by kernel_rfl) (by kernel_rfl) (by kernel_rfl) (by kernel_rfl) (fun _ _ _ h => h) (yieldsIf_run (.bool false) rfl (fun w' => by go_simp)) T1 ?_
  go_simp
  refine wpAnyP_take (i := 4) rfl (by kernel_rfl) (by kernel_rfl) (by kernel_rfl) (by kernel_rfl) (fun _ _ _ h => h) (yieldsIf_loadS rfl (.tmp 5) rfl strcE ⟨g5, 0, none⟩ rfl csF HLF.out (fun w2 hT => box_all (box_below HF4Y.out hT))) T1 ?_
  refine wpAnyP_take (i := 6) rfl (by kernel_rfl) (by kernel_rfl) (by kernel_rfl) (by kernel_rfl) (fun _ _ _ h => h) (yieldsIf_loadS rfl (.tmp 2) rfl strcE ⟨w.heap.size, 0, none⟩ rfl cs HL.out (fun w2 hT => box_all (box_below HA4Y.out hT))) T1 ?_
  go_simp
  refine wpAnyP_oneQ (i := 5) (by kernel_rfl) rfl ?_
  go_wp2_with fail
  refine (CIF _ (ext_trans hY T1)).mono ?_
  rintro x c2 ⟨rfl, hc2⟩
  have T2 := ext_trans T1 hc2
  go_wp2_with fail
  refine nextQ T2 ?_
  go_simp
  go_simp
  refine wpAnyP_oneQ (i := 7) (by kernel_rfl) rfl ?_
  go_wp2_with fail
  refine (CIE _ (ext_trans hY T2)).mono ?_
  rintro x c3 ⟨rfl, hc3⟩
  have T3 := ext_trans T2 hc3
  go_wp2_with fail
  refine nextQ T3 ?_
  go_simp
  refine wpAnyP_take (i := 8) rfl (by kernel_rfl) (by kernel_rfl) (by kernel_rfl) (by kernel_rfl) (fun _ _ _ h => h) (yieldsIf_run (.bool false) rfl (fun w' => by go_simp; exact HNE.out)) T3 ?_
  go_simp
  refine wpAnyP_take (i := 9) rfl (by kernel_rfl) (by kernel_rfl) (by kernel_rfl) (by kernel_rfl) (fun _ _ _ h => h) (yieldsIf_run (.bool false) rfl (fun w' => by go_simp)) T3 ?_
  go_simp
  refine wpAnyP_done (by kernel_rfl) ?_
  have kz := ext_trans hY T3
  have HF5 := hide (box_below HF4.out kz)
  have RF := RF.ext kz
  have K5 := ext_trans K4 kz
  clear hY T0 T1 T2 T3 hc1 hc2 hc3 kz HA4Y HF4Y HA4 HF4 K4 CIF CIE R1
  have CR : Calls Try.prog 15 #[.agg csF.toArray] c3 (fun x w' => ∃ cs', x = .returned (.tuple #[.agg cs'.toArray, .int .i64 (verE (recE f))]) ∧ EvR w' Any cs' Ev.zero ∧ Below c3.heap.size c3 w') := by
    refine (Receive_any RF HGF.out).mono ?_
    rintro x w' ⟨cs', k1, k2, k3⟩
    rw [if_neg HV2.out] at k2
    exact ⟨cs', k1, k2.any, k3⟩
  obtain ⟨vr, hvr⟩ : ∃ v, verE (recE f) = v := ⟨_, rfl⟩
  simp only [hvr] at CR
  rw [hvr] at HV2
  have z2 : (vr != 0) = true := by simpa using HV2.out
  clear hvr
  go_upto_region 7 with (first
    | refine wpList_loadS rfl (.tmp 5) rfl strcE ⟨g5, 0, none⟩ rfl csF HLF.out (box_all HF5.out) ?_
    | (go_at_call 15; refine CR.mono ?_; rintro x w6 ⟨csG, rfl, RG, hb6⟩; have HLG := hide RG.length; have HOG := hide RG.one)
    | refine wpList_newS rfl rfl strcE rfl (.tmp 6) (.tmp 34) rfl rfl rfl csG.toArray rfl (by simpa using HLG.out) (by simpa using HOG.out) ?_)
  have BG := heap_alloc_new w6 (.cells csG.toArray 34)
  have kx := ext_alloc (ext_refl w6) (.cells csG.toArray 34)
  have k57 := ext_trans hb6 kx
  have RG := RG.ext kx
  have RF := RF.ext k57
  have HF7 := hide (box_below HF5.out k57)
  have K7 := ext_trans K5 k57
  generalize w6.alloc (.cells csG.toArray 34) = w7 at BG RG RF HF7 K7 kx ⊢
  generalize w6.heap.size = g6 at BG kx ⊢
  have HG7 := hide BG
  have CV := Verify_any RF HGF.out
  obtain ⟨vf, hvf⟩ : ∃ v, verE f = v := ⟨_, rfl⟩
  rw [hvf] at CV HV1
  have z1 : (vf != 0) = true := by simpa using HV1.out
  have HRG := hide RG
  clear BG kx hb6 k57 K5 hvf RF RG CR
  go_wp2_with (first
    | refine wpList_loadS rfl (.tmp 5) rfl strcE ⟨g5, 0, none⟩ rfl csF HLF.out (box_all HF7.out) ?_
    | (go_at_call 13; refine CV.mono ?_; rintro x w8 ⟨rfl, hb8⟩; have HG8 := hide (box_below HG7.out hb8); have CX := R7Same_any (HRG.out.ext hb8) (evZero_R w8 Any) zero7_fit zero7_fit; simp only [decide_true] at CX)
    | refine wpList_loadS rfl (.tmp 6) rfl strcE ⟨g6, 0, none⟩ rfl csG HLG.out (box_all HG8.out) ?_
    | (go_at_call 10; refine CX.mono ?_; rintro x w9 ⟨rfl, hb9⟩)
    | (go_at_call 8; refine (lives_any _).mono ?_; rintro x wl ⟨rfl, hbl⟩))
  go_ret
  exact ⟨rfl, ext_trans K7 (ext_trans hb8 (ext_trans hb9 hbl))⟩
end
end Go.Proofs.Ytnfbmhkjmkdmjaa

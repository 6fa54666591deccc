/-
  EventBytes: the walk.
-/
import Derived.Test.YtnfbmhkjmkdmjaaGreatLives
import Derived.Test.YtnfbmhkjmkdmjaaGreatEvP
import Derived.Test.YtnfbmhkjmkdmjaaGreatEvDec
import Derived.Test.YtnfbmhkjmkdmjaaGreatREvStr
import Derived.Test.YtnfbmhkjmkdmjaaGreatPhaseB
set_option linter.unusedVariables false
set_option linter.unusedSimpArgs false
namespace Go.Proofs.YtnfbmhkjmkdmjaaGreat
open Go.RowKit
open Classical
theorem Con.fine.puts {c : Con} (hf : c.fine) (h : (encCon c).length ≤ 1073741824) : c.puts :=
  ⟨h, by have := hf.text; omega, hf.n, hf.target, by have := hf.via; omega, hf.allowL, hf.denyL, hf.lv.usersL, hf.lv.kindsL, fun u hu => ⟨by have := (hf.lv.users u hu).1; omega, (hf.lv.users u hu).2⟩, hf.lv.kinds, hf.lv.rest⟩
theorem Ev.told.puts {e : Ev} (h : e.told) (hf : e.con.fine) (hl : (encEv e).length ≤ 16777216) : e.puts := by
  obtain ⟨g1, g2, g3, g4, g5, g6, g7⟩ := encEv_ge e
  exact ⟨by omega, h.id, by omega, by omega, h.kind, by omega, h.time, h.depth, h.prev, h.auth, by omega, by omega, hf.puts (by omega), h.hash, by omega, h.sum⟩
theorem Ev.told.fitE {e : Ev} (h : e.told) (hf : e.con.fine) (hl : (encEv e).length ≤ 16777216) : e.fit := by
  obtain ⟨g1, g2, g3, g4, g5, g6, g7⟩ := encEv_ge e
  exact ⟨by omega, by omega, hf.fit⟩
section
attribute [local go_sem] Addr.add_mid
theorem Ev.good.told {e : Ev} (h : e.good) : e.told := by
  have hc := h.con.enc_le h.conOk
  obtain ⟨⟨o1, o2, o3, o4, o5, o6, o7, o8, o9, o10, o11, o12, o13⟩, p1, p2, p3, p4, p5, p6, p7⟩ := h
  obtain ⟨c1, c2, c3, c4, ⟨c5, c6, c7⟩, c8, c9⟩ := p7
  obtain ⟨q1, q2, q3, q4, q5, q6, q7, q8, r1, r2, r3, r4, r5, r6, r7⟩ := o10
  exact ⟨o1, by omega, by omega, o4, by omega, o6, o7, o8, o9, by omega, by omega, ⟨by omega, by omega, q2, q3, by omega, by omega, by omega, by omega, fun s hs => by have := c8 s hs; omega, fun s hs => by have := c9 s hs; omega, fun u hu => ⟨by have := c7 u hu; omega, (q7 u hu).2⟩, q8, r1, r2, r3, r4, r5, r6, r7⟩, by omega, o11, by omega, o13⟩
set_option maxRecDepth 100000 in
set_option maxHeartbeats 8000000 in
theorem bytes7_any {cs : List Value} {e : Ev} {b : UInt8} {w : World} (hr : EvR w Any cs e) (ho : e.ok) : Calls Tryz.prog 7 #[.agg cs.toArray, bv b] w (Says true w) := by
  have HR := hide hr; have HO := hide ho; have HL := hide hr.length
  have B := heap_alloc_new w (.cells cs.toArray 34)
  have hb := ext_alloc (ext_refl w) (.cells cs.toArray 34)
  clear hr ho
  obtain ⟨x, hx⟩ : ∃ x : Int, (b.toNat : Int) = x := ⟨_, rfl⟩
  have hbv : bv b = .int .u8 x := by rw [← hx]; rfl
  rw [hbv]
  have HBV := hide hbv
  clear hbv hx
  go_enter Tryz.func7, Tryz.ntmps7
  go_upto_region 1 with fail
  generalize w.alloc (.cells cs.toArray 34) = W at B hb ⊢
  have HB := hide B
  clear B
  go_wp2_with (refine wpList_loadS rfl (.tmp 2) rfl strcE ⟨w.heap.size, 0, none⟩ rfl cs HL.out (box_all HB.out) ?_)
  refine (small7_any (HR.out.ext hb) HO.out).mono ?_
  rintro x w1 ⟨b, rfl, hs, hb1⟩
  have hbb := ext_trans hb hb1
  cases b
  case false =>
    go_wp2_with (go_at_call 10; refine (lives_any _).mono ?_; rintro x wl ⟨rfl, hbl⟩)
    go_ret
    exact ⟨rfl, ext_trans hbb hbl⟩
  have HG := hide (hs rfl)
  have HB1 := hide (box_below HB.out hb1)
  have R1 := HR.out.ext hbb
  clear hs hb hb1 HB
  have hlen := HG.out.enc_le
  have HTOLD := hide HG.out.told
  have CA := EvEncode_any R1 HG.out.puts
  have CQ := fun W (h : Below w1.heap.size w1 W) => R7Encode_any (R1.ext h) HG.out.puts
  obtain ⟨l, hl⟩ : ∃ l, encEv e = l := ⟨_, rfl⟩
  rw [hl] at hlen CA
  simp only [hl] at CQ
  have HEL := hide hl
  clear hl
  go_upto_region 4 with (first
    | refine wpList_loadS rfl (.tmp 2) rfl strcE ⟨w.heap.size, 0, none⟩ rfl cs HL.out (box_all HB1.out) ?_
    | (go_at_call 28; refine CA.mono ?_; rintro x w2 ⟨v2, rfl, ⟨A2, c2, rfl, hc2, Q2⟩, hb2⟩))
  have HB2 := hide (box_below HB1.out hb2)
  have CD := EvDecode_any Q2 hc2 (by omega)
  have HQ2 := hide Q2
  clear Q2 hc2 CA
  go_upto_region 5 with (first
    | (go_at_call 29; refine CD.mono ?_; rintro x w3 ⟨csF, E3, ok3, rfl, RF, hy, hz, hu, hb3⟩; have HLF := hide RF.length; have HOF := hide RF.one)
    | refine wpList_newS rfl rfl strcE rfl (.tmp 6) (.tmp 19) rfl rfl rfl csF.toArray rfl (by simpa using HLF.out) (by simpa using HOF.out) ?_)
  obtain ⟨rfl, rfl⟩ := hu e HTOLD.out HEL.out.symm
  have BF := heap_alloc_new w3 (.cells csF.toArray 34)
  have kx := ext_alloc (ext_refl w3) (.cells csF.toArray 34)
  have k24 := ext_trans hb3 kx
  have RF := RF.any.ext kx
  have Q4 := HQ2.out.ext k24
  have HB4 := hide (box_below HB2.out k24)
  have K4 := ext_trans hb2 k24
  generalize w3.alloc (.cells csF.toArray 34) = w4 at BF RF Q4 HB4 K4 kx k24 ⊢
  generalize w3.heap.size = g6 at BF kx ⊢
  have HF4 := hide BF
  have HQ4 := hide Q4
  have HRF := hide RF
  clear BF kx hb3 hy hz hu CD k24 hb2 HQ2 RF
  have k5 := ext_alloc (ext_refl w4) (.cells #[] 5)
  have own5 := own_empty w4 5 1
  have Q5 := Q4.ext k5
  have s5 : (w4.alloc (.cells #[] 5)).heap.size = w4.heap.size + 1 := by simp
  clear Q4
  go_wp2_with (at_builtin; go_must (refine wpList_append_row rfl (.tmp 22) (.tmp 23) rfl elemB w4.heap.size _ 0 [] rfl own5 _ l.length c2 A2 (bvs l) (by simp [bvs]) rfl Q5 (row_none Q5) (bvs_one l) (by unfold maxLen; omega) (by omega) (by omega) ?_))
  intro v6 w6 hown6 hg6
  have k6 := below_of_own k5 own5 hg6 (by omega) (Nat.le_refl _)
  have hown6 : w6.ownsRow w4.heap.size 5 1 v6 l.length (bvs l) := by simpa using hown6
  obtain ⟨A6, c6, rfl, _, _⟩ := own_form hown6
  clear hg6 own5 Q5 s5 k5
  go_wp2_with (at_builtin; go_must (refine wpList_append_new rfl (.tmp 24) (.tmp 26) rfl elemB w4.heap.size (.slice A6 l.length c6) l.length (bvs l) rfl hown6 1 #[.int .u8 x] rfl rfl (by simp [Value.oneCell']) (by decide) (by unfold maxLen; omega) (by omega) k6.size ?_))
  intro v7 w7 hown7 hg7
  have k7 := below_of_own k6 hown6 hg7 k6.size (Nat.le_refl _)
  obtain ⟨m, hm, HM⟩ := named (l ++ [b])
  have hown8 : w7.ownsRow w4.heap.size 5 1 v7 m.length (bvs m) := by
    have h := hown7
    rw [← HBV.out, show bvs l ++ [bv b] = bvs (l ++ [b]) by simp [bvs]] at h
    rw [hm, List.length_append]; exact h
  have hml : m.length ≤ 16777216 := by rw [hm, List.length_append]; simp; omega
  obtain ⟨A7, c7, rfl, hc7, _⟩ := own_form hown8
  have CD := EvDecode_any (Row.own hown8) hc7 hml
  clear hg7 hown6 hown7 hown8 hm hml hc7 k6
  go_upto_region 6 with (first
    | (go_at_call 29; refine CD.mono ?_; rintro x w8 ⟨csG, E8, ok8, rfl, RG, hy, hz, hu, hb8⟩; have HLG := hide RG.length; have HOG := hide RG.one)
    | refine wpList_newS rfl rfl strcE rfl (.tmp 8) (.tmp 29) rfl rfl rfl csG.toArray rfl (by simpa using HLG.out) (by simpa using HOG.out) ?_)
  have hno : ok8 = false := by
    cases ok8 with
    | false => rfl
    | true =>
      obtain ⟨j1, j2, _⟩ := hy rfl
      have h := encEv_cut (r := [b]) (r' := []) HTOLD.out j2 (by rw [List.append_nil, ← j1, HM.out, HEL.out])
      exact absurd h.2 (by simp)
  subst hno
  have kx := ext_alloc (ext_refl w8) (.cells csG.toArray 34)
  have k9 := ext_trans k7 (ext_trans hb8 kx)
  generalize w8.alloc (.cells csG.toArray 34) = w9 at k9 kx ⊢
  have HB7 := hide (box_below HB4.out k9)
  have HF7 := hide (box_below HF4.out k9)
  have Q9 := HQ4.out.ext k9
  have K9 := ext_trans K4 k9
  have R9 := R1.ext K9
  have RF9 := HRF.out.ext k9
  have f1 := HG.out.fitE
  have CQ := fun W (h : Below w9.heap.size w9 W) => CQ W (ext_trans K9 h)
  have CS1 := fun W (h : Below w9.heap.size w9 W) => R7Same_any (RF9.ext h) (R9.ext h) f1 f1
  have CS2 := fun W (h : Below w9.heap.size w9 W) => ESame_any (RF9.ext h) (R9.ext h) f1 f1
  simp only [decide_true] at CS1 CS2
  clear kx k7 hb8 hy hz hu CD RG k9 HB4 HF4 HQ4 HRF K4 R1 R9 RF9 HOG HLG
  refine wp_region_now (by kernel_rfl) ?_
  intro Y hY
  have T0 : Below Y.heap.size Y Y := ext_refl Y
  have HB7Y := hide (box_below HB7.out hY)
  have HF7Y := hide (box_below HF7.out hY)
  have QY := Q9.ext hY
  refine wpAnyP_take (i := 0) rfl (by kernel_rfl) (by kernel_rfl) (by kernel_rfl) (by kernel_rfl) (fun _ _ _ h => h) (yieldsIf_run (.slice A2 l.length c2) rfl (fun w' => by go_simp)) T0 ?_
  refine wpAnyP_take (i := 1) rfl (by kernel_rfl) (by kernel_rfl) (by kernel_rfl) (by kernel_rfl) (fun _ _ _ h => h) (yieldsIf_str rfl (.tmp 31) 48 9 5 rfl Tryz.underlying48 Tryz.underlying5 Tryz.underlying9 (l := l) rfl rfl (fun w2 hT => ⟨_, QY.ext hT⟩)) T0 ?_
  refine wpAnyP_take (i := 2) rfl (by kernel_rfl) (by kernel_rfl) (by kernel_rfl) (by kernel_rfl) (fun _ _ _ h => h) (yieldsIf_loadS rfl (.tmp 2) rfl strcE ⟨w.heap.size, 0, none⟩ rfl cs HL.out (fun w2 hT => box_all (box_below HB7Y.out hT))) T0 ?_
  go_simp
  go_simp
  refine wpAnyP_oneQ (i := 3) (by kernel_rfl) rfl ?_
  go_wp2_with fail
  refine (CQ _ (ext_trans hY T0)).mono ?_
  rintro x c1 ⟨v5, rfl, ⟨A5, c5, rfl, hc5, Q5⟩, hc1⟩
  have T1 := ext_trans T0 hc1
  go_wp2_with fail
  refine nextQ T1 ?_
  refine wpAnyP_now T1 ?_
  have U1 : Below c1.heap.size c1 c1 := ext_refl c1
  have HB7Y := hide (box_below HB7Y.out T1)
  have HF7Y := hide (box_below HF7Y.out T1)
  go_simp
  refine wpAnyP_take (i := 4) rfl (by kernel_rfl) (by kernel_rfl) (by kernel_rfl) (by kernel_rfl) (fun _ _ _ h => h) (yieldsIf_str rfl (.tmp 34) 48 9 5 rfl Tryz.underlying48 Tryz.underlying5 Tryz.underlying9 (l := l) rfl rfl (fun w2 hT => ⟨_, Q5.ext hT⟩)) U1 ?_
  refine wpAnyP_take (i := 5) rfl (by kernel_rfl) (by kernel_rfl) (by kernel_rfl) (by kernel_rfl) (fun _ _ _ h => h) (yieldsIf_run (.bool true) rfl (fun w' => by go_simp)) U1 ?_
  refine wpAnyP_take (i := 6) rfl (by kernel_rfl) (by kernel_rfl) (by kernel_rfl) (by kernel_rfl) (fun _ _ _ h => h) (yieldsIf_run (.bool true) rfl (fun w' => by go_simp)) U1 ?_
  go_simp
  refine wpAnyP_take (i := 7) rfl (by kernel_rfl) (by kernel_rfl) (by kernel_rfl) (by kernel_rfl) (fun _ _ _ h => h) (yieldsIf_run (.bool true) rfl (fun w' => by go_simp)) U1 ?_
  refine wpAnyP_take (i := 8) rfl (by kernel_rfl) (by kernel_rfl) (by kernel_rfl) (by kernel_rfl) (fun _ _ _ h => h) (yieldsIf_run (.bool true) rfl (fun w' => by go_simp)) U1 ?_
  refine wpAnyP_take (i := 9) rfl (by kernel_rfl) (by kernel_rfl) (by kernel_rfl) (by kernel_rfl) (fun _ _ _ h => h) (yieldsIf_run (.bool true) rfl (fun w' => by go_simp)) U1 ?_
  go_simp
  refine wpAnyP_take (i := 10) rfl (by kernel_rfl) (by kernel_rfl) (by kernel_rfl) (by kernel_rfl) (fun _ _ _ h => h) (yieldsIf_loadS rfl (.tmp 6) rfl strcE ⟨g6, 0, none⟩ rfl csF HLF.out (fun w2 hT => box_all (box_below HF7Y.out hT))) U1 ?_
  refine wpAnyP_take (i := 11) rfl (by kernel_rfl) (by kernel_rfl) (by kernel_rfl) (by kernel_rfl) (fun _ _ _ h => h) (yieldsIf_loadS rfl (.tmp 2) rfl strcE ⟨w.heap.size, 0, none⟩ rfl cs HL.out (fun w2 hT => box_all (box_below HB7Y.out hT))) U1 ?_
  go_simp
  refine wpAnyP_oneQ (i := 12) (by kernel_rfl) rfl ?_
  go_wp2_with fail
  refine (CS1 _ (ext_trans (ext_trans hY T1) U1)).mono ?_
  rintro x c2 ⟨rfl, hc2⟩
  have T2 := ext_trans U1 hc2
  go_wp2_with fail
  refine nextQ T2 ?_
  go_simp
  refine wpAnyP_take (i := 13) rfl (by kernel_rfl) (by kernel_rfl) (by kernel_rfl) (by kernel_rfl) (fun _ _ _ h => h) (yieldsIf_run (.bool true) rfl (fun w' => by go_simp)) T2 ?_
  go_simp
  refine wpAnyP_take (i := 14) rfl (by kernel_rfl) (by kernel_rfl) (by kernel_rfl) (by kernel_rfl) (fun _ _ _ h => h) (yieldsIf_run (.bool true) rfl (fun w' => by go_simp)) T2 ?_
  refine wpAnyP_take (i := 15) rfl (by kernel_rfl) (by kernel_rfl) (by kernel_rfl) (by kernel_rfl) (fun _ _ _ h => h) (yieldsIf_loadS rfl (.tmp 6) rfl strcE ⟨g6, 0, none⟩ rfl csF HLF.out (fun w2 hT => box_all (box_below HF7Y.out hT))) T2 ?_
  refine wpAnyP_take (i := 16) rfl (by kernel_rfl) (by kernel_rfl) (by kernel_rfl) (by kernel_rfl) (fun _ _ _ h => h) (yieldsIf_loadS rfl (.tmp 2) rfl strcE ⟨w.heap.size, 0, none⟩ rfl cs HL.out (fun w2 hT => box_all (box_below HB7Y.out hT))) T2 ?_
  go_simp
  go_simp
  refine wpAnyP_oneQ (i := 17) (by kernel_rfl) rfl ?_
  go_wp2_with fail
  refine (CS2 _ (ext_trans (ext_trans hY T1) T2)).mono ?_
  rintro x c3 ⟨rfl, hc3⟩
  have T3 := ext_trans T2 hc3
  go_wp2_with fail
  refine nextQ T3 ?_
  go_simp
  refine wpAnyP_take (i := 18) rfl (by kernel_rfl) (by kernel_rfl) (by kernel_rfl) (by kernel_rfl) (fun _ _ _ h => h) (yieldsIf_run (.bool true) rfl (fun w' => by go_simp)) T3 ?_
  refine wpAnyP_take (i := 19) rfl (by kernel_rfl) (by kernel_rfl) (by kernel_rfl) (by kernel_rfl) (fun _ _ _ h => h) (yieldsIf_run (.bool true) rfl (fun w' => by go_simp)) T3 ?_
  refine wpAnyP_take (i := 20) rfl (by kernel_rfl) (by kernel_rfl) (by kernel_rfl) (by kernel_rfl) (fun _ _ _ h => h) (yieldsIf_run (.bool false) rfl (fun w' => by go_simp)) T3 ?_
  go_simp
  refine wpAnyP_take (i := 21) rfl (by kernel_rfl) (by kernel_rfl) (by kernel_rfl) (by kernel_rfl) (fun _ _ _ h => h) (yieldsIf_run (.bool true) rfl (fun w' => by go_simp)) T3 ?_
  refine wpAnyP_take (i := 22) rfl (by kernel_rfl) (by kernel_rfl) (by kernel_rfl) (by kernel_rfl) (fun _ _ _ h => h) (yieldsIf_run (.bool true) rfl (fun w' => by go_simp)) T3 ?_
  refine wpAnyP_take (i := 23) rfl (by kernel_rfl) (by kernel_rfl) (by kernel_rfl) (by kernel_rfl) (fun _ _ _ h => h) (yieldsIf_run (.bool true) rfl (fun w' => by go_simp)) T3 ?_
  go_simp
  go_simp
  refine wpAnyP_oneQ (i := 24) (by kernel_rfl) rfl ?_
  go_wp2_with fail
  refine (lives_any _).mono ?_
  rintro x c4 ⟨rfl, hc4⟩
  have T4 := ext_trans T3 hc4
  go_wp2_with fail
  refine nextQ T4 ?_
  go_simp
  refine wpAnyP_take (i := 25) rfl (by kernel_rfl) (by kernel_rfl) (by kernel_rfl) (by kernel_rfl) (fun _ _ _ h => h) (yieldsIf_run (.bool true) rfl (fun w' => by go_simp)) T4 ?_
  refine wpAnyP_take (i := 26) rfl (by kernel_rfl) (by kernel_rfl) (by kernel_rfl) (by kernel_rfl) (fun _ _ _ h => h) (yieldsIf_run (.bool true) rfl (fun w' => by go_simp)) T4 ?_
  go_simp
  refine wpAnyP_done (by kernel_rfl) ?_
  go_wp2_with fail
  go_ret
  exact ⟨rfl, ext_trans hbb (ext_trans K9 (ext_trans hY (ext_trans T1 T4)))⟩
end
end Go.Proofs.YtnfbmhkjmkdmjaaGreat

/-
  ContentApart: the walk.
-/
import Derived.Test.YtehenalnkkkajaaSmall6
import Derived.Test.YtehenalnkkkajaaLaw6P
import Derived.Test.YtehenalnkkkajaaPhaseB
set_option linter.unusedVariables false
set_option linter.unusedSimpArgs false
namespace Go.Proofs.Ytehenalnkkkajaa
open Go.RowKit
open Classical
section
attribute [local go_sem] Addr.add_mid
set_option maxRecDepth 100000 in
set_option maxHeartbeats 4000000 in
theorem apart6_any {cs ds : List Value} {c d : Con} {w : World} (hr : ConR w Any cs c) (ho : c.ok) (hr2 : ConR w Any ds d) (ho2 : d.ok) : Calls Try.prog 8 #[.agg cs.toArray, .agg ds.toArray] w (Says true w) := by
  have HR := hide hr; have HO := hide ho; have HL := hide hr.length
  have HR2 := hide hr2; have HO2 := hide ho2; have HM := hide hr2.length
  have BA := heap_alloc2_old w (.cells cs.toArray 33) (.cells ds.toArray 33)
  have BB := heap_alloc2_new w (.cells cs.toArray 33) (.cells ds.toArray 33)
  have hb := below_two w (.cells cs.toArray 33) (.cells ds.toArray 33)
  clear hr ho hr2 ho2
  go_enter Try.func8, Try.ntmps8
  go_upto_region 1 with fail
  generalize (w.alloc (.cells cs.toArray 33)).alloc (.cells ds.toArray 33) = W at BA BB hb ⊢
  have HA := hide BA; have HB := hide BB
  clear BA BB
  go_wp2_with (refine wpList_loadS rfl (.tmp 2) rfl strcC ⟨w.heap.size, 0, none⟩ rfl cs HL.out (box_all HA.out) ?_)
  refine (small6_any (HR.out.ext hb)).mono ?_
  rintro e w1 ⟨b, rfl, hs, hb1⟩
  have hbb := ext_trans hb hb1
  cases b
  case false =>
    go_wp2_with fail
    go_ret
    exact ⟨rfl, hbb⟩
  have HS := hide (hs rfl)
  have HA1 := hide (box_below HA.out hb1); have HB1 := hide (box_below HB.out hb1)
  clear hs
  go_wp2_with (refine wpList_loadS rfl (.tmp 3) rfl strcC ⟨w.heap.size + 1, 0, none⟩ rfl ds HM.out (box_all HB1.out) ?_)
  refine (small6_any (HR2.out.ext hbb)).mono ?_
  rintro e w2 ⟨b, rfl, hs, hb2⟩
  have hbc := ext_trans hbb hb2
  cases b
  case false =>
    go_wp2_with fail
    go_ret
    exact ⟨rfl, hbc⟩
  have HS2 := hide (hs rfl)
  have HA2 := hide (box_below HA1.out hb2); have HB2 := hide (box_below HB1.out hb2)
  have R1 := HR.out.ext hbc
  have R2 := HR2.out.ext hbc
  clear hs hb hb1 hb2 hbb HA HB HA1 HB1
  have i1 := HS.out.fine HO.out
  have i2 := HS2.out.fine HO2.out
  have f1 := i1.fit
  have f2 := i2.fit
  have hp := HS.out.puts HO.out
  have hp2 := HS2.out.puts HO2.out
  have HEQ := hide (show decide (encCon c = encCon d) = decide (c = d) from decide_eq_decide.2 ⟨fun e => encCon_inj i1.told i2.told e, fun e => by rw [e]⟩)
  have CA := fun W (h : Below w2.heap.size w2 W) => Encode_any (R1.ext h) hp
  have CB := fun W (h : Below w2.heap.size w2 W) => Encode_any (R2.ext h) hp2
  have CC := fun W (h : Below w2.heap.size w2 W) => CSame_any (R1.ext h) (R2.ext h) f1 f2
  obtain ⟨l, hl⟩ : ∃ l, encCon c = l := ⟨_, rfl⟩
  obtain ⟨m, hm⟩ : ∃ m, encCon d = m := ⟨_, rfl⟩
  rw [hl, hm] at HEQ
  simp only [hl] at CA
  simp only [hm] at CB
  obtain ⟨v, hv⟩ : ∃ v, decide (c = d) = v := ⟨_, rfl⟩
  rw [hv] at HEQ
  simp only [hv] at CC
  have HS3 : ((str l).toList == (str m).toList) = v := by
    rw [← HEQ.out, bt, bt, str_data, str_data]
    by_cases e : l = m <;> simp [e]
  clear hv hl hm HEQ R1 R2 f1 f2 hp hp2 i1 i2
  go_wp2_with fail
  refine wp_region_now (by kernel_rfl) ?_
  intro Y hY
  have T0 : Below Y.heap.size Y Y := ext_refl Y
  have HA2Y := hide (box_below HA2.out hY)
  have HB2Y := hide (box_below HB2.out hY)
  refine wpAnyP_take (i := 0) rfl (by kernel_rfl) (by kernel_rfl) (by kernel_rfl) (by kernel_rfl) (fun _ _ _ h => h) (yieldsIf_loadS rfl (.tmp 2) rfl strcC ⟨w.heap.size, 0, none⟩ rfl cs HL.out (fun w2 hT => box_all (box_below HA2Y.out hT))) T0 ?_
  refine wpAnyP_take (i := 3) rfl (by kernel_rfl) (by kernel_rfl) (by kernel_rfl) (by kernel_rfl) (fun _ _ _ h => h) (yieldsIf_loadS rfl (.tmp 3) rfl strcC ⟨w.heap.size + 1, 0, none⟩ rfl ds HM.out (fun w2 hT => box_all (box_below HB2Y.out hT))) T0 ?_
  refine wpAnyP_take (i := 7) rfl (by kernel_rfl) (by kernel_rfl) (by kernel_rfl) (by kernel_rfl) (fun _ _ _ h => h) (yieldsIf_loadS rfl (.tmp 2) rfl strcC ⟨w.heap.size, 0, none⟩ rfl cs HL.out (fun w2 hT => box_all (box_below HA2Y.out hT))) T0 ?_
  go_simp
  refine wpAnyP_take (i := 8) rfl (by kernel_rfl) (by kernel_rfl) (by kernel_rfl) (by kernel_rfl) (fun _ _ _ h => h) (yieldsIf_loadS rfl (.tmp 3) rfl strcC ⟨w.heap.size + 1, 0, none⟩ rfl ds HM.out (fun w2 hT => box_all (box_below HB2Y.out hT))) T0 ?_
  go_simp
  refine wpAnyP_oneQ (i := 1) (by kernel_rfl) rfl ?_
  go_wp2_with fail
  refine (CA _ (ext_trans hY T0)).mono ?_
  rintro e c1 ⟨v3, rfl, ⟨A3, k3, rfl, hk3, Q3⟩, hc1⟩
  have T1 := ext_trans T0 hc1
  go_wp2_with fail
  refine nextQ T1 ?_
  refine wpAnyP_now T1 ?_
  have U1 : Below c1.heap.size c1 c1 := ext_refl c1
  have HA2Y := hide (box_below HA2Y.out T1)
  have HB2Y := hide (box_below HB2Y.out T1)
  go_simp
  refine wpAnyP_take (i := 2) rfl (by kernel_rfl) (by kernel_rfl) (by kernel_rfl) (by kernel_rfl) (fun _ _ _ h => h) (yieldsIf_str rfl (.tmp 14) 41 9 5 rfl Try.underlying41 Try.underlying5 Try.underlying9 (l := l) rfl rfl (fun w2 hT => ⟨_, Q3.ext hT⟩)) U1 ?_
  go_simp
  refine wpAnyP_oneQ (i := 4) (by kernel_rfl) rfl ?_
  go_wp2_with fail
  refine (CB _ (ext_trans hY (ext_trans T1 U1))).mono ?_
  rintro e c2 ⟨v4, rfl, ⟨A4, k4, rfl, hk4, Q4⟩, hc2⟩
  have T2 := ext_trans U1 hc2
  go_wp2_with fail
  refine nextQ T2 ?_
  refine wpAnyP_now T2 ?_
  have U2 : Below c2.heap.size c2 c2 := ext_refl c2
  have HA2Y := hide (box_below HA2Y.out T2)
  have HB2Y := hide (box_below HB2Y.out T2)
  go_simp
  refine wpAnyP_take (i := 5) rfl (by kernel_rfl) (by kernel_rfl) (by kernel_rfl) (by kernel_rfl) (fun _ _ _ h => h) (yieldsIf_str rfl (.tmp 17) 41 9 5 rfl Try.underlying41 Try.underlying5 Try.underlying9 (l := m) rfl rfl (fun w2 hT => ⟨_, Q4.ext hT⟩)) U2 ?_
  go_simp
  refine wpAnyP_take (i := 6) rfl (by kernel_rfl) (by kernel_rfl) (by kernel_rfl) (by kernel_rfl) (fun _ _ _ h => h) (yieldsIf_run (.bool v) rfl (fun w' => by go_simp)) U2 ?_
  go_simp
  refine wpAnyP_oneQ (i := 9) (by kernel_rfl) rfl ?_
  go_wp2_with fail
  refine (CC _ (ext_trans hY (ext_trans T1 (ext_trans T2 U2)))).mono ?_
  rintro e c3 ⟨rfl, hc3⟩
  have T3 := ext_trans U2 hc3
  go_wp2_with fail
  refine nextQ T3 ?_
  go_simp
  refine wpAnyP_take (i := 10) rfl (by kernel_rfl) (by kernel_rfl) (by kernel_rfl) (by kernel_rfl) (fun _ _ _ h => h) (yieldsIf_run (.bool true) rfl (fun w' => by go_simp)) T3 ?_
  refine wpAnyP_take (i := 11) rfl (by kernel_rfl) (by kernel_rfl) (by kernel_rfl) (by kernel_rfl) (fun _ _ _ h => h) (yieldsIf_run (.bool true) rfl (fun w' => by go_simp)) T3 ?_
  go_simp
  go_simp
  refine wpAnyP_oneQ (i := 12) (by kernel_rfl) rfl ?_
  go_wp2_with fail
  refine (live_any _).mono ?_
  rintro e c4 ⟨rfl, hc4⟩
  have T4 := ext_trans T3 hc4
  go_wp2_with fail
  refine nextQ T4 ?_
  go_simp
  refine wpAnyP_take (i := 13) rfl (by kernel_rfl) (by kernel_rfl) (by kernel_rfl) (by kernel_rfl) (fun _ _ _ h => h) (yieldsIf_run (.bool true) rfl (fun w' => by go_simp)) T4 ?_
  refine wpAnyP_take (i := 14) rfl (by kernel_rfl) (by kernel_rfl) (by kernel_rfl) (by kernel_rfl) (fun _ _ _ h => h) (yieldsIf_run (.bool true) rfl (fun w' => by go_simp)) T4 ?_
  go_simp
  refine wpAnyP_done (by kernel_rfl) ?_
  go_wp2_with fail
  go_ret
  exact ⟨rfl, ext_trans hbc (ext_trans hY (ext_trans T1 (ext_trans T2 T4)))⟩
end
end Go.Proofs.Ytehenalnkkkajaa

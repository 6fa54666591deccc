/-
  ContentEncodes: the walk.
-/
import Derived.Test.YtehenalnkkkajaaSmall6
import Derived.Test.YtehenalnkkkajaaEncR
import Derived.Test.YtehenalnkkkajaaLaw6P
import Derived.Test.YtehenalnkkkajaaPhaseB
set_option linter.unusedVariables false
set_option linter.unusedSimpArgs false
namespace Go.Proofs.Ytehenalnkkkajaa
open Go.RowKit
open Classical
section
attribute [local go_sem] Addr.add_mid
set_option maxRecDepth 100000 in
set_option maxHeartbeats 4000000 in
theorem encodes6_any {cs : List Value} {c : Con} {w : World} (hr : ConR w Any cs c) (ho : c.ok) : Calls Try.prog 6 #[.agg cs.toArray] w (Says true w) := by
  have HR := hide hr; have HO := hide ho; have HL := hide hr.length
  have B := heap_alloc_new w (.cells cs.toArray 33)
  have hb := ext_alloc (ext_refl w) (.cells cs.toArray 33)
  clear hr ho
  go_enter Try.func6, Try.ntmps6
  go_upto_region 1 with fail
  generalize w.alloc (.cells cs.toArray 33) = W at B hb ⊢
  have HB := hide B
  clear B
  go_wp2_with (refine wpList_loadS rfl (.tmp 1) rfl strcC ⟨w.heap.size, 0, none⟩ rfl cs HL.out (box_all HB.out) ?_)
  refine (small6_any (HR.out.ext hb)).mono ?_
  rintro e w1 ⟨b, rfl, hs, hb1⟩
  have hbb := ext_trans hb hb1
  cases b
  case false =>
    go_wp2_with fail
    go_ret
    exact ⟨rfl, hbb⟩
  have HS := hide (hs rfl)
  have HB1 := hide (box_below HB.out hb1)
  have R1 := HR.out.ext hbb
  clear hs hb hb1 HB
  have hfi := HS.out.fine HO.out
  have hp := HS.out.puts HO.out
  have hlen := HS.out.enc_le HO.out
  have htold := hide hfi.told
  have f1 := hfi.fit
  have CA := fun W (h : Below w1.heap.size w1 W) => Encode_any (R1.ext h) hp
  have CB := fun W (h : Below w1.heap.size w1 W) => R6Encode_any (R1.ext h) hp
  obtain ⟨l, hl⟩ : ∃ l, encCon c = l := ⟨_, rfl⟩
  rw [hl] at hlen
  simp only [hl] at CA CB
  have HEL := hide hl
  clear hl hp
  go_upto_region 4 with (first
    | refine wpList_loadS rfl (.tmp 1) rfl strcC ⟨w.heap.size, 0, none⟩ rfl cs HL.out (box_all HB1.out) ?_
    | (go_at_call 26; (with_reducible refine (CA _ (ext_refl w1)).mono ?_); rintro e w2 ⟨v2, rfl, ⟨A2, c2, rfl, hc2, Q2⟩, hb2⟩; have HB2 := hide (box_below HB1.out hb2); have HC2 := hide hc2; have CD := Decode_any Q2 hc2 (by omega)))
  clear hc2
  go_upto_region 5 with (first
    | (go_at_call 27; refine CD.mono ?_; rintro e w3 ⟨cs3, c3, ok, rfl, R3, f3, hy, hn, hb3⟩; have HL3 := hide R3.length; have HO3 := hide R3.one)
    | refine wpList_newS rfl rfl strcC rfl (.tmp 4) (.tmp 14) rfl rfl rfl cs3.toArray rfl (by simpa using HL3.out) (by simpa using HO3.out) ?_)
  cases ok with
  | false => exact absurd HEL.out.symm ((hn rfl).2 c htold.out)
  | true =>
  have e3 : c = c3 := encCon_inj htold.out f3.told (HEL.out.trans (hy rfl))
  subst e3
  have B3 := heap_alloc_new w3 (.cells cs3.toArray 33)
  have hb4 := ext_alloc (ext_refl w3) (.cells cs3.toArray 33)
  have hb24 := ext_trans hb3 hb4
  have R4 := R3.ext hb4
  have Q4 := Q2.ext hb24
  have HB4 := hide (box_below HB2.out hb24)
  have R41 := R1.ext (ext_trans hb2 hb24)
  generalize w3.alloc (.cells cs3.toArray 33) = w4 at B3 hb4 hb24 R4 Q4 HB4 R41 ⊢
  generalize w3.heap.size = g3 at B3 ⊢
  have HB3 := hide B3
  clear B3 hy hn
  have hb14 := ext_trans hb2 hb24
  go_wp2_with fail
  refine wp_region_now (by kernel_rfl) ?_
  intro Y hY
  have T0 : Below Y.heap.size Y Y := ext_refl Y
  have HB4Y := hide (box_below HB4.out hY)
  have HB3Y := hide (box_below HB3.out hY)
  have QY := Q4.ext hY
  refine wpAnyP_take (i := 0) rfl (by kernel_rfl) (by kernel_rfl) (by kernel_rfl) (by kernel_rfl) (fun _ _ _ h => h) (yieldsIf_run (.slice A2 l.length c2) rfl (fun w' => by go_simp)) T0 ?_
  refine wpAnyP_take (i := 1) rfl (by kernel_rfl) (by kernel_rfl) (by kernel_rfl) (by kernel_rfl) (fun _ _ _ h => h) (yieldsIf_str rfl (.tmp 16) 41 9 5 rfl Try.underlying41 Try.underlying5 Try.underlying9 (l := l) rfl rfl (fun w2 hT => ⟨_, QY.ext hT⟩)) T0 ?_
  refine wpAnyP_take (i := 2) rfl (by kernel_rfl) (by kernel_rfl) (by kernel_rfl) (by kernel_rfl) (fun _ _ _ h => h) (yieldsIf_loadS rfl (.tmp 1) rfl strcC ⟨w.heap.size, 0, none⟩ rfl cs HL.out (fun w2 hT => box_all (box_below HB4Y.out hT))) T0 ?_
  go_simp
  go_simp
  refine wpAnyP_oneQ (i := 3) (by kernel_rfl) rfl ?_
  go_wp2_with fail
  refine (CB _ (ext_trans hb14 (ext_trans hY T0))).mono ?_
  rintro e c1 ⟨v5, rfl, ⟨A5, c5, rfl, hc5, Q5⟩, hc1⟩
  have T1 := ext_trans T0 hc1
  go_wp2_with fail
  refine nextQ T1 ?_
  refine wpAnyP_now T1 ?_
  have U1 : Below c1.heap.size c1 c1 := ext_refl c1
  have HB4Y := hide (box_below HB4Y.out T1)
  have HB3Y := hide (box_below HB3Y.out T1)
  go_simp
  refine wpAnyP_take (i := 4) rfl (by kernel_rfl) (by kernel_rfl) (by kernel_rfl) (by kernel_rfl) (fun _ _ _ h => h) (yieldsIf_str rfl (.tmp 19) 41 9 5 rfl Try.underlying41 Try.underlying5 Try.underlying9 (l := l) rfl rfl (fun w2 hT => ⟨_, Q5.ext hT⟩)) U1 ?_
  refine wpAnyP_take (i := 5) rfl (by kernel_rfl) (by kernel_rfl) (by kernel_rfl) (by kernel_rfl) (fun _ _ _ h => h) (yieldsIf_run (.bool true) rfl (fun w' => by go_simp)) U1 ?_
  refine wpAnyP_take (i := 6) rfl (by kernel_rfl) (by kernel_rfl) (by kernel_rfl) (by kernel_rfl) (fun _ _ _ h => h) (yieldsIf_run (.bool true) rfl (fun w' => by go_simp)) U1 ?_
  go_simp
  refine wpAnyP_take (i := 7) rfl (by kernel_rfl) (by kernel_rfl) (by kernel_rfl) (by kernel_rfl) (fun _ _ _ h => h) (yieldsIf_run (.bool true) rfl (fun w' => by go_simp)) U1 ?_
  refine wpAnyP_take (i := 8) rfl (by kernel_rfl) (by kernel_rfl) (by kernel_rfl) (by kernel_rfl) (fun _ _ _ h => h) (yieldsIf_run (.bool true) rfl (fun w' => by go_simp)) U1 ?_
  refine wpAnyP_take (i := 9) rfl (by kernel_rfl) (by kernel_rfl) (by kernel_rfl) (by kernel_rfl) (fun _ _ _ h => h) (yieldsIf_run (.bool true) rfl (fun w' => by go_simp)) U1 ?_
  go_simp
  refine wpAnyP_take (i := 10) rfl (by kernel_rfl) (by kernel_rfl) (by kernel_rfl) (by kernel_rfl) (fun _ _ _ h => h) (yieldsIf_loadS rfl (.tmp 1) rfl strcC ⟨w.heap.size, 0, none⟩ rfl cs HL.out (fun w2 hT => box_all (box_below HB4Y.out hT))) U1 ?_
  refine wpAnyP_take (i := 11) rfl (by kernel_rfl) (by kernel_rfl) (by kernel_rfl) (by kernel_rfl) (fun _ _ _ h => h) (yieldsIf_loadS rfl (.tmp 4) rfl strcC ⟨g3, 0, none⟩ rfl cs3 HL3.out (fun w2 hT => box_all (box_below HB3Y.out hT))) U1 ?_
  go_simp
  refine wpAnyP_oneQ (i := 12) (by kernel_rfl) rfl ?_
  go_wp2_with fail
  have CX2 := R6Same_any (R41.ext (ext_trans hY T1)) (R4.ext (ext_trans hY T1)) f1 f1
  simp only [decide_true] at CX2
  refine CX2.mono ?_
  rintro e c2 ⟨rfl, hc2⟩
  clear CX2
  have T2 := ext_trans U1 hc2
  go_wp2_with fail
  refine nextQ T2 ?_
  go_simp
  refine wpAnyP_take (i := 13) rfl (by kernel_rfl) (by kernel_rfl) (by kernel_rfl) (by kernel_rfl) (fun _ _ _ h => h) (yieldsIf_run (.bool true) rfl (fun w' => by go_simp)) T2 ?_
  go_simp
  refine wpAnyP_take (i := 14) rfl (by kernel_rfl) (by kernel_rfl) (by kernel_rfl) (by kernel_rfl) (fun _ _ _ h => h) (yieldsIf_run (.bool true) rfl (fun w' => by go_simp)) T2 ?_
  go_simp
  refine wpAnyP_oneQ (i := 15) (by kernel_rfl) rfl ?_
  go_wp2_with fail
  refine (live_any _).mono ?_
  rintro e c3 ⟨rfl, hc3⟩
  have T3 := ext_trans T2 hc3
  go_wp2_with fail
  refine nextQ T3 ?_
  go_simp
  refine wpAnyP_take (i := 16) rfl (by kernel_rfl) (by kernel_rfl) (by kernel_rfl) (by kernel_rfl) (fun _ _ _ h => h) (yieldsIf_run (.bool true) rfl (fun w' => by go_simp)) T3 ?_
  refine wpAnyP_take (i := 17) rfl (by kernel_rfl) (by kernel_rfl) (by kernel_rfl) (by kernel_rfl) (fun _ _ _ h => h) (yieldsIf_run (.bool true) rfl (fun w' => by go_simp)) T3 ?_
  go_simp
  go_simp
  refine wpAnyP_done (by kernel_rfl) ?_
  go_wp2_with fail
  go_ret
  exact ⟨rfl, ext_trans hbb (ext_trans hb14 (ext_trans hY (ext_trans T1 T3)))⟩
end
end Go.Proofs.Ytehenalnkkkajaa

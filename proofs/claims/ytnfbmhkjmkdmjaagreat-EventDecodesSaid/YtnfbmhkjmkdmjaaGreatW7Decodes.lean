/-
  EventDecodes: the walk.
-/
import Derived.Test.YtnfbmhkjmkdmjaaGreatLives
import Derived.Test.YtnfbmhkjmkdmjaaGreatEvP
import Derived.Test.YtnfbmhkjmkdmjaaGreatREvDec
import Derived.Test.YtnfbmhkjmkdmjaaGreatPhaseB
set_option linter.unusedVariables false
set_option linter.unusedSimpArgs false
namespace Go.Proofs.YtnfbmhkjmkdmjaaGreat
open Go.RowKit
open Classical
theorem Con.fine.puts {c : Con} (hf : c.fine) (h : (encCon c).length ≤ 1073741824) : c.puts :=
  ⟨h, by have := hf.text; omega, hf.n, hf.target, by have := hf.via; omega, hf.allowL, hf.denyL, hf.lv.usersL, hf.lv.kindsL, fun u hu => ⟨by have := (hf.lv.users u hu).1; omega, (hf.lv.users u hu).2⟩, hf.lv.kinds, hf.lv.rest⟩
theorem Ev.told.puts {e : Ev} (h : e.told) (hf : e.con.fine) (hl : (encEv e).length ≤ 16777216) : e.puts := by
  obtain ⟨g1, g2, g3, g4, g5, g6, g7⟩ := encEv_ge e
  exact ⟨by omega, h.id, by omega, by omega, h.kind, by omega, h.time, h.depth, h.prev, h.auth, by omega, by omega, hf.puts (by omega), h.hash, by omega, h.sum⟩
theorem Ev.told.fitE {e : Ev} (h : e.told) (hf : e.con.fine) (hl : (encEv e).length ≤ 16777216) : e.fit := by
  obtain ⟨g1, g2, g3, g4, g5, g6, g7⟩ := encEv_ge e
  exact ⟨by omega, by omega, hf.fit⟩
section
attribute [local go_sem] Addr.add_mid
set_option maxRecDepth 100000 in
set_option maxHeartbeats 8000000 in
theorem decodes7_any {A : Option Addr} {k : Nat} {l : List UInt8} {w : World} (hr : Row w w.heap.size A (bvs l)) (hc : l.length ≤ k) : Calls Tryz.prog 8 #[.slice A l.length k] w (Says true w) := by
  by_cases hl : 600 < l.length
  · clear hr hc
    go_enter Tryz.func8, Tryz.ntmps8
    go_wp2_with (go_at_call 10; refine (lives_any _).mono ?_; rintro x wl ⟨rfl, hbl⟩)
    go_ret
    exact ⟨rfl, hbl⟩
  have CA := EvDecode_any hr hc (by omega)
  have CB := fun W (h : Below w.heap.size w W) => R7Decode_any (hr.ext h) hc (by omega)
  have hl' : ¬ (600 : Int) < (l.length : Int) := by omega
  have hl2 : l.length ≤ 16777216 := by omega
  have HRW := hide hr
  clear hr hc hl
  go_enter Tryz.func8, Tryz.ntmps8
  go_upto_region 4 with (first
    | (go_at_call 29; refine CA.mono ?_; rintro e w1 ⟨cs1, E1, o1, rfl, R1, hy1, hz1, hu1, hb1⟩; have HL1 := hide R1.length; have HO1 := hide R1.one)
    | refine wpList_newS rfl rfl strcE rfl (.tmp 3) (.tmp 14) rfl rfl rfl cs1.toArray rfl (by simpa using HL1.out) (by simpa using HO1.out) ?_)
  have B1 := heap_alloc_new w1 (.cells cs1.toArray 34)
  have hx1 := ext_alloc (ext_refl w1) (.cells cs1.toArray 34)
  have R2 := R1.any.ext hx1
  have hb2 := ext_trans hb1 hx1
  generalize w1.alloc (.cells cs1.toArray 34) = w2 at B1 hx1 R2 hb2 ⊢
  generalize w1.heap.size = g1 at B1 hx1 ⊢
  have HB1 := hide B1
  have HY1 := hide hy1; have HZ1 := hide hz1; have HU1 := hide hu1
  clear B1 hx1 hb1 R1 CA hy1 hz1 hu1
  go_upto_region 5 with (first
    | (go_at_call 32; refine (CB _ hb2).mono ?_; rintro e w3 ⟨cs2, E2, o2, rfl, R3, hy2, hz2, hu2, hb3⟩; have HL2 := hide R3.length; have HO2 := hide R3.one)
    | refine wpList_newS rfl rfl strcE rfl (.tmp 5) (.tmp 19) rfl rfl rfl cs2.toArray rfl (by simpa using HL2.out) (by simpa using HO2.out) ?_)
  have B2 := heap_alloc_new w3 (.cells cs2.toArray 34)
  have hx2 := ext_alloc (ext_refl w3) (.cells cs2.toArray 34)
  have R4 := R3.any.ext hx2
  have hb4 := ext_trans hb3 hx2
  generalize w3.alloc (.cells cs2.toArray 34) = w4 at B2 hx2 R4 hb4 ⊢
  generalize w3.heap.size = g2 at B2 hx2 ⊢
  have R5 := R2.ext hb4
  have HB3 := hide (box_below HB1.out hb4)
  have HB2 := hide B2
  have heq : o1 = o2 ∧ E1 = E2 := by
    cases o1 with
    | true =>
      obtain ⟨k1, k2, k3⟩ := HY1.out rfl
      obtain ⟨j1, j2⟩ := hu2 E1 k2 k1
      exact ⟨j1.symm, j2.symm⟩
    | false =>
      cases o2 with
      | true =>
        obtain ⟨k1, k2, k3⟩ := hy2 rfl
        exact absurd (HU1.out E2 k2 k1).1 (by decide)
      | false => exact ⟨rfl, (HZ1.out rfl).trans (hz2 rfl).symm⟩
  obtain ⟨e1, e2⟩ := heq
  subst e1 e2
  have fX : E1.fit := by
    cases o1 with
    | true =>
      obtain ⟨k1, k2, k3⟩ := HY1.out rfl
      exact k2.fitE k3 (by rw [← k1]; exact hl2)
    | false => rw [HZ1.out rfl]; exact zero7_fit
  have CC := R7Same_any R5 R4 fX fX
  simp only [decide_true] at CC
  have hb5 := ext_trans hb2 hb4
  have HR5 := hide R5
  clear B2 hx2 R2 R3 R4 R5 CB hy2 hz2 hu2 HU1 HZ1 HB1 hb3 hb2 hb4
  cases o1
  case false =>
    go_upto_region 7 with (first
      | refine wpList_loadS rfl (.tmp 3) rfl strcE ⟨g1, 0, none⟩ rfl cs1 HL1.out (box_all HB3.out) ?_
      | refine wpList_loadS rfl (.tmp 5) rfl strcE ⟨g2, 0, none⟩ rfl cs2 HL2.out (box_all HB2.out) ?_
      | (go_at_call 20; refine CC.mono ?_; rintro e w5 ⟨rfl, hb6⟩))
    have K5 := ext_trans hb5 hb6
    clear hb5 hb6
    refine wp_region_now (by kernel_rfl) ?_
    intro Y hY
    have T0 : Below Y.heap.size Y Y := ext_refl Y
    refine wpAnyP_take (i := 0) rfl (by kernel_rfl) (by kernel_rfl) (by kernel_rfl) (by kernel_rfl) (fun _ _ _ h => h) (yieldsIf_run (.bool false) rfl (fun w' => by go_simp)) T0 ?_
    refine wpAnyP_take (i := 1) rfl (by kernel_rfl) (by kernel_rfl) (by kernel_rfl) (by kernel_rfl) (fun _ _ _ h => h) (yieldsIf_run (.bool true) rfl (fun w' => by go_simp)) T0 ?_
    refine wpAnyP_take (i := 2) rfl (by kernel_rfl) (by kernel_rfl) (by kernel_rfl) (by kernel_rfl) (fun _ _ _ h => h) (yieldsIf_run (.bool true) rfl (fun w' => by go_simp)) T0 ?_
    go_simp
    refine wpAnyP_take (i := 3) rfl (by kernel_rfl) (by kernel_rfl) (by kernel_rfl) (by kernel_rfl) (fun _ _ _ h => h) (v := undef) (.inr ⟨rfl, rfl⟩) T0 ?_
    refine wpAnyP_take (i := 4) rfl (by kernel_rfl) (by kernel_rfl) (by kernel_rfl) (by kernel_rfl) (fun _ _ _ h => h) (v := undef) (.inr ⟨rfl, rfl⟩) T0 ?_
    refine wpAnyP_take (i := 5) rfl (by kernel_rfl) (by kernel_rfl) (by kernel_rfl) (by kernel_rfl) (fun _ _ _ h => h) (v := undef) (.inr ⟨rfl, rfl⟩) T0 ?_
    go_simp
    refine wpAnyP_take (i := 6) rfl (by kernel_rfl) (by kernel_rfl) (by kernel_rfl) (by kernel_rfl) (fun _ _ _ h => h) (v := undef) (.inr ⟨rfl, rfl⟩) T0 ?_
    refine wpAnyP_take (i := 7) rfl (by kernel_rfl) (by kernel_rfl) (by kernel_rfl) (by kernel_rfl) (fun _ _ _ h => h) (v := undef) (.inr ⟨rfl, rfl⟩) T0 ?_
    refine wpAnyP_take (i := 8) rfl (by kernel_rfl) (by kernel_rfl) (by kernel_rfl) (by kernel_rfl) (fun _ _ _ h => h) (v := undef) (.inr ⟨rfl, rfl⟩) T0 ?_
    go_simp
    refine wpAnyP_take (i := 9) rfl (by kernel_rfl) (by kernel_rfl) (by kernel_rfl) (by kernel_rfl) (fun _ _ _ h => h) (yieldsIf_run (.bool true) rfl (fun w' => by go_simp)) T0 ?_
    refine wpAnyP_take (i := 10) rfl (by kernel_rfl) (by kernel_rfl) (by kernel_rfl) (by kernel_rfl) (fun _ _ _ h => h) (yieldsIf_run (.bool true) rfl (fun w' => by go_simp)) T0 ?_
    go_simp
    refine wpAnyP_oneQ (i := 11) (by kernel_rfl) rfl ?_
    go_wp2_with fail
    refine (lives_any _).mono ?_
    rintro x c1 ⟨rfl, hc1⟩
    have T1 := ext_trans T0 hc1
    go_wp2_with fail
    refine nextQ T1 ?_
    go_simp
    refine wpAnyP_take (i := 12) rfl (by kernel_rfl) (by kernel_rfl) (by kernel_rfl) (by kernel_rfl) (fun _ _ _ h => h) (yieldsIf_run (.bool true) rfl (fun w' => by go_simp)) T1 ?_
    go_simp
    refine wpAnyP_take (i := 13) rfl (by kernel_rfl) (by kernel_rfl) (by kernel_rfl) (by kernel_rfl) (fun _ _ _ h => h) (yieldsIf_run (.bool true) rfl (fun w' => by go_simp)) T1 ?_
    go_simp
    refine wpAnyP_done (by kernel_rfl) ?_
    go_wp2_with fail
    go_ret
    exact ⟨rfl, ext_trans K5 (ext_trans hY T1)⟩
  case true =>
    have hp := (HY1.out rfl).2.1.puts (HY1.out rfl).2.2 (by rw [← (HY1.out rfl).1]; exact hl2)
    have HK1 := hide (HY1.out rfl).1
    go_upto_region 7 with (first
      | refine wpList_loadS rfl (.tmp 3) rfl strcE ⟨g1, 0, none⟩ rfl cs1 HL1.out (box_all HB3.out) ?_
      | refine wpList_loadS rfl (.tmp 5) rfl strcE ⟨g2, 0, none⟩ rfl cs2 HL2.out (box_all HB2.out) ?_
      | (go_at_call 20; refine CC.mono ?_; rintro e w5 ⟨rfl, hb6⟩))
    have K5 := ext_trans hb5 hb6
    have HB3 := hide (box_below HB3.out hb6)
    have HR6 := hide (HR5.out.ext hb6)
    have QW := HRW.out.ext K5
    have CE := fun W (h : Below w5.heap.size w5 W) => EvEncode_any (HR6.out.ext h) hp
    rw [← HK1.out] at CE
    clear hb5 hb6 hp
    refine wp_region_now (by kernel_rfl) ?_
    intro Y hY
    have T0 : Below Y.heap.size Y Y := ext_refl Y
    have HB3Y := hide (box_below HB3.out hY)
    refine wpAnyP_take (i := 0) rfl (by kernel_rfl) (by kernel_rfl) (by kernel_rfl) (by kernel_rfl) (fun _ _ _ h => h) (yieldsIf_run (.bool true) rfl (fun w' => by go_simp)) T0 ?_
    refine wpAnyP_take (i := 1) rfl (by kernel_rfl) (by kernel_rfl) (by kernel_rfl) (by kernel_rfl) (fun _ _ _ h => h) (yieldsIf_run (.bool false) rfl (fun w' => by go_simp)) T0 ?_
    refine wpAnyP_take (i := 2) rfl (by kernel_rfl) (by kernel_rfl) (by kernel_rfl) (by kernel_rfl) (fun _ _ _ h => h) (yieldsIf_run (.bool false) rfl (fun w' => by go_simp)) T0 ?_
    go_simp
    refine wpAnyP_take (i := 3) rfl (by kernel_rfl) (by kernel_rfl) (by kernel_rfl) (by kernel_rfl) (fun _ _ _ h => h) (yieldsIf_loadS rfl (.tmp 3) rfl strcE ⟨g1, 0, none⟩ rfl cs1 HL1.out (fun w2 hT => box_all (box_below HB3Y.out hT))) T0 ?_
    refine wpAnyP_take (i := 6) rfl (by kernel_rfl) (by kernel_rfl) (by kernel_rfl) (by kernel_rfl) (fun _ _ _ h => h) (yieldsIf_run (.slice A l.length k) rfl (fun w' => by go_simp)) T0 ?_
    refine wpAnyP_take (i := 7) rfl (by kernel_rfl) (by kernel_rfl) (by kernel_rfl) (by kernel_rfl) (fun _ _ _ h => h) (yieldsIf_str rfl (.tmp 36) 48 9 5 rfl Tryz.underlying48 Tryz.underlying5 Tryz.underlying9 (l := l) rfl rfl (fun w2 hT => ⟨_, QW.ext (ext_trans hY hT)⟩)) T0 ?_
    go_simp
    go_simp
    refine wpAnyP_oneQ (i := 4) (by kernel_rfl) rfl ?_
    go_wp2_with fail
    refine (CE _ (ext_trans hY T0)).mono ?_
    rintro e c1 ⟨v5, rfl, ⟨A5, c5, rfl, hc5, Q5⟩, hc1⟩
    have T1 := ext_trans T0 hc1
    go_wp2_with fail
    refine nextQ T1 ?_
    refine wpAnyP_now T1 ?_
    have U1 : Below c1.heap.size c1 c1 := ext_refl c1
    go_simp
    refine wpAnyP_take (i := 5) rfl (by kernel_rfl) (by kernel_rfl) (by kernel_rfl) (by kernel_rfl) (fun _ _ _ h => h) (yieldsIf_str rfl (.tmp 34) 48 9 5 rfl Tryz.underlying48 Tryz.underlying5 Tryz.underlying9 (l := l) rfl rfl (fun w2 hT => ⟨_, Q5.ext hT⟩)) U1 ?_
    refine wpAnyP_take (i := 8) rfl (by kernel_rfl) (by kernel_rfl) (by kernel_rfl) (by kernel_rfl) (fun _ _ _ h => h) (yieldsIf_run (.bool true) rfl (fun w' => by go_simp)) U1 ?_
    refine wpAnyP_take (i := 9) rfl (by kernel_rfl) (by kernel_rfl) (by kernel_rfl) (by kernel_rfl) (fun _ _ _ h => h) (yieldsIf_run (.bool true) rfl (fun w' => by go_simp)) U1 ?_
    go_simp
    refine wpAnyP_take (i := 10) rfl (by kernel_rfl) (by kernel_rfl) (by kernel_rfl) (by kernel_rfl) (fun _ _ _ h => h) (yieldsIf_run (.bool true) rfl (fun w' => by go_simp)) U1 ?_
    go_simp
    refine wpAnyP_oneQ (i := 11) (by kernel_rfl) rfl ?_
    go_wp2_with fail
    refine (lives_any _).mono ?_
    rintro x c2 ⟨rfl, hc2⟩
    have T2 := ext_trans U1 hc2
    go_wp2_with fail
    refine nextQ T2 ?_
    go_simp
    refine wpAnyP_take (i := 12) rfl (by kernel_rfl) (by kernel_rfl) (by kernel_rfl) (by kernel_rfl) (fun _ _ _ h => h) (yieldsIf_run (.bool true) rfl (fun w' => by go_simp)) T2 ?_
    refine wpAnyP_take (i := 13) rfl (by kernel_rfl) (by kernel_rfl) (by kernel_rfl) (by kernel_rfl) (fun _ _ _ h => h) (yieldsIf_run (.bool true) rfl (fun w' => by go_simp)) T2 ?_
    go_simp
    go_simp
    refine wpAnyP_done (by kernel_rfl) ?_
    go_wp2_with fail
    go_ret
    exact ⟨rfl, ext_trans K5 (ext_trans hY (ext_trans T1 T2))⟩
end
end Go.Proofs.YtnfbmhkjmkdmjaaGreat

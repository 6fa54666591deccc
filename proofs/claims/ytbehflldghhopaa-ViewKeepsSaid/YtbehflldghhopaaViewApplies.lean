/-
  ViewApplies: the walk of the law.
-/
import Derived.Test.YtbehflldghhopaaStaysL
set_option linter.unusedVariables false
set_option linter.unusedSimpArgs false
namespace Go.Proofs.Ytbehflldghhopaa
open Go.RowKit
attribute [local go_sem] Addr.add_mid

/-- a test that is false only where something holds -/
def OnlyIf (p : Prop) (v : Value) : Prop := ∃ t : Bool, v = .bool t ∧ (t = false → p)

set_option maxRecDepth 100000 in
set_option maxHeartbeats 4000000 in
theorem applies_any {cs cp : List Value} {V : Vw} {p : Pt} {w : World} (hv : VwR w Any cs V) (hp : PtR w Any cp p) : Calls Try.prog 4 #[.agg cs.toArray, .agg cp.toArray] w (Says true w) := by
  have hpl : cp.length = 11 := by obtain ⟨_, _, _, _, _, _, rfl, _⟩ := hp; rfl
  have HN := hide hv.length; have HM := hide hpl
  have B0 := heap_alloc2_old w (.cells cs.toArray 25) (.cells cp.toArray 39)
  have C0 := heap_alloc2_new w (.cells cs.toArray 25) (.cells cp.toArray 39)
  have hbW := below_two w (.cells cs.toArray 25) (.cells cp.toArray 39)
  clear hpl
  go_enter Try.func4, Try.ntmps4
  go_upto_region 1 with fail
  generalize hW : (w.alloc (.cells cs.toArray 25)).alloc (.cells cp.toArray 39) = W at *
  clear hW
  go_cut [15] (fun t wx => OnlyIf (V.small 14 ∧ p.small 14 ∧ checkV V = 0) t ∧ Below W.heap.size W wx)
  case first =>
    go_wp2_with (refine wpList_loadS rfl (.tmp 2) rfl strcV ⟨w.heap.size, 0, none⟩ rfl cs HN.out (box_all B0) ?_)
    refine (VGreat_any (n := 14) (hv.ext hbW) (by decide)).mono ?_
    rintro x w1 ⟨b, rfl, hsm, hb1⟩
    have B1 := box_below B0 hb1
    have C1 := box_below C0 hb1
    have hb01 := hbW.trans (hb1.mono hbW.size)
    cases b
    · have HS := hide (hsm rfl)
      clear hsm
      go_wp2_with (refine wpList_loadS rfl (.tmp 3) rfl strcP ⟨w.heap.size + 1, 0, none⟩ rfl cp HM.out (box_all C1) ?_)
      refine (VLarge_any (n := 14) (hp.ext hb01) (by decide)).mono ?_
      rintro x w2 ⟨b, rfl, hsm, hb2⟩
      have B2 := box_below B1 hb2
      have hb12 := hb1.trans (hb2.mono hb1.size)
      have hb02 := hbW.trans (hb12.mono hbW.size)
      cases b
      · have HS2 := hide (hsm rfl)
        clear hsm
        go_wp2_with (refine wpList_loadS rfl (.tmp 2) rfl strcV ⟨w.heap.size, 0, none⟩ rfl cs HN.out (box_all B2) ?_)
        have hcan := small_can HS.out
        refine (RCheck_any (hv.ext hb02) ⟨hcan.1, hcan.2.2.1, hcan.2.1⟩).mono ?_
        rintro x w3 ⟨rfl, hb3⟩
        obtain ⟨kv, hkv⟩ : ∃ k, k = checkV V := ⟨_, rfl⟩
        rw [← hkv]
        have HK := hide hkv
        clear hkv hcan
        have hb13 := hb12.trans (hb3.mono hb12.size)
        by_cases hk0 : kv = 0
        · subst hk0
          go_wp2_with fail
          go_meet
          exact ⟨⟨false, rfl, fun _ => ⟨HS.out, HS2.out, HK.out.symm⟩⟩, hb13⟩
        · have t1 : (kv == 0) = false := by simpa using hk0
          have t2 : (kv != 0) = true := by simpa using hk0
          clear hk0
          go_wp2_with fail
          go_meet
          exact ⟨⟨true, rfl, nofun⟩, hb13⟩
      · go_wp2_with fail
        go_meet
        exact ⟨⟨true, rfl, nofun⟩, hb12⟩
    · go_wp2_with fail
      go_meet
      exact ⟨⟨true, rfl, nofun⟩, hb1⟩
  case rest =>
    obtain ⟨⟨t, rfl, ht⟩, hb1⟩ := hcut
    have B1 := box_below B0 hb1
    have C1 := box_below C0 hb1
    have hb01 := hbW.trans (hb1.mono hbW.size)
    clear B0 C0 hbW hb1
    cases t
    · obtain ⟨hsV, hsp, _⟩ := ht rfl
      clear ht
      have hcan := small_can hsV
      have hac := applyV_can hsV hsp
      have hlen : V.events.length + p.timeline.length ≤ 1048576 ∧ V.state.length + p.state.length ≤ 1048576 ∧ V.gaps.length ≤ 1048576 ∧ p.gone.length ≤ 1048576 := by
        have a1 := hsV.1; have a2 := hsV.2.2.1; have a3 := hsV.2.2.2.2.1; have a4 := hsp.1; have a5 := hsp.2.2.1; have a6 := hsp.2.2.2.2.1
        omega
      have hpf : p.fit := ⟨fun e he => (Con.fit_of_short (hsp.2.1 e he)).2.2, fun e he => (Con.fit_of_short (hsp.2.2.2.1 e he)).2.2⟩
      have HC := hide hcan; have HA := hide hac; have HL := hide hlen
      clear hcan hac hlen hsV hsp
      go_upto_region 3 with fail
      have hbx : Below wc.heap.size wc wc.drew := ext_drew (ext_refl wc)
      have B2 := box_below B1 hbx
      have C2 := box_below C1 hbx
      have hb2 := hb01.trans (hbx.mono hb01.size)
      obtain ⟨wd, hWD⟩ : ∃ wd, wd = wc.drew := ⟨_, rfl⟩
      rw [← hWD] at B2 C2 hb2
      refine wp_region_phase (fun w' => w'.heap[w.heap.size]? = some (.cells cs.toArray 25 (0, 0)) ∧ w'.heap[w.heap.size + 1]? = some (.cells cp.toArray 39 (0, 0))) [] (by kernel_rfl) ?_
      rw [show { wc with drawn := wc.drawn + 1 } = wd from hWD.symm]
      clear hWD hbx hb01 B1 C1
      have T2 := And.intro B2 C2
      clear B2 C2
      refine wpAnyP_take (i := 0) rfl (by kernel_rfl) (by kernel_rfl) (by kernel_rfl) (by kernel_rfl) (fun _ _ _ h => h) (yieldsIf_loadS rfl (.tmp 2) rfl strcV ⟨w.heap.size, 0, none⟩ rfl cs HN.out (fun w' hT => box_all hT.1)) T2 ?_
      go_simp
      refine wpAnyP_take (i := 1) rfl (by kernel_rfl) (by kernel_rfl) (by kernel_rfl) (by kernel_rfl) (fun _ _ _ h => h) (yieldsIf_loadS rfl (.tmp 3) rfl strcP ⟨w.heap.size + 1, 0, none⟩ rfl cp HM.out (fun w' hT => box_all hT.2)) T2 ?_
      go_simp
      refine wpAnyP_take (i := 3) rfl (by kernel_rfl) (by kernel_rfl) (by kernel_rfl) (by kernel_rfl) (fun _ _ _ h => h) (yieldsIf_loadS rfl (.tmp 2) rfl strcV ⟨w.heap.size, 0, none⟩ rfl cs HN.out (fun w' hT => box_all hT.1)) T2 ?_
      go_simp
      refine wpAnyP_take (i := 4) rfl (by kernel_rfl) (by kernel_rfl) (by kernel_rfl) (by kernel_rfl) (fun _ _ _ h => h) (yieldsIf_loadS rfl (.tmp 3) rfl strcP ⟨w.heap.size + 1, 0, none⟩ rfl cp HM.out (fun w' hT => box_all hT.2)) T2 ?_
      go_simp
      refine wpAnyP_one' (i := 2) (by kernel_rfl) rfl ?_
      go_wp2_with fail
      refine (Apply_any (hv.ext hb2) (hp.ext hb2) HL.out (can_fit HC.out) hpf).mono ?_
      rintro x w3 ⟨f3, rfl, v3, hx3⟩
      have hb3 := hb2.trans (hx3.mono hb2.size)
      have T3 := And.intro (box_below T2.1 hx3) (box_below T2.2 hx3)
      go_wp2_with fail
      refine nextP T3 ?_
      go_simp
      refine wpAnyP_one' (i := 5) (by kernel_rfl) rfl ?_
      go_wp2_with fail
      refine (RApply_any (hv.ext hb3) (hp.ext hb3) HL.out (can_fit HC.out) hpf).mono ?_
      rintro x w4 ⟨f4, rfl, v4, hx4⟩
      have hb4 := hb3.trans (hx4.mono hb3.size)
      have T4 := And.intro (box_below T3.1 hx4) (box_below T3.2 hx4)
      have u3 := v3.ext hx4
      go_wp2_with fail
      refine nextP T4 ?_
      go_simp
      refine wpAnyP_one' (i := 6) (by kernel_rfl) rfl ?_
      go_wp2_with fail
      refine (VSame_yes u3 v4 HA.out).mono ?_
      rintro x w5 ⟨rfl, hx5⟩
      have hb5 := hb4.trans (hx5.mono hb4.size)
      have T5 := And.intro (box_below T4.1 hx5) (box_below T4.2 hx5)
      go_wp2_with fail
      refine nextP T5 ?_
      go_simp
      refine wpAnyP_take (i := 7) rfl (by kernel_rfl) (by kernel_rfl) (by kernel_rfl) (by kernel_rfl) (fun _ _ _ h => h) (yieldsIf_run (.bool true) rfl (fun w' => by go_simp)) T5 ?_
      go_simp
      refine wpAnyP_one' (i := 8) (by kernel_rfl) rfl ?_
      go_wp2_with fail
      refine (live_any _).mono ?_
      rintro x w6 ⟨rfl, hx6⟩
      have hb6 := hb5.trans (hx6.mono hb5.size)
      have T6 := And.intro (box_below T5.1 hx6) (box_below T5.2 hx6)
      go_wp2_with fail
      refine nextP T6 ?_
      go_simp
      refine wpAnyP_take (i := 9) rfl (by kernel_rfl) (by kernel_rfl) (by kernel_rfl) (by kernel_rfl) (fun _ _ _ h => h) (yieldsIf_run (.bool true) rfl (fun w' => by go_simp)) T6 ?_
      go_simp
      refine wpAnyP_one' (i := 10) (by kernel_rfl) rfl ?_
      go_wp2_with fail
      refine nextP T6 (wpAnyP_done (by kernel_rfl) ?_)
      go_simp
      try go_wp2_with fail
      go_ret
      exact ⟨rfl, hb6⟩
    · go_wp2_with fail
      refine (live_any _).mono ?_
      rintro x w2 ⟨rfl, hb2⟩
      go_wp2_with fail
      go_ret
      exact ⟨rfl, hb01.trans (hb2.mono hb01.size)⟩
end Go.Proofs.Ytbehflldghhopaa

/-
  ViewFills: the walk of the law.
-/
import Derived.Test.YtbehflldghhopaaViewApplies
set_option linter.unusedVariables false
set_option linter.unusedSimpArgs false
namespace Go.Proofs.Ytbehflldghhopaa
open Go.RowKit
attribute [local go_sem] Addr.add_mid

set_option maxRecDepth 100000 in
set_option maxHeartbeats 4000000 in
theorem fills_any {cs : List Value} {V : Vw} {gi back : Int} {more : Bool} {vl : Value} {l : List Ev} {w : World} (hv : VwR w Any cs V) (hr : EvsR w Any vl l) :
    Calls Try.prog 5 #[.agg cs.toArray, .agg #[.int .i64 gi, vl, .int .i64 back, .bool more]] w (Says true w) := by
  obtain ⟨Al, cl, _, rfl, _⟩ := hr.form
  obtain ⟨cp, hcp⟩ : ∃ cp : List Value, cp = [.int .i64 gi, .slice Al l.length cl, .int .i64 back, .bool more] := ⟨_, rfl⟩
  rw [show (#[.int .i64 gi, .slice Al l.length cl, .int .i64 back, .bool more] : Array Value) = cp.toArray by rw [hcp]]
  have p0 : cp[0]? = some (.int .i64 gi) := by rw [hcp]; rfl
  have p1 : cp[1]? = some (.slice Al l.length cl) := by rw [hcp]; rfl
  have p2 : cp[2]? = some (.int .i64 back) := by rw [hcp]; rfl
  have p3 : cp[3]? = some (.bool more) := by rw [hcp]; rfl
  have HN := hide hv.length
  have H0 := hide p0; have H1 := hide p1; have H2 := hide p2; have H3 := hide p3
  have B0 := heap_alloc2_old w (.cells cs.toArray 25) (.cells cp.toArray 44)
  have C0 := heap_alloc2_new w (.cells cs.toArray 25) (.cells cp.toArray 44)
  have hbW := below_two w (.cells cs.toArray 25) (.cells cp.toArray 44)
  clear hcp p0 p1 p2 p3
  go_enter Try.func5, Try.ntmps5
  go_upto_region 1 with fail
  generalize hW : (w.alloc (.cells cs.toArray 25)).alloc (.cells cp.toArray 44) = W at *
  clear hW
  go_cut [20] (fun t wx => OnlyIf (V.small 14 ∧ (l.length ≤ 14 ∧ ∀ e ∈ l, e.short) ∧ checkV V = 0) t ∧ Below W.heap.size W wx)
  case first =>
    go_wp2_with (refine wpList_loadS rfl (.tmp 2) rfl strcV ⟨w.heap.size, 0, none⟩ rfl cs HN.out (box_all B0) ?_)
    refine (VGreat_any (n := 14) (hv.ext hbW) (by decide)).mono ?_
    rintro x w1 ⟨b, rfl, hsm, hb1⟩
    have B1 := box_below B0 hb1
    have r1 : w1.cell? ⟨w.heap.size + 1, 1, none⟩ = some (.slice Al l.length cl) := box_at (box_below C0 hb1) H1.out
    have hb01 := hbW.trans (hb1.mono hbW.size)
    cases b
    · have HS := hide (hsm rfl)
      clear hsm
      go_wp2_with fail
      refine (R8Great_any (n := 14) (hr.ext hb01) (by decide)).mono ?_
      rintro x w2 ⟨b, rfl, hsm, hb2⟩
      have B2 := box_below B1 hb2
      have hb12 := hb1.trans (hb2.mono hb1.size)
      have hb02 := hbW.trans (hb12.mono hbW.size)
      cases b
      · have HS2 := hide (hsm rfl)
        clear hsm r1
        go_wp2_with (refine wpList_loadS rfl (.tmp 2) rfl strcV ⟨w.heap.size, 0, none⟩ rfl cs HN.out (box_all B2) ?_)
        have hcan := small_can HS.out
        refine (RCheck_any (hv.ext hb02) ⟨hcan.1, hcan.2.2.1, hcan.2.1⟩).mono ?_
        rintro x w3 ⟨rfl, hb3⟩
        obtain ⟨kv, hkv⟩ : ∃ k, k = checkV V := ⟨_, rfl⟩
        rw [← hkv]
        have HK := hide hkv
        clear hkv hcan
        have hb13 := hb12.trans (hb3.mono hb12.size)
        by_cases hk0 : kv = 0
        · subst hk0
          go_wp2_with fail
          go_meet
          exact ⟨⟨false, rfl, fun _ => ⟨HS.out, HS2.out, HK.out.symm⟩⟩, hb13⟩
        · have t1 : (kv == 0) = false := by simpa using hk0
          have t2 : (kv != 0) = true := by simpa using hk0
          clear hk0
          go_wp2_with fail
          go_meet
          exact ⟨⟨true, rfl, nofun⟩, hb13⟩
      · clear r1
        go_wp2_with fail
        go_meet
        exact ⟨⟨true, rfl, nofun⟩, hb12⟩
    · clear r1
      go_wp2_with fail
      go_meet
      exact ⟨⟨true, rfl, nofun⟩, hb1⟩
  case rest =>
    obtain ⟨⟨t, rfl, ht⟩, hb1⟩ := hcut
    have B1 := box_below B0 hb1
    have C1 := box_below C0 hb1
    have hb01 := hbW.trans (hb1.mono hbW.size)
    clear B0 C0 hbW hb1
    cases t
    · obtain ⟨hsV, ⟨hll, hls⟩, hck⟩ := ht rfl
      clear ht
      have HC := hide (small_can hsV)
      have HF := hide (fillV_can (i := gi) (back := back) (more := more) hsV hll hls)
      have HI := hide (checkV_inv hck).2.1
      have hlen : V.events.length + l.length ≤ 1048576 ∧ V.gaps.length ≤ 1048576 := by have a1 := hsV.1; have a3 := hsV.2.2.2.2.1; omega
      have HL := hide hlen
      clear hlen hsV hll hls hck
      have r0 : wc.cell? ⟨w.heap.size + 1, 0, none⟩ = some (.int .i64 gi) := box_at C1 H0.out
      have r1 : wc.cell? ⟨w.heap.size + 1, 1, none⟩ = some (.slice Al l.length cl) := box_at C1 H1.out
      have r2 : wc.cell? ⟨w.heap.size + 1, 2, none⟩ = some (.int .i64 back) := box_at C1 H2.out
      have r3 : wc.cell? ⟨w.heap.size + 1, 3, none⟩ = some (.bool more) := box_at C1 H3.out
      go_wp2_with (refine wpList_loadS rfl (.tmp 2) rfl strcV ⟨w.heap.size, 0, none⟩ rfl cs HN.out (box_all B1) ?_)
      refine (Fill_any (hv.ext hb01) (hr.ext hb01) HL.out HI.out).mono ?_
      rintro x w2 ⟨f2, rfl, v2, hb2⟩
      have B2 := box_below B1 hb2
      have C2 := box_below C1 hb2
      have hb02 := hb01.trans (hb2.mono hb01.size)
      have hl2 := v2.length; have ho2 := v2.one
      have X2 := VBox.new v2
      have hx3 : Below w2.heap.size w2 (w2.alloc (.cells f2.toArray 25)) := ext_alloc (ext_refl _) _
      have B3 := box_below B2 hx3
      have C3 := box_below C2 hx3
      have hb03 := hb02.trans (hx3.mono hb02.size)
      clear r0 r1 r2 r3 B1 C1 hb01 hb2 B2 C2 hb02 hx3 v2
      go_upto_region 4 with (refine wpList_newS rfl rfl strcV rfl (.tmp 5) (.tmp 33) rfl rfl rfl f2.toArray rfl (by simpa using hl2) (by simpa using ho2) ?_)
      generalize hW3 : w2.alloc (.cells f2.toArray 25) = w3 at *
      generalize hG3 : w2.heap.size = g3 at *
      clear hW3 hG3 hl2 ho2
      have r0 : w3.cell? ⟨w.heap.size + 1, 0, none⟩ = some (.int .i64 gi) := box_at C3 H0.out
      have r1 : w3.cell? ⟨w.heap.size + 1, 1, none⟩ = some (.slice Al l.length cl) := box_at C3 H1.out
      have r2 : w3.cell? ⟨w.heap.size + 1, 2, none⟩ = some (.int .i64 back) := box_at C3 H2.out
      have r3 : w3.cell? ⟨w.heap.size + 1, 3, none⟩ = some (.bool more) := box_at C3 H3.out
      go_wp2_with (refine wpList_loadS rfl (.tmp 2) rfl strcV ⟨w.heap.size, 0, none⟩ rfl cs HN.out (box_all B3) ?_)
      refine (RFill_any (hv.ext hb03) (hr.ext hb03) HL.out HI.out).mono ?_
      rintro x w4 ⟨f4, rfl, v4, hb4⟩
      have X4 := X2.ext hb4
      have hb04 := hb03.trans (hb4.mono hb03.size)
      have hl4 := v4.length; have ho4 := v4.one
      have X5 := VBox.new v4
      have hx5 : Below w4.heap.size w4 (w4.alloc (.cells f4.toArray 25)) := ext_alloc (ext_refl _) _
      have X6 := X4.ext hx5
      have hb05 := hb04.trans (hx5.mono hb04.size)
      clear r0 r1 r2 r3 B3 C3 hb03 hb4 X2 X4 hb04 hx5 v4
      go_upto_region 5 with (refine wpList_newS rfl rfl strcV rfl (.tmp 7) (.tmp 46) rfl rfl rfl f4.toArray rfl (by simpa using hl4) (by simpa using ho4) ?_)
      generalize hW5 : w4.alloc (.cells f4.toArray 25) = w5 at *
      generalize hG5 : w4.heap.size = g5 at *
      clear hW5 hG5 hl4 ho4
      obtain ⟨ca, hBa, hva⟩ := X6
      obtain ⟨cb, hBb, hvb⟩ := X5
      go_wp2_with (first
        | refine wpList_loadS rfl (.tmp 5) rfl strcV ⟨g3, 0, none⟩ rfl ca hva.length (box_all hBa) ?_
        | refine wpList_loadS rfl (.tmp 7) rfl strcV ⟨g5, 0, none⟩ rfl cb hvb.length (box_all hBb) ?_)
      refine (VSame_yes hva hvb HF.out).mono ?_
      rintro x w6 ⟨rfl, hb6⟩
      have hb06 := hb05.trans (hb6.mono hb05.size)
      go_wp2_with fail
      refine (live_any _).mono ?_
      rintro x w7 ⟨rfl, hb7⟩
      go_wp2_with fail
      go_ret
      exact ⟨rfl, hb06.trans (hb7.mono hb06.size)⟩
    · go_wp2_with fail
      refine (live_any _).mono ?_
      rintro x w2 ⟨rfl, hb2⟩
      go_wp2_with fail
      go_ret
      exact ⟨rfl, hb01.trans (hb2.mono hb01.size)⟩
end Go.Proofs.Ytbehflldghhopaa

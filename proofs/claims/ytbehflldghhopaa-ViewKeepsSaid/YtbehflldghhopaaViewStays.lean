/-
  ViewStays: the walk of the law.
-/
import Derived.Test.YtbehflldghhopaaViewApplies
set_option linter.unusedVariables false
set_option linter.unusedSimpArgs false
namespace Go.Proofs.Ytbehflldghhopaa
open Go.RowKit
attribute [local go_sem] Addr.add_mid

theorem ids_mem {l : List Ev} {P : Int → Prop} (h : ∀ n ∈ ids l, P n) : ∀ e ∈ l, P e.id := fun e he => h _ (List.mem_map.2 ⟨e, he, rfl⟩)
theorem mem_ids {l : List Ev} {P : Int → Prop} (h : ∀ e ∈ l, P e.id) : ∀ n ∈ ids l, P n := fun n hn => by
  obtain ⟨e, he, rfl⟩ := List.mem_map.1 hn; exact h e he
theorem applyV_i64 {V : Vw} {p : Pt} (h1 : ∀ e ∈ V.events, I64 e.id) (h2 : ∀ e ∈ p.timeline, I64 e.id) : ∀ e ∈ (applyV V p).events, I64 e.id := by
  unfold applyV
  split
  · exact h1
  · apply ids_mem
    show ∀ n ∈ ids (stripL p.gone ((roomV V p).events ++ freshL (ids (roomV V p).events) p.timeline)), I64 n
    rw [stripL_ids]
    apply mem_ids
    intro e he
    rcases List.mem_append.1 he with he | he
    · unfold roomV at he
      split at he
      · simp at he
      · exact h1 e he
    · exact h2 e (freshL_mem he)
theorem fillV_i64 {V : Vw} {i back : Int} {l : List Ev} {more : Bool} (h1 : ∀ e ∈ V.events, I64 e.id) (h2 : ∀ e ∈ l, I64 e.id) : ∀ e ∈ (fillV V i l back more).events, I64 e.id := by
  unfold fillV
  split
  · exact fun e he => by simp [zeroVw] at he
  · split
    · intro e he
      rcases List.mem_append.1 he with he | he
      · exact h1 e (List.mem_of_mem_take he)
      · rcases List.mem_append.1 he with he | he
        · exact h2 e (addL_mem he)
        · exact h1 e (List.mem_of_mem_drop he)
    · exact fun e he => by simp [zeroVw] at he

set_option maxRecDepth 100000 in
set_option maxHeartbeats 4000000 in
theorem stays_any {cs cp : List Value} {V : Vw} {p : Pt} {gi back : Int} {more : Bool} {vl : Value} {l : List Ev} {w : World} (hv : VwR w Any cs V) (hp : PtR w Any cp p) (hr : EvsR w Any vl l) (hg : V.good) (hpg : p.good) (hlg : ∀ e ∈ l, e.ok) :
    Calls Try.prog 6 #[.agg cs.toArray, .agg cp.toArray, .agg #[.int .i64 gi, vl, .int .i64 back, .bool more]] w (Says true w) := by
  obtain ⟨Al, cl, _, rfl, _⟩ := hr.form
  have hpl : cp.length = 11 := by obtain ⟨_, _, _, _, _, _, rfl, _⟩ := hp; rfl
  have hp2 : cp[2]? = some (.bool p.anew) := by obtain ⟨_, _, _, _, _, _, rfl, _⟩ := hp; rfl
  obtain ⟨cg, hcg⟩ : ∃ cg : List Value, cg = [.int .i64 gi, .slice Al l.length cl, .int .i64 back, .bool more] := ⟨_, rfl⟩
  rw [show (#[.int .i64 gi, .slice Al l.length cl, .int .i64 back, .bool more] : Array Value) = cg.toArray by rw [hcg]]
  have p0 : cg[0]? = some (.int .i64 gi) := by rw [hcg]; rfl
  have p1 : cg[1]? = some (.slice Al l.length cl) := by rw [hcg]; rfl
  have p2 : cg[2]? = some (.int .i64 back) := by rw [hcg]; rfl
  have p3 : cg[3]? = some (.bool more) := by rw [hcg]; rfl
  have HN := hide hv.length; have HM := hide hpl; have HP2 := hide hp2
  have H0 := hide p0; have H1 := hide p1; have H2 := hide p2; have H3 := hide p3
  have hbW : Below w.heap.size w (((w.alloc (.cells cs.toArray 25)).alloc (.cells cp.toArray 39)).alloc (.cells cg.toArray 44)) := ext_alloc (ext_alloc (ext_alloc (ext_refl w) _) _) _
  have B0 : (((w.alloc (.cells cs.toArray 25)).alloc (.cells cp.toArray 39)).alloc (.cells cg.toArray 44)).heap[w.heap.size]? = some (.cells cs.toArray 25 (0, 0)) := box_below (heap_alloc_new w _) (ext_alloc (ext_alloc (ext_refl _) _) _)
  have C0 : (((w.alloc (.cells cs.toArray 25)).alloc (.cells cp.toArray 39)).alloc (.cells cg.toArray 44)).heap[w.heap.size + 1]? = some (.cells cp.toArray 39 (0, 0)) := by
    have := box_below (heap_alloc_new (w.alloc (.cells cs.toArray 25)) (.cells cp.toArray 39)) (ext_alloc (ext_refl _) (.cells cg.toArray 44))
    simpa using this
  have D0 : (((w.alloc (.cells cs.toArray 25)).alloc (.cells cp.toArray 39)).alloc (.cells cg.toArray 44)).heap[w.heap.size + 2]? = some (.cells cg.toArray 44 (0, 0)) := by
    have := heap_alloc_new ((w.alloc (.cells cs.toArray 25)).alloc (.cells cp.toArray 39)) (.cells cg.toArray 44)
    simpa using this
  clear hcg p0 p1 p2 p3 hpl hp2
  go_enter Try.func6, Try.ntmps6
  go_upto_region 1 with fail
  go_simp
  generalize hW : ((w.alloc (.cells cs.toArray 25)).alloc (.cells cp.toArray 39)).alloc (.cells cg.toArray 44) = W at *
  clear hW
  go_cut [24] (fun t wx => OnlyIf (V.small 14 ∧ p.small 14 ∧ (l.length ≤ 14 ∧ ∀ e ∈ l, e.short) ∧ checkV V = 0) t ∧ Below W.heap.size W wx)
  case first =>
    go_wp2_with (refine wpList_loadS rfl (.tmp 3) rfl strcV ⟨w.heap.size, 0, none⟩ rfl cs HN.out (box_all B0) ?_)
    refine (VGreat_any (n := 14) (hv.ext hbW) (by decide)).mono ?_
    rintro x w1 ⟨b, rfl, hsm, hb1⟩
    have B1 := box_below B0 hb1
    have C1 := box_below C0 hb1
    have D1 := box_below D0 hb1
    have hb01 := hbW.trans (hb1.mono hbW.size)
    cases b
    · have HS := hide (hsm rfl)
      clear hsm
      go_wp2_with (refine wpList_loadS rfl (.tmp 4) rfl strcP ⟨w.heap.size + 1, 0, none⟩ rfl cp HM.out (box_all C1) ?_)
      refine (VLarge_any (n := 14) (hp.ext hb01) (by decide)).mono ?_
      rintro x w2 ⟨b, rfl, hsm, hb2⟩
      have B2 := box_below B1 hb2
      have r1 : w2.cell? ⟨w.heap.size + 2, 1, none⟩ = some (.slice Al l.length cl) := box_at (box_below D1 hb2) H1.out
      have hb12 := hb1.trans (hb2.mono hb1.size)
      have hb02 := hbW.trans (hb12.mono hbW.size)
      cases b
      · have HS2 := hide (hsm rfl)
        clear hsm
        go_wp2_with fail
        refine (R8Great_any (n := 14) (hr.ext hb02) (by decide)).mono ?_
        rintro x w3 ⟨b, rfl, hsm, hb3⟩
        have B3 := box_below B2 hb3
        have hb13 := hb12.trans (hb3.mono hb12.size)
        have hb03 := hbW.trans (hb13.mono hbW.size)
        clear r1
        cases b
        · have HS3 := hide (hsm rfl)
          clear hsm
          go_wp2_with (refine wpList_loadS rfl (.tmp 3) rfl strcV ⟨w.heap.size, 0, none⟩ rfl cs HN.out (box_all B3) ?_)
          have hcan := small_can HS.out
          refine (RCheck_any (hv.ext hb03) ⟨hcan.1, hcan.2.2.1, hcan.2.1⟩).mono ?_
          rintro x w4 ⟨rfl, hb4⟩
          obtain ⟨kv, hkv⟩ : ∃ k, k = checkV V := ⟨_, rfl⟩
          rw [← hkv]
          have HK := hide hkv
          clear hkv hcan
          have hb14 := hb13.trans (hb4.mono hb13.size)
          by_cases hk0 : kv = 0
          · subst hk0
            go_wp2_with fail
            go_meet
            exact ⟨⟨false, rfl, fun _ => ⟨HS.out, HS2.out, HS3.out, HK.out.symm⟩⟩, hb14⟩
          · have t1 : (kv == 0) = false := by simpa using hk0
            have t2 : (kv != 0) = true := by simpa using hk0
            clear hk0
            go_wp2_with fail
            go_meet
            exact ⟨⟨true, rfl, nofun⟩, hb14⟩
        · go_wp2_with fail
          go_meet
          exact ⟨⟨true, rfl, nofun⟩, hb13⟩
      · clear r1
        go_wp2_with fail
        go_meet
        exact ⟨⟨true, rfl, nofun⟩, hb12⟩
    · go_wp2_with fail
      go_meet
      exact ⟨⟨true, rfl, nofun⟩, hb1⟩
  case rest =>
    obtain ⟨⟨t, rfl, ht⟩, hb1⟩ := hcut
    have B1 := box_below B0 hb1
    have C1 := box_below C0 hb1
    have D1 := box_below D0 hb1
    have hb01 := hbW.trans (hb1.mono hbW.size)
    clear B0 C0 D0 hbW hb1
    cases t
    · obtain ⟨hsV, hsp, ⟨hll, hls⟩, hck⟩ := ht rfl
      clear ht
      have HC := hide (small_can hsV)
      have HA := hide (applyV_can hsV hsp)
      have HF := hide (fillV_can (i := gi) (back := back) (more := more) hsV hll hls)
      have HI := hide (checkV_inv hck).2.1
      have HCK := hide hck
      have hlen : V.events.length + l.length ≤ 1048576 ∧ V.gaps.length ≤ 1048576 := by have a1 := hsV.1; have a3 := hsV.2.2.2.2.1; omega
      have hlen2 : V.events.length + p.timeline.length ≤ 1048576 ∧ V.state.length + p.state.length ≤ 1048576 ∧ V.gaps.length ≤ 1048576 ∧ p.gone.length ≤ 1048576 := by
        have a1 := hsV.1; have a2 := hsV.2.2.1; have a3 := hsV.2.2.2.2.1; have a4 := hsp.1; have a5 := hsp.2.2.1; have a6 := hsp.2.2.2.2.1
        omega
      have hpf : p.fit := ⟨fun e he => (Con.fit_of_short (hsp.2.1 e he)).2.2, fun e he => (Con.fit_of_short (hsp.2.2.2.1 e he)).2.2⟩
      have HL := hide hlen; have HL2 := hide hlen2; have HPF := hide hpf
      clear hlen hlen2 hpf hsV hsp hll hls hck
      have r0 : wc.cell? ⟨w.heap.size + 2, 0, none⟩ = some (.int .i64 gi) := box_at D1 H0.out
      have r1 : wc.cell? ⟨w.heap.size + 2, 1, none⟩ = some (.slice Al l.length cl) := box_at D1 H1.out
      have r2 : wc.cell? ⟨w.heap.size + 2, 2, none⟩ = some (.int .i64 back) := box_at D1 H2.out
      have r3 : wc.cell? ⟨w.heap.size + 2, 3, none⟩ = some (.bool more) := box_at D1 H3.out
      go_wp2_with (refine wpList_loadS rfl (.tmp 3) rfl strcV ⟨w.heap.size, 0, none⟩ rfl cs HN.out (box_all B1) ?_)
      refine (Fill_any (hv.ext hb01) (hr.ext hb01) HL.out HI.out).mono ?_
      rintro x w2 ⟨f2, rfl, v2, hb2⟩
      clear r0 r1 r2 r3
      have B2 := box_below B1 hb2
      have C2 := box_below C1 hb2
      have hb02 := hb01.trans (hb2.mono hb01.size)
      have hl2 := v2.length; have ho2 := v2.one
      have X2 := VBox.new v2
      have hx3 : Below w2.heap.size w2 (w2.alloc (.cells f2.toArray 25)) := ext_alloc (ext_refl _) _
      have B3 := box_below B2 hx3
      have C3 := box_below C2 hx3
      have hb03 := hb02.trans (hx3.mono hb02.size)
      obtain ⟨en, hen⟩ : ∃ n, n = fillE V gi := ⟨_, rfl⟩
      rw [← hen]
      have HEN := hide hen
      clear B1 C1 D1 hb01 hb2 B2 C2 hb02 hx3 v2 hen
      go_upto_region 4 with (refine wpList_newS rfl rfl strcV rfl (.tmp 7) (.tmp 37) rfl rfl rfl f2.toArray rfl (by simpa using hl2) (by simpa using ho2) ?_)
      generalize hW3 : w2.alloc (.cells f2.toArray 25) = w3 at *
      generalize hG3 : w2.heap.size = g3 at *
      clear hW3 hG3 hl2 ho2
      go_wp2_with (first
        | refine wpList_loadS rfl (.tmp 3) rfl strcV ⟨w.heap.size, 0, none⟩ rfl cs HN.out (box_all B3) ?_
        | refine wpList_loadS rfl (.tmp 4) rfl strcP ⟨w.heap.size + 1, 0, none⟩ rfl cp HM.out (box_all C3) ?_)
      refine (Apply_any (hv.ext hb03) (hp.ext hb03) HL2.out (can_fit HC.out) HPF.out).mono ?_
      rintro x w4 ⟨f4, rfl, v4, hb4⟩
      have X4 := X2.ext hb4
      have hb04 := hb03.trans (hb4.mono hb03.size)
      go_wp2_with fail
      have hc4 := Check_any v4 (applyV_i64 (fun e he => (hg.1 e he).1) (fun e he => (hpg.1 e he).1)) ⟨HA.out.1, HA.out.2.2.1, HA.out.2.1⟩
      rw [applyV_right HCK.out p] at hc4
      refine hc4.mono ?_
      rintro x w5 ⟨rfl, hb5⟩
      have X5 := X4.ext hb5
      have hb05 := hb04.trans (hb5.mono hb04.size)
      clear hc4 v4 X2 X4 B3 C3
      by_cases he0 : en = 0
      · subst he0
        obtain ⟨ca, hBa, hva⟩ := X5
        go_wp2_with (refine wpList_loadS rfl (.tmp 7) rfl strcV ⟨g3, 0, none⟩ rfl ca hva.length (box_all hBa) ?_)
        have hc6 := Check_any hva (fillV_i64 (fun e he => (hg.1 e he).1) (fun e he => (hlg e he).1)) ⟨HF.out.1, HF.out.2.2.1, HF.out.2.1⟩
        rw [fillV_right HCK.out HEN.out.symm] at hc6
        refine hc6.mono ?_
        rintro x w6 ⟨rfl, hb6⟩
        have hb06 := hb05.trans (hb6.mono hb05.size)
        clear hc6
        go_wp2_with fail
        refine (live_any _).mono ?_
        rintro x w7 ⟨rfl, hb7⟩
        go_wp2_with fail
        go_ret
        exact ⟨rfl, hb06.trans (hb7.mono hb06.size)⟩
      · have t1 : (en == 0) = false := by simpa using he0
        have t2 : (en != 0) = true := by simpa using he0
        clear he0
        go_wp2_with fail
        refine (live_any _).mono ?_
        rintro x w7 ⟨rfl, hb7⟩
        go_wp2_with fail
        go_ret
        exact ⟨rfl, hb05.trans (hb7.mono hb05.size)⟩
    · go_wp2_with fail
      refine (live_any _).mono ?_
      rintro x w2 ⟨rfl, hb2⟩
      go_wp2_with fail
      go_ret
      exact ⟨rfl, hb01.trans (hb2.mono hb01.size)⟩
end Go.Proofs.Ytbehflldghhopaa

/-
  ViewKeeps: the walk of the law.
-/
import Derived.Test.YtbehflldghhopaaViewStays
import Derived.Test.YtbehflldghhopaaAmong
set_option linter.unusedVariables false
set_option linter.unusedSimpArgs false
namespace Go.Proofs.Ytbehflldghhopaa
open Go.RowKit
attribute [local go_sem] Addr.add_mid

theorem draws_below {w w' : World} {n : Nat} (h : w' = w.drewN n) : Below w.heap.size w w' := by rw [h]; exact below_drewN (ext_refl _) n

set_option maxRecDepth 100000 in
set_option maxHeartbeats 8000000 in
theorem vkeeps_any {cs cp : List Value} {V : Vw} {p : Pt} {gi back : Int} {more : Bool} {vl : Value} {l : List Ev} {w : World} (hv : VwR w Any cs V) (hp : PtR w Any cp p) (hr : EvsR w Any vl l) :
    Calls Try.prog 7 #[.agg cs.toArray, .agg cp.toArray, .agg #[.int .i64 gi, vl, .int .i64 back, .bool more]] w (Says true w) := by
  obtain ⟨Al, cl, _, rfl, _⟩ := hr.form
  have hpl : cp.length = 11 := by obtain ⟨_, _, _, _, _, _, rfl, _⟩ := hp; rfl
  have hp2 : cp[2]? = some (.bool p.anew) := by obtain ⟨_, _, _, _, _, _, rfl, _⟩ := hp; rfl
  obtain ⟨cg, hcg⟩ : ∃ cg : List Value, cg = [.int .i64 gi, .slice Al l.length cl, .int .i64 back, .bool more] := ⟨_, rfl⟩
  rw [show (#[.int .i64 gi, .slice Al l.length cl, .int .i64 back, .bool more] : Array Value) = cg.toArray by rw [hcg]]
  have p0 : cg[0]? = some (.int .i64 gi) := by rw [hcg]; rfl
  have p1 : cg[1]? = some (.slice Al l.length cl) := by rw [hcg]; rfl
  have p2 : cg[2]? = some (.int .i64 back) := by rw [hcg]; rfl
  have p3 : cg[3]? = some (.bool more) := by rw [hcg]; rfl
  have HN := hide hv.length; have HM := hide hpl; have HP2 := hide hp2
  have H0 := hide p0; have H1 := hide p1; have H2 := hide p2; have H3 := hide p3
  have hbW : Below w.heap.size w (((w.alloc (.cells cs.toArray 25)).alloc (.cells cp.toArray 39)).alloc (.cells cg.toArray 44)) := ext_alloc (ext_alloc (ext_alloc (ext_refl w) _) _) _
  have B0 : (((w.alloc (.cells cs.toArray 25)).alloc (.cells cp.toArray 39)).alloc (.cells cg.toArray 44)).heap[w.heap.size]? = some (.cells cs.toArray 25 (0, 0)) := box_below (heap_alloc_new w _) (ext_alloc (ext_alloc (ext_refl _) _) _)
  have C0 : (((w.alloc (.cells cs.toArray 25)).alloc (.cells cp.toArray 39)).alloc (.cells cg.toArray 44)).heap[w.heap.size + 1]? = some (.cells cp.toArray 39 (0, 0)) := by
    have := box_below (heap_alloc_new (w.alloc (.cells cs.toArray 25)) (.cells cp.toArray 39)) (ext_alloc (ext_refl _) (.cells cg.toArray 44))
    simpa using this
  have D0 : (((w.alloc (.cells cs.toArray 25)).alloc (.cells cp.toArray 39)).alloc (.cells cg.toArray 44)).heap[w.heap.size + 2]? = some (.cells cg.toArray 44 (0, 0)) := by
    have := heap_alloc_new ((w.alloc (.cells cs.toArray 25)).alloc (.cells cp.toArray 39)) (.cells cg.toArray 44)
    simpa using this
  clear hcg p0 p1 p2 p3 hpl hp2
  go_enter Try.func7, Try.ntmps7
  go_upto_region 1 with fail
  go_simp
  generalize hW : ((w.alloc (.cells cs.toArray 25)).alloc (.cells cp.toArray 39)).alloc (.cells cg.toArray 44) = W at *
  clear hW
  go_cut [26] (fun t wx => OnlyIf (V.small 14 ∧ p.small 14 ∧ (l.length ≤ 14 ∧ ∀ e ∈ l, e.short) ∧ checkV V = 0) t ∧ Below W.heap.size W wx)
  case first =>
    go_wp2_with (refine wpList_loadS rfl (.tmp 3) rfl strcV ⟨w.heap.size, 0, none⟩ rfl cs HN.out (box_all B0) ?_)
    refine (VGreat_any (n := 14) (hv.ext hbW) (by decide)).mono ?_
    rintro x w1 ⟨b, rfl, hsm, hb1⟩
    have B1 := box_below B0 hb1
    have C1 := box_below C0 hb1
    have D1 := box_below D0 hb1
    have hb01 := hbW.trans (hb1.mono hbW.size)
    cases b
    · have HS := hide (hsm rfl)
      clear hsm
      go_wp2_with (refine wpList_loadS rfl (.tmp 4) rfl strcP ⟨w.heap.size + 1, 0, none⟩ rfl cp HM.out (box_all C1) ?_)
      refine (VLarge_any (n := 14) (hp.ext hb01) (by decide)).mono ?_
      rintro x w2 ⟨b, rfl, hsm, hb2⟩
      have B2 := box_below B1 hb2
      have r1 : w2.cell? ⟨w.heap.size + 2, 1, none⟩ = some (.slice Al l.length cl) := box_at (box_below D1 hb2) H1.out
      have hb12 := hb1.trans (hb2.mono hb1.size)
      have hb02 := hbW.trans (hb12.mono hbW.size)
      cases b
      · have HS2 := hide (hsm rfl)
        clear hsm
        go_wp2_with fail
        refine (R8Great_any (n := 14) (hr.ext hb02) (by decide)).mono ?_
        rintro x w3 ⟨b, rfl, hsm, hb3⟩
        have B3 := box_below B2 hb3
        have hb13 := hb12.trans (hb3.mono hb12.size)
        have hb03 := hbW.trans (hb13.mono hbW.size)
        clear r1
        cases b
        · have HS3 := hide (hsm rfl)
          clear hsm
          go_wp2_with (refine wpList_loadS rfl (.tmp 3) rfl strcV ⟨w.heap.size, 0, none⟩ rfl cs HN.out (box_all B3) ?_)
          have hcan := small_can HS.out
          refine (RCheck_any (hv.ext hb03) ⟨hcan.1, hcan.2.2.1, hcan.2.1⟩).mono ?_
          rintro x w4 ⟨rfl, hb4⟩
          obtain ⟨kv, hkv⟩ : ∃ k, k = checkV V := ⟨_, rfl⟩
          rw [← hkv]
          have HK := hide hkv
          clear hkv hcan
          have hb14 := hb13.trans (hb4.mono hb13.size)
          by_cases hk0 : kv = 0
          · subst hk0
            go_wp2_with fail
            go_meet
            exact ⟨⟨false, rfl, fun _ => ⟨HS.out, HS2.out, HS3.out, HK.out.symm⟩⟩, hb14⟩
          · have t1 : (kv == 0) = false := by simpa using hk0
            have t2 : (kv != 0) = true := by simpa using hk0
            clear hk0
            go_wp2_with fail
            go_meet
            exact ⟨⟨true, rfl, nofun⟩, hb14⟩
        · go_wp2_with fail
          go_meet
          exact ⟨⟨true, rfl, nofun⟩, hb13⟩
      · clear r1
        go_wp2_with fail
        go_meet
        exact ⟨⟨true, rfl, nofun⟩, hb12⟩
    · go_wp2_with fail
      go_meet
      exact ⟨⟨true, rfl, nofun⟩, hb1⟩
  case rest =>
    obtain ⟨⟨t, rfl, ht⟩, hb1⟩ := hcut
    have B1 := box_below B0 hb1
    have C1 := box_below C0 hb1
    have D1 := box_below D0 hb1
    have hb01 := hbW.trans (hb1.mono hbW.size)
    clear B0 C0 D0 hbW hb1
    cases t
    · obtain ⟨hsV, hsp, ⟨hll, hls⟩, hck⟩ := ht rfl
      clear ht
      have HC := hide (small_can hsV)
      have HA := hide (applyV_can hsV hsp)
      have HF := hide (fillV_can (i := gi) (back := back) (more := more) hsV hll hls)
      have HI := hide (checkV_inv hck).2.1
      have HCK := hide hck
      have hlen : V.events.length + l.length ≤ 1048576 ∧ V.gaps.length ≤ 1048576 := by have a1 := hsV.1; have a3 := hsV.2.2.2.2.1; omega
      have hlen2 : V.events.length + p.timeline.length ≤ 1048576 ∧ V.state.length + p.state.length ≤ 1048576 ∧ V.gaps.length ≤ 1048576 ∧ p.gone.length ≤ 1048576 := by
        have a1 := hsV.1; have a2 := hsV.2.2.1; have a3 := hsV.2.2.2.2.1; have a4 := hsp.1; have a5 := hsp.2.2.1; have a6 := hsp.2.2.2.2.1
        omega
      have hpf : p.fit := ⟨fun e he => (Con.fit_of_short (hsp.2.1 e he)).2.2, fun e he => (Con.fit_of_short (hsp.2.2.2.1 e he)).2.2⟩
      have HL := hide hlen; have HL2 := hide hlen2; have HPF := hide hpf
      have hyl := applyV_len hsV hsp
      have hlen3 : (applyV V p).events.length + p.timeline.length ≤ 1048576 ∧ (applyV V p).state.length + p.state.length ≤ 1048576 ∧ (applyV V p).gaps.length ≤ 1048576 ∧ p.gone.length ≤ 1048576 := by
        have a4 := hsp.1; have a5 := hsp.2.2.1; have a6 := hsp.2.2.2.2.1
        omega
      have HL3 := hide hlen3
      clear hlen hlen2 hlen3 hyl hpf hsV hsp hll hls hck
      go_wp2_with (refine wpList_loadS rfl (.tmp 3) rfl strcV ⟨w.heap.size, 0, none⟩ rfl cs HN.out (box_all B1) ?_)
      refine (VIds_any (hv.ext hb01) HC.out.1).mono ?_
      rintro x wa ⟨va, rfl, hoa, hba⟩
      rw [← ids_length] at hoa
      obtain ⟨Aw, cw, rfl, _⟩ := own_form hoa
      have hwa := Row.own hoa
      have Ba := box_below B1 hba
      have Ca := box_below C1 hba
      have Da := box_below D1 hba
      have hb0a := hb01.trans (hba.mono hb01.size)
      clear hoa B1 C1 D1 hba hb01
      go_wp2_with (first
        | refine wpList_loadS rfl (.tmp 3) rfl strcV ⟨w.heap.size, 0, none⟩ rfl cs HN.out (box_all Ba) ?_
        | refine wpList_loadS rfl (.tmp 4) rfl strcP ⟨w.heap.size + 1, 0, none⟩ rfl cp HM.out (box_all Ca) ?_)
      refine (Apply_any (hv.ext hb0a) (hp.ext hb0a) HL2.out (can_fit HC.out) HPF.out).mono ?_
      rintro x wb ⟨fb, rfl, vb, hbb⟩
      have hlb := vb.length; have hob := vb.one
      have Yb := VBox.new vb
      have hxb : Below wb.heap.size wb (wb.alloc (.cells fb.toArray 25)) := ext_alloc (ext_refl _) _
      have hbab := hbb.trans (hxb.mono hbb.size)
      have hwb := hwa.ext hbab
      have Bb := box_below Ba hbab
      have Cb := box_below Ca hbab
      have Db := box_below Da hbab
      have hb0b := hb0a.trans (hbab.mono hb0a.size)
      clear hwa Ba Ca Da hb0a vb hbb hxb hbab
      go_upto_region 5 with (refine wpList_newS rfl rfl strcV rfl (.tmp 8) (.tmp 32) rfl rfl rfl fb.toArray rfl (by simpa using hlb) (by simpa using hob) ?_)
      generalize hWb : wb.alloc (.cells fb.toArray 25) = wc8 at *
      generalize hGb : wb.heap.size = g8 at *
      clear hWb hGb hlb hob
      have r0 : wc8.cell? ⟨w.heap.size + 2, 0, none⟩ = some (.int .i64 gi) := box_at Db H0.out
      have r1 : wc8.cell? ⟨w.heap.size + 2, 1, none⟩ = some (.slice Al l.length cl) := box_at Db H1.out
      have r2 : wc8.cell? ⟨w.heap.size + 2, 2, none⟩ = some (.int .i64 back) := box_at Db H2.out
      have r3 : wc8.cell? ⟨w.heap.size + 2, 3, none⟩ = some (.bool more) := box_at Db H3.out
      go_wp2_with (refine wpList_loadS rfl (.tmp 3) rfl strcV ⟨w.heap.size, 0, none⟩ rfl cs HN.out (box_all Bb) ?_)
      refine (Fill_any (hv.ext hb0b) (hr.ext hb0b) HL.out HI.out).mono ?_
      rintro x w2 ⟨f2, rfl, v2, hb2⟩
      clear r0 r1 r2 r3
      have C2 := box_below Cb hb2
      have Y2 := Yb.ext hb2
      have hw2 := hwb.ext hb2
      have hb02 := hb0b.trans (hb2.mono hb0b.size)
      have hl2 := v2.length; have ho2 := v2.one
      have X2 := VBox.new v2
      have hx3 : Below w2.heap.size w2 (w2.alloc (.cells f2.toArray 25)) := ext_alloc (ext_refl _) _
      have C3 := box_below C2 hx3
      have Y3 := Y2.ext hx3
      have hw3 := hw2.ext hx3
      have hb03 := hb02.trans (hx3.mono hb02.size)
      obtain ⟨en, hen⟩ : ∃ n, n = fillE V gi := ⟨_, rfl⟩
      rw [← hen]
      have HEN := hide hen
      clear Bb Cb Db hb0b hb2 C2 Y2 hw2 hb02 hx3 v2 hen Yb hwb
      go_upto_region 6 with (refine wpList_newS rfl rfl strcV rfl (.tmp 9) (.tmp 44) rfl rfl rfl f2.toArray rfl (by simpa using hl2) (by simpa using ho2) ?_)
      generalize hW3 : w2.alloc (.cells f2.toArray 25) = w3 at *
      generalize hG3 : w2.heap.size = g9 at *
      clear hW3 hG3 hl2 ho2
      have hbx : Below w3.heap.size w3 w3.drew := ext_drew (ext_refl w3)
      obtain ⟨cy, hBy, hvy⟩ := Y3.ext hbx
      obtain ⟨ca, hBa, hva⟩ := X2.ext hbx
      have C4 := box_below C3 hbx
      have hw4 := hw3.ext hbx
      have hb04 := hb03.trans (hbx.mono hb03.size)
      obtain ⟨wd, hWD⟩ : ∃ wd, wd = w3.drew := ⟨_, rfl⟩
      rw [← hWD] at hBy hvy hBa hva C4 hw4 hb04
      have HNY := hide hvy.length; have HNA := hide hva.length
      obtain ⟨an, han⟩ : ∃ b, b = p.anew := ⟨_, rfl⟩
      have hp2' := HP2.out
      rw [← han] at hp2'
      have HP2' := hide hp2'; have HAN := hide han
      have hil : (ids V.events).length ≤ 1048576 := by rw [ids_length]; exact HC.out.1
      clear hp2' han
      refine wp_region_phase (fun w' => w'.heap[w.heap.size + 1]? = some (.cells cp.toArray 39 (0, 0)) ∧ w'.heap[g8]? = some (.cells cy.toArray 25 (0, 0)) ∧ w'.heap[g9]? = some (.cells ca.toArray 25 (0, 0))) [] (by kernel_rfl) ?_
      rw [show { w3 with drawn := w3.drawn + 1 } = wd from hWD.symm]
      clear hWD hbx C3 Y3 X2 hw3 hb03
      have T4 := And.intro C4 (And.intro hBy hBa)
      clear C4 hBy hBa
      by_cases he0 : en = 0
      · subst he0
        cases an
        · have hdum := True.intro
          refine wpAnyP_take (i := 0) rfl (by kernel_rfl) (by kernel_rfl) (by kernel_rfl) (by kernel_rfl) (fun _ _ _ h => h) (yieldsIf_run (.pointer (some ⟨w.heap.size + 1, 2, none⟩)) rfl (fun w' => by go_simp)) T4 ?_
          go_simp
          refine wpAnyP_take (i := 1) rfl (by kernel_rfl) (by kernel_rfl) (by kernel_rfl) (by kernel_rfl) (fun _ _ _ h => h) (yieldsIf_load rfl rfl Try.underlying4 rfl rfl (fun w' hT => box_at hT.1 HP2'.out)) T4 ?_
          go_simp
          refine wpAnyP_take (i := 2) rfl (by kernel_rfl) (by kernel_rfl) (by kernel_rfl) (by kernel_rfl) (fun _ _ _ h => h) (yieldsIf_run (.bool false) rfl (fun w' => by go_simp)) T4 ?_
          go_simp
          refine wpAnyP_take (i := 3) rfl (by kernel_rfl) (by kernel_rfl) (by kernel_rfl) (by kernel_rfl) (fun _ _ _ h => h) (yieldsIf_loadS rfl (.tmp 8) rfl strcV ⟨g8, 0, none⟩ rfl cy HNY.out (fun w' hT => box_all hT.2.1)) T4 ?_
          go_simp
          refine wpAnyP_take (i := 5) rfl (by kernel_rfl) (by kernel_rfl) (by kernel_rfl) (by kernel_rfl) (fun _ _ _ h => h) (yieldsIf_run (.slice Aw (ids V.events).length cw) rfl (fun w' => by go_simp)) T4 ?_
          go_simp
          refine wpAnyP_take (i := 7) rfl (by kernel_rfl) (by kernel_rfl) (by kernel_rfl) (by kernel_rfl) (fun _ _ _ h => h) (yieldsIf_run (.slice Aw (ids V.events).length cw) rfl (fun w' => by go_simp)) T4 ?_
          go_simp
          refine wpAnyP_one' (i := 4) (by kernel_rfl) rfl ?_
          go_wp2_with fail
          refine (VIds_any hvy HA.out.1).mono ?_
          rintro x w5 ⟨v5, rfl, ho5, hx5⟩
          rw [← ids_length] at ho5
          obtain ⟨A5, c5, rfl, _⟩ := own_form ho5
          have ro5 := Row.own ho5
          clear ho5
          have hb5 := hb04.trans (hx5.mono hb04.size)
          have T5 := And.intro (box_below T4.1 hx5) (And.intro (box_below T4.2.1 hx5) (box_below T4.2.2 hx5))
          have wr5 := hw4.ext hx5
          have vy5 := hvy.ext hx5
          have va5 := hva.ext hx5
          go_wp2_with fail
          refine nextP T5 ?_
          go_simp
          have ham6 := among_any (c := c5) (c2 := cw) ro5 wr5 (by rw [ids_length]; exact HA.out.1) hil
          rw [(apply_among HAN.out.symm : amongL (ids (applyV V p).events) (ids V.events) = ids V.events)] at ham6
          have HAM6 := hide ham6
          clear ham6
          refine wpAnyP_one' (i := 6) (by kernel_rfl) rfl ?_
          go_wp2_with fail
          refine (HAM6.out).mono ?_
          rintro x w6 ⟨v6, rfl, ho6, hx6⟩
          obtain ⟨A6, c6, rfl, _⟩ := own_form ho6
          have ro6 := Row.own ho6
          clear ho6
          have hb6 := hb5.trans (hx6.mono hb5.size)
          have T6 := And.intro (box_below T5.1 hx6) (And.intro (box_below T5.2.1 hx6) (box_below T5.2.2 hx6))
          have wr6 := wr5.ext hx6
          have vy6 := vy5.ext hx6
          have va6 := va5.ext hx6
          go_wp2_with fail
          refine nextP T6 ?_
          go_simp
          have k6 := ro5.ext hx6
          have hsm7 := R1Same_any (c := c6) (c2 := cw) ro6 wr6 (by omega) (by omega)
          rw [decide_eq_true (rfl : ids V.events = ids V.events)] at hsm7
          have HSM7 := hide hsm7
          clear hsm7
          refine wpAnyP_one' (i := 8) (by kernel_rfl) rfl ?_
          go_wp2_with fail
          refine (HSM7.out).mono ?_
          rintro x w7 ⟨rfl, nq, hnq7⟩
          have hx7 := draws_below hnq7; clear hnq7
          have hb7 := hb6.trans (hx7.mono hb6.size)
          have T7 := And.intro (box_below T6.1 hx7) (And.intro (box_below T6.2.1 hx7) (box_below T6.2.2 hx7))
          have wr7 := wr6.ext hx7
          have vy7 := vy6.ext hx7
          have va7 := va6.ext hx7
          go_wp2_with fail
          refine nextP T7 ?_
          go_simp
          have m7 := ro6.ext hx7
          refine wpAnyP_take (i := 9) rfl (by kernel_rfl) (by kernel_rfl) (by kernel_rfl) (by kernel_rfl) (fun _ _ _ h => h) (yieldsIf_run (.bool true) rfl (fun w' => by go_simp)) T7 ?_
          go_simp
          refine wpAnyP_take (i := 10) rfl (by kernel_rfl) (by kernel_rfl) (by kernel_rfl) (by kernel_rfl) (fun _ _ _ h => h) (yieldsIf_loadS rfl (.tmp 8) rfl strcV ⟨g8, 0, none⟩ rfl cy HNY.out (fun w' hT => box_all hT.2.1)) T7 ?_
          go_simp
          refine wpAnyP_take (i := 11) rfl (by kernel_rfl) (by kernel_rfl) (by kernel_rfl) (by kernel_rfl) (fun _ _ _ h => h) (yieldsIf_loadS rfl (.tmp 4) rfl strcP ⟨w.heap.size + 1, 0, none⟩ rfl cp HM.out (fun w' hT => box_all hT.1)) T7 ?_
          go_simp
          refine wpAnyP_take (i := 13) rfl (by kernel_rfl) (by kernel_rfl) (by kernel_rfl) (by kernel_rfl) (fun _ _ _ h => h) (yieldsIf_loadS rfl (.tmp 8) rfl strcV ⟨g8, 0, none⟩ rfl cy HNY.out (fun w' hT => box_all hT.2.1)) T7 ?_
          go_simp
          refine wpAnyP_one' (i := 12) (by kernel_rfl) rfl ?_
          go_wp2_with fail
          refine (Apply_any vy7.anyV (hp.ext hb7) HL3.out (can_fit HA.out) HPF.out).mono ?_
          rintro x w8 ⟨f8, rfl, v8, hx8⟩
          rw [applyV_twice HCK.out HAN.out.symm] at v8
          have hb8 := hb7.trans (hx8.mono hb7.size)
          have T8 := And.intro (box_below T7.1 hx8) (And.intro (box_below T7.2.1 hx8) (box_below T7.2.2 hx8))
          have wr8 := wr7.ext hx8
          have vy8 := vy7.ext hx8
          have va8 := va7.ext hx8
          go_wp2_with fail
          refine nextP T8 ?_
          go_simp
          refine wpAnyP_one' (i := 14) (by kernel_rfl) rfl ?_
          go_wp2_with fail
          refine (VSame_yes v8 vy8 HA.out).mono ?_
          rintro x w9 ⟨rfl, hx9⟩
          have hb9 := hb8.trans (hx9.mono hb8.size)
          have T9 := And.intro (box_below T8.1 hx9) (And.intro (box_below T8.2.1 hx9) (box_below T8.2.2 hx9))
          have wr9 := wr8.ext hx9
          have vy9 := vy8.ext hx9
          have va9 := va8.ext hx9
          go_wp2_with fail
          refine nextP T9 ?_
          go_simp
          have k9 := v8.ext hx9
          refine wpAnyP_take (i := 15) rfl (by kernel_rfl) (by kernel_rfl) (by kernel_rfl) (by kernel_rfl) (fun _ _ _ h => h) (yieldsIf_run (.bool true) rfl (fun w' => by go_simp)) T9 ?_
          go_simp
          refine wpAnyP_take (i := 16) rfl (by kernel_rfl) (by kernel_rfl) (by kernel_rfl) (by kernel_rfl) (fun _ _ _ h => h) (yieldsIf_run (.bool true) rfl (fun w' => by go_simp)) T9 ?_
          go_simp
          refine wpAnyP_take (i := 17) rfl (by kernel_rfl) (by kernel_rfl) (by kernel_rfl) (by kernel_rfl) (fun _ _ _ h => h) (yieldsIf_run (.bool true) rfl (fun w' => by go_simp)) T9 ?_
          go_simp
          refine wpAnyP_take (i := 18) rfl (by kernel_rfl) (by kernel_rfl) (by kernel_rfl) (by kernel_rfl) (fun _ _ _ h => h) (yieldsIf_run (.int .i64 0) rfl (fun w' => by go_simp)) T9 ?_
          go_simp
          refine wpAnyP_take (i := 19) rfl (by kernel_rfl) (by kernel_rfl) (by kernel_rfl) (by kernel_rfl) (fun _ _ _ h => h) (yieldsIf_run (.bool false) rfl (fun w' => by go_simp)) T9 ?_
          go_simp
          refine wpAnyP_take (i := 20) rfl (by kernel_rfl) (by kernel_rfl) (by kernel_rfl) (by kernel_rfl) (fun _ _ _ h => h) (yieldsIf_run (.bool false) rfl (fun w' => by go_simp)) T9 ?_
          go_simp
          refine wpAnyP_take (i := 21) rfl (by kernel_rfl) (by kernel_rfl) (by kernel_rfl) (by kernel_rfl) (fun _ _ _ h => h) (yieldsIf_loadS rfl (.tmp 9) rfl strcV ⟨g9, 0, none⟩ rfl ca HNA.out (fun w' hT => box_all hT.2.2)) T9 ?_
          go_simp
          refine wpAnyP_take (i := 23) rfl (by kernel_rfl) (by kernel_rfl) (by kernel_rfl) (by kernel_rfl) (fun _ _ _ h => h) (yieldsIf_run (.slice Aw (ids V.events).length cw) rfl (fun w' => by go_simp)) T9 ?_
          go_simp
          refine wpAnyP_take (i := 25) rfl (by kernel_rfl) (by kernel_rfl) (by kernel_rfl) (by kernel_rfl) (fun _ _ _ h => h) (yieldsIf_run (.slice Aw (ids V.events).length cw) rfl (fun w' => by go_simp)) T9 ?_
          go_simp
          refine wpAnyP_one' (i := 22) (by kernel_rfl) rfl ?_
          go_wp2_with fail
          refine (VIds_any va9 HF.out.1).mono ?_
          rintro x w10 ⟨v10, rfl, ho10, hx10⟩
          rw [← ids_length] at ho10
          obtain ⟨A10, c10, rfl, _⟩ := own_form ho10
          have ro10 := Row.own ho10
          clear ho10
          have hb10 := hb9.trans (hx10.mono hb9.size)
          have T10 := And.intro (box_below T9.1 hx10) (And.intro (box_below T9.2.1 hx10) (box_below T9.2.2 hx10))
          have wr10 := wr9.ext hx10
          have vy10 := vy9.ext hx10
          have va10 := va9.ext hx10
          go_wp2_with fail
          refine nextP T10 ?_
          go_simp
          have ham11 := among_any (c := c10) (c2 := cw) ro10 wr10 (by rw [ids_length]; exact HF.out.1) hil
          rw [(fill_among HEN.out.symm : amongL (ids (fillV V gi l back more).events) (ids V.events) = ids V.events)] at ham11
          have HAM11 := hide ham11
          clear ham11
          refine wpAnyP_one' (i := 24) (by kernel_rfl) rfl ?_
          go_wp2_with fail
          refine (HAM11.out).mono ?_
          rintro x w11 ⟨v11, rfl, ho11, hx11⟩
          obtain ⟨A11, c11, rfl, _⟩ := own_form ho11
          have ro11 := Row.own ho11
          clear ho11
          have hb11 := hb10.trans (hx11.mono hb10.size)
          have T11 := And.intro (box_below T10.1 hx11) (And.intro (box_below T10.2.1 hx11) (box_below T10.2.2 hx11))
          have wr11 := wr10.ext hx11
          have vy11 := vy10.ext hx11
          have va11 := va10.ext hx11
          go_wp2_with fail
          refine nextP T11 ?_
          go_simp
          have k11 := ro10.ext hx11
          have hsm12 := R1Same_any (c := c11) (c2 := cw) ro11 wr11 (by omega) (by omega)
          rw [decide_eq_true (rfl : ids V.events = ids V.events)] at hsm12
          have HSM12 := hide hsm12
          clear hsm12
          refine wpAnyP_one' (i := 26) (by kernel_rfl) rfl ?_
          go_wp2_with fail
          refine (HSM12.out).mono ?_
          rintro x w12 ⟨rfl, nq, hnq12⟩
          have hx12 := draws_below hnq12; clear hnq12
          have hb12 := hb11.trans (hx12.mono hb11.size)
          have T12 := And.intro (box_below T11.1 hx12) (And.intro (box_below T11.2.1 hx12) (box_below T11.2.2 hx12))
          have wr12 := wr11.ext hx12
          have vy12 := vy11.ext hx12
          have va12 := va11.ext hx12
          go_wp2_with fail
          refine nextP T12 ?_
          go_simp
          have m12 := ro11.ext hx12
          refine wpAnyP_take (i := 27) rfl (by kernel_rfl) (by kernel_rfl) (by kernel_rfl) (by kernel_rfl) (fun _ _ _ h => h) (yieldsIf_run (.bool true) rfl (fun w' => by go_simp)) T12 ?_
          go_simp
          refine wpAnyP_take (i := 28) rfl (by kernel_rfl) (by kernel_rfl) (by kernel_rfl) (by kernel_rfl) (fun _ _ _ h => h) (yieldsIf_run (.bool true) rfl (fun w' => by go_simp)) T12 ?_
          go_simp
          refine wpAnyP_take (i := 29) rfl (by kernel_rfl) (by kernel_rfl) (by kernel_rfl) (by kernel_rfl) (fun _ _ _ h => h) (yieldsIf_run (.bool true) rfl (fun w' => by go_simp)) T12 ?_
          go_simp
          refine wpAnyP_one' (i := 30) (by kernel_rfl) rfl ?_
          go_wp2_with fail
          refine (live_any _).mono ?_
          rintro x w13 ⟨rfl, hx13⟩
          have hb13 := hb12.trans (hx13.mono hb12.size)
          have T13 := And.intro (box_below T12.1 hx13) (And.intro (box_below T12.2.1 hx13) (box_below T12.2.2 hx13))
          have wr13 := wr12.ext hx13
          have vy13 := vy12.ext hx13
          have va13 := va12.ext hx13
          go_wp2_with fail
          refine nextP T13 ?_
          go_simp
          refine wpAnyP_take (i := 31) rfl (by kernel_rfl) (by kernel_rfl) (by kernel_rfl) (by kernel_rfl) (fun _ _ _ h => h) (yieldsIf_run (.bool true) rfl (fun w' => by go_simp)) T13 ?_
          go_simp
          refine wpAnyP_one' (i := 32) (by kernel_rfl) rfl ?_
          go_wp2_with fail
          refine nextP T13 (wpAnyP_done (by kernel_rfl) ?_)
          go_simp
          try go_wp2_with fail
          go_ret
          exact ⟨rfl, hb13⟩
        · have hdum := True.intro
          refine wpAnyP_take (i := 0) rfl (by kernel_rfl) (by kernel_rfl) (by kernel_rfl) (by kernel_rfl) (fun _ _ _ h => h) (yieldsIf_run (.pointer (some ⟨w.heap.size + 1, 2, none⟩)) rfl (fun w' => by go_simp)) T4 ?_
          go_simp
          refine wpAnyP_take (i := 1) rfl (by kernel_rfl) (by kernel_rfl) (by kernel_rfl) (by kernel_rfl) (fun _ _ _ h => h) (yieldsIf_load rfl rfl Try.underlying4 rfl rfl (fun w' hT => box_at hT.1 HP2'.out)) T4 ?_
          go_simp
          refine wpAnyP_take (i := 2) rfl (by kernel_rfl) (by kernel_rfl) (by kernel_rfl) (by kernel_rfl) (fun _ _ _ h => h) (yieldsIf_run (.bool true) rfl (fun w' => by go_simp)) T4 ?_
          go_simp
          refine wpAnyP_take (i := 3) (v := undef) rfl (by kernel_rfl) (by kernel_rfl) (by kernel_rfl) (by kernel_rfl) (fun _ _ _ h => h) (.inr ⟨rfl, rfl⟩) T4 ?_
          go_simp
          refine wpAnyP_take (i := 4) (v := undef) rfl (by kernel_rfl) (by kernel_rfl) (by kernel_rfl) (by kernel_rfl) (fun _ _ _ h => h) (.inr ⟨rfl, rfl⟩) T4 ?_
          go_simp
          refine wpAnyP_take (i := 5) (v := undef) rfl (by kernel_rfl) (by kernel_rfl) (by kernel_rfl) (by kernel_rfl) (fun _ _ _ h => h) (.inr ⟨rfl, rfl⟩) T4 ?_
          go_simp
          refine wpAnyP_take (i := 6) (v := undef) rfl (by kernel_rfl) (by kernel_rfl) (by kernel_rfl) (by kernel_rfl) (fun _ _ _ h => h) (.inr ⟨rfl, rfl⟩) T4 ?_
          go_simp
          refine wpAnyP_take (i := 7) (v := undef) rfl (by kernel_rfl) (by kernel_rfl) (by kernel_rfl) (by kernel_rfl) (fun _ _ _ h => h) (.inr ⟨rfl, rfl⟩) T4 ?_
          go_simp
          refine wpAnyP_take (i := 8) (v := undef) rfl (by kernel_rfl) (by kernel_rfl) (by kernel_rfl) (by kernel_rfl) (fun _ _ _ h => h) (.inr ⟨rfl, rfl⟩) T4 ?_
          go_simp
          refine wpAnyP_take (i := 9) (v := undef) rfl (by kernel_rfl) (by kernel_rfl) (by kernel_rfl) (by kernel_rfl) (fun _ _ _ h => h) (.inr ⟨rfl, rfl⟩) T4 ?_
          go_simp
          refine wpAnyP_take (i := 10) (v := undef) rfl (by kernel_rfl) (by kernel_rfl) (by kernel_rfl) (by kernel_rfl) (fun _ _ _ h => h) (.inr ⟨rfl, rfl⟩) T4 ?_
          go_simp
          refine wpAnyP_take (i := 11) (v := undef) rfl (by kernel_rfl) (by kernel_rfl) (by kernel_rfl) (by kernel_rfl) (fun _ _ _ h => h) (.inr ⟨rfl, rfl⟩) T4 ?_
          go_simp
          refine wpAnyP_take (i := 12) (v := undef) rfl (by kernel_rfl) (by kernel_rfl) (by kernel_rfl) (by kernel_rfl) (fun _ _ _ h => h) (.inr ⟨rfl, rfl⟩) T4 ?_
          go_simp
          refine wpAnyP_take (i := 13) (v := undef) rfl (by kernel_rfl) (by kernel_rfl) (by kernel_rfl) (by kernel_rfl) (fun _ _ _ h => h) (.inr ⟨rfl, rfl⟩) T4 ?_
          go_simp
          refine wpAnyP_take (i := 14) (v := undef) rfl (by kernel_rfl) (by kernel_rfl) (by kernel_rfl) (by kernel_rfl) (fun _ _ _ h => h) (.inr ⟨rfl, rfl⟩) T4 ?_
          go_simp
          refine wpAnyP_take (i := 15) (v := undef) rfl (by kernel_rfl) (by kernel_rfl) (by kernel_rfl) (by kernel_rfl) (fun _ _ _ h => h) (.inr ⟨rfl, rfl⟩) T4 ?_
          go_simp
          refine wpAnyP_take (i := 16) rfl (by kernel_rfl) (by kernel_rfl) (by kernel_rfl) (by kernel_rfl) (fun _ _ _ h => h) (yieldsIf_run (.bool true) rfl (fun w' => by go_simp)) T4 ?_
          go_simp
          refine wpAnyP_take (i := 17) rfl (by kernel_rfl) (by kernel_rfl) (by kernel_rfl) (by kernel_rfl) (fun _ _ _ h => h) (yieldsIf_run (.bool true) rfl (fun w' => by go_simp)) T4 ?_
          go_simp
          refine wpAnyP_take (i := 18) rfl (by kernel_rfl) (by kernel_rfl) (by kernel_rfl) (by kernel_rfl) (fun _ _ _ h => h) (yieldsIf_run (.int .i64 0) rfl (fun w' => by go_simp)) T4 ?_
          go_simp
          refine wpAnyP_take (i := 19) rfl (by kernel_rfl) (by kernel_rfl) (by kernel_rfl) (by kernel_rfl) (fun _ _ _ h => h) (yieldsIf_run (.bool false) rfl (fun w' => by go_simp)) T4 ?_
          go_simp
          refine wpAnyP_take (i := 20) rfl (by kernel_rfl) (by kernel_rfl) (by kernel_rfl) (by kernel_rfl) (fun _ _ _ h => h) (yieldsIf_run (.bool false) rfl (fun w' => by go_simp)) T4 ?_
          go_simp
          refine wpAnyP_take (i := 21) rfl (by kernel_rfl) (by kernel_rfl) (by kernel_rfl) (by kernel_rfl) (fun _ _ _ h => h) (yieldsIf_loadS rfl (.tmp 9) rfl strcV ⟨g9, 0, none⟩ rfl ca HNA.out (fun w' hT => box_all hT.2.2)) T4 ?_
          go_simp
          refine wpAnyP_take (i := 23) rfl (by kernel_rfl) (by kernel_rfl) (by kernel_rfl) (by kernel_rfl) (fun _ _ _ h => h) (yieldsIf_run (.slice Aw (ids V.events).length cw) rfl (fun w' => by go_simp)) T4 ?_
          go_simp
          refine wpAnyP_take (i := 25) rfl (by kernel_rfl) (by kernel_rfl) (by kernel_rfl) (by kernel_rfl) (fun _ _ _ h => h) (yieldsIf_run (.slice Aw (ids V.events).length cw) rfl (fun w' => by go_simp)) T4 ?_
          go_simp
          refine wpAnyP_one' (i := 22) (by kernel_rfl) rfl ?_
          go_wp2_with fail
          refine (VIds_any hva HF.out.1).mono ?_
          rintro x w14 ⟨v14, rfl, ho14, hx14⟩
          rw [← ids_length] at ho14
          obtain ⟨A14, c14, rfl, _⟩ := own_form ho14
          have ro14 := Row.own ho14
          clear ho14
          have hb14 := hb04.trans (hx14.mono hb04.size)
          have T14 := And.intro (box_below T4.1 hx14) (And.intro (box_below T4.2.1 hx14) (box_below T4.2.2 hx14))
          have wr14 := hw4.ext hx14
          have vy14 := hvy.ext hx14
          have va14 := hva.ext hx14
          go_wp2_with fail
          refine nextP T14 ?_
          go_simp
          have ham15 := among_any (c := c14) (c2 := cw) ro14 wr14 (by rw [ids_length]; exact HF.out.1) hil
          rw [(fill_among HEN.out.symm : amongL (ids (fillV V gi l back more).events) (ids V.events) = ids V.events)] at ham15
          have HAM15 := hide ham15
          clear ham15
          refine wpAnyP_one' (i := 24) (by kernel_rfl) rfl ?_
          go_wp2_with fail
          refine (HAM15.out).mono ?_
          rintro x w15 ⟨v15, rfl, ho15, hx15⟩
          obtain ⟨A15, c15, rfl, _⟩ := own_form ho15
          have ro15 := Row.own ho15
          clear ho15
          have hb15 := hb14.trans (hx15.mono hb14.size)
          have T15 := And.intro (box_below T14.1 hx15) (And.intro (box_below T14.2.1 hx15) (box_below T14.2.2 hx15))
          have wr15 := wr14.ext hx15
          have vy15 := vy14.ext hx15
          have va15 := va14.ext hx15
          go_wp2_with fail
          refine nextP T15 ?_
          go_simp
          have k15 := ro14.ext hx15
          have hsm16 := R1Same_any (c := c15) (c2 := cw) ro15 wr15 (by omega) (by omega)
          rw [decide_eq_true (rfl : ids V.events = ids V.events)] at hsm16
          have HSM16 := hide hsm16
          clear hsm16
          refine wpAnyP_one' (i := 26) (by kernel_rfl) rfl ?_
          go_wp2_with fail
          refine (HSM16.out).mono ?_
          rintro x w16 ⟨rfl, nq, hnq16⟩
          have hx16 := draws_below hnq16; clear hnq16
          have hb16 := hb15.trans (hx16.mono hb15.size)
          have T16 := And.intro (box_below T15.1 hx16) (And.intro (box_below T15.2.1 hx16) (box_below T15.2.2 hx16))
          have wr16 := wr15.ext hx16
          have vy16 := vy15.ext hx16
          have va16 := va15.ext hx16
          go_wp2_with fail
          refine nextP T16 ?_
          go_simp
          have m16 := ro15.ext hx16
          refine wpAnyP_take (i := 27) rfl (by kernel_rfl) (by kernel_rfl) (by kernel_rfl) (by kernel_rfl) (fun _ _ _ h => h) (yieldsIf_run (.bool true) rfl (fun w' => by go_simp)) T16 ?_
          go_simp
          refine wpAnyP_take (i := 28) rfl (by kernel_rfl) (by kernel_rfl) (by kernel_rfl) (by kernel_rfl) (fun _ _ _ h => h) (yieldsIf_run (.bool true) rfl (fun w' => by go_simp)) T16 ?_
          go_simp
          refine wpAnyP_take (i := 29) rfl (by kernel_rfl) (by kernel_rfl) (by kernel_rfl) (by kernel_rfl) (fun _ _ _ h => h) (yieldsIf_run (.bool true) rfl (fun w' => by go_simp)) T16 ?_
          go_simp
          refine wpAnyP_one' (i := 30) (by kernel_rfl) rfl ?_
          go_wp2_with fail
          refine (live_any _).mono ?_
          rintro x w17 ⟨rfl, hx17⟩
          have hb17 := hb16.trans (hx17.mono hb16.size)
          have T17 := And.intro (box_below T16.1 hx17) (And.intro (box_below T16.2.1 hx17) (box_below T16.2.2 hx17))
          have wr17 := wr16.ext hx17
          have vy17 := vy16.ext hx17
          have va17 := va16.ext hx17
          go_wp2_with fail
          refine nextP T17 ?_
          go_simp
          refine wpAnyP_take (i := 31) rfl (by kernel_rfl) (by kernel_rfl) (by kernel_rfl) (by kernel_rfl) (fun _ _ _ h => h) (yieldsIf_run (.bool true) rfl (fun w' => by go_simp)) T17 ?_
          go_simp
          refine wpAnyP_one' (i := 32) (by kernel_rfl) rfl ?_
          go_wp2_with fail
          refine nextP T17 (wpAnyP_done (by kernel_rfl) ?_)
          go_simp
          try go_wp2_with fail
          go_ret
          exact ⟨rfl, hb17⟩
      · have t1 : (en == 0) = false := by simpa using he0
        have t2 : (en != 0) = true := by simpa using he0
        clear he0
        cases an
        · have hdum := True.intro
          refine wpAnyP_take (i := 0) rfl (by kernel_rfl) (by kernel_rfl) (by kernel_rfl) (by kernel_rfl) (fun _ _ _ h => h) (yieldsIf_run (.pointer (some ⟨w.heap.size + 1, 2, none⟩)) rfl (fun w' => by go_simp)) T4 ?_
          go_simp
          refine wpAnyP_take (i := 1) rfl (by kernel_rfl) (by kernel_rfl) (by kernel_rfl) (by kernel_rfl) (fun _ _ _ h => h) (yieldsIf_load rfl rfl Try.underlying4 rfl rfl (fun w' hT => box_at hT.1 HP2'.out)) T4 ?_
          go_simp
          refine wpAnyP_take (i := 2) rfl (by kernel_rfl) (by kernel_rfl) (by kernel_rfl) (by kernel_rfl) (fun _ _ _ h => h) (yieldsIf_run (.bool false) rfl (fun w' => by go_simp)) T4 ?_
          go_simp
          refine wpAnyP_take (i := 3) rfl (by kernel_rfl) (by kernel_rfl) (by kernel_rfl) (by kernel_rfl) (fun _ _ _ h => h) (yieldsIf_loadS rfl (.tmp 8) rfl strcV ⟨g8, 0, none⟩ rfl cy HNY.out (fun w' hT => box_all hT.2.1)) T4 ?_
          go_simp
          refine wpAnyP_take (i := 5) rfl (by kernel_rfl) (by kernel_rfl) (by kernel_rfl) (by kernel_rfl) (fun _ _ _ h => h) (yieldsIf_run (.slice Aw (ids V.events).length cw) rfl (fun w' => by go_simp)) T4 ?_
          go_simp
          refine wpAnyP_take (i := 7) rfl (by kernel_rfl) (by kernel_rfl) (by kernel_rfl) (by kernel_rfl) (fun _ _ _ h => h) (yieldsIf_run (.slice Aw (ids V.events).length cw) rfl (fun w' => by go_simp)) T4 ?_
          go_simp
          refine wpAnyP_one' (i := 4) (by kernel_rfl) rfl ?_
          go_wp2_with fail
          refine (VIds_any hvy HA.out.1).mono ?_
          rintro x w18 ⟨v18, rfl, ho18, hx18⟩
          rw [← ids_length] at ho18
          obtain ⟨A18, c18, rfl, _⟩ := own_form ho18
          have ro18 := Row.own ho18
          clear ho18
          have hb18 := hb04.trans (hx18.mono hb04.size)
          have T18 := And.intro (box_below T4.1 hx18) (And.intro (box_below T4.2.1 hx18) (box_below T4.2.2 hx18))
          have wr18 := hw4.ext hx18
          have vy18 := hvy.ext hx18
          have va18 := hva.ext hx18
          go_wp2_with fail
          refine nextP T18 ?_
          go_simp
          have ham19 := among_any (c := c18) (c2 := cw) ro18 wr18 (by rw [ids_length]; exact HA.out.1) hil
          rw [(apply_among HAN.out.symm : amongL (ids (applyV V p).events) (ids V.events) = ids V.events)] at ham19
          have HAM19 := hide ham19
          clear ham19
          refine wpAnyP_one' (i := 6) (by kernel_rfl) rfl ?_
          go_wp2_with fail
          refine (HAM19.out).mono ?_
          rintro x w19 ⟨v19, rfl, ho19, hx19⟩
          obtain ⟨A19, c19, rfl, _⟩ := own_form ho19
          have ro19 := Row.own ho19
          clear ho19
          have hb19 := hb18.trans (hx19.mono hb18.size)
          have T19 := And.intro (box_below T18.1 hx19) (And.intro (box_below T18.2.1 hx19) (box_below T18.2.2 hx19))
          have wr19 := wr18.ext hx19
          have vy19 := vy18.ext hx19
          have va19 := va18.ext hx19
          go_wp2_with fail
          refine nextP T19 ?_
          go_simp
          have k19 := ro18.ext hx19
          have hsm20 := R1Same_any (c := c19) (c2 := cw) ro19 wr19 (by omega) (by omega)
          rw [decide_eq_true (rfl : ids V.events = ids V.events)] at hsm20
          have HSM20 := hide hsm20
          clear hsm20
          refine wpAnyP_one' (i := 8) (by kernel_rfl) rfl ?_
          go_wp2_with fail
          refine (HSM20.out).mono ?_
          rintro x w20 ⟨rfl, nq, hnq20⟩
          have hx20 := draws_below hnq20; clear hnq20
          have hb20 := hb19.trans (hx20.mono hb19.size)
          have T20 := And.intro (box_below T19.1 hx20) (And.intro (box_below T19.2.1 hx20) (box_below T19.2.2 hx20))
          have wr20 := wr19.ext hx20
          have vy20 := vy19.ext hx20
          have va20 := va19.ext hx20
          go_wp2_with fail
          refine nextP T20 ?_
          go_simp
          have m20 := ro19.ext hx20
          refine wpAnyP_take (i := 9) rfl (by kernel_rfl) (by kernel_rfl) (by kernel_rfl) (by kernel_rfl) (fun _ _ _ h => h) (yieldsIf_run (.bool true) rfl (fun w' => by go_simp)) T20 ?_
          go_simp
          refine wpAnyP_take (i := 10) rfl (by kernel_rfl) (by kernel_rfl) (by kernel_rfl) (by kernel_rfl) (fun _ _ _ h => h) (yieldsIf_loadS rfl (.tmp 8) rfl strcV ⟨g8, 0, none⟩ rfl cy HNY.out (fun w' hT => box_all hT.2.1)) T20 ?_
          go_simp
          refine wpAnyP_take (i := 11) rfl (by kernel_rfl) (by kernel_rfl) (by kernel_rfl) (by kernel_rfl) (fun _ _ _ h => h) (yieldsIf_loadS rfl (.tmp 4) rfl strcP ⟨w.heap.size + 1, 0, none⟩ rfl cp HM.out (fun w' hT => box_all hT.1)) T20 ?_
          go_simp
          refine wpAnyP_take (i := 13) rfl (by kernel_rfl) (by kernel_rfl) (by kernel_rfl) (by kernel_rfl) (fun _ _ _ h => h) (yieldsIf_loadS rfl (.tmp 8) rfl strcV ⟨g8, 0, none⟩ rfl cy HNY.out (fun w' hT => box_all hT.2.1)) T20 ?_
          go_simp
          refine wpAnyP_one' (i := 12) (by kernel_rfl) rfl ?_
          go_wp2_with fail
          refine (Apply_any vy20.anyV (hp.ext hb20) HL3.out (can_fit HA.out) HPF.out).mono ?_
          rintro x w21 ⟨f21, rfl, v21, hx21⟩
          rw [applyV_twice HCK.out HAN.out.symm] at v21
          have hb21 := hb20.trans (hx21.mono hb20.size)
          have T21 := And.intro (box_below T20.1 hx21) (And.intro (box_below T20.2.1 hx21) (box_below T20.2.2 hx21))
          have wr21 := wr20.ext hx21
          have vy21 := vy20.ext hx21
          have va21 := va20.ext hx21
          go_wp2_with fail
          refine nextP T21 ?_
          go_simp
          refine wpAnyP_one' (i := 14) (by kernel_rfl) rfl ?_
          go_wp2_with fail
          refine (VSame_yes v21 vy21 HA.out).mono ?_
          rintro x w22 ⟨rfl, hx22⟩
          have hb22 := hb21.trans (hx22.mono hb21.size)
          have T22 := And.intro (box_below T21.1 hx22) (And.intro (box_below T21.2.1 hx22) (box_below T21.2.2 hx22))
          have wr22 := wr21.ext hx22
          have vy22 := vy21.ext hx22
          have va22 := va21.ext hx22
          go_wp2_with fail
          refine nextP T22 ?_
          go_simp
          have k22 := v21.ext hx22
          refine wpAnyP_take (i := 15) rfl (by kernel_rfl) (by kernel_rfl) (by kernel_rfl) (by kernel_rfl) (fun _ _ _ h => h) (yieldsIf_run (.bool true) rfl (fun w' => by go_simp)) T22 ?_
          go_simp
          refine wpAnyP_take (i := 16) rfl (by kernel_rfl) (by kernel_rfl) (by kernel_rfl) (by kernel_rfl) (fun _ _ _ h => h) (yieldsIf_run (.bool true) rfl (fun w' => by go_simp)) T22 ?_
          go_simp
          refine wpAnyP_take (i := 17) rfl (by kernel_rfl) (by kernel_rfl) (by kernel_rfl) (by kernel_rfl) (fun _ _ _ h => h) (yieldsIf_run (.bool true) rfl (fun w' => by go_simp)) T22 ?_
          go_simp
          refine wpAnyP_take (i := 18) rfl (by kernel_rfl) (by kernel_rfl) (by kernel_rfl) (by kernel_rfl) (fun _ _ _ h => h) (yieldsIf_run (.int .i64 en) rfl (fun w' => by go_simp)) T22 ?_
          go_simp
          refine wpAnyP_take (i := 19) rfl (by kernel_rfl) (by kernel_rfl) (by kernel_rfl) (by kernel_rfl) (fun _ _ _ h => h) (yieldsIf_run (.bool true) rfl (fun w' => by go_simp)) T22 ?_
          go_simp
          refine wpAnyP_take (i := 20) rfl (by kernel_rfl) (by kernel_rfl) (by kernel_rfl) (by kernel_rfl) (fun _ _ _ h => h) (yieldsIf_run (.bool true) rfl (fun w' => by go_simp)) T22 ?_
          go_simp
          refine wpAnyP_take (i := 21) (v := undef) rfl (by kernel_rfl) (by kernel_rfl) (by kernel_rfl) (by kernel_rfl) (fun _ _ _ h => h) (.inr ⟨rfl, rfl⟩) T22 ?_
          go_simp
          refine wpAnyP_take (i := 22) (v := undef) rfl (by kernel_rfl) (by kernel_rfl) (by kernel_rfl) (by kernel_rfl) (fun _ _ _ h => h) (.inr ⟨rfl, rfl⟩) T22 ?_
          go_simp
          refine wpAnyP_take (i := 23) (v := undef) rfl (by kernel_rfl) (by kernel_rfl) (by kernel_rfl) (by kernel_rfl) (fun _ _ _ h => h) (.inr ⟨rfl, rfl⟩) T22 ?_
          go_simp
          refine wpAnyP_take (i := 24) (v := undef) rfl (by kernel_rfl) (by kernel_rfl) (by kernel_rfl) (by kernel_rfl) (fun _ _ _ h => h) (.inr ⟨rfl, rfl⟩) T22 ?_
          go_simp
          refine wpAnyP_take (i := 25) (v := undef) rfl (by kernel_rfl) (by kernel_rfl) (by kernel_rfl) (by kernel_rfl) (fun _ _ _ h => h) (.inr ⟨rfl, rfl⟩) T22 ?_
          go_simp
          refine wpAnyP_take (i := 26) (v := undef) rfl (by kernel_rfl) (by kernel_rfl) (by kernel_rfl) (by kernel_rfl) (fun _ _ _ h => h) (.inr ⟨rfl, rfl⟩) T22 ?_
          go_simp
          refine wpAnyP_take (i := 27) rfl (by kernel_rfl) (by kernel_rfl) (by kernel_rfl) (by kernel_rfl) (fun _ _ _ h => h) (yieldsIf_run (.bool true) rfl (fun w' => by go_simp)) T22 ?_
          go_simp
          refine wpAnyP_take (i := 28) rfl (by kernel_rfl) (by kernel_rfl) (by kernel_rfl) (by kernel_rfl) (fun _ _ _ h => h) (yieldsIf_run (.bool true) rfl (fun w' => by go_simp)) T22 ?_
          go_simp
          refine wpAnyP_take (i := 29) rfl (by kernel_rfl) (by kernel_rfl) (by kernel_rfl) (by kernel_rfl) (fun _ _ _ h => h) (yieldsIf_run (.bool true) rfl (fun w' => by go_simp)) T22 ?_
          go_simp
          refine wpAnyP_one' (i := 30) (by kernel_rfl) rfl ?_
          go_wp2_with fail
          refine (live_any _).mono ?_
          rintro x w23 ⟨rfl, hx23⟩
          have hb23 := hb22.trans (hx23.mono hb22.size)
          have T23 := And.intro (box_below T22.1 hx23) (And.intro (box_below T22.2.1 hx23) (box_below T22.2.2 hx23))
          have wr23 := wr22.ext hx23
          have vy23 := vy22.ext hx23
          have va23 := va22.ext hx23
          go_wp2_with fail
          refine nextP T23 ?_
          go_simp
          refine wpAnyP_take (i := 31) rfl (by kernel_rfl) (by kernel_rfl) (by kernel_rfl) (by kernel_rfl) (fun _ _ _ h => h) (yieldsIf_run (.bool true) rfl (fun w' => by go_simp)) T23 ?_
          go_simp
          refine wpAnyP_one' (i := 32) (by kernel_rfl) rfl ?_
          go_wp2_with fail
          refine nextP T23 (wpAnyP_done (by kernel_rfl) ?_)
          go_simp
          try go_wp2_with fail
          go_ret
          exact ⟨rfl, hb23⟩
        · have hdum := True.intro
          refine wpAnyP_take (i := 0) rfl (by kernel_rfl) (by kernel_rfl) (by kernel_rfl) (by kernel_rfl) (fun _ _ _ h => h) (yieldsIf_run (.pointer (some ⟨w.heap.size + 1, 2, none⟩)) rfl (fun w' => by go_simp)) T4 ?_
          go_simp
          refine wpAnyP_take (i := 1) rfl (by kernel_rfl) (by kernel_rfl) (by kernel_rfl) (by kernel_rfl) (fun _ _ _ h => h) (yieldsIf_load rfl rfl Try.underlying4 rfl rfl (fun w' hT => box_at hT.1 HP2'.out)) T4 ?_
          go_simp
          refine wpAnyP_take (i := 2) rfl (by kernel_rfl) (by kernel_rfl) (by kernel_rfl) (by kernel_rfl) (fun _ _ _ h => h) (yieldsIf_run (.bool true) rfl (fun w' => by go_simp)) T4 ?_
          go_simp
          refine wpAnyP_take (i := 3) (v := undef) rfl (by kernel_rfl) (by kernel_rfl) (by kernel_rfl) (by kernel_rfl) (fun _ _ _ h => h) (.inr ⟨rfl, rfl⟩) T4 ?_
          go_simp
          refine wpAnyP_take (i := 4) (v := undef) rfl (by kernel_rfl) (by kernel_rfl) (by kernel_rfl) (by kernel_rfl) (fun _ _ _ h => h) (.inr ⟨rfl, rfl⟩) T4 ?_
          go_simp
          refine wpAnyP_take (i := 5) (v := undef) rfl (by kernel_rfl) (by kernel_rfl) (by kernel_rfl) (by kernel_rfl) (fun _ _ _ h => h) (.inr ⟨rfl, rfl⟩) T4 ?_
          go_simp
          refine wpAnyP_take (i := 6) (v := undef) rfl (by kernel_rfl) (by kernel_rfl) (by kernel_rfl) (by kernel_rfl) (fun _ _ _ h => h) (.inr ⟨rfl, rfl⟩) T4 ?_
          go_simp
          refine wpAnyP_take (i := 7) (v := undef) rfl (by kernel_rfl) (by kernel_rfl) (by kernel_rfl) (by kernel_rfl) (fun _ _ _ h => h) (.inr ⟨rfl, rfl⟩) T4 ?_
          go_simp
          refine wpAnyP_take (i := 8) (v := undef) rfl (by kernel_rfl) (by kernel_rfl) (by kernel_rfl) (by kernel_rfl) (fun _ _ _ h => h) (.inr ⟨rfl, rfl⟩) T4 ?_
          go_simp
          refine wpAnyP_take (i := 9) (v := undef) rfl (by kernel_rfl) (by kernel_rfl) (by kernel_rfl) (by kernel_rfl) (fun _ _ _ h => h) (.inr ⟨rfl, rfl⟩) T4 ?_
          go_simp
          refine wpAnyP_take (i := 10) (v := undef) rfl (by kernel_rfl) (by kernel_rfl) (by kernel_rfl) (by kernel_rfl) (fun _ _ _ h => h) (.inr ⟨rfl, rfl⟩) T4 ?_
          go_simp
          refine wpAnyP_take (i := 11) (v := undef) rfl (by kernel_rfl) (by kernel_rfl) (by kernel_rfl) (by kernel_rfl) (fun _ _ _ h => h) (.inr ⟨rfl, rfl⟩) T4 ?_
          go_simp
          refine wpAnyP_take (i := 12) (v := undef) rfl (by kernel_rfl) (by kernel_rfl) (by kernel_rfl) (by kernel_rfl) (fun _ _ _ h => h) (.inr ⟨rfl, rfl⟩) T4 ?_
          go_simp
          refine wpAnyP_take (i := 13) (v := undef) rfl (by kernel_rfl) (by kernel_rfl) (by kernel_rfl) (by kernel_rfl) (fun _ _ _ h => h) (.inr ⟨rfl, rfl⟩) T4 ?_
          go_simp
          refine wpAnyP_take (i := 14) (v := undef) rfl (by kernel_rfl) (by kernel_rfl) (by kernel_rfl) (by kernel_rfl) (fun _ _ _ h => h) (.inr ⟨rfl, rfl⟩) T4 ?_
          go_simp
          refine wpAnyP_take (i := 15) (v := undef) rfl (by kernel_rfl) (by kernel_rfl) (by kernel_rfl) (by kernel_rfl) (fun _ _ _ h => h) (.inr ⟨rfl, rfl⟩) T4 ?_
          go_simp
          refine wpAnyP_take (i := 16) rfl (by kernel_rfl) (by kernel_rfl) (by kernel_rfl) (by kernel_rfl) (fun _ _ _ h => h) (yieldsIf_run (.bool true) rfl (fun w' => by go_simp)) T4 ?_
          go_simp
          refine wpAnyP_take (i := 17) rfl (by kernel_rfl) (by kernel_rfl) (by kernel_rfl) (by kernel_rfl) (fun _ _ _ h => h) (yieldsIf_run (.bool true) rfl (fun w' => by go_simp)) T4 ?_
          go_simp
          refine wpAnyP_take (i := 18) rfl (by kernel_rfl) (by kernel_rfl) (by kernel_rfl) (by kernel_rfl) (fun _ _ _ h => h) (yieldsIf_run (.int .i64 en) rfl (fun w' => by go_simp)) T4 ?_
          go_simp
          refine wpAnyP_take (i := 19) rfl (by kernel_rfl) (by kernel_rfl) (by kernel_rfl) (by kernel_rfl) (fun _ _ _ h => h) (yieldsIf_run (.bool true) rfl (fun w' => by go_simp)) T4 ?_
          go_simp
          refine wpAnyP_take (i := 20) rfl (by kernel_rfl) (by kernel_rfl) (by kernel_rfl) (by kernel_rfl) (fun _ _ _ h => h) (yieldsIf_run (.bool true) rfl (fun w' => by go_simp)) T4 ?_
          go_simp
          refine wpAnyP_take (i := 21) (v := undef) rfl (by kernel_rfl) (by kernel_rfl) (by kernel_rfl) (by kernel_rfl) (fun _ _ _ h => h) (.inr ⟨rfl, rfl⟩) T4 ?_
          go_simp
          refine wpAnyP_take (i := 22) (v := undef) rfl (by kernel_rfl) (by kernel_rfl) (by kernel_rfl) (by kernel_rfl) (fun _ _ _ h => h) (.inr ⟨rfl, rfl⟩) T4 ?_
          go_simp
          refine wpAnyP_take (i := 23) (v := undef) rfl (by kernel_rfl) (by kernel_rfl) (by kernel_rfl) (by kernel_rfl) (fun _ _ _ h => h) (.inr ⟨rfl, rfl⟩) T4 ?_
          go_simp
          refine wpAnyP_take (i := 24) (v := undef) rfl (by kernel_rfl) (by kernel_rfl) (by kernel_rfl) (by kernel_rfl) (fun _ _ _ h => h) (.inr ⟨rfl, rfl⟩) T4 ?_
          go_simp
          refine wpAnyP_take (i := 25) (v := undef) rfl (by kernel_rfl) (by kernel_rfl) (by kernel_rfl) (by kernel_rfl) (fun _ _ _ h => h) (.inr ⟨rfl, rfl⟩) T4 ?_
          go_simp
          refine wpAnyP_take (i := 26) (v := undef) rfl (by kernel_rfl) (by kernel_rfl) (by kernel_rfl) (by kernel_rfl) (fun _ _ _ h => h) (.inr ⟨rfl, rfl⟩) T4 ?_
          go_simp
          refine wpAnyP_take (i := 27) rfl (by kernel_rfl) (by kernel_rfl) (by kernel_rfl) (by kernel_rfl) (fun _ _ _ h => h) (yieldsIf_run (.bool true) rfl (fun w' => by go_simp)) T4 ?_
          go_simp
          refine wpAnyP_take (i := 28) rfl (by kernel_rfl) (by kernel_rfl) (by kernel_rfl) (by kernel_rfl) (fun _ _ _ h => h) (yieldsIf_run (.bool true) rfl (fun w' => by go_simp)) T4 ?_
          go_simp
          refine wpAnyP_take (i := 29) rfl (by kernel_rfl) (by kernel_rfl) (by kernel_rfl) (by kernel_rfl) (fun _ _ _ h => h) (yieldsIf_run (.bool true) rfl (fun w' => by go_simp)) T4 ?_
          go_simp
          refine wpAnyP_one' (i := 30) (by kernel_rfl) rfl ?_
          go_wp2_with fail
          refine (live_any _).mono ?_
          rintro x w24 ⟨rfl, hx24⟩
          have hb24 := hb04.trans (hx24.mono hb04.size)
          have T24 := And.intro (box_below T4.1 hx24) (And.intro (box_below T4.2.1 hx24) (box_below T4.2.2 hx24))
          have wr24 := hw4.ext hx24
          have vy24 := hvy.ext hx24
          have va24 := hva.ext hx24
          go_wp2_with fail
          refine nextP T24 ?_
          go_simp
          refine wpAnyP_take (i := 31) rfl (by kernel_rfl) (by kernel_rfl) (by kernel_rfl) (by kernel_rfl) (fun _ _ _ h => h) (yieldsIf_run (.bool true) rfl (fun w' => by go_simp)) T24 ?_
          go_simp
          refine wpAnyP_one' (i := 32) (by kernel_rfl) rfl ?_
          go_wp2_with fail
          refine nextP T24 (wpAnyP_done (by kernel_rfl) ?_)
          go_simp
          try go_wp2_with fail
          go_ret
          exact ⟨rfl, hb24⟩
    · go_wp2_with fail
      refine (live_any _).mono ?_
      rintro x w2 ⟨rfl, hb2⟩
      go_wp2_with fail
      go_ret
      exact ⟨rfl, hb01.trans (hb2.mono hb01.size)⟩
end Go.Proofs.Ytbehflldghhopaa

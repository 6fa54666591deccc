/-
  The reference's Apply.
-/
import Derived.Test.YtbehflldghhopaaApply
set_option linter.unusedVariables false
set_option linter.unusedSimpArgs false
namespace Go.Proofs.Ytbehflldghhopaa
open Go.RowKit
attribute [local go_sem] Addr.add_mid

set_option maxRecDepth 100000 in
set_option maxHeartbeats 4000000 in
theorem RApply_any {S : Nat → Prop} {cs cp : List Value} {V : Vw} {p : Pt} {w : World} (hv : VwR w S cs V) (hp : PtR w S cp p) (hl : V.events.length + p.timeline.length ≤ 1048576 ∧ V.state.length + p.state.length ≤ 1048576 ∧ V.gaps.length ≤ 1048576 ∧ p.gone.length ≤ 1048576) (hf : V.fit) (hpf : p.fit) :
    Calls Try.prog 23 #[.agg cs.toArray, .agg cp.toArray] w (GivesV S (applyV V p) w) := by
  obtain ⟨A, c, A2, c2, A3, c3, rfl, h1, h2, h3⟩ := hv.form
  obtain ⟨vt, vs, vg, vr, vy, vn, hcp, q1, q2, q3, q4⟩ := hp
  obtain ⟨hl1, hl2, hl3, hl4⟩ := hl
  obtain ⟨At, ct, _, rfl, _⟩ := q1.form
  obtain ⟨As, cs, css2, rfl, _, _, _, rs2, ts2⟩ := q2.form
  obtain ⟨Ag, cg, rfl, _, _, _, rg, _⟩ := q3.form
  have p0 : cp[0]? = some (.string p.room) := by rw [hcp]; rfl
  have p1 : cp[1]? = some (.int .i64 p.member) := by rw [hcp]; rfl
  have p2 : cp[2]? = some (.bool p.anew) := by rw [hcp]; rfl
  have p3 : cp[3]? = some (.slice At p.timeline.length ct) := by rw [hcp]; rfl
  have p4 : cp[4]? = some (.bool p.limited) := by rw [hcp]; rfl
  have p5 : cp[5]? = some (.int .i64 p.back) := by rw [hcp]; rfl
  have p6 : cp[6]? = some (.slice As p.state.length cs) := by rw [hcp]; rfl
  have p7 : cp[7]? = some (.slice Ag p.gone.length cg) := by rw [hcp]; rfl
  clear hcp hv
  go_enter Try.func23, Try.ntmps23
  have B1 : ((((w.alloc (.cells (vwCells V (.slice A V.events.length c) (.slice A2 V.gaps.length c2) (.slice A3 V.state.length c3)).toArray 25)).alloc (.cells cp.toArray 39)).alloc (.cells vwZero 25))).heap[w.heap.size + 1]? = some (.cells cp.toArray 39 (0, 0)) := by
    have := box_below (heap_alloc_new (w.alloc (.cells (vwCells V (.slice A V.events.length c) (.slice A2 V.gaps.length c2) (.slice A3 V.state.length c3)).toArray 25)) (.cells cp.toArray 39)) (ext_alloc (ext_refl _) (.cells vwZero 25))
    simpa using this
  have B2 : ((((w.alloc (.cells (vwCells V (.slice A V.events.length c) (.slice A2 V.gaps.length c2) (.slice A3 V.state.length c3)).toArray 25)).alloc (.cells cp.toArray 39)).alloc (.cells vwZero 25))).heap[w.heap.size + 2]? = some (.cells vwZero 25 (0, 0)) := by
    have := heap_alloc_new ((w.alloc (.cells (vwCells V (.slice A V.events.length c) (.slice A2 V.gaps.length c2) (.slice A3 V.state.length c3)).toArray 25)).alloc (.cells cp.toArray 39)) (.cells vwZero 25)
    simpa using this
  have F0 : Fr w (((w.alloc (.cells (vwCells V (.slice A V.events.length c) (.slice A2 V.gaps.length c2) (.slice A3 V.state.length c3)).toArray 25)).alloc (.cells cp.toArray 39)).alloc (.cells vwZero 25)) S 3 [.cells cp.toArray 39 (0, 0), .cells vwZero 25 (0, 0)] V (.slice A V.events.length c) (.slice A2 V.gaps.length c2) (.slice A3 V.state.length c3) :=
    ⟨rfl, by simp, box_below (heap_alloc_new w _) (ext_alloc (ext_alloc (ext_refl _) _) _), fun i o hi => by
      match i, hi with
      | 0, hi => rw [← Option.some.inj hi]; exact B1
      | 1, hi => rw [← Option.some.inj hi]; exact B2, ext_alloc (ext_alloc (ext_alloc (ext_refl w) _) _) _, .inl h1, .inl h2, .inl h3⟩
  clear B1 B2
  obtain ⟨ob, hob⟩ : ∃ ob : List Obj, ob = [.cells cp.toArray 39 (0, 0), .cells vwZero 25 (0, 0)] := ⟨_, rfl⟩
  rw [← hob] at F0
  have ob0 : ob[0]? = some (.cells cp.toArray 39 (0, 0)) := by rw [hob]; rfl
  have ob1 : ob[1]? = some (.cells vwZero 25 (0, 0)) := by rw [hob]; rfl
  have OB0 := hide ob0; have OB1 := hide ob1
  clear hob ob0 ob1
  go_upto_region 1 with (refine wpList_zeroS rfl rfl strcV ?_)
  go_simp
  generalize hW : ((w.alloc (.cells (vwCells V (.slice A V.events.length c) (.slice A2 V.gaps.length c2) (.slice A3 V.state.length c3)).toArray 25)).alloc (.cells cp.toArray 39)).alloc (.cells vwZero 25) = W at *
  clear hW
  have r0 := F0.c0
  have r1 : W.cell? ⟨w.heap.size + 1, 0, none⟩ = some (.string p.room) := F0.oc 0 OB0.out p0
  have PC := fun (wx : World) (V1 : Vw) (ve vg vs : Value) (F : Fr w wx S 3 ob V1 ve vg vs) (j : Nat) (u : Value) (hu : cp[j]? = some u) => (F.oc 0 OB0.out hu : wx.cell? ⟨w.heap.size + 1, j, none⟩ = some u)
  have PCH := hide PC
  clear PC
  have H0 := hide p0; have H1 := hide p1; have H2 := hide p2; have H3 := hide p3; have H4 := hide p4; have H5 := hide p5; have H6 := hide p6; have H7 := hide p7
  clear p0 p1 p2 p3 p4 p5 p6 p7
  by_cases hroom : V.room.toList ≠ [] ∧ V.room.toList ≠ p.room.toList
  · have t1 : V.room.toList.isEmpty = false := by simpa using hroom.1
    have t2 : (V.room.toList == p.room.toList) = false := by simpa using hroom.2
    have HR := hide hroom
    clear hroom
    go_wp2_with (first
      | refine fr_loadS F0 rfl (.tmp 2) rfl rfl rfl ?_
      | refine wpList_storeB rfl (.tmp 4) (.tmp 18) rfl rfl strcV (w.heap.size + 2) 0 rfl _ rfl rfl F0.one vwZero.toList 25 (F0.obs 1 _ OB1.out) (by decide) ?_)
    intro w3 hB3 g2 hz3
    rw [patch_all _ _ (by rfl)] at hB3
    have HEND : Hid (GivesV S (applyV V p) w (.returned (.agg (vwCells V (.slice A V.events.length c) (.slice A2 V.gaps.length c2) (.slice A3 V.state.length c3)).toArray)) w3) := by
      have hap : applyV V p = V := by unfold applyV; rw [if_pos HR.out]
      rw [hap]
      exact F0.gives g2 (by omega) (by omega)
    go_wp2_with fail
    exact bodyPost_cell strcV rfl (w.heap.size + 2) rfl rfl hB3 rfl HEND.out
  · have HAP : Hid (applyV V p = goneV (laidV (roomV V p) p p.state.length) p) := by unfold applyV; rw [if_neg hroom]; rfl
    have ht : V.room.toList.isEmpty = true ∨ (V.room.toList.isEmpty = false ∧ (V.room.toList == p.room.toList) = true) := by
      cases h1 : V.room.toList.isEmpty
      · refine .inr ⟨rfl, ?_⟩
        have := Classical.not_and_iff_not_or_not.1 hroom
        rcases this with h | h
        · simp only [ne_eq, Classical.not_not] at h; rw [h] at h1; cases h1
        · simpa using h
      · exact .inl rfl
    clear hroom
    go_cut [17] (fun t wx => t = .bool false ∧ wx = W)
    case first =>
      rcases ht with ht | ⟨ht, ht2⟩
      all_goals
        go_wp2_with fail
        go_meet
        exact ⟨rfl, rfl⟩
    case rest =>
      obtain ⟨rfl, rfl⟩ := hcut
      clear r0 r1 ht
      go_upto_region 3 with fail
      have hbx : Below wc.heap.size wc wc.drew := ext_drew (ext_refl wc)
      have F1 := F0.ext hbx
      obtain ⟨wd, hWD⟩ : ∃ wd, wd = wc.drew := ⟨_, rfl⟩
      rw [← hWD] at F1
      refine wp_region_phase (fun w' => w'.heap[w.heap.size + 1]? = some (.cells cp.toArray 39 (0, 0))) [] (by kernel_rfl) ?_
      rw [show { wc with drawn := wc.drawn + 1 } = wd from hWD.symm]
      clear hWD hbx F0
      have B1 : wd.heap[w.heap.size + 1]? = some (.cells cp.toArray 39 (0, 0)) := F1.obs 0 _ OB0.out
      refine wpAnyP_take (i := 0) rfl (by kernel_rfl) (by kernel_rfl) (by kernel_rfl) (by kernel_rfl) (fun _ _ _ h => h) (yieldsIf_run (.pointer (some ⟨w.heap.size + 1, 0, none⟩)) rfl (fun w' => by go_simp)) B1 ?_
      refine wpAnyP_take (i := 1) rfl (by kernel_rfl) (by kernel_rfl) (by kernel_rfl) (by kernel_rfl) (fun _ _ _ h => h) (yieldsIf_load rfl rfl Try.underlying9 rfl rfl (fun w' hT => box_at hT H0.out)) B1 ?_
      refine wpAnyP_take (i := 2) rfl (by kernel_rfl) (by kernel_rfl) (by kernel_rfl) (by kernel_rfl) (fun _ _ _ h => h) (yieldsIf_run (.pointer (some ⟨w.heap.size + 1, 1, none⟩)) rfl (fun w' => by go_simp)) B1 ?_
      refine wpAnyP_take (i := 3) rfl (by kernel_rfl) (by kernel_rfl) (by kernel_rfl) (by kernel_rfl) (fun _ _ _ h => h) (yieldsIf_load rfl rfl Try.underlying3 rfl rfl (fun w' hT => box_at hT H1.out)) B1 ?_
      refine wpAnyP_take (i := 4) rfl (by kernel_rfl) (by kernel_rfl) (by kernel_rfl) (by kernel_rfl) (fun _ _ _ h => h) (yieldsIf_run (.pointer (some ⟨w.heap.size, 0, none⟩)) rfl (fun w' => by go_simp)) B1 ?_
      go_simp
      clear B1
      refine wpAnyP_one' (i := 5) (by kernel_rfl) rfl ?_
      refine fr_store F1 rfl (.tmp 23) (.tmp 20) rfl rfl (by kernel_rfl) 0 (by decide) rfl (.string p.room) rfl rfl { V with room := p.room } _ _ _ rfl F1.ev F1.ga F1.st ?_
      intro w2 F2 _
      refine nextP (F2.obs 0 _ OB0.out) ?_
      clear F1
      go_simp
      refine wpAnyP_one' (i := 6) (by kernel_rfl) rfl ?_
      go_wp2_with fail
      refine nextP (F2.obs 0 _ OB0.out) ?_
      go_simp
      refine wpAnyP_one' (i := 7) (by kernel_rfl) rfl ?_
      refine fr_store F2 rfl (.tmp 24) (.tmp 22) rfl rfl (by kernel_rfl) 1 (by decide) rfl (.int .i64 p.member) rfl rfl { V with room := p.room, member := p.member } _ _ _ rfl F2.ev F2.ga F2.st ?_
      intro w3 F3 _
      refine nextP (F3.obs 0 _ OB0.out) ?_
      clear F2
      go_simp
      refine wpAnyP_done (by kernel_rfl) ?_
      go_simp
      have c2 : w3.cell? ⟨w.heap.size + 1, 2, none⟩ = some (.bool p.anew) := PCH.out _ _ _ _ _ F3 _ _ H2.out
      obtain ⟨an, han⟩ : ∃ b, b = p.anew := ⟨_, rfl⟩
      rw [← han] at c2
      have HAN := hide han
      clear han
      go_upto_if 26 with fail
      go_cut [] (fun wx => Old w wx S 3 ob (roomV V p))
      case first =>
        cases an
        rotate_left
        · have ha : p.anew = true := HAN.out.symm
          have HR : Hid (roomV V p = { room := p.room, member := p.member, events := [], gaps := [], state := [] }) := by unfold roomV; rw [if_pos ha]; rfl
          clear ha
          go_wp2_with (refine fr_store F3 rfl _ _ rfl rfl sizeSl 2 (by decide) rfl (.slice none 0 0) rfl rfl { room := p.room, member := p.member, events := [], gaps := V.gaps, state := V.state } _ _ _ rfl (.inl (EvsR.nil _ _)) F3.ga F3.st ?_)
          intro w4 F4 _
          go_wp2_with (refine fr_store F4 rfl _ _ rfl rfl sizeSg 3 (by decide) rfl (.slice none 0 0) rfl rfl { room := p.room, member := p.member, events := [], gaps := [], state := V.state } _ _ _ rfl (.inl (EvsR.nil _ _)) (.inl (Slc.nil _ _ _)) F4.st ?_)
          intro w5 F5 _
          go_wp2_with (refine fr_store F5 rfl _ _ rfl rfl sizeSl 4 (by decide) rfl (.slice none 0 0) rfl rfl { room := p.room, member := p.member, events := [], gaps := [], state := [] } _ _ _ rfl (.inl (EvsR.nil _ _)) (.inl (Slc.nil _ _ _)) (.inl (EvsR.nil _ _)) ?_)
          intro w6 F6 _
          go_wp2_with fail
          go_meet
          rw [HR.out]
          exact ⟨_, _, _, F6, EvsR.nil _ _, Slc.nil _ _ _, EvsR.nil _ _⟩
        · have ha : p.anew = false := HAN.out.symm
          have HR : Hid (roomV V p = { V with room := p.room, member := p.member }) := by unfold roomV; rw [if_neg (by rw [ha]; simp)]; rfl
          clear ha
          go_wp2_with fail
          go_meet
          rw [HR.out]
          exact ⟨_, _, _, F3, h1, h2, h3⟩
      case rest =>
        clear F3 c2 h1 h2 h3
        obtain ⟨ve, vg, vs, F3, h1, h2, h3⟩ := hcut
        have hle := roomV_events_le V p
        have hls := roomV_state_le V p
        have hlg := roomV_gaps_le V p
        have HF := hide (laidV_fit (roomV_fit (p := p) hf) hpf p.state.length)
        clear hf hpf
        obtain ⟨V1, hV1⟩ : ∃ V1, V1 = roomV V p := ⟨_, rfl⟩
        rw [← hV1] at F3 h1 h2 h3 hle hls hlg HAP HF
        clear hV1
        obtain ⟨A, c, _, rfl, _⟩ := h1.form
        obtain ⟨A2, c2, rfl, hc2, hm2, ha2, hr2, hlk⟩ := h2.form
        obtain ⟨A3, c3, _, rfl, _⟩ := h3.form
        have c3' : wc.cell? ⟨w.heap.size + 1, 3, none⟩ = some (.slice At p.timeline.length ct) := PCH.out _ _ _ _ _ F3 _ _ H3.out
        go_wp2_with (refine fr_loadS F3 rfl (.tmp 2) rfl rfl rfl ?_)
        have hca := RFresh_any F3.view ((q1.weak (S' := S4 S w.heap.size 3) fun b hb hlt => .inl ⟨hb, hlt⟩).ext F3.below) (by omega) (by omega)
        have hfl := freshL_length (ids V1.events) p.timeline
        obtain ⟨fr, hfr⟩ : ∃ l, l = freshL (ids V1.events) p.timeline := ⟨_, rfl⟩
        rw [← hfr] at hca
        rw [← hfr] at hfl
        have HFR := hide hfr
        clear hfr
        refine hca.mono ?_
        rintro x w4 ⟨v4, rfl, ho4, hb4⟩
        have F4 := F3.ext hb4
        have hz4 := F3.size
        have hm4 := hb4.size
        obtain ⟨A4, c4, _, rfl, _⟩ := (OwnE.evs ho4).form
        have E4 : FldE w w4 S 3 (.slice A4 fr.length c4) fr := FldE.made ho4 hz4 fun x hx _ => hx.1
        have r3 := F4.c3
        have hz4' := F4.size
        clear c3' F3 hb4 ho4 hca
        have hx6 : Below w4.heap.size w4 (w4.alloc (.cells #[] 55)) := ext_alloc (ext_refl _) _
        have own6 : (w4.alloc (.cells #[] 55)).ownsRow w4.heap.size 55 2 (.slice (some ⟨w4.heap.size, 0, none⟩) 0 0) 0 [] := own_empty w4 _ _
        have r36 : (w4.alloc (.cells #[] 55)).cell? ⟨w.heap.size, 3, none⟩ = some (.slice A2 V1.gaps.length c2) := (F4.ext hx6).c3
        have rgs := hr2.ext (F4.ext hx6).below
        go_wp2_with (first
          | refine wpList_build0 (te := 0) rfl rfl Try.underlying23 strcG (by decide) (by decide) ?_
          | (at_builtin; go_must (refine wpList_append_row rfl (.tmp 34) (.tmp 36) rfl elemG w4.heap.size _ 0 [] rfl own6 _ V1.gaps.length c2 A2 (kcs V1.gaps) (kcs_length _) rfl rgs ha2 (kcs_one _) (by unfold maxLen; omega) (by omega) hx6.size ?_)))
        intro v6 w6 ho6 hg6
        have hb6 : Below w4.heap.size w4 w6 := below_of_own hx6 own6 hg6 hx6.size (Nat.le_refl _)
        have F6 := F4.ext hb6
        obtain ⟨A6, c6, rfl, _⟩ := own_form ho6
        clear hx6 own6 r36 rgs hg6 r3
        go_upto_region 8 with fail
        obtain ⟨tb, htb⟩ : ∃ tb, tb = gapB V1 p := ⟨_, rfl⟩
        have HTB := hide htb
        have c4' : w6.cell? ⟨w.heap.size + 1, 4, none⟩ = some (.bool p.limited) := PCH.out _ _ _ _ _ F6 _ _ H4.out
        go_cut [51] (fun t wx => t = .bool tb ∧ Below w6.heap.size w6 wx)
        case first =>
          have c3'' : w6.cell? ⟨w.heap.size + 1, 3, none⟩ = some (.slice At p.timeline.length ct) := PCH.out _ _ _ _ _ F6 _ _ H3.out
          have hme := RMet_any F6.view ((q1.weak (S' := S4 S w.heap.size 3) fun b hb hlt => .inl ⟨hb, hlt⟩).ext F6.below) (by omega) (by omega)
          obtain ⟨mb, hmb⟩ : ∃ b, b = metL (ids V1.events) p.timeline := ⟨_, rfl⟩
          obtain ⟨lb, hlb⟩ : ∃ b, b = p.limited := ⟨_, rfl⟩
          unfold gapB at htb
          rw [← hlb, ← HFR.out, ← hmb] at htb
          rw [← hlb] at c4'
          rw [← hmb] at hme
          clear hlb hmb
          have HME := hide hme
          clear hme
          cases lb
          · have : tb = false := by rw [htb]; rfl
            subst this
            clear htb
            go_wp2_with fail
            go_meet
            exact ⟨rfl, ext_refl _⟩
          · by_cases hn : 0 < fr.length
            · have hd : decide (0 < fr.length) = true := decide_eq_true hn
              rw [hd] at htb
              go_wp2_with (refine fr_loadS F6 rfl (.tmp 2) rfl rfl rfl ?_)
              refine HME.out.mono ?_
              rintro x w7 ⟨rfl, hb7⟩
              cases mb
              · have : tb = true := by rw [htb]; rfl
                subst this
                clear htb
                go_wp2_with fail
                go_meet
                exact ⟨rfl, hb7⟩
              · have : tb = false := by rw [htb]; rfl
                subst this
                clear htb
                go_wp2_with fail
                go_meet
                exact ⟨rfl, hb7⟩
            · have hd : decide (0 < fr.length) = false := decide_eq_false hn
              rw [hd] at htb
              have : tb = false := by rw [htb]; rfl
              subst this
              clear htb
              go_wp2_with fail
              go_meet
              exact ⟨rfl, ext_refl _⟩
        case rest =>
          obtain ⟨rfl, hb7⟩ := hcut
          clear c4' htb
          have ho7 := own_below ho6 hb7
          have hb47 := hb6.trans (hb7.mono hb6.size)
          have hsz7 : w4.heap.size ≤ wc.heap.size := hb47.size
          have F7 := F4.ext hb47
          clear ho6 hb6 hb7 F6
          have r2 := F7.c2
          have p5 : wc.cell? ⟨w.heap.size + 1, 5, none⟩ = some (.int .i64 p.back) := PCH.out _ _ _ _ _ F7 _ _ H5.out
          go_upto_if 51 with fail
          go_cut [6] (fun v wx => FldG w wx 3 v (gapG V1 p) ∧ Below w4.heap.size w4 wx)
          case first =>
            cases tb
            · have HG : Hid (gapG V1 p = V1.gaps) := by unfold gapG; rw [if_neg (by rw [← HTB.out]; simp)]; rfl
              go_wp2_with fail
              go_meet
              rw [HG.out]
              exact ⟨.inr (own_more ho7 hz4'), hb47⟩
            · have HG : Hid (gapG V1 p = V1.gaps ++ [((V1.events.length : Int), p.back)]) := by unfold gapG; rw [if_pos (by rw [← HTB.out])]; rfl
              go_wp2_with (first
                | refine wpList_buildS (te := 0) rfl (.tmp 58) rfl Try.underlying23 strcG (by decide) (by decide) #[.int .i64 (V1.events.length : Int), .int .i64 p.back] rfl rfl ?_
                | (at_builtin; go_must (refine wpList_append_new rfl (.tmp 52) (.tmp 59) rfl elemG w4.heap.size _ V1.gaps.length (kcs V1.gaps) rfl ho7 1 _ rfl rfl (by simp [Value.oneCell']) (by decide) (by unfold maxLen; omega) (by omega) hsz7 ?_)))
              intro v5 w5 ho5 hg5
              have hb5 : Below w4.heap.size w4 w5 := below_of_own hb47 ho7 hg5 hsz7 (Nat.le_refl _)
              have HO5 := hide ho5
              clear ho5 hg5
              go_wp2_with fail
              go_meet
              rw [HG.out]
              refine ⟨.inr ?_, hb5⟩
              have hk : kcs (V1.gaps ++ [((V1.events.length : Int), p.back)]) = kcs V1.gaps ++ [.int .i64 (V1.events.length : Int), .int .i64 p.back] := by simp [kcs]
              rw [hk, List.length_append]
              exact own_more HO5.out hz4'
          case rest =>
            clear r2 p5 F7 ho7 hb47 hsz7
            obtain ⟨hg7, hb7⟩ := hcut
            have F7 := F4.ext hb7
            go_wp2_with (refine fr_store F7 rfl _ _ rfl rfl sizeSg 3 (by decide) rfl u6 rfl hg7.one { V1 with gaps := gapG V1 p } _ _ _ rfl F7.ev hg7 F7.st ?_)
            intro w8 F8 g8
            have E8 := (E4.ext hb7).store g8 (Nat.le_refl _) (by omega)
            clear g8 E4 F7
            have hz8 := F8.size
            have hx9 : Below w8.heap.size w8 (w8.alloc (.cells #[] 68)) := ext_alloc (ext_refl _) _
            have own9 : (w8.alloc (.cells #[] 68)).ownsRow w8.heap.size 68 29 (.slice (some ⟨w8.heap.size, 0, none⟩) 0 0) 0 [] := own_empty w8 _ _
            have r9 := (F8.ext hx9).c2
            obtain ⟨cse, hse, hte⟩ := (F8.ev.get F8.below)
            obtain ⟨Ax, cx, hxe, _, _, hax, hrx, hlx⟩ := hse.form
            injection hxe with e1 e2 e3
            subst e1 e3
            obtain ⟨csf, hsf, htf⟩ := (E8.get F8.below)
            obtain ⟨Ay, cy, hye, _, _, hay, hry, hly⟩ := hsf.form
            injection hye with e4 e5 e6
            subst e4 e6
            have hox := told_one hte
            have hoy := told_one htf
            have HTE := hide hte; have HTF := hide htf
            have hve : ({ V1 with gaps := gapG V1 p } : Vw).events.length = V1.events.length := rfl
            have hrx9 := hrx.ext hx9
            clear hte hse e2 e5 htf hsf hrx
            go_wp2_with (first
              | refine wpList_build0 (te := 0) rfl rfl Try.underlying22 strcE (by decide) (by decide) ?_
              | (at_builtin; go_must (refine wpList_append_row rfl (.tmp 63) (.tmp 65) rfl elemE w8.heap.size _ 0 [] rfl own9 _ V1.events.length c A cse.flatten hlx rfl hrx9 hax hox (by unfold maxLen; omega) (by omega) hx9.size ?_)))
            intro v9 w9 ho9 hg9
            have hb9 : Below w8.heap.size w8 w9 := below_of_own hx9 own9 hg9 hx9.size (Nat.le_refl _)
            have hry9 := hry.ext hb9
            clear hrx9 own9 hg9 r9 hry
            go_wp2_with (at_builtin; go_must (refine wpList_append_row rfl (.tmp 66) (.tmp 67) rfl elemE w8.heap.size _ V1.events.length cse.flatten rfl ho9 _ fr.length c4 A4 csf.flatten hly rfl hry9 hay hoy (by unfold maxLen; omega) (by omega) hb9.size ?_))
            intro v10 w9' ho10 hg10
            have hb10 : Below w8.heap.size w8 w9' := below_of_own hb9 ho9 hg10 hb9.size (Nat.le_refl _)
            have F9 := F8.ext hb10
            have E9 : FldE w w9' S 3 v10 (V1.events ++ fr) := by
              refine FldE.made (B := w8.heap.size) (S' := S4 S w.heap.size 3) ⟨cse ++ csf, ?_, (HTE.out.append HTF.out).imp fun _ _ h => h.ext hb10⟩ hz8 fun x hx _ => hx
              rw [List.length_append, List.flatten_append]
              exact ho10
            clear ho9 hb9 ho10 hg10 hb10 HTE HTF E8 F8 hry9
            go_wp2_with (refine fr_store F9 rfl _ _ rfl rfl sizeSl 2 (by decide) rfl v10 rfl E9.one { V1 with gaps := gapG V1 p, events := V1.events ++ fr } _ _ _ rfl E9 F9.ga F9.st ?_)
            intro w10 F10 _
            have hV2 : { V1 with gaps := gapG V1 p, events := V1.events ++ fr } = laidV V1 p 0 := by rw [HFR.out]; rfl
            rw [hV2] at F10
            clear hV2 F9 E9
            go_wp2_with fail
            go_loopw [7] (fun i wr => ∃ k : Nat, k ≤ p.state.length ∧ i = .int .i64 (k : Int) ∧ Lies w wr S 3 ob (laidV V1 p k)) (fun i _ => p.state.length - (intOf i).toNat)
            case atStart => exact ⟨0, Nat.zero_le _, rfl, _, _, _, F10⟩
            case round =>
              clear F10
              obtain ⟨k, hk, rfl, ve, vg, vs, F⟩ := hrel
              have hsl := foldl_setL_length (p.state.take k) V1.state
              rw [List.length_take] at hsl
              by_cases hlt : k < p.state.length
              · have hstep : laidV V1 p (k + 1) = { laidV V1 p k with state := setL (laidV V1 p k).state p.state[k] } := by
                  unfold laidV; rw [foldl_snoc setL V1.state hlt]
                have HSTEP := hide hstep
                clear hstep
                have hsl2 : (laidV V1 p k).state.length ≤ 1048576 := by show (List.foldl setL V1.state (p.state.take k)).length ≤ _; omega
                obtain ⟨V2, hV2⟩ : ∃ V2, V2 = laidV V1 p k := ⟨_, rfl⟩
                rw [← hV2] at F HSTEP hsl2
                clear hV2 hsl
                obtain ⟨A5, c5, css5, rfl, _⟩ := (F.st.get F.below).form
                have i0 : (0 : Int) ≤ (k : Int) := by omega
                have i1 : (k : Int) < (p.state.length : Int) := by omega
                have c6 : wr.cell? ⟨w.heap.size + 1, 6, none⟩ = some (.slice As p.state.length cs) := PCH.out _ _ _ _ _ F _ _ H6.out
                go_upto_region 15 with fail
                clear c6
                have hbx : Below wr.heap.size wr wr.drew := ext_drew (ext_refl wr)
                have F1 := F.ext hbx
                obtain ⟨wd, hWD⟩ : ∃ wd, wd = wr.drew := ⟨_, rfl⟩
                rw [← hWD] at F1
                have HWD := hide hWD
                clear hWD hbx F
                obtain ⟨b, o, ck, hAs, hb, he, _, hc⟩ := evs_at (rs2.ext F1.below) (ts2.imp fun _ _ h => (h.weak (S' := S4 S w.heap.size 3) fun b hb hlt => .inl ⟨hb, hlt⟩).ext F1.below) k hlt
                subst hAs
                have hn1 := he.length
                have r1 : wd.rangeAt b (o + k * 29) ck := hc
                have HE := hide he; have HN := hide hn1
                clear hc he hn1
                refine wp_region_phase (fun w' => w'.heap[w.heap.size]? = some (.cells (vwCells V2 ve vg (.slice A5 V2.state.length c5)).toArray 25 (0, 0)) ∧ w'.heap[w.heap.size + 1]? = some (.cells cp.toArray 39 (0, 0)) ∧ CellsAt w' ⟨b, o + k * 29, none⟩ ck) [9] (by kernel_rfl) ?_
                rw [show { wr with drawn := wr.drawn + 1 } = wd from HWD.out.symm]
                have T1 := And.intro F1.box (And.intro (F1.obs 0 _ OB0.out) (cells_range r1))
                have hz1 := F1.size
                refine wpAnyP_take (i := 0) rfl (by kernel_rfl) (by kernel_rfl) (by kernel_rfl) (by kernel_rfl) (fun _ _ _ h => h) (yieldsIf_run (.pointer (some ⟨w.heap.size, 4, none⟩)) rfl (fun w' => by go_simp)) T1 ?_
                refine wpAnyP_take (i := 1) rfl (by kernel_rfl) (by kernel_rfl) (by kernel_rfl) (by kernel_rfl) (fun _ _ _ h => h) (yieldsIf_load rfl rfl Try.underlying22 rfl rfl (fun w' hT => box_at hT.1 rfl)) T1 ?_
                refine wpAnyP_take (i := 2) rfl (by kernel_rfl) (by kernel_rfl) (by kernel_rfl) (by kernel_rfl) (fun _ _ _ h => h) (yieldsIf_run (.pointer (some ⟨w.heap.size + 1, 6, none⟩)) rfl (fun w' => by go_simp)) T1 ?_
                refine wpAnyP_take (i := 3) rfl (by kernel_rfl) (by kernel_rfl) (by kernel_rfl) (by kernel_rfl) (fun _ _ _ h => h) (yieldsIf_load rfl rfl Try.underlying22 rfl rfl (fun w' hT => box_at hT.2.1 H6.out)) T1 ?_
                go_simp
                refine wpAnyP_take (i := 4) rfl (by kernel_rfl) (by kernel_rfl) (by kernel_rfl) (by kernel_rfl) (fun _ _ _ h => h) (yieldsIf_run (.int .i64 (k : Int)) rfl (fun w' => by go_simp)) T1 ?_
                refine wpAnyP_take (i := 5) rfl (by kernel_rfl) (by kernel_rfl) (by kernel_rfl) (by kernel_rfl) (fun _ _ _ h => h) (yieldsIf_run (.pointer (some ⟨b, o + k * 29, none⟩)) rfl (fun w' => by go_simp)) T1 ?_
                refine wpAnyP_take (i := 6) rfl (by kernel_rfl) (by kernel_rfl) (by kernel_rfl) (by kernel_rfl) (fun _ _ _ h => h) (yieldsIf_loadS rfl (.tmp 82) rfl strcE ⟨b, o + k * 29, none⟩ rfl ck HN.out (fun w' hT => hT.2.2)) T1 ?_
                go_simp
                clear T1
                refine wpAnyP_oneQ (i := 7) (by kernel_rfl) rfl ?_
                go_wp2_with fail
                refine (RSet_any (F1.st.get F1.below) HE.out hsl2).mono ?_
                rintro x w2 ⟨v2, rfl, ho2, hb2⟩
                have F2 := F1.ext hb2
                have E2 : FldE w w2 S 3 v2 (setL V2.state p.state[k]) := FldE.made ho2 hz1 fun x hx _ => hx.elim id fun h => .inr (Nat.le_trans hz1 h)
                have T2 := And.intro F2.box (And.intro (F2.obs 0 _ OB0.out) (cells_range (range_below r1 hb2)))
                clear ho2 hb2 r1 HE F1
                go_wp2_with fail
                refine nextQ T2 ?_
                go_simp
                refine wpAnyP_oneQ (i := 8) (by kernel_rfl) rfl ?_
                go_wp2_with fail
                refine nextQ T2 ?_
                clear T2
                go_simp
                refine wpAnyP_oneQ (i := 9) (by kernel_rfl) rfl ?_
                refine fr_store F2 rfl _ _ rfl rfl sizeSl 4 (by decide) rfl v2 rfl E2.one { V2 with state := setL V2.state p.state[k] } _ _ _ rfl F2.ev F2.ga E2 ?_
                intro w3 F3 _
                rw [← HSTEP.out] at F3
                refine nextQ_bad (by kernel_rfl) ?_
                go_simp
                refine wpAnyP_done (by kernel_rfl) ?_
                go_simp
                go_wp2_with fail
                go_roundw
                case rel => exact ⟨k + 1, by omega, by go_num, _, _, _, F3⟩
                case measure => simp [intOf]; omega
              · obtain rfl : k = p.state.length := by omega
                have hev : (laidV V1 p p.state.length).events.length ≤ 1048576 := by show (V1.events ++ freshL _ _).length ≤ _; rw [← HFR.out, List.length_append]; omega
                have hsv : (laidV V1 p p.state.length).state.length ≤ 1048576 := by show (List.foldl setL V1.state (p.state.take p.state.length)).length ≤ _; omega
                obtain ⟨V2, hV2⟩ : ∃ V2, V2 = laidV V1 p p.state.length := ⟨_, rfl⟩
                rw [← hV2] at F hev hsv HF HAP
                clear hV2 hsl hlt
                have c6 : wr.cell? ⟨w.heap.size + 1, 6, none⟩ = some (.slice As p.state.length cs) := PCH.out _ _ _ _ _ F _ _ H6.out
                go_upto_region 16 with fail
                clear c6
                have hbx : Below wr.heap.size wr wr.drew := ext_drew (ext_refl wr)
                have F1 := F.ext hbx
                obtain ⟨wd, hWD⟩ : ∃ wd, wd = wr.drew := ⟨_, rfl⟩
                rw [← hWD] at F1
                refine wp_region_phase (fun w' => w'.heap[w.heap.size]? = some (.cells (vwCells V2 ve vg vs).toArray 25 (0, 0)) ∧ w'.heap[w.heap.size + 1]? = some (.cells cp.toArray 39 (0, 0))) [11, 13] (by kernel_rfl) ?_
                rw [show { wr with drawn := wr.drawn + 1 } = wd from hWD.symm]
                clear hWD hbx F
                have T1 := And.intro F1.box (F1.obs 0 _ OB0.out)
                have hz1 := F1.size
                obtain ⟨Ae, ce, cse, rfl, _⟩ := (F1.ev.get F1.below).form
                obtain ⟨As', cs', css', rfl, _⟩ := (F1.st.get F1.below).form
                refine wpAnyP_take (i := 0) rfl (by kernel_rfl) (by kernel_rfl) (by kernel_rfl) (by kernel_rfl) (fun _ _ _ h => h) (yieldsIf_run (.pointer (some ⟨w.heap.size, 2, none⟩)) rfl (fun w' => by go_simp)) T1 ?_
                refine wpAnyP_take (i := 1) rfl (by kernel_rfl) (by kernel_rfl) (by kernel_rfl) (by kernel_rfl) (fun _ _ _ h => h) (yieldsIf_load rfl rfl Try.underlying22 rfl rfl (fun w' hT => box_at hT.1 rfl)) T1 ?_
                refine wpAnyP_take (i := 2) rfl (by kernel_rfl) (by kernel_rfl) (by kernel_rfl) (by kernel_rfl) (fun _ _ _ h => h) (yieldsIf_run (.pointer (some ⟨w.heap.size + 1, 7, none⟩)) rfl (fun w' => by go_simp)) T1 ?_
                refine wpAnyP_take (i := 3) rfl (by kernel_rfl) (by kernel_rfl) (by kernel_rfl) (by kernel_rfl) (fun _ _ _ h => h) (yieldsIf_load rfl rfl Try.underlying31 rfl rfl (fun w' hT => box_at hT.2 H7.out)) T1 ?_
                go_simp
                refine wpAnyP_take (i := 5) rfl (by kernel_rfl) (by kernel_rfl) (by kernel_rfl) (by kernel_rfl) (fun _ _ _ h => h) (yieldsIf_run (.pointer (some ⟨w.heap.size, 4, none⟩)) rfl (fun w' => by go_simp)) T1 ?_
                refine wpAnyP_take (i := 6) rfl (by kernel_rfl) (by kernel_rfl) (by kernel_rfl) (by kernel_rfl) (fun _ _ _ h => h) (yieldsIf_load rfl rfl Try.underlying22 rfl rfl (fun w' hT => box_at hT.1 rfl)) T1 ?_
                refine wpAnyP_take2 (i := 7) [8, 9] rfl (by kernel_rfl) (by kernel_rfl) (by kernel_rfl) (by kernel_rfl) (by kernel_rfl) (fun _ _ _ h => h) (yieldsIf_run (.pointer (some ⟨w.heap.size + 1, 7, none⟩)) rfl (fun w' => by go_simp)) T1 ?_
                refine wpAnyP_take2 (i := 8) [9] rfl (by kernel_rfl) (by kernel_rfl) (by kernel_rfl) (by kernel_rfl) (by kernel_rfl) (fun _ _ _ h => h) (yieldsIf_load rfl rfl Try.underlying31 rfl rfl (fun w' hT => box_at hT.2 H7.out)) T1 ?_
                go_simp
                clear T1
                refine wpAnyP_oneQ (i := 4) (by kernel_rfl) rfl ?_
                go_wp2_with fail
                refine (RStrip_any (ns := p.gone) (F1.ev.get F1.below) (rg.ext F1.below) (by omega) (by omega)).mono ?_
                rintro x w5 ⟨v5, rfl, ho5, hb5⟩
                have F5 := F1.ext hb5
                have E5 : FldE w w5 S 3 v5 (stripL p.gone V2.events) := FldE.made ho5 hz1 fun x hx _ => hx.elim id fun h => .inr (Nat.le_trans hz1 h)
                have T5 := And.intro F5.box (F5.obs 0 _ OB0.out)
                have hz5 := F5.size
                clear ho5 hb5 F1 hz1
                go_wp2_with fail
                refine nextQ T5 ?_
                go_simp
                refine wpAnyP_take (i := 10) rfl (by kernel_rfl) (by kernel_rfl) (by kernel_rfl) (by kernel_rfl) (fun _ _ _ h => h) (yieldsIf_run (.pointer (some ⟨w.heap.size, 2, none⟩)) rfl (fun w' => by go_simp)) T5 ?_
                go_simp
                clear T5
                refine wpAnyP_oneQ (i := 9) (by kernel_rfl) rfl ?_
                go_wp2_with fail
                refine (RStrip_any (ns := p.gone) (F5.st.get F5.below) (rg.ext F5.below) (by omega) (by omega)).mono ?_
                rintro x w9 ⟨v9, rfl, ho9, hb9⟩
                have F9 := F5.ext hb9
                have E9 : FldE w w9 S 3 v9 (stripL p.gone V2.state) := FldE.made ho9 hz5 fun x hx _ => hx.elim id fun h => .inr (Nat.le_trans hz5 h)
                have E5' := E5.ext hb9
                have T9 := And.intro F9.box (F9.obs 0 _ OB0.out)
                clear ho9 hb9 F5 hz5 E5
                go_wp2_with fail
                refine nextQ T9 ?_
                go_simp
                clear T9
                refine wpAnyP_oneQ (i := 11) (by kernel_rfl) rfl ?_
                refine fr_store F9 rfl (.tmp 96) (.tmp 90) rfl rfl sizeSl 2 (by decide) rfl v5 rfl E5'.one { V2 with events := stripL p.gone V2.events } _ _ _ rfl E5' F9.ga F9.st ?_
                intro w11 F11 g11
                have E11 := E9.store g11 (Nat.le_refl _) (by omega)
                clear F9 E9 E5' g11
                refine nextQ_bad (by kernel_rfl) ?_
                go_simp
                refine wpAnyP_oneQ (i := 12) (by kernel_rfl) rfl ?_
                go_wp2_with fail
                refine nextQ_bad (by kernel_rfl) ?_
                go_simp
                refine wpAnyP_oneQ (i := 13) (by kernel_rfl) rfl ?_
                refine fr_store F11 rfl (.tmp 97) (.tmp 95) rfl rfl sizeSl 4 (by decide) rfl v9 rfl E11.one (goneV V2 p) _ _ _ rfl F11.ev F11.ga E11 ?_
                intro w13 F13 _
                clear F11 E11
                refine nextQ_bad (by kernel_rfl) ?_
                go_simp
                refine wpAnyP_done (by kernel_rfl) ?_
                go_simp
                have hg13 := F13.size
                go_wp2_with (first
                  | refine fr_loadS F13 rfl (.tmp 2) rfl rfl rfl ?_
                  | refine wpList_storeB rfl (.tmp 4) (.tmp 98) rfl rfl strcV (w.heap.size + 2) 0 rfl _ rfl rfl F13.one vwZero.toList 25 (F13.obs 1 _ OB1.out) (by decide) ?_)
                intro w14 hB14 g14 hz14
                rw [patch_all _ _ (by rfl)] at hB14
                have HEND : Hid (GivesV S (applyV V p) w (.returned (.agg (vwCells (goneV V2 p) v5 vg v9).toArray)) w14) := by
                  rw [HAP.out]
                  exact F13.gives g14 (by omega) (by omega)
                go_wp2_with fail
                exact bodyPost_cell strcV rfl (w.heap.size + 2) rfl rfl hB14 rfl HEND.out
end Go.Proofs.Ytbehflldghhopaa

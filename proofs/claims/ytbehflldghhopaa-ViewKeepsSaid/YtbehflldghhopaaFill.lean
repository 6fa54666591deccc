/-
  view.Fill at one of the gaps.
-/
import Derived.Test.YtbehflldghhopaaFillP
set_option linter.unusedVariables false
set_option linter.unusedSimpArgs false
namespace Go.Proofs.Ytbehflldghhopaa
open Go.RowKit
attribute [local go_sem] Addr.add_mid

set_option maxRecDepth 100000 in
set_option maxHeartbeats 4000000 in
theorem Fill_in {S : Nat → Prop} {cs : List Value} {V : Vw} {k : Nat} {back : Int} {more : Bool} {v : Value} {l : List Ev} {w : World} (hv : VwR w S cs V) (hr : EvsR w S v l) (hl : V.events.length + l.length ≤ 1048576 ∧ V.gaps.length ≤ 1048576) (hin : V.inside) (hk : k < V.gaps.length) :
    Calls Try.prog 25 #[.agg cs.toArray, .int .i64 (k : Int), v, .int .i64 back, .bool more] w (GivesVE S (fillAt V k V.gaps[k] l back more) 0 w) := by
  obtain ⟨A0, c0, A2, c2, A3, c3, rfl, h1, h2, h3⟩ := hv.form
  obtain ⟨A, c, css, rfl, _, hcm, ha, hrl, htl⟩ := hr.form
  obtain ⟨hl1, hl2⟩ := hl
  obtain ⟨A2', c2', hgx, hc2, hm2, ha2, hrg, hlk⟩ := h2.form
  injection hgx with e1 e2 e3
  subst e1 e3
  clear e2
  have F0 := fr_two h1 h2 h3
  have hg0 := hin V.gaps[k] (List.getElem_mem hk)
  obtain ⟨gb, hgb⟩ : ∃ n : Nat, V.gaps[k].1 = (n : Int) := ⟨V.gaps[k].1.toNat, by omega⟩
  have hgl : gb < V.events.length := by omega
  have HGB := hide hgb
  have HIN := hide hin
  clear hg0 hgb hin hv
  go_enter Try.func25, Try.ntmps25
  go_upto_region 1 with (refine wpList_zeroS rfl rfl strcV ?_)
  go_simp
  generalize hW : (w.alloc (.cells (vwCells V (.slice A0 V.events.length c0) (.slice A2 V.gaps.length c2) (.slice A3 V.state.length c3)).toArray 25)).alloc (.cells vwZero 25) = W at *
  clear hW
  have r3 := F0.c3
  have i0 : (0 : Int) ≤ (k : Int) := by omega
  have i1 : (k : Int) < (V.gaps.length : Int) := by omega
  have t0 : decide ((k : Int) < 0) = false := decide_eq_false (by omega)
  have t1 : decide (V.gaps.length ≤ k) = false := decide_eq_false (by omega)
  go_wp2_with fail
  clear t0 t1
  clear r3
  go_loopw [12, 33] (fun u i wr => ∃ j : Nat, j ≤ l.length ∧ i = .int .i64 (j : Int) ∧ u = .int .i64 ((behindN (ids V.events) (l.take j) : Nat) : Int) ∧ Below W.heap.size W wr) (fun _ i _ => l.length - (intOf i).toNat)
  case atStart => exact ⟨0, Nat.zero_le _, rfl, by simp [behindN], ext_refl _⟩
  case round =>
    obtain ⟨j, hj, rfl, rfl, hbr⟩ := hrel
    by_cases hlt : j < l.length
    · have j0 : (0 : Int) ≤ (j : Int) := by omega
      have j1 : (j : Int) < (l.length : Int) := by omega
      have HB := hide (behind_step (known := ids V.events) hlt)
      have hbl := behindN_le (ids V.events) (l.take j)
      go_upto_region 7 with fail
      have hbx : Below wr.heap.size wr wr.drew := ext_drew (ext_refl wr)
      have hb1 := hbr.trans (hbx.mono hbr.size)
      have F1 := F0.ext hb1
      obtain ⟨wd, hWD⟩ : ∃ wd, wd = wr.drew := ⟨_, rfl⟩
      rw [← hWD] at F1 hb1
      have HWD := hide hWD
      clear hWD hbx hbr
      obtain ⟨b, o, ck, hA, hb, he, _, hc⟩ := evs_at (hrl.ext F1.below) (htl.imp fun _ _ h => h.ext F1.below) j hlt
      subst hA
      have hc0 := hc 0 _ he.some0
      rw [Nat.add_zero] at hc0
      clear hc he
      refine wp_region_phase (fun w' => w'.heap[w.heap.size]? = some (.cells (vwCells V (.slice A0 V.events.length c0) (.slice A2 V.gaps.length c2) (.slice A3 V.state.length c3)).toArray 25 (0, 0)) ∧ w'.cell? ⟨b, o + j * 29, none⟩ = some (.int .i64 l[j].id)) [] (by kernel_rfl) ?_
      rw [show { wr with drawn := wr.drawn + 1 } = wd from HWD.out.symm]
      have T1 := And.intro F1.box hc0
      refine wpAnyP_take (i := 0) rfl (by kernel_rfl) (by kernel_rfl) (by kernel_rfl) (by kernel_rfl) (fun _ _ _ h => h) (yieldsIf_run (.pointer (some ⟨w.heap.size, 2, none⟩)) rfl (fun w' => by go_simp)) T1 ?_
      refine wpAnyP_take (i := 1) rfl (by kernel_rfl) (by kernel_rfl) (by kernel_rfl) (by kernel_rfl) (fun _ _ _ h => h) (yieldsIf_load rfl rfl Try.underlying22 rfl rfl (fun w' hT => box_at hT.1 rfl)) T1 ?_
      refine wpAnyP_take (i := 2) rfl (by kernel_rfl) (by kernel_rfl) (by kernel_rfl) (by kernel_rfl) (fun _ _ _ h => h) (yieldsIf_run (.slice (some ⟨b, o, none⟩) l.length c) rfl (fun w' => by go_simp)) T1 ?_
      refine wpAnyP_take (i := 3) rfl (by kernel_rfl) (by kernel_rfl) (by kernel_rfl) (by kernel_rfl) (fun _ _ _ h => h) (yieldsIf_run (.int .i64 (j : Int)) rfl (fun w' => by go_simp)) T1 ?_
      go_simp
      refine wpAnyP_take (i := 4) rfl (by kernel_rfl) (by kernel_rfl) (by kernel_rfl) (by kernel_rfl) (fun _ _ _ h => h) (yieldsIf_run (.pointer (some ⟨b, o + j * 29, none⟩)) rfl (fun w' => by go_simp)) T1 ?_
      refine wpAnyP_take (i := 5) rfl (by kernel_rfl) (by kernel_rfl) (by kernel_rfl) (by kernel_rfl) (fun _ _ _ h => h) (yieldsIf_run (.pointer (some ⟨b, o + j * 29, none⟩)) rfl (fun w' => by go_simp)) T1 ?_
      refine wpAnyP_take (i := 6) rfl (by kernel_rfl) (by kernel_rfl) (by kernel_rfl) (by kernel_rfl) (fun _ _ _ h => h) (yieldsIf_load rfl rfl Try.underlying3 rfl rfl (fun w' hT => hT.2)) T1 ?_
      go_simp
      refine wpAnyP_one' (i := 7) (by kernel_rfl) rfl ?_
      go_wp2_with fail
      have hvh := VHas_any (n := l[j].id) (h1.ext F1.below) (by omega)
      obtain ⟨mb, hmb⟩ : ∃ x, x = decide (l[j].id ∈ ids V.events) := ⟨_, rfl⟩
      rw [← hmb] at hvh
      have HMB := hide hmb
      clear hmb
      refine hvh.mono ?_
      rintro x w2 ⟨rfl, rfl⟩
      go_wp2_with fail
      refine nextP T1 (wpAnyP_done (by kernel_rfl) ?_)
      clear T1 hc0
      go_simp
      cases mb
      · have hs : behindN (ids V.events) (l.take (j + 1)) = behindN (ids V.events) (l.take j) := by rw [HB.out, if_neg (of_decide_eq_false HMB.out.symm)]
        have HS := hide hs
        clear hs hvh
        go_wp2_with fail
        go_roundw
        case rel => exact ⟨j + 1, by omega, by go_num, by rw [HS.out], hb1⟩
        case measure => simp [intOf]; omega
      · have hs : behindN (ids V.events) (l.take (j + 1)) = j + 1 := by rw [HB.out, if_pos (of_decide_eq_true HMB.out.symm)]
        have HS := hide hs
        clear hs hvh
        go_wp2_with fail
        go_roundw
        case rel => exact ⟨j + 1, by omega, by go_num, by rw [HS.out]; go_num, hb1⟩
        case measure => simp [intOf]; omega
    · obtain rfl : j = l.length := by omega
      have hta : l.take l.length = l := List.take_length
      rw [hta]
      have hbn := behindN_le (ids V.events) l
      have HMB := hide (behindN_met (ids V.events) l)
      obtain ⟨bn, hbn'⟩ : ∃ n, n = behindN (ids V.events) l := ⟨_, rfl⟩
      rw [← hbn'] at hbn HMB
      rw [← hbn']
      have HBN := hide hbn'
      clear hta hbn' hlt
      have j0 : (0 : Int) ≤ (bn : Int) := by omega
      have j1 : (bn : Int) ≤ (l.length : Int) := by omega
      go_upto_region 10 with fail
      have hbx : Below wr.heap.size wr wr.drew := ext_drew (ext_refl wr)
      have hb1 := hbr.trans (hbx.mono hbr.size)
      have F1 := F0.ext hb1
      obtain ⟨wd, hWD⟩ : ∃ wd, wd = wr.drew := ⟨_, rfl⟩
      rw [← hWD] at F1 hb1
      have HWD := hide hWD
      clear hWD hbx hbr
      have hrun1 := run_cut elemE A l.length c bn hbn
      refine wp_region_phase (fun w' => CellsAt w' ⟨w.heap.size, 0, none⟩ (vwCells V (.slice A0 V.events.length c0) (.slice A2 V.gaps.length c2) (.slice A3 V.state.length c3))) [] (by kernel_rfl) ?_
      rw [show { wr with drawn := wr.drawn + 1 } = wd from HWD.out.symm]
      have T1 := box_all F1.box
      refine wpAnyP_take (i := 0) rfl (by kernel_rfl) (by kernel_rfl) (by kernel_rfl) (by kernel_rfl) (fun _ _ _ h => h) (yieldsIf_loadS rfl (.tmp 5) rfl strcV ⟨w.heap.size, 0, none⟩ rfl _ rfl (fun w' hT => hT)) T1 ?_
      refine wpAnyP_take (i := 1) rfl (by kernel_rfl) (by kernel_rfl) (by kernel_rfl) (by kernel_rfl) (fun _ _ _ h => h) (yieldsIf_run (.slice A l.length c) rfl (fun w' => by go_simp)) T1 ?_
      refine wpAnyP_take (i := 2) rfl (by kernel_rfl) (by kernel_rfl) (by kernel_rfl) (by kernel_rfl) (fun _ _ _ h => h) (yieldsIf_run (.int .i64 (bn : Int)) rfl (fun w' => by go_simp)) T1 ?_
      go_simp
      refine wpAnyP_take (i := 3) rfl (by kernel_rfl) (by kernel_rfl) (by kernel_rfl) (by kernel_rfl) (fun _ _ _ h => h) (yieldsIf_run (.slice (cutA A c bn 29) (l.length - bn) (c - bn)) rfl (fun w' => by go_simp)) T1 ?_
      go_simp
      have hlen : (l.drop bn).length = l.length - bn := by simp
      have hcv := (evs_cut ((hr.weak (S' := S4 S w.heap.size 2) fun b hb hlt => .inl ⟨hb, hlt⟩).ext F1.below) bn hbn)
      have hca := fresh_any F1.view hcv (by rw [hlen]; omega) (by omega)
      have hadd : addL V l = freshL (ids V.events) (l.drop bn) := by unfold addL; rw [← HBN.out]
      rw [← hadd] at hca
      have hfl := addL_length V l
      obtain ⟨fr, hfr⟩ : ∃ x, x = addL V l := ⟨_, rfl⟩
      rw [← hfr] at hca hfl
      have HFR := hide hfr
      clear hfr hadd hcv
      refine wpAnyP_one' (i := 4) (by kernel_rfl) rfl ?_
      go_wp2_with fail
      refine hca.mono ?_
      rintro x w4 ⟨v4, rfl, ho4, hb4⟩
      have F4 := F1.ext hb4
      have hz1 := F1.size
      have T4 := box_all F4.box
      obtain ⟨A4, c4, _, rfl, _⟩ := (OwnE.evs ho4).form
      have E4 : FldE w w4 S 2 (.slice A4 fr.length c4) fr := FldE.made ho4 hz1 fun x hx _ => hx.1
      clear ho4 hb4 hca T1 F1 hb1 hrun1 hlen
      go_wp2_with fail
      refine nextP T4 ?_
      go_simp
      refine wpAnyP_one' (i := 5) (by kernel_rfl) rfl ?_
      go_wp2_with fail
      refine nextP T4 ?_
      go_simp
      refine wpAnyP_take (i := 6) rfl (by kernel_rfl) (by kernel_rfl) (by kernel_rfl) (by kernel_rfl) (fun _ _ _ h => h) (yieldsIf_run (.slice A4 fr.length c4) rfl (fun w' => by go_simp)) T4 ?_
      refine wpAnyP_take (i := 7) rfl (by kernel_rfl) (by kernel_rfl) (by kernel_rfl) (by kernel_rfl) (fun _ _ _ h => h) (yieldsIf_run (.bool (metL (ids V.events) (l.drop bn))) rfl (fun w' => by go_simp)) T4 ?_
      go_simp
      refine wpAnyP_one' (i := 8) (by kernel_rfl) rfl ?_
      go_wp2_with fail
      refine nextP T4 ?_
      go_simp
      refine wpAnyP_one' (i := 9) (by kernel_rfl) rfl ?_
      go_wp2_with fail
      refine nextP T4 (wpAnyP_done (by kernel_rfl) ?_)
      clear T4
      go_simp
      have r3 := F4.c3
      have hfull := run_full elemG A2 V.gaps.length c2 k (by omega)
      have hx6 := F4.size
      have hkc := kcs_take V.gaps k
      have hrt := (hrg.ext F4.below).take (k * 2)
      rw [← hkc] at hrt
      have hkt : (kcs (V.gaps.take k)).length = k * 2 := by rw [kcs_length, List.length_take, Nat.min_eq_left (by omega)]
      clear hkc
      obtain ⟨mt, hmt⟩ : ∃ b, b = decide (0 < bn) := ⟨_, rfl⟩
      rw [← hmt] at HMB
      have tm : decide (0 < bn) = mt := hmt.symm
      clear hmt
      go_wp2_with (at_builtin; go_must (refine wpList_append_row rfl (.const (.slice none 0 0)) (.tmp 61) rfl elemG w4.heap.size _ 0 [] rfl (World.ownsRow_nil _ _ _ _) w4.heap.size k k A2 (kcs (V.gaps.take k)) hkt rfl hrt (fun h => by have := ha2 h; omega) (kcs_one _) (by unfold maxLen; omega) (by omega) (Nat.le_refl _) ?_))
      intro v6 w6 ho6 hg6
      have hb6 : Below w4.heap.size w4 w6 := below_of_own (ext_refl w4) (World.ownsRow_nil w4 w4.heap.size 55 2) hg6 (Nat.le_refl _) (Nat.le_refl _)
      obtain ⟨A6, c6, rfl, _⟩ := own_form ho6
      clear hfull hrt hkt hg6 r3 tm
      go_upto_region 13 with fail
      obtain ⟨tb, htb⟩ : ∃ b, b = (more && !mt) := ⟨_, rfl⟩
      go_cut [67] (fun t wx => t = .bool tb ∧ wx = w6)
      case first =>
        cases more
        · have : tb = false := by rw [htb]; rfl
          subst this
          clear htb
          go_wp2_with fail
          go_meet
          exact ⟨rfl, rfl⟩
        · cases mt
          · have : tb = true := by rw [htb]; rfl
            subst this
            clear htb
            go_wp2_with fail
            go_meet
            exact ⟨rfl, rfl⟩
          · have : tb = false := by rw [htb]; rfl
            subst this
            clear htb
            go_wp2_with fail
            go_meet
            exact ⟨rfl, rfl⟩
      case rest =>
        obtain ⟨rfl, rfl⟩ := hcut
        have HTB := hide htb
        clear htb
        have F6 := F4.ext hb6
        have r3 := F6.c3
        obtain ⟨bg, og, rfl, hbg, hcg⟩ := Row.fix hrg (kcs_get V.gaps k hk).1
        have rg0 := hcg _ _ (kcs_get V.gaps k hk).1
        rw [HGB.out] at rg0
        have CG := hide hcg
        have rg6 : wc.cell? ⟨bg, og + k * 2, none⟩ = some (.int .i64 (gb : Int)) := by rw [F6.below.cell (p := ⟨bg, og + k * 2, none⟩) hbg]; exact rg0
        have hz4 := F4.size
        clear hcg
        go_upto_if 67 with fail
        go_cut [17] (fun v wx => wx.ownsRow w4.heap.size 55 2 v (fillG V k V.gaps[k].1 l back more).length (kcs (fillG V k V.gaps[k].1 l back more)) ∧ Below w4.heap.size w4 wx)
        case first =>
          have hfg : fillG V k V.gaps[k].1 l back more = if tb then V.gaps.take k ++ [((gb : Int), back)] else V.gaps.take k := by unfold fillG; rw [HGB.out, HMB.out, HTB.out]
          have hkl : (V.gaps.take k).length = k := by rw [List.length_take]; omega
          cases tb
          · have HG : Hid (fillG V k V.gaps[k].1 l back more = V.gaps.take k) := hfg
            clear hfg rg6 rg0 r3
            have HKL := hide hkl
            clear hkl
            go_wp2_with fail
            go_meet
            rw [HG.out, HKL.out]
            exact ⟨ho6, hb6⟩
          · have HG : Hid (fillG V k V.gaps[k].1 l back more = V.gaps.take k ++ [((gb : Int), back)]) := hfg
            clear hfg rg0
            have HKL := hide hkl
            clear hkl
            go_wp2_with (first
              | refine wpList_buildS (te := 0) rfl (.tmp 76) rfl Try.underlying23 strcG (by decide) (by decide) #[.int .i64 (gb : Int), .int .i64 back] rfl rfl ?_
              | (at_builtin; go_must (refine wpList_append_new rfl (.tmp 68) (.tmp 77) rfl elemG w4.heap.size _ k (kcs (V.gaps.take k)) rfl ho6 1 _ rfl rfl (by simp [Value.oneCell']) (by decide) (by unfold maxLen; omega) (by omega) hb6.size ?_)))
            intro v5 w5 ho5 hg5
            have hb5 : Below w4.heap.size w4 w5 := below_of_own hb6 ho6 hg5 hb6.size (Nat.le_refl _)
            have HO5 := hide ho5
            clear ho5 hg5
            go_wp2_with fail
            go_meet
            rw [HG.out, kcs_append, List.length_append, HKL.out]
            exact ⟨HO5.out, hb5⟩
        case rest =>
          clear r3 rg6 ho6 hb6 F6
          obtain ⟨ho7, hb7⟩ := hcut
          have hfgl := fillG_length V k V.gaps[k].1 l back more
          obtain ⟨G, hG⟩ : ∃ G, G = fillG V k V.gaps[k].1 l back more := ⟨_, rfl⟩
          rw [← hG] at ho7 hfgl
          have HG := hide hG
          clear hG
          obtain ⟨A7, c7, rfl, _⟩ := own_form ho7
          have r3 := (F4.ext hb7).c3
          have rAC := hrg.cutA (size := 2) (k := k + 1) hlk hc2
          rw [← kcs_drop] at rAC
          have hcutR : ∀ w, (Instr.slice 23 (.slice (some ⟨bg, og, none⟩) V.gaps.length c2) (some (.int .i64 ((k : Int) + 1))) none none).run Try.prog w = .ok (.slice (cutA (some ⟨bg, og, none⟩) c2 (k + 1) 2) (V.gaps.length - (k + 1)) (c2 - (k + 1))) w := fun w => run_cut elemG (some ⟨bg, og, none⟩) V.gaps.length c2 (k + 1) (by omega) w
          have hrest : (V.gaps.drop (k + 1)).length = V.gaps.length - (k + 1) := by simp
          obtain ⟨rest, hRE⟩ : ∃ x, x = V.gaps.drop (k + 1) := ⟨_, rfl⟩
          obtain ⟨m, hm⟩ : ∃ x, x = V.gaps.length - (k + 1) := ⟨_, rfl⟩
          obtain ⟨AC, hAC⟩ : ∃ x, x = cutA (some ⟨bg, og, none⟩) c2 (k + 1) 2 := ⟨_, rfl⟩
          obtain ⟨CC, hCC⟩ : ∃ x, x = c2 - (k + 1) := ⟨_, rfl⟩
          rw [← hRE] at rAC hrest
          rw [← hm] at hrest
          rw [← hAC] at rAC
          rw [← hm, ← hAC, ← hCC] at hcutR
          have hin' : ∀ g ∈ rest, 0 ≤ g.1 ∧ g.1 < (V.events.length : Int) := fun g hg => HIN.out g (by rw [hRE] at hg; exact List.mem_of_mem_drop hg)
          have HIN' := hide hin'
          have HRE := hide hRE
          have hml : m ≤ 1048576 := by omega
          have HRL := hide hrest
          clear hRE hm hAC hCC hin' hrest
          go_wp2_with fail
          clear r3 hcutR
          go_loopw [17, 85] (fun v i wr => ∃ j : Nat, j ≤ m ∧ i = .int .i64 (j : Int) ∧ wr.ownsRow w4.heap.size 55 2 v (G.length + j) (kcs (G ++ shiftG fr.length (rest.take j))) ∧ Below w4.heap.size w4 wr) (fun _ i _ => m - (intOf i).toNat)
          case atStart => exact ⟨0, Nat.zero_le _, rfl, by simpa [shiftG] using ho7, hb7⟩
          case round =>
            clear ho7 hb7
            obtain ⟨j, hj, rfl, ho7, hb7⟩ := hrel
            by_cases hlt : j < m
            · have hjr : j < rest.length := by rw [HRL.out]; exact hlt
              have F7 := F4.ext hb7
              obtain ⟨b', o', rfl, hb', hc'⟩ := Row.fix (rAC.ext F7.below) (kcs_get rest j hjr).1
              have r1 : wr.rangeAt b' (o' + j * 2) [.int .i64 rest[j].1, .int .i64 rest[j].2] := by
                intro i u hu
                match i, hu with
                | 0, hu => rw [← Option.some.inj hu]; exact hc' _ _ (kcs_get rest j hjr).1
                | 1, hu => rw [← Option.some.inj hu, Nat.add_assoc]; exact hc' _ _ (kcs_get rest j hjr).2
              have hst := shiftG_step fr.length hjr
              have hgx := HIN'.out rest[j] (List.getElem_mem hjr)
              obtain ⟨x, hx⟩ : ∃ n : Nat, rest[j].1 = (n : Int) := ⟨rest[j].1.toNat, by omega⟩
              have hxl : x < V.events.length := by omega
              obtain ⟨y, hy⟩ : ∃ y, y = rest[j].2 := ⟨_, rfl⟩
              rw [hx, ← hy] at r1
              rw [hx, ← hy] at hst
              have HST := hide hst
              have j0 : (0 : Int) ≤ (j : Int) := by omega
              have j1 : (j : Int) < (m : Int) := by omega
              obtain ⟨A9, c9, rfl, _⟩ := own_form ho7
              have ho8 := own_below ho7 (ext_alloc (ext_refl wr) (.cells #[.int .i64 (x : Int), .int .i64 y] 55))
              have hb8 : Below w4.heap.size w4 (wr.alloc (.cells #[.int .i64 (x : Int), .int .i64 y] 55)) := ext_alloc hb7 _
              have hb8s := hb8.size
              have hshl : G.length + j ≤ 2097153 := by omega
              obtain ⟨gj, hgj⟩ : ∃ n, n = G.length + j := ⟨_, rfl⟩
              obtain ⟨KC, hKC⟩ : ∃ n, n = kcs (G ++ shiftG fr.length (rest.take j)) := ⟨_, rfl⟩
              rw [← hgj] at ho8 hshl
              rw [← hgj]
              rw [← hKC] at ho8
              have HGJ := hide hgj; have HKC := hide hKC
              clear hst hgx hx hy hc' hgj hKC ho7
              go_wp2_with (first
                | refine wpList_loadS rfl (.tmp 87) rfl strcG ⟨b', o' + j * 2, none⟩ rfl [.int .i64 (x : Int), .int .i64 y] rfl (cells_range r1) ?_
                | refine wpList_newS rfl rfl strcG rfl (.tmp 19) (.tmp 88) rfl rfl rfl #[.int .i64 (x : Int), .int .i64 y] rfl rfl (by simp [Value.oneCell']) ?_
                | refine wpList_buildS (te := 0) rfl (.tmp 97) rfl Try.underlying23 strcG (by decide) (by decide) #[.int .i64 ((x : Int) + (fr.length : Int)), .int .i64 y] rfl rfl ?_
                | (at_builtin; go_must (refine wpList_append_new rfl (.tmp 89) (.tmp 98) rfl elemG w4.heap.size _ gj KC rfl ho8 1 _ rfl rfl (by simp [Value.oneCell']) (by decide) (by unfold maxLen; omega) (by omega) hb8s ?_)))
              intro v5 w5 ho5 hg5
              have hb5 : Below w4.heap.size w4 w5 := below_of_own hb8 ho8 hg5 hb8s (Nat.le_refl _)
              have HO5 := hide ho5
              clear ho5 hg5 ho8 hb8 r1
              go_wp2_with fail
              go_roundw
              case rel =>
                refine ⟨j + 1, by omega, by go_num, ?_, hb5⟩
                rw [HST.out, ← List.append_assoc, kcs_append, ← HKC.out, ← Nat.add_assoc, ← HGJ.out]
                exact HO5.out
              case measure => simp [intOf]; omega
            · obtain rfl : j = m := by omega
              have hrt : rest.take rest.length = rest := List.take_length
              rw [HRL.out] at hrt
              rw [hrt] at ho7
              have hle : G.length + j = (G ++ shiftG fr.length rest).length := by rw [List.length_append, shiftG_length, HRL.out]
              rw [hle] at ho7
              have hfin : fillAt V k V.gaps[k] l back more = { V with events := V.events.take gb ++ (fr ++ V.events.drop gb), gaps := G ++ shiftG fr.length rest } := by
                unfold fillAt
                rw [HG.out, HFR.out, HRE.out, HGB.out, Int.toNat_natCast]
              obtain ⟨NG, hNG⟩ : ∃ x, x = G ++ shiftG fr.length rest := ⟨_, rfl⟩
              rw [← hNG] at ho7 hfin
              have HFIN := hide hfin
              have F7 := F4.ext hb7
              have G7 : FldG w wr 2 u17 NG := .inr (own_more ho7 hz4)
              clear hrt hle hfin hNG ho7
              go_upto_region 20 with fail
              have hbx : Below wr.heap.size wr wr.drew := ext_drew (ext_refl wr)
              have hb8 := hb7.trans (hbx.mono hb7.size)
              have F8 := F7.ext hbx
              have G8 := G7.ext hbx
              have E8 := E4.ext hb8
              obtain ⟨wd, hWD⟩ : ∃ wd, wd = wr.drew := ⟨_, rfl⟩
              rw [← hWD] at F8 G8 E8
              refine wp_region_phase (fun w' => w'.heap[w.heap.size]? = some (.cells (vwCells V (.slice A0 V.events.length c0) (.slice (some ⟨bg, og, none⟩) V.gaps.length c2) (.slice A3 V.state.length c3)).toArray 25 (0, 0)) ∧ w'.cell? ⟨bg, og + k * 2, none⟩ = some (.int .i64 (gb : Int))) [] (by kernel_rfl) ?_
              rw [show { wr with drawn := wr.drawn + 1 } = wd from hWD.symm]
              clear hWD hbx hb7 hb8 F7 G7 E4 F4 hlt
              have rg8 : wd.cell? ⟨bg, og + k * 2, none⟩ = some (.int .i64 (gb : Int)) := by rw [F8.below.cell (p := ⟨bg, og + k * 2, none⟩) hbg]; exact rg0
              have T1 := And.intro F8.box rg8
              refine wpAnyP_take (i := 0) rfl (by kernel_rfl) (by kernel_rfl) (by kernel_rfl) (by kernel_rfl) (fun _ _ _ h => h) (yieldsIf_run (.pointer (some ⟨w.heap.size, 3, none⟩)) rfl (fun w' => by go_simp)) T1 ?_
              refine wpAnyP_take (i := 1) rfl (by kernel_rfl) (by kernel_rfl) (by kernel_rfl) (by kernel_rfl) (fun _ _ _ h => h) (yieldsIf_load rfl rfl Try.underlying23 rfl rfl (fun w' hT => box_at hT.1 rfl)) T1 ?_
              refine wpAnyP_take (i := 2) rfl (by kernel_rfl) (by kernel_rfl) (by kernel_rfl) (by kernel_rfl) (fun _ _ _ h => h) (yieldsIf_run (.int .i64 (k : Int)) rfl (fun w' => by go_simp)) T1 ?_
              go_simp
              refine wpAnyP_take (i := 3) rfl (by kernel_rfl) (by kernel_rfl) (by kernel_rfl) (by kernel_rfl) (fun _ _ _ h => h) (yieldsIf_run (.pointer (some ⟨bg, og + k * 2, none⟩)) rfl (fun w' => by go_simp)) T1 ?_
              refine wpAnyP_take (i := 4) rfl (by kernel_rfl) (by kernel_rfl) (by kernel_rfl) (by kernel_rfl) (fun _ _ _ h => h) (yieldsIf_run (.pointer (some ⟨bg, og + k * 2, none⟩)) rfl (fun w' => by go_simp)) T1 ?_
              refine wpAnyP_take (i := 5) rfl (by kernel_rfl) (by kernel_rfl) (by kernel_rfl) (by kernel_rfl) (fun _ _ _ h => h) (yieldsIf_load rfl rfl Try.underlying3 rfl rfl (fun w' hT => hT.2)) T1 ?_
              go_simp
              refine wpAnyP_take (i := 6) rfl (by kernel_rfl) (by kernel_rfl) (by kernel_rfl) (by kernel_rfl) (fun _ _ _ h => h) (yieldsIf_run (.pointer (some ⟨w.heap.size, 2, none⟩)) rfl (fun w' => by go_simp)) T1 ?_
              refine wpAnyP_take (i := 7) rfl (by kernel_rfl) (by kernel_rfl) (by kernel_rfl) (by kernel_rfl) (fun _ _ _ h => h) (yieldsIf_load rfl rfl Try.underlying22 rfl rfl (fun w' hT => box_at hT.1 rfl)) T1 ?_
              go_simp
              refine wpAnyP_take (i := 8) rfl (by kernel_rfl) (by kernel_rfl) (by kernel_rfl) (by kernel_rfl) (fun _ _ _ h => h) (yieldsIf_run (.int .i64 (V.events.length : Int)) rfl (fun w' => by go_simp)) T1 ?_
              go_simp
              refine wpAnyP_one' (i := 9) (by kernel_rfl) rfl ?_
              go_wp2_with fail
              refine (Clip_in (k := gb) (m := V.events.length) (by omega)).mono ?_
              rintro x w2 ⟨rfl, rfl⟩
              go_wp2_with fail
              refine nextP T1 ?_
              go_simp
              refine wpAnyP_one' (i := 10) (by kernel_rfl) rfl ?_
              go_wp2_with fail
              refine nextP T1 (wpAnyP_done (by kernel_rfl) ?_)
              clear T1 rg8
              go_simp
              have r2 := F8.c2
              have hz8 := F8.size
              go_wp2_with fail
              refine (inserted_any (k := gb) (F8.ev.get F8.below) (E8.get F8.below) (by omega) (by omega) (by omega)).mono ?_
              rintro x w9 ⟨v9, rfl, ho9, hb9⟩
              have F9 := F8.ext hb9
              have G9 := G8.ext hb9
              have E9 : FldE w w9 S 2 v9 (V.events.take gb ++ (fr ++ V.events.drop gb)) := FldE.made ho9 hz8 fun x hx _ => hx
              clear ho9 hb9 F8 G8 E8 r2 hz8
              go_wp2_with (refine fr_store F9 rfl _ _ rfl rfl sizeSl 2 (by decide) rfl v9 rfl E9.one { V with events := V.events.take gb ++ (fr ++ V.events.drop gb) } _ _ _ rfl E9 F9.ga F9.st ?_)
              intro w10 F10 g10
              have hm10 := F9.size
              have G10 := G9.store g10 (by omega)
              clear F9 G9 E9 g10 hm10
              go_wp2_with (refine fr_store F10 rfl _ _ rfl rfl sizeSg 3 (by decide) rfl u17 rfl G10.one { V with events := V.events.take gb ++ (fr ++ V.events.drop gb), gaps := NG } _ _ _ rfl F10.ev G10 F10.st ?_)
              intro w11 F11 _
              clear F10 G10
              go_wp2_with (first
                | refine fr_loadS F11 rfl (.tmp 5) rfl rfl rfl ?_
                | refine wpList_storeB rfl (.tmp 10) (.tmp 119) rfl rfl strcV (w.heap.size + 1) 0 rfl _ rfl rfl F11.one vwZero.toList 25 (F11.obs 0 _ rfl) (by decide) ?_)
              intro w12 hB12 g12 hz12
              rw [patch_all _ _ (by rfl)] at hB12
              have HEND : Hid (GivesVE S (fillAt V k V.gaps[k] l back more) 0 w (.returned (.tuple #[.agg (vwCells { V with events := V.events.take gb ++ (fr ++ V.events.drop gb), gaps := NG } v9 u17 (.slice A3 V.state.length c3)).toArray, .int .i64 0])) w12) := by
                rw [HFIN.out]
                exact GivesVE.of (F11.gives g12 (by omega) (by omega))
              go_wp2_with fail
              exact bodyPost_cell2 strcV rfl (w.heap.size + 1) rfl (.int .i64 0) rfl rfl hB12 rfl HEND.out
theorem Fill_any {S : Nat → Prop} {cs : List Value} {V : Vw} {i back : Int} {more : Bool} {v : Value} {l : List Ev} {w : World} (hv : VwR w S cs V) (hr : EvsR w S v l) (hl : V.events.length + l.length ≤ 1048576 ∧ V.gaps.length ≤ 1048576) (hin : V.inside) :
    Calls Try.prog 25 #[.agg cs.toArray, .int .i64 i, v, .int .i64 back, .bool more] w (GivesVE S (fillV V i l back more) (fillE V i) w) := by
  by_cases hi : i < 0 ∨ (V.gaps.length : Int) ≤ i
  · have h1 : fillV V i l back more = zeroVw := by unfold fillV outV; rw [if_pos (decide_eq_true hi)]
    have h2 : fillE V i = 2 := by unfold fillE outV; rw [if_pos (decide_eq_true hi)]
    rw [h1, h2]
    obtain ⟨A, c, _, rfl, _⟩ := hr.form
    exact Fill_out hv hl.2 hi
  · obtain ⟨k, rfl⟩ : ∃ n : Nat, i = (n : Int) := ⟨i.toNat, by omega⟩
    have hk : k < V.gaps.length := by omega
    have h1 : fillV V (k : Int) l back more = fillAt V k V.gaps[k] l back more := by
      unfold fillV outV
      rw [if_neg (by simpa using hi), Int.toNat_natCast, List.getElem?_eq_getElem hk]
    have h2 : fillE V (k : Int) = 0 := by unfold fillE outV; rw [if_neg (by simpa using hi)]
    rw [h1, h2]
    exact Fill_in hv hr hl hin hk
end Go.Proofs.Ytbehflldghhopaa

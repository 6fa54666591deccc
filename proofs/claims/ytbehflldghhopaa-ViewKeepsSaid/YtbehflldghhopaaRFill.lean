/-
  The reference's Fill.
-/
import Derived.Test.YtbehflldghhopaaFill
import Derived.IntWalk
set_option linter.unusedVariables false
set_option linter.unusedSimpArgs false
namespace Go.Proofs.Ytbehflldghhopaa
open Go.RowKit
attribute [local go_sem] Addr.add_mid

set_option maxRecDepth 100000 in
set_option maxHeartbeats 4000000 in
theorem RFill_out {S : Nat → Prop} {cs : List Value} {V : Vw} {i back : Int} {more : Bool} {A : Option Addr} {n c : Nat} {w : World} (hv : VwR w S cs V) (hl : V.gaps.length ≤ 1048576) (hi : i < 0 ∨ (V.gaps.length : Int) ≤ i) :
    Calls Try.prog 26 #[.agg cs.toArray, .int .i64 i, .slice A n c, .int .i64 back, .bool more] w (GivesVE S zeroVw 2 w) := by
  obtain ⟨A0, c0, A2, c2, A3, c3, rfl, h1, h2, h3⟩ := hv.form
  have F0 := fr_two h1 h2 h3
  clear hv h1 h2 h3
  go_enter Try.func26, Try.ntmps26
  go_upto_region 1 with (refine wpList_zeroS rfl rfl strcV ?_)
  go_simp
  generalize hW : (w.alloc (.cells (vwCells V (.slice A0 V.events.length c0) (.slice A2 V.gaps.length c2) (.slice A3 V.state.length c3)).toArray 25)).alloc (.cells vwZero 25) = W at *
  clear hW
  have r3 := F0.c3
  have HZ := hide (F0.obs 0 _ rfl)
  have hend : ∀ w3, w3.heap[w.heap.size + 1]? = some (.cells vwZero 25 (0, 0)) → W.grownBy w3 (some (w.heap.size + 1)) → GivesVE S zeroVw 2 w (.returned (.tuple #[.agg vwZero, .int .i64 2])) w3 := fun w3 hB g =>
    ⟨vwZero.toList, rfl, ⟨_, _, _, rfl, EvsR.nil _ _, Slc.nil _ _ _, EvsR.nil _ _⟩, F0.below.grown g F0.below.size (fun q hq => by injection hq with hq; omega)⟩
  have HEND := hide hend
  clear hend F0
  rcases hi with hi | hi
  · have t1 : decide (i < 0) = true := decide_eq_true hi
    go_wp2_with (refine wpList_storeB rfl (.tmp 10) (.tmp 26) rfl rfl strcV (w.heap.size + 1) 0 rfl vwZero.toList rfl rfl (by simp [vwZero, Value.oneCell']) vwZero.toList 25 HZ.out (by decide) ?_)
    intro w3 hB3 g2 hz3
    rw [patch_all _ _ (by rfl)] at hB3
    have HE := hide (HEND.out w3 hB3 g2)
    go_wp2_with fail
    exact bodyPost_cell2 strcV rfl (w.heap.size + 1) rfl (.int .i64 2) rfl rfl hB3 rfl HE.out
  · have t0 : decide (i < 0) = false := decide_eq_false (by omega)
    have t1 : decide ((V.gaps.length : Int) ≤ i) = true := decide_eq_true hi
    go_wp2_with (refine wpList_storeB rfl (.tmp 10) (.tmp 26) rfl rfl strcV (w.heap.size + 1) 0 rfl vwZero.toList rfl rfl (by simp [vwZero, Value.oneCell']) vwZero.toList 25 HZ.out (by decide) ?_)
    intro w3 hB3 g2 hz3
    rw [patch_all _ _ (by rfl)] at hB3
    have HE := hide (HEND.out w3 hB3 g2)
    go_wp2_with fail
    exact bodyPost_cell2 strcV rfl (w.heap.size + 1) rfl (.int .i64 2) rfl rfl hB3 rfl HE.out

set_option maxRecDepth 100000 in
set_option maxHeartbeats 4000000 in
theorem RFill_in {S : Nat → Prop} {cs : List Value} {V : Vw} {k : Nat} {back : Int} {more : Bool} {v : Value} {l : List Ev} {w : World} (hv : VwR w S cs V) (hr : EvsR w S v l) (hl : V.events.length + l.length ≤ 1048576 ∧ V.gaps.length ≤ 1048576) (hin : V.inside) (hk : k < V.gaps.length) :
    Calls Try.prog 26 #[.agg cs.toArray, .int .i64 (k : Int), v, .int .i64 back, .bool more] w (GivesVE S (fillAt V k V.gaps[k] l back more) 0 w) := by
  obtain ⟨A0, c0, A2, c2, A3, c3, rfl, h1, h2, h3⟩ := hv.form
  obtain ⟨A, c, _, rfl, _⟩ := hr.form
  obtain ⟨hl1, hl2⟩ := hl
  obtain ⟨A2', c2', hgx, hc2, hm2, ha2, hrg, hlk⟩ := h2.form
  injection hgx with e1 e2 e3
  subst e1 e3
  clear e2
  have F0 := fr_two h1 h2 h3
  have hg0 := hin V.gaps[k] (List.getElem_mem hk)
  obtain ⟨gb, hgb⟩ : ∃ n : Nat, V.gaps[k].1 = (n : Int) := ⟨V.gaps[k].1.toNat, by omega⟩
  have hgl : gb < V.events.length := by omega
  have HGB := hide hgb
  have HIN := hide hin
  clear hg0 hgb hin hv
  obtain ⟨bg, og, rfl, hbg, hcg⟩ := Row.fix hrg (kcs_get V.gaps k hk).1
  have CG := hide hcg
  clear hcg
  go_enter Try.func26, Try.ntmps26
  go_upto_region 1 with (refine wpList_zeroS rfl rfl strcV ?_)
  go_simp
  generalize hW : (w.alloc (.cells (vwCells V (.slice A0 V.events.length c0) (.slice (some ⟨bg, og, none⟩) V.gaps.length c2) (.slice A3 V.state.length c3)).toArray 25)).alloc (.cells vwZero 25) = W at *
  clear hW
  have r3 := F0.c3
  have i0 : (0 : Int) ≤ (k : Int) := by omega
  have i1 : (k : Int) < (V.gaps.length : Int) := by omega
  have t0 : decide ((k : Int) < 0) = false := decide_eq_false (by omega)
  have t1 : decide (V.gaps.length ≤ k) = false := decide_eq_false (by omega)
  go_upto_region 3 with fail
  clear r3 t0 t1
  have hbx : Below W.heap.size W W.drew := ext_drew (ext_refl W)
  have F1 := F0.ext hbx
  obtain ⟨wd, hWD⟩ : ∃ wd, wd = W.drew := ⟨_, rfl⟩
  rw [← hWD] at F1
  refine wp_region_phase (fun w' => CellsAt w' ⟨w.heap.size, 0, none⟩ (vwCells V (.slice A0 V.events.length c0) (.slice (some ⟨bg, og, none⟩) V.gaps.length c2) (.slice A3 V.state.length c3))) [] (by kernel_rfl) ?_
  rw [show { W with drawn := W.drawn + 1 } = wd from hWD.symm]
  have T1 := box_all F1.box
  clear hWD hbx F0
  refine wpAnyP_take (i := 0) rfl (by kernel_rfl) (by kernel_rfl) (by kernel_rfl) (by kernel_rfl) (fun _ _ _ h => h) (yieldsIf_loadS rfl (.tmp 5) rfl strcV ⟨w.heap.size, 0, none⟩ rfl _ rfl (fun w' hT => hT)) T1 ?_
  refine wpAnyP_take (i := 1) rfl (by kernel_rfl) (by kernel_rfl) (by kernel_rfl) (by kernel_rfl) (fun _ _ _ h => h) (yieldsIf_loadS rfl (.tmp 5) rfl strcV ⟨w.heap.size, 0, none⟩ rfl _ rfl (fun w' hT => hT)) T1 ?_
  refine wpAnyP_take (i := 2) rfl (by kernel_rfl) (by kernel_rfl) (by kernel_rfl) (by kernel_rfl) (fun _ _ _ h => h) (yieldsIf_run (.slice A l.length c) rfl (fun w' => by go_simp)) T1 ?_
  go_simp
  clear T1
  refine wpAnyP_one' (i := 3) (by kernel_rfl) rfl ?_
  go_wp2_with fail
  refine (RBehind_any F1.view ((hr.weak (S' := S4 S w.heap.size 2) fun b hb hlt => .inl ⟨hb, hlt⟩).ext F1.below) (by omega) (by omega)).mono ?_
  rintro x w2 ⟨v2, rfl, ho2, hb2⟩
  have F2 := F1.ext hb2
  have T2 := box_all F2.box
  clear hb2 F1
  go_wp2_with fail
  refine nextP T2 ?_
  go_simp
  clear T2
  have hdl : (l.drop (behindN (ids V.events) l)).length ≤ l.length := by simp
  have hca := RFresh_any F2.view ho2 (by omega) (by omega)
  have hadd : addL V l = freshL (ids V.events) (l.drop (behindN (ids V.events) l)) := rfl
  rw [← hadd] at hca
  have hfl := addL_length V l
  obtain ⟨fr, hfr⟩ : ∃ x, x = addL V l := ⟨_, rfl⟩
  rw [← hfr] at hca hfl
  have HFR := hide hfr
  clear hfr hadd hdl
  refine wpAnyP_one' (i := 4) (by kernel_rfl) rfl ?_
  go_wp2_with fail
  refine hca.mono ?_
  rintro x w4 ⟨v4, rfl, ho4, hb4⟩
  have F4 := F2.ext hb4
  have hz1 := F2.size
  have T4 := box_all F4.box
  obtain ⟨A4, c4, _, rfl, _⟩ := (OwnE.evs ho4).form
  have E4 : FldE w w4 S 2 (.slice A4 fr.length c4) fr := FldE.made ho4 hz1 fun x hx _ => hx.1
  clear ho4 hb4 hca F2 ho2
  go_wp2_with fail
  refine nextP T4 ?_
  go_simp
  refine wpAnyP_one' (i := 5) (by kernel_rfl) rfl ?_
  go_wp2_with fail
  refine nextP T4 (wpAnyP_done (by kernel_rfl) ?_)
  clear T4
  go_simp
  have r2 := F4.c2
  have r3 := F4.c3
  have rg0 := CG.out _ _ (kcs_get V.gaps k hk).1
  rw [HGB.out] at rg0
  have rg4 : w4.cell? ⟨bg, og + k * 2, none⟩ = some (.int .i64 (gb : Int)) := by rw [F4.below.cell (p := ⟨bg, og + k * 2, none⟩) hbg]; exact rg0
  have t0 : decide ((gb : Int) < 0) = false := decide_eq_false (by omega)
  have t1 : decide (V.events.length < gb) = false := decide_eq_false (by omega)
  have hz4 := F4.size
  have hhead := run_head elemG (some ⟨bg, og, none⟩) V.gaps.length c2 k (by omega)
  have hkc := kcs_take V.gaps k
  have hx6 : Below w4.heap.size w4 (w4.alloc (.cells #[] 55)) := ext_alloc (ext_refl _) _
  have own6 : (w4.alloc (.cells #[] 55)).ownsRow w4.heap.size 55 2 (.slice (some ⟨w4.heap.size, 0, none⟩) 0 0) 0 [] := own_empty w4 _ _
  have hrt := (hrg.ext (F4.ext hx6).below).take (k * 2)
  rw [← hkc] at hrt
  have hkt : (kcs (V.gaps.take k)).length = k * 2 := by rw [kcs_length, List.length_take, Nat.min_eq_left (by omega)]
  have r36 := (F4.ext hx6).c3
  clear hkc
  go_wp2_with (first
    | refine wpList_build0 (te := 0) rfl rfl Try.underlying23 strcG (by decide) (by decide) ?_
    | (at_builtin; go_must (refine wpList_append_row rfl (.tmp 48) (.tmp 52) rfl elemG w4.heap.size _ 0 [] rfl own6 _ k c2 (some ⟨bg, og, none⟩) (kcs (V.gaps.take k)) hkt rfl hrt (fun h => by cases h) (kcs_one _) (by unfold maxLen; omega) (by omega) hx6.size ?_)))
  intro v6 w6 ho6 hg6
  have hb6 : Below w4.heap.size w4 w6 := below_of_own hx6 own6 hg6 hx6.size (Nat.le_refl _)
  obtain ⟨A6, c6, rfl, _⟩ := own_form ho6
  clear hhead hrt hkt hg6 r3 r2 rg4 r36 hx6 own6 t0 t1
  go_upto_region 8 with fail
  obtain ⟨mt, hmt⟩ : ∃ b, b = metL (ids V.events) l := ⟨_, rfl⟩
  obtain ⟨tb, htb⟩ : ∃ b, b = (more && !mt) := ⟨_, rfl⟩
  have F6 := F4.ext hb6
  have hme := RMet_any F6.view ((hr.weak (S' := S4 S w.heap.size 2) fun b hb hlt => .inl ⟨hb, hlt⟩).ext F6.below) (by omega) (by omega)
  rw [← hmt] at hme
  have HME := hide hme; have HMT := hide hmt
  clear hme hmt
  go_cut [60] (fun t wx => t = .bool tb ∧ Below w6.heap.size w6 wx)
  case first =>
    cases more
    · have : tb = false := by rw [htb]; rfl
      subst this
      clear htb
      go_wp2_with fail
      go_meet
      exact ⟨rfl, ext_refl _⟩
    · go_wp2_with (refine fr_loadS F6 rfl (.tmp 5) rfl rfl rfl ?_)
      refine HME.out.mono ?_
      rintro x w7 ⟨rfl, hb7⟩
      cases mt
      · have : tb = true := by rw [htb]; rfl
        subst this
        clear htb
        go_wp2_with fail
        go_meet
        exact ⟨rfl, hb7⟩
      · have : tb = false := by rw [htb]; rfl
        subst this
        clear htb
        go_wp2_with fail
        go_meet
        exact ⟨rfl, hb7⟩
  case rest =>
    obtain ⟨rfl, hb67⟩ := hcut
    have HTB := hide htb
    have ho7 := own_below ho6 hb67
    have hb7 := hb6.trans (hb67.mono hb6.size)
    clear htb ho6 hb6 hb67 F6
    go_upto_if 60 with fail
    go_cut [14] (fun v wx => wx.ownsRow w4.heap.size 55 2 v (fillG V k V.gaps[k].1 l back more).length (kcs (fillG V k V.gaps[k].1 l back more)) ∧ Below w4.heap.size w4 wx)
    case first =>
      have hfg : fillG V k V.gaps[k].1 l back more = if tb then V.gaps.take k ++ [((gb : Int), back)] else V.gaps.take k := by unfold fillG; rw [HGB.out, ← HMT.out, HTB.out]
      have hkl : (V.gaps.take k).length = k := by rw [List.length_take]; omega
      cases tb
      · have HG : Hid (fillG V k V.gaps[k].1 l back more = V.gaps.take k) := hfg
        clear hfg rg0
        have HKL := hide hkl
        clear hkl
        go_wp2_with fail
        go_meet
        rw [HG.out, HKL.out]
        exact ⟨ho7, hb7⟩
      · have HG : Hid (fillG V k V.gaps[k].1 l back more = V.gaps.take k ++ [((gb : Int), back)]) := hfg
        clear hfg rg0
        have HKL := hide hkl
        clear hkl
        go_wp2_with (first
          | refine wpList_buildS (te := 0) rfl (.tmp 64) rfl Try.underlying23 strcG (by decide) (by decide) #[.int .i64 (gb : Int), .int .i64 back] rfl rfl ?_
          | (at_builtin; go_must (refine wpList_append_new rfl (.tmp 61) (.tmp 65) rfl elemG w4.heap.size _ k (kcs (V.gaps.take k)) rfl ho7 1 _ rfl rfl (by simp [Value.oneCell']) (by decide) (by unfold maxLen; omega) (by omega) hb7.size ?_)))
        intro v5 w5 ho5 hg5
        have hb5 : Below w4.heap.size w4 w5 := below_of_own hb7 ho7 hg5 hb7.size (Nat.le_refl _)
        have HO5 := hide ho5
        clear ho5 hg5
        go_wp2_with fail
        go_meet
        rw [HG.out, kcs_append, List.length_append, HKL.out]
        exact ⟨HO5.out, hb5⟩
    case rest =>
      clear ho7 hb7
      obtain ⟨ho7, hb7⟩ := hcut
      have hfgl := fillG_length V k V.gaps[k].1 l back more
      obtain ⟨G, hG⟩ : ∃ G, G = fillG V k V.gaps[k].1 l back more := ⟨_, rfl⟩
      rw [← hG] at ho7 hfgl
      have HG := hide hG
      clear hG
      obtain ⟨A7, c7, rfl, _⟩ := own_form ho7
      have hrest : (V.gaps.drop (k + 1)).length = V.gaps.length - (k + 1) := by simp
      go_wp2_with fail
      go_loopw [14, 15] (fun v i wr => ∃ j : Nat, k + 1 + j ≤ V.gaps.length ∧ i = .int .i64 ((k + 1 + j : Nat) : Int) ∧ wr.ownsRow w4.heap.size 55 2 v (G.length + j) (kcs (G ++ shiftG fr.length ((V.gaps.drop (k + 1)).take j))) ∧ Below w4.heap.size w4 wr) (fun _ i _ => V.gaps.length - (intOf i).toNat)
      case atStart => exact ⟨0, by omega, by go_num, by simpa [shiftG] using ho7, hb7⟩
      case round =>
        clear ho7 hb7
        obtain ⟨j, hj, rfl, ho7, hb7⟩ := hrel
        have F7 := F4.ext hb7
        have r3 := F7.c3
        obtain ⟨q, hq⟩ : ∃ q, q = k + 1 + j := ⟨_, rfl⟩
        rw [← hq] at hj
        rw [← hq]
        have HQ := hide hq
        clear hq
        by_cases hlt : q < V.gaps.length
        · have j0 : (0 : Int) ≤ (q : Int) := by omega
          have j1 : (q : Int) < (V.gaps.length : Int) := by omega
          go_upto_region 13 with fail
          have hbx : Below wr.heap.size wr wr.drew := ext_drew (ext_refl wr)
          have hb8 := hb7.trans (hbx.mono hb7.size)
          have F8 := F4.ext hb8
          have ho8 := own_below ho7 hbx
          obtain ⟨wd, hWD⟩ : ∃ wd, wd = wr.drew := ⟨_, rfl⟩
          rw [← hWD] at F8 ho8 hb8
          have HWD := hide hWD
          have g1 := CG.out _ _ (kcs_get V.gaps q hlt).1
          have g2 := CG.out _ _ (kcs_get V.gaps q hlt).2
          have hgx := HIN.out V.gaps[q] (List.getElem_mem hlt)
          obtain ⟨x, hx⟩ : ∃ n : Nat, V.gaps[q].1 = (n : Int) := ⟨V.gaps[q].1.toNat, by omega⟩
          have hxl : x < V.events.length := by omega
          obtain ⟨y, hy⟩ : ∃ y, y = V.gaps[q].2 := ⟨_, rfl⟩
          have hjr : j < (V.gaps.drop (k + 1)).length := by have := HQ.out; rw [hrest]; omega
          have hge : (V.gaps.drop (k + 1))[j] = V.gaps[q] := by rw [List.getElem_drop]; congr 1; exact HQ.out.symm
          have hst := shiftG_step fr.length hjr
          rw [hge, hx, ← hy] at hst
          rw [hx] at g1
          rw [← hy, ← Nat.add_assoc] at g2
          have HST := hide hst
          have r81 : wd.cell? ⟨bg, og + q * 2, none⟩ = some (.int .i64 (x : Int)) := by rw [F8.below.cell (p := ⟨bg, og + q * 2, none⟩) hbg]; exact g1
          have r82 : wd.cell? ⟨bg, og + q * 2 + 1, none⟩ = some (.int .i64 y) := by rw [F8.below.cell (p := ⟨bg, og + q * 2 + 1, none⟩) hbg]; exact g2
          have hwr : IntKind.i64.wrap ((x : Int) + (fr.length : Int)) = (x : Int) + (fr.length : Int) := IntWalk.i64_in _ (by omega)
          have HW := hide hwr
          have hshl : G.length + j ≤ 2097153 := by have := HQ.out; omega
          obtain ⟨gj, hgj⟩ : ∃ n, n = G.length + j := ⟨_, rfl⟩
          obtain ⟨KC, hKC⟩ : ∃ n, n = kcs (G ++ shiftG fr.length ((V.gaps.drop (k + 1)).take j)) := ⟨_, rfl⟩
          rw [← hgj, ← hKC] at ho8
          rw [← hgj] at hshl
          have HGJ := hide hgj; have HKC := hide hKC
          have hb8s := hb8.size
          clear hWD hbx hb7 F7 r3 g1 g2 hgx hx hy hge hst hwr hgj hKC ho7
          refine wp_region_phase (fun w' => w'.heap[w.heap.size]? = some (.cells (vwCells V (.slice A0 V.events.length c0) (.slice (some ⟨bg, og, none⟩) V.gaps.length c2) (.slice A3 V.state.length c3)).toArray 25 (0, 0)) ∧ w'.cell? ⟨bg, og + q * 2, none⟩ = some (.int .i64 (x : Int)) ∧ w'.cell? ⟨bg, og + q * 2 + 1, none⟩ = some (.int .i64 y)) [] (by kernel_rfl) ?_
          rw [show { wr with drawn := wr.drawn + 1 } = wd from HWD.out.symm]
          have T1 := And.intro F8.box (And.intro r81 r82)
          refine wpAnyP_take (i := 0) rfl (by kernel_rfl) (by kernel_rfl) (by kernel_rfl) (by kernel_rfl) (fun _ _ _ h => h) (yieldsIf_run (u14) rfl (fun w' => by go_simp)) T1 ?_
          refine wpAnyP_take (i := 1) rfl (by kernel_rfl) (by kernel_rfl) (by kernel_rfl) (by kernel_rfl) (fun _ _ _ h => h) (yieldsIf_run (.pointer (some ⟨w.heap.size, 3, none⟩)) rfl (fun w' => by go_simp)) T1 ?_
          refine wpAnyP_take (i := 2) rfl (by kernel_rfl) (by kernel_rfl) (by kernel_rfl) (by kernel_rfl) (fun _ _ _ h => h) (yieldsIf_load rfl rfl Try.underlying23 rfl rfl (fun w' hT => box_at hT.1 rfl)) T1 ?_
          go_simp
          refine wpAnyP_take (i := 3) rfl (by kernel_rfl) (by kernel_rfl) (by kernel_rfl) (by kernel_rfl) (fun _ _ _ h => h) (yieldsIf_run (.int .i64 (q : Int)) rfl (fun w' => by go_simp)) T1 ?_
          refine wpAnyP_take (i := 4) rfl (by kernel_rfl) (by kernel_rfl) (by kernel_rfl) (by kernel_rfl) (fun _ _ _ h => h) (yieldsIf_run (.pointer (some ⟨bg, og + q * 2, none⟩)) rfl (fun w' => by go_simp)) T1 ?_
          refine wpAnyP_take (i := 5) rfl (by kernel_rfl) (by kernel_rfl) (by kernel_rfl) (by kernel_rfl) (fun _ _ _ h => h) (yieldsIf_run (.pointer (some ⟨bg, og + q * 2, none⟩)) rfl (fun w' => by go_simp)) T1 ?_
          refine wpAnyP_take (i := 6) rfl (by kernel_rfl) (by kernel_rfl) (by kernel_rfl) (by kernel_rfl) (fun _ _ _ h => h) (yieldsIf_load rfl rfl Try.underlying3 rfl rfl (fun w' hT => hT.2.1)) T1 ?_
          go_simp
          refine wpAnyP_take (i := 7) rfl (by kernel_rfl) (by kernel_rfl) (by kernel_rfl) (by kernel_rfl) (fun _ _ _ h => h) (yieldsIf_run (.slice A4 fr.length c4) rfl (fun w' => by go_simp)) T1 ?_
          refine wpAnyP_take (i := 8) rfl (by kernel_rfl) (by kernel_rfl) (by kernel_rfl) (by kernel_rfl) (fun _ _ _ h => h) (yieldsIf_run (.int .i64 (fr.length : Int)) rfl (fun w' => by go_simp)) T1 ?_
          go_simp
          have hwr := HW.out
          refine wpAnyP_take (i := 9) rfl (by kernel_rfl) (by kernel_rfl) (by kernel_rfl) (by kernel_rfl) (fun _ _ _ h => h) (yieldsIf_run (.int .i64 ((x : Int) + (fr.length : Int))) rfl (fun w' => by go_simp)) T1 ?_
          clear hwr
          refine wpAnyP_take (i := 10) rfl (by kernel_rfl) (by kernel_rfl) (by kernel_rfl) (by kernel_rfl) (fun _ _ _ h => h) (yieldsIf_run (.pointer (some ⟨w.heap.size, 3, none⟩)) rfl (fun w' => by go_simp)) T1 ?_
          refine wpAnyP_take (i := 11) rfl (by kernel_rfl) (by kernel_rfl) (by kernel_rfl) (by kernel_rfl) (fun _ _ _ h => h) (yieldsIf_load rfl rfl Try.underlying23 rfl rfl (fun w' hT => box_at hT.1 rfl)) T1 ?_
          go_simp
          refine wpAnyP_take (i := 12) rfl (by kernel_rfl) (by kernel_rfl) (by kernel_rfl) (by kernel_rfl) (fun _ _ _ h => h) (yieldsIf_run (.int .i64 (q : Int)) rfl (fun w' => by go_simp)) T1 ?_
          refine wpAnyP_take (i := 13) rfl (by kernel_rfl) (by kernel_rfl) (by kernel_rfl) (by kernel_rfl) (fun _ _ _ h => h) (yieldsIf_run (.pointer (some ⟨bg, og + q * 2, none⟩)) rfl (fun w' => by go_simp)) T1 ?_
          refine wpAnyP_take (i := 14) rfl (by kernel_rfl) (by kernel_rfl) (by kernel_rfl) (by kernel_rfl) (fun _ _ _ h => h) (yieldsIf_run (.pointer (some ⟨bg, og + q * 2 + 1, none⟩)) rfl (fun w' => by go_simp)) T1 ?_
          refine wpAnyP_take (i := 15) rfl (by kernel_rfl) (by kernel_rfl) (by kernel_rfl) (by kernel_rfl) (fun _ _ _ h => h) (yieldsIf_load rfl rfl Try.underlying3 rfl rfl (fun w' hT => hT.2.2)) T1 ?_
          go_simp
          refine wpAnyP_take (i := 16) rfl (by kernel_rfl) (by kernel_rfl) (by kernel_rfl) (by kernel_rfl) (fun _ _ _ h => h) (yieldsIf_run (.agg #[.int .i64 ((x : Int) + (fr.length : Int)), .int .i64 y]) rfl (fun w' => by go_simp)) T1 ?_
          go_simp
          have hxA : Below wd.heap.size wd (wd.alloc (.cells #[.int .i64 ((x : Int) + (fr.length : Int)), .int .i64 y] 55)) := ext_alloc (ext_refl _) _
          have TA := And.intro (F8.ext hxA).box (And.intro ((hxA.cell (p := ⟨bg, og + q * 2, none⟩) (Nat.lt_of_lt_of_le hbg F8.below.size)).trans r81) ((hxA.cell (p := ⟨bg, og + q * 2 + 1, none⟩) (Nat.lt_of_lt_of_le hbg F8.below.size)).trans r82))
          clear T1
          refine wpAnyP_one' (i := 17) (by kernel_rfl) rfl ?_
          refine wpList_buildS (te := 0) rfl (.tmp 92) rfl Try.underlying23 strcG (by decide) (by decide) #[.int .i64 ((x : Int) + (fr.length : Int)), .int .i64 y] rfl rfl ?_
          refine nextP TA ?_
          clear TA hxA
          go_simp
          refine wpAnyP_one' (i := 18) (by kernel_rfl) rfl ?_
          refine wpList_append_new rfl (.tmp 76) (.tmp 93) rfl elemG w4.heap.size _ gj KC rfl ho8 1 _ rfl rfl (by simp [Value.oneCell']) (by decide) (by unfold maxLen; omega) (by omega) hb8s ?_
          intro v5 w5 ho5 hg5
          have hb5 : Below w4.heap.size w4 w5 := below_of_own hb8 ho8 hg5 hb8s (Nat.le_refl _)
          have F5 := F4.ext hb5
          have hbg4 := Nat.lt_of_lt_of_le hbg F4.below.size
          have r41 : w4.cell? ⟨bg, og + q * 2, none⟩ = some (.int .i64 (x : Int)) := by rw [← hb8.cell (p := ⟨bg, og + q * 2, none⟩) hbg4]; exact r81
          have r42 : w4.cell? ⟨bg, og + q * 2 + 1, none⟩ = some (.int .i64 y) := by rw [← hb8.cell (p := ⟨bg, og + q * 2 + 1, none⟩) hbg4]; exact r82
          have T5 := And.intro F5.box (And.intro ((hb5.cell (p := ⟨bg, og + q * 2, none⟩) hbg4).trans r41) ((hb5.cell (p := ⟨bg, og + q * 2 + 1, none⟩) hbg4).trans r42))
          have HO5 := hide ho5
          clear ho5 hg5 ho8 hb8 r81 r82 r41 r42 F8
          refine nextP T5 ?_
          go_simp
          refine wpAnyP_one' (i := 19) (by kernel_rfl) rfl ?_
          go_wp2_with fail
          refine nextP T5 (wpAnyP_done (by kernel_rfl) ?_)
          clear T5
          go_simp
          go_wp2_with fail
          go_roundw
          case rel =>
            refine ⟨j + 1, by have := HQ.out; omega, by have := HQ.out; rw [show k + 1 + (j + 1) = q + 1 by omega]; go_num, ?_, hb5⟩
            rw [HST.out, ← List.append_assoc, kcs_append, ← HKC.out, ← Nat.add_assoc, ← HGJ.out]
            exact HO5.out
          case measure => simp [intOf]; omega
        · obtain rfl : q = V.gaps.length := by omega
          have hrt : (V.gaps.drop (k + 1)).take j = V.gaps.drop (k + 1) := List.take_of_length_le (by have := HQ.out; rw [hrest]; omega)
          rw [hrt] at ho7
          have hle : G.length + j = (G ++ shiftG fr.length (V.gaps.drop (k + 1))).length := by have := HQ.out; rw [List.length_append, shiftG_length, hrest]; omega
          rw [hle] at ho7
          have hfin : fillAt V k V.gaps[k] l back more = { V with events := V.events.take gb ++ (fr ++ V.events.drop gb), gaps := G ++ shiftG fr.length (V.gaps.drop (k + 1)) } := by
            unfold fillAt
            rw [HG.out, HFR.out, HGB.out, Int.toNat_natCast]
          obtain ⟨NG, hNG⟩ : ∃ x, x = G ++ shiftG fr.length (V.gaps.drop (k + 1)) := ⟨_, rfl⟩
          rw [← hNG] at ho7 hfin
          have HFIN := hide hfin
          have G7 : FldG w wr 2 u14 NG := .inr (own_more ho7 hz4)
          have E7 := E4.ext hb7
          clear hrt hle hfin hNG ho7
          have hx9 : Below wr.heap.size wr (wr.alloc (.cells #[] 68)) := ext_alloc (ext_refl _) _
          have own9 : (wr.alloc (.cells #[] 68)).ownsRow wr.heap.size 68 29 (.slice (some ⟨wr.heap.size, 0, none⟩) 0 0) 0 [] := own_empty wr _ _
          have r9 := (F7.ext hx9).c2
          have hz7 := F7.size
          obtain ⟨cse, hse, hte⟩ := (F7.ev.get F7.below)
          obtain ⟨Ax, cx, hxe, hnx, _, hax, hrx, hlx⟩ := hse.form
          injection hxe with e1 e2 e3
          subst e1 e3
          obtain ⟨csf, hsf, htf⟩ := (E7.get F7.below)
          obtain ⟨Ay, cy, hye, _, _, hay, hry, hly⟩ := hsf.form
          injection hye with e4 e5 e6
          subst e4 e6
          have hhead := run_head elemE A0 V.events.length c0 gb (by omega)
          have hcut := run_cut elemE A0 V.events.length c0 gb (by omega)
          have hr1 := hrx.take (gb * 29)
          rw [flat_take gb (told_size hte)] at hr1
          have hr2 := hrx.cutA (size := 29) (k := gb) hlx hnx
          rw [flat_drop gb (told_size hte)] at hr2
          have ht1 := hte.take gb
          have ht2 := hte.drop gb
          have hl1' : (cse.take gb).flatten.length = gb * 29 := by rw [told_len ht1, List.length_take, Nat.min_eq_left (by omega)]
          have hl2' : (cse.drop gb).flatten.length = (V.events.length - gb) * 29 := by rw [told_len ht2, List.length_drop]
          have ho1 := told_one ht1
          have ho2 := told_one ht2
          have hof := told_one htf
          have hAc : cutA A0 c0 gb 29 = none → V.events.length - gb = 0 := fun h => by
            unfold cutA at h
            split at h
            · have := hax h; omega
            · have := hax (by simpa using h); omega
          have hfl1 : ((cse.take gb) ++ (csf ++ (cse.drop gb))).flatten = (cse.take gb).flatten ++ csf.flatten ++ (cse.drop gb).flatten := by simp
          have HT := hide (ht1.append (htf.append ht2))
          obtain ⟨m2, hm2'⟩ : ∃ x, x = V.events.length - gb := ⟨_, rfl⟩
          obtain ⟨X1, hX1⟩ : ∃ x, x = (cse.take gb).flatten := ⟨_, rfl⟩
          obtain ⟨X2, hX2⟩ : ∃ x, x = csf.flatten := ⟨_, rfl⟩
          obtain ⟨X3, hX3⟩ : ∃ x, x = (cse.drop gb).flatten := ⟨_, rfl⟩
          rw [← hX1, ← hX2, ← hX3] at hfl1
          rw [← hX1] at hr1 hl1' ho1
          rw [← hX2] at hry hly hof
          rw [← hX3] at hr2 hl2' ho2
          rw [← hm2'] at hcut hl2' hAc
          have hm2l : gb + fr.length + m2 ≤ 1048576 := by omega
          have hcnt : (V.events.take gb ++ (fr ++ V.events.drop gb)).length = gb + fr.length + m2 := by simp only [List.length_append, List.length_take, List.length_drop]; omega
          have HFL := hide hfl1; have HCN := hide hcnt
          have hr19 := hr1.ext hx9
          clear hte hse e2 e5 htf hsf hrx hlx ht1 ht2 hm2' hX1 hX2 hX3 hfl1 hcnt
          go_wp2_with (first
            | refine wpList_build0 (te := 0) rfl rfl Try.underlying22 strcE (by decide) (by decide) ?_
            | (at_builtin; go_must (refine wpList_append_row rfl (.tmp 95) (.tmp 99) rfl elemE wr.heap.size _ 0 [] rfl own9 _ gb c0 A0 X1 hl1' rfl hr19 (fun h => by have := hax h; omega) ho1 (by unfold maxLen; omega) (by omega) hx9.size ?_)))
          intro v9 w9 ho9 hg9
          have hb9 : Below wr.heap.size wr w9 := below_of_own hx9 own9 hg9 hx9.size (Nat.le_refl _)
          have hry9 := hry.ext hb9
          clear hr19 own9 hg9 r9 hry hhead
          go_wp2_with (at_builtin; go_must (refine wpList_append_row rfl (.tmp 101) (.tmp 102) rfl elemE wr.heap.size _ gb X1 rfl ho9 _ fr.length c4 A4 X2 hly rfl hry9 hay hof (by unfold maxLen; omega) (by omega) hb9.size ?_))
          intro v10 w10 ho10 hg10
          have hb10 : Below wr.heap.size wr w10 := below_of_own hb9 ho9 hg10 hb9.size (Nat.le_refl _)
          have r10 := (F7.ext hb10).c2
          have hr210 := hr2.ext hb10
          obtain ⟨gf, hgf⟩ : ∃ n, n = gb + fr.length := ⟨_, rfl⟩
          obtain ⟨X12, hX12⟩ : ∃ x, x = X1 ++ X2 := ⟨_, rfl⟩
          rw [← hgf, ← hX12] at ho10
          rw [← hgf] at hm2l HCN
          rw [← hX12] at HFL
          clear ho9 hb9 hg10 hry9 hr2 hgf hX12
          go_wp2_with (at_builtin; go_must (refine wpList_append_row rfl (.tmp 104) (.tmp 108) rfl elemE wr.heap.size _ gf X12 rfl ho10 _ m2 (c0 - gb) (cutA A0 c0 gb 29) X3 hl2' rfl hr210 hAc ho2 (by unfold maxLen; omega) (by omega) hb10.size ?_))
          intro v11 w11 ho11 hg11
          have hb11 : Below wr.heap.size wr w11 := below_of_own hb10 ho10 hg11 hb10.size (Nat.le_refl _)
          have F9 := F7.ext hb11
          have G9 := G7.ext hb11
          have E9 : FldE w w11 S 2 v11 (V.events.take gb ++ (fr ++ V.events.drop gb)) := by
            refine FldE.made (B := wr.heap.size) (S' := S4 S w.heap.size 2) ⟨_, ?_, HT.out.imp fun _ _ h => h.ext hb11⟩ hz7 fun x hx _ => hx
            rw [HCN.out, HFL.out]
            exact ho11
          clear ho10 hb10 ho11 hg11 hb11 HT F7 G7 E7 hr210 r10 hcut
          go_wp2_with (refine fr_store F9 rfl _ _ rfl rfl sizeSl 2 (by decide) rfl v11 rfl E9.one { V with events := V.events.take gb ++ (fr ++ V.events.drop gb) } _ _ _ rfl E9 F9.ga F9.st ?_)
          intro w12 F10 g10
          have hm10 := F9.size
          have G10 := G9.store g10 (by omega)
          clear F9 G9 E9 g10 hm10
          go_wp2_with (refine fr_store F10 rfl _ _ rfl rfl sizeSg 3 (by decide) rfl u14 rfl G10.one { V with events := V.events.take gb ++ (fr ++ V.events.drop gb), gaps := NG } _ _ _ rfl F10.ev G10 F10.st ?_)
          intro w13 F11 _
          clear F10 G10
          go_wp2_with (first
            | refine fr_loadS F11 rfl (.tmp 5) rfl rfl rfl ?_
            | refine wpList_storeB rfl (.tmp 10) (.tmp 113) rfl rfl strcV (w.heap.size + 1) 0 rfl _ rfl rfl F11.one vwZero.toList 25 (F11.obs 0 _ rfl) (by decide) ?_)
          intro w14 hB12 g12 hz12
          rw [patch_all _ _ (by rfl)] at hB12
          have HEND : Hid (GivesVE S (fillAt V k V.gaps[k] l back more) 0 w (.returned (.tuple #[.agg (vwCells { V with events := V.events.take gb ++ (fr ++ V.events.drop gb), gaps := NG } v11 u14 (.slice A3 V.state.length c3)).toArray, .int .i64 0])) w14) := by
            rw [HFIN.out]
            exact GivesVE.of (F11.gives g12 (by omega) (by omega))
          go_wp2_with fail
          exact bodyPost_cell2 strcV rfl (w.heap.size + 1) rfl (.int .i64 0) rfl rfl hB12 rfl HEND.out
theorem RFill_any {S : Nat → Prop} {cs : List Value} {V : Vw} {i back : Int} {more : Bool} {v : Value} {l : List Ev} {w : World} (hv : VwR w S cs V) (hr : EvsR w S v l) (hl : V.events.length + l.length ≤ 1048576 ∧ V.gaps.length ≤ 1048576) (hin : V.inside) :
    Calls Try.prog 26 #[.agg cs.toArray, .int .i64 i, v, .int .i64 back, .bool more] w (GivesVE S (fillV V i l back more) (fillE V i) w) := by
  by_cases hi : i < 0 ∨ (V.gaps.length : Int) ≤ i
  · have h1 : fillV V i l back more = zeroVw := by unfold fillV outV; rw [if_pos (decide_eq_true hi)]
    have h2 : fillE V i = 2 := by unfold fillE outV; rw [if_pos (decide_eq_true hi)]
    rw [h1, h2]
    obtain ⟨A, c, _, rfl, _⟩ := hr.form
    exact RFill_out hv hl.2 hi
  · obtain ⟨k, rfl⟩ : ∃ n : Nat, i = (n : Int) := ⟨i.toNat, by omega⟩
    have hk : k < V.gaps.length := by omega
    have h1 : fillV V (k : Int) l back more = fillAt V k V.gaps[k] l back more := by
      unfold fillV outV
      rw [if_neg (by simpa using hi), Int.toNat_natCast, List.getElem?_eq_getElem hk]
    have h2 : fillE V (k : Int) = 0 := by unfold fillE outV; rw [if_neg (by simpa using hi)]
    rw [h1, h2]
    exact RFill_in hv hr hl hin hk
end Go.Proofs.Ytbehflldghhopaa

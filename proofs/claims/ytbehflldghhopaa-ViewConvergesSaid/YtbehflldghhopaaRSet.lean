/-
  The reference's set.
-/
import Derived.Test.YtbehflldghhopaaStripS
import Derived.Test.YtbehflldghhopaaPhases
import Derived.Deep.DeepCutAuto
set_option linter.unusedVariables false
set_option linter.unusedSimpArgs false
namespace Go.Proofs.Ytbehflldghhopaa
open Go.RowKit
attribute [local go_sem] Addr.add_mid

theorem row_of_box {w : World} {g B : Nat} {cs : List Value} {tb : TypeId} (h : w.heap[g]? = some (.cells cs.toArray tb (0, 0))) (hB : g < B) : Row w B (some ⟨g, 0, none⟩) cs := fun _ => ⟨_, rfl, hB, fun j u hu => by rw [Addr.add_mid, Nat.zero_add]; exact box_at h hu⟩
theorem box_row {w w' : World} {g : Nat} {o : Obj} {row : Option Nat} (hB : w.heap[g]? = some o) (hg : w.grownBy w' row) (hne : row ≠ some g) : w'.heap[g]? = some o := (hg.block g (Array.getElem?_eq_some_iff.1 hB).1 fun e => hne e.symm).trans hB

set_option maxRecDepth 100000 in
set_option maxHeartbeats 2000000 in
theorem RSet_any {S : Nat → Prop} {v : Value} {l : List Ev} {ce : List Value} {e : Ev} {w : World} (hr : EvsR w S v l) (he : EvR w S ce e) (hl : l.length ≤ 1048576) :
    Calls Try.prog 42 #[v, .agg ce.toArray] w (GivesO (fun b => S b ∨ w.heap.size ≤ b) (setL l e) w) := by
  have hr' := hr.weak (S' := fun b => S b ∧ b < w.heap.size) fun _ hb hlt => ⟨hb, hlt⟩
  obtain ⟨A0, c0, css0, rfl, p1, p2, p3, hr0, ht0⟩ := hr'.form
  have B0 := heap_alloc2_old w (.cells ce.toArray 68) (.cells #[] 68)
  have B1 := heap_alloc2_new w (.cells ce.toArray 68) (.cells #[] 68)
  have hbW := below_two w (.cells ce.toArray 68) (.cells #[] 68)
  have hz0 : ((w.alloc (.cells ce.toArray 68)).alloc (.cells #[] 68)).heap.size = w.heap.size + 2 := by simp
  have e3 := he.some3
  have e5 := he.some5
  have hne := he.length
  have hoe := he.one
  have HN := hide hne; have HEE := hide (he.weak (S' := fun b => S b ∧ b < w.heap.size) fun _ hb hlt => ⟨hb, hlt⟩); have HRR := hide hr'
  have hlf0 := told_len ht0
  have ho0 := told_one ht0
  clear hne he hr hr'
  obtain ⟨W, hW⟩ : ∃ W, W = (w.alloc (.cells ce.toArray 68)).alloc (.cells #[] 68) := ⟨_, rfl⟩
  rw [← hW] at B0 B1 hbW hz0
  have HZ := hide hz0
  have HW := hide hW.symm
  have r0 := hr0.ext hbW
  obtain ⟨F0, hF0⟩ : ∃ F0, F0 = css0.flatten := ⟨_, rfl⟩
  rw [← hF0] at r0 hlf0 ho0
  have own0 : W.ownsRow (w.heap.size + 1) 68 29 (.slice (some ⟨w.heap.size + 1, 0, none⟩) 0 0) 0 [] := ⟨rfl, .inr ⟨_, 0, #[], rfl, Nat.le_refl _, B1, Nat.le_refl _, Nat.zero_le _, rfl, rfl⟩⟩
  have hb1 : w.heap.size + 1 ≤ W.heap.size := by omega
  clear hz0 hW
  go_enter Try.func42, Try.ntmps42
  go_wp2_with (at_builtin; rw [HW.out]; go_must (refine wpList_append_row rfl (.tmp 8) (.tmp 9) rfl elemE (w.heap.size + 1) (.slice (some ⟨w.heap.size + 1, 0, none⟩) 0 0) 0 [] rfl own0 W.heap.size l.length c0 A0 F0 hlf0 rfl r0 p3 ho0 (by unfold maxLen; omega) (by omega) hb1 ?_))
  intro v1 w1 hown1 hg1
  have hnw1 : Below w.heap.size w w1 := by
    refine hbW.grown hg1 hbW.size fun q hq => ?_
    have h1 : w.heap.size + 1 = q := by simpa [Value.ownBlock] using hq
    omega
  have B01 : w1.heap[w.heap.size]? = some (.cells ce.toArray 68 (0, 0)) := box_grown B0 hg1 (by simp [Value.ownBlock])
  have ht1 := ht0.imp fun _ _ h => h.ext hnw1
  obtain ⟨A1, c1, css1, rfl, s1, s2, s3, hr1, hta⟩ := (OwnE.evs ⟨css0, hown1, ht1⟩).form
  clear own0 hb1 hg1 B0 B1 hF0 hlf0 ho0 r0
  have HT0 := hide ht1
  have HTS := hide ht0
  have HO1 := hide hown1
  clear hown1 ht1
  go_wp2_with fail
  go_loopw [6] (fun i wr => ∃ (k : Nat), k ≤ l.length ∧ i = .int .i64 (k : Int) ∧ Hid (∀ x ∈ l.take k, matchB e x = false) ∧ Below w1.heap.size w1 wr)
    (fun i _ => l.length - (intOf i).toNat)
  case atStart => exact ⟨0, Nat.zero_le _, rfl, by simp [Hid], ext_refl w1⟩
  case round =>
    obtain ⟨k, hk, rfl, HM, hnx⟩ := hrel
    have hnw := hnw1.trans (hnx.mono hnw1.size)
    have Br := box_below B01 hnx
    by_cases hlt : k < l.length
    · obtain ⟨b, o, ck, rfl, hb, hek, _, hc⟩ := evs_at (hr1.ext hnx) (hta.imp fun _ _ h => h.ext hnx) k hlt
      have hn1 := hek.length
      have h3 := hc 3 _ hek.some3
      have h5 := hc 5 _ hek.some5
      have q3 := box_at Br e3
      have q5 := box_at Br e5
      have i0 : (0 : Int) ≤ (k : Int) := by omega
      have i1 : (k : Int) < (l.length : Int) := by omega
      clear hc hek hn1
      have hmd : matchB e l[k] = (l[k].kind == e.kind && l[k].key.toList == e.key.toList) := rfl
      have HMD := hide hmd; clear hmd
      by_cases hmt : matchB e l[k] = true
      · have HF := hide (setL_match HM.out hlt hmt)
        have hkk : (l[k].kind == e.kind) = true := by rw [HMD.out] at hmt; simp only [Bool.and_eq_true] at hmt; exact hmt.1
        have hks : (l[k].key.toList == e.key.toList) = true := by rw [HMD.out] at hmt; simp only [Bool.and_eq_true] at hmt; exact hmt.2
        clear hmt HMD
        go_wp2_with fail
        go_quiet (fail)
        have hbq : Below wr.heap.size wr (wr.drewN nq) := below_drewN (ext_refl wr) nq
        have Bq := box_below Br hbq
        have hnxq := hnx.trans (hbq.mono hnx.size)
        have HOq := hide (own_below HO1.out hnxq)
        obtain ⟨g, cc, hv, hg1, hg2, _⟩ := own_block HOq.out (by omega) (by decide)
        injection hv with hv1 hv2 hv3
        injection hv1 with hv1
        injection hv1 with hv4 hv5
        subst hv4 hv5
        clear h3 h5 q3 q5 hkk hks hr1 hta
        go_wp2_with (first
          | refine wpList_loadS rfl (.tmp 3) rfl strcE ⟨w.heap.size, 0, none⟩ rfl ce HN.out (box_all Bq) ?_
          | refine wpList_storeS rfl (.tmp 38) (.tmp 37) rfl rfl strcE HOq.out k hlt ⟨b, k * 29, none⟩ (by rw [Addr.add_mid, Nat.zero_add]) rfl ce rfl HN.out hoe ?_)
        intro w3 hown3 hg3
        have hnw3 : Below w.heap.size w w3 := (hnw1.trans (hnxq.mono hnw1.size)).grown hg3 (hnw1.trans (hnxq.mono hnw1.size)).size (fun q hq => by injection hq with hq; omega)
        have hg4 : (wr.drewN nq).grownBy w3 (some b) := hg3
        have HTq := hide (HT0.out.imp fun _ _ h => h.ext hnxq)
        rw [flat_patch k ce (told_size HTq.out) (by rw [HTq.out.length]; exact hlt) HN.out] at hown3
        have ht3 : Told (EvR w3 (fun b => S b ∧ b < w.heap.size)) (css0.set k ce) (l.set k e) := (Told.set k HTq.out (HEE.out.ext (hnw1.trans (hnxq.mono hnw1.size)))).imp fun _ _ h => h.grown hg4 fun b' hb e => by injection e with e; omega
        have hset : (l.set k e).length = l.length := by simp
        have HO3 := hide hown3; have HT3 := hide ht3
        clear hown3 ht3 hg3 hg4
        go_wp2_with fail
        go_ret
        refine ⟨_, rfl, ⟨css0.set k ce, ?_, ?_⟩, hnw3⟩
        · rw [HF.out, hset]; exact own_more HO3.out (by omega)
        · rw [HF.out]; exact HT3.out.imp fun _ _ h => h.weak fun b hb _ => .inl hb.1
      · have hmt : matchB e l[k] = false := by simpa using hmt
        have HS := hide (none_step HM.out hlt hmt)
        have hcase : (l[k].kind == e.kind) = false ∨ ((l[k].kind == e.kind) = true ∧ (l[k].key.toList == e.key.toList) = false) := by
          rw [HMD.out] at hmt
          cases h1 : (l[k].kind == e.kind)
          · exact .inl rfl
          · rw [h1] at hmt; exact .inr ⟨rfl, by simpa using hmt⟩
        clear hmt HMD
        rcases hcase with hkk | ⟨hkk, hks⟩
        all_goals
          go_wp2_with fail
          go_quiet (fail)
          go_wp2_with fail
          go_roundw
          case rel => exact ⟨k + 1, by omega, by go_num, HS.out, below_drewN hnx _⟩
          case measure => simp [intOf]; omega
    · obtain rfl : k = l.length := by omega
      have HF := hide (setL_no (show ∀ x ∈ l, matchB e x = false by have := HM.out; rwa [List.take_length] at this))
      clear hr1 hta hk HO1 HT0
      go_wp2_with fail
      go_loopw [7] (fun i wz => ∃ (k : Nat), k ≤ l.length ∧ i = .int .i64 (k : Int) ∧ Hid (∀ x ∈ l.take k, aheadB e x = false) ∧ Below w.heap.size w wz ∧ wz.heap[w.heap.size]? = some (.cells ce.toArray 68 (0, 0)))
        (fun i _ => l.length - (intOf i).toNat)
      case atStart => exact ⟨0, Nat.zero_le _, rfl, by simp [Hid], hnw, Br⟩
      case round =>
        obtain ⟨k, hk, rfl, HM2, hwz, Bz⟩ := hrel
        obtain ⟨tb, HTB⟩ : ∃ tb : Bool, Hid (tb = (if h : k < l.length then !aheadB e l[k] else false)) := ⟨_, hide rfl⟩
        go_upto_region 9 with fail
        go_cut [52] (fun t wx => t = .bool tb ∧ Below w.heap.size w wx ∧ wx.heap[w.heap.size]? = some (.cells ce.toArray 68 (0, 0)))
        case first =>
          by_cases hlt : k < l.length
          · obtain ⟨b, o, ck, rfl, hb, hek, _, hc⟩ := evs_at (hr0.ext hwz) (HTS.out.imp fun _ _ h => h.ext hwz) k hlt
            have hn1 := hek.length
            have r1 : wr.rangeAt b (o + k * 29) ck := hc
            have i0 : (0 : Int) ≤ (k : Int) := by omega
            have i1 : (k : Int) < (l.length : Int) := by omega
            have HEK := hide hek; have HN1 := hide hn1
            have HTC := hide (show tb = !aheadB e l[k] by rw [HTB.out, dif_pos hlt])
            clear hc hek hn1 HTB
            refine wp_region_still_tail 10 (by kernel_rfl) (by kernel_rfl) ?_
            simp only [List.take_succ_cons, List.take_zero, List.drop_succ_cons, List.drop_zero]
            iterate 5 still_step
            refine still_loadS rfl (.tmp 3) rfl strcE ⟨w.heap.size, 0, none⟩ rfl ce HN.out (box_all Bz) ?_
            iterate 3 still_step
            refine still_loadS rfl (.tmp 48) rfl strcE ⟨b, o + k * 29, none⟩ rfl ck HN1.out (cells_range r1) ?_
            refine wpStill_nil ?_
            have hbd : Below wr.heap.size wr wr.drew := ext_drew (ext_refl wr)
            have HAH := hide (RAhead_any (w := wr.drew) (HEE.out.ext (hwz.trans (hbd.mono hwz.size))) (HEK.out.ext hbd))
            go_wp2_with fail
            refine HAH.out.mono ?_
            rintro x w3 ⟨rfl, hb3⟩
            have hbn := hbd.trans (hb3.mono hbd.size)
            have hnx3 := hwz.trans (hbn.mono hwz.size)
            have Bn := box_below Bz hbn
            clear HAH hbd hb3 hbn r1
            go_wp2_with fail
            go_meet
            exact ⟨by rw [HTC.out], hnx3, Bn⟩
          · have i1 : ¬ ((k : Int) < (l.length : Int)) := by omega
            have HTC := hide (show tb = false by rw [HTB.out, dif_neg hlt])
            clear HTB
            go_quiet (fail)
            go_wp2_with fail
            go_meet
            exact ⟨by rw [HTC.out], below_drewN hwz _, box_below Bz (below_drewN (ext_refl wr) _)⟩
        case rest =>
          obtain ⟨rfl, hwx, Bx⟩ := hcut
          cases htb : tb
          · have hkk : k = l.findIdx (aheadB e) := by
              have hT := HTB.out
              rw [htb] at hT
              by_cases hlt : k < l.length
              · rw [dif_pos hlt] at hT
                exact (findIdx_at HM2.out hlt (by simpa using hT.symm)).symm
              · have : k = l.length := by omega
                subst this
                have h2 := HM2.out
                rw [List.take_length] at h2
                exact (findIdx_no h2).symm
            rw [← hkk] at HF
            clear HTB htb hkk HM2
            go_upto_region 11 with fail
            have r0k := hr0.take (k * 29)
            rw [flat_take k (told_size HTS.out)] at r0k
            have tk := HTS.out.take k
            have ok0 := told_one tk
            have ha0 : (css0.take k).flatten.length = k * 29 := by rw [told_len tk, List.length_take, Nat.min_eq_left hk]
            obtain ⟨F, hF⟩ : ∃ F, F = (css0.take k).flatten := ⟨_, rfl⟩
            rw [← hF] at r0k ok0 ha0
            have FIN : ∀ (v' : Value) (w' : World), w'.ownsRow (w.heap.size + 1) 68 29 v' (k + 1) (F ++ ce) → Below w.heap.size w w' → OwnE (w.heap.size + 1) w' (fun b => S b ∧ b < w.heap.size) v' (l.take k ++ [e]) ∧ Below w.heap.size w w' := fun v' w' ho hb => by
              refine ⟨⟨css0.take k ++ [ce], ?_, ?_⟩, hb⟩
              · have h1 : (l.take k ++ [e]).length = k + 1 := by simp; omega
                have h2 : (css0.take k ++ [ce]).flatten = F ++ ce := by rw [hF]; simp
                rw [h1, h2]; exact ho
              · exact (tk.imp fun _ _ h => h.ext hb).append (Told.one (HEE.out.ext hb))
            have HFIN := hide FIN
            clear FIN hF tk
            go_cut [5] (fun u wx => OwnE (w.heap.size + 1) wx (fun b => S b ∧ b < w.heap.size) u (l.take k ++ [e]) ∧ Below w.heap.size w wx)
            case first =>
              have hrun1 := run_head elemE A0 l.length c0 k (by omega)
              have hbd : Below wc.heap.size wc wc.drew := ext_drew (ext_refl wc)
              have hwd := hwx.trans (hbd.mono hwx.size)
              have Bd : wc.drew.heap[w.heap.size]? = some (.cells ce.toArray 68 (0, 0)) := box_below Bx hbd
              obtain ⟨wd, hWD⟩ : ∃ wd, wd = wc.drew := ⟨_, rfl⟩
              rw [← hWD] at hwd Bd hbd
              have HWD := hide hWD
              clear hWD
              refine wp_region_phase (fun w' => w'.heap[w.heap.size]? = some (.cells ce.toArray 68 (0, 0))) [] (by kernel_rfl) ?_
              rw [show { wc with drawn := wc.drawn + 1 } = wd from HWD.out.symm]
              refine wpAnyP_take (i := 1) rfl (by kernel_rfl) (by kernel_rfl) (by kernel_rfl) (by kernel_rfl) (fun _ _ _ h => h) (yieldsIf_run (.slice A0 l.length c0) rfl (fun w' => by go_simp)) Bd ?_
              refine wpAnyP_take (i := 2) rfl (by kernel_rfl) (by kernel_rfl) (by kernel_rfl) (by kernel_rfl) (fun _ _ _ h => h) (yieldsIf_run (.int .i64 (k : Int)) rfl (fun w' => by go_simp)) Bd ?_
              refine wpAnyP_take (i := 3) rfl (by kernel_rfl) (by kernel_rfl) (by kernel_rfl) (by kernel_rfl) (fun _ _ _ h => h) (yieldsIf_run (.slice A0 k c0) rfl (fun w' => by go_simp)) Bd ?_
              refine wpAnyP_take (i := 5) rfl (by kernel_rfl) (by kernel_rfl) (by kernel_rfl) (by kernel_rfl) (fun _ _ _ h => h) (yieldsIf_loadS rfl (.tmp 3) rfl strcE ⟨w.heap.size, 0, none⟩ rfl ce HN.out (fun w' hT => box_all hT)) Bd ?_
              go_simp
              have hd1 : w.heap.size + 1 ≤ wd.heap.size := by
                rcases Nat.lt_or_ge w.heap.size wd.heap.size with h | h
                · exact h
                · rw [Array.getElem?_eq_none (by omega)] at Bd; cases Bd
              have HNN := HN.out
              refine wpAnyP_two' (i := 0) (j := 6) (by kernel_rfl) rfl rfl ?_ ?_
              · refine wpList_build0 (te := 0) rfl rfl Try.underlying22 strcE (by decide) (by decide) ?_
                have hbA : Below w.heap.size w (wd.alloc (.cells #[] 68)) := ext_alloc hwd _
                have BA := box_below Bd (show Below wd.heap.size wd (wd.alloc (.cells #[] 68)) from ext_alloc (ext_refl _) _)
                have ownA : (wd.alloc (.cells #[] 68)).ownsRow (w.heap.size + 1) 68 29 (.slice (some ⟨wd.heap.size, 0, none⟩) 0 0) 0 [] := ⟨rfl, .inr ⟨_, 0, #[], rfl, hd1, heap_alloc_new _ _, Nat.le_refl _, Nat.zero_le _, rfl, rfl⟩⟩
                have hsA : wd.heap.size + 1 = (wd.alloc (.cells #[] 68)).heap.size := by simp
                refine nextP BA ?_
                go_simp
                generalize hWA : wd.alloc (.cells #[] 68) = wA at *
                clear hWA
                refine wpAnyP_two' (i := 4) (j := 6) (by kernel_rfl) rfl rfl ?_ ?_
                · refine wpList_append_row rfl (.tmp 55) (.tmp 58) rfl elemE (w.heap.size + 1) _ 0 [] rfl ownA wA.heap.size k c0 A0 F ha0 rfl (r0k.ext hbA) (fun h => by have := p3 h; omega) ok0 (by unfold maxLen; omega) (by omega) (by omega) ?_
                  intro v4 w4 ho4 hg4
                  have hg4' : wA.grownBy w4 (some wd.heap.size) := hg4
                  rw [Nat.zero_add, List.nil_append] at ho4
                  have hb4 : Below w.heap.size w w4 := hbA.grown hg4' hbA.size (fun q hq => by injection hq with hq; omega)
                  have B4 := box_row BA hg4' (fun e => by injection e with e; omega)
                  have hs4 := hg4'.size
                  refine nextP B4 ?_
                  clear hg4 hg4'
                  go_simp
                  refine wpAnyP_one' (i := 6) (by kernel_rfl) rfl ?_
                  refine wpList_buildS (te := 0) rfl (.tmp 60) rfl Try.underlying22 strcE (by decide) (by decide) ce.toArray rfl (by simpa using HNN) ?_
                  refine nextP (box_below B4 (show Below w4.heap.size w4 (w4.alloc (.cells ce.toArray 68)) from ext_alloc (ext_refl _) _)) ?_
                  go_simp
                  refine wpAnyP_one' (i := 7) (by kernel_rfl) rfl ?_
                  refine wpList_append_new rfl (.tmp 59) (.tmp 61) rfl elemE (w.heap.size + 1) _ k F rfl ho4 1 ce.toArray (by simpa using HNN) rfl (by simpa using hoe) (by decide) (by unfold maxLen; omega) (by omega) (by have := (Array.getElem?_eq_some_iff.1 B4).1; omega) ?_
                  intro v5 w5 ho5 hg5
                  have hb5 := below_of_own hb4 ho4 hg5 hb4.size (Nat.le_succ _)
                  have B5 := box_row B4 hg5 (fun e => by have := (ho4.lt _ e).1; omega)
                  refine nextP B5 ?_
                  go_simp
                  refine wpAnyP_one' (i := 8) (by kernel_rfl) rfl ?_
                  go_wp2_with fail
                  refine nextP B5 (wpAnyP_done (by kernel_rfl) ?_)
                  go_simp
                  try go_wp2_with fail
                  go_meet
                  exact HFIN.out _ _ (by simpa using ho5) hb5
                · refine wpList_buildS (te := 0) rfl (.tmp 60) rfl Try.underlying22 strcE (by decide) (by decide) ce.toArray rfl (by simpa using HNN) ?_
                  have hxA : Below wA.heap.size wA (wA.alloc (.cells ce.toArray 68)) := ext_alloc (ext_refl _) _
                  have hbC : Below w.heap.size w (wA.alloc (.cells ce.toArray 68)) := hbA.trans (hxA.mono hbA.size)
                  have BC := box_below BA hxA
                  have ownC := own_below ownA hxA
                  have CC := heap_alloc_new wA (.cells ce.toArray 68)
                  have hsC : wA.heap.size + 1 = (wA.alloc (.cells ce.toArray 68)).heap.size := by simp
                  refine nextP BC ?_
                  go_simp
                  generalize hWC : wA.alloc (.cells ce.toArray 68) = wC at *
                  clear hWC hxA
                  refine wpAnyP_one' (i := 4) (by kernel_rfl) rfl ?_
                  refine wpList_append_row rfl (.tmp 55) (.tmp 58) rfl elemE (w.heap.size + 1) _ 0 [] rfl ownC wC.heap.size k c0 A0 F ha0 rfl (r0k.ext hbC) (fun h => by have := p3 h; omega) ok0 (by unfold maxLen; omega) (by omega) (by omega) ?_
                  intro v4 w4 ho4 hg4
                  have hg4' : wC.grownBy w4 (some wd.heap.size) := hg4
                  rw [Nat.zero_add, List.nil_append] at ho4
                  have hb4 : Below w.heap.size w w4 := hbC.grown hg4' hbC.size (fun q hq => by injection hq with hq; omega)
                  have B4 := box_row BC hg4' (fun e => by injection e with e; omega)
                  have C4 := box_row CC hg4' (fun e => by injection e with e; omega)
                  have hs4 := hg4'.size
                  refine nextP B4 ?_
                  clear hg4 hg4'
                  go_simp
                  refine wpAnyP_one' (i := 7) (by kernel_rfl) rfl ?_
                  refine wpList_append_row rfl (.tmp 59) (.tmp 61) rfl elemE (w.heap.size + 1) _ k F rfl ho4 (wA.heap.size + 1) 1 1 (some ⟨wA.heap.size, 0, none⟩) ce (by simpa using HNN) rfl (row_of_box C4 (Nat.lt_succ_self _)) (fun h => by cases h) hoe (by unfold maxLen; omega) (by omega) (by omega) ?_
                  intro v5 w5 ho5 hg5
                  have hb5 := below_of_own hb4 ho4 hg5 hb4.size (Nat.le_succ _)
                  have B5 := box_row B4 hg5 (fun e => by have := (ho4.lt _ e).1; omega)
                  refine nextP B5 ?_
                  go_simp
                  refine wpAnyP_one' (i := 8) (by kernel_rfl) rfl ?_
                  go_wp2_with fail
                  refine nextP B5 (wpAnyP_done (by kernel_rfl) ?_)
                  go_simp
                  try go_wp2_with fail
                  go_meet
                  exact HFIN.out _ _ (by simpa using ho5) hb5
              · refine wpList_buildS (te := 0) rfl (.tmp 60) rfl Try.underlying22 strcE (by decide) (by decide) ce.toArray rfl (by simpa using HNN) ?_
                have hxA : Below wd.heap.size wd (wd.alloc (.cells ce.toArray 68)) := ext_alloc (ext_refl _) _
                have hbA : Below w.heap.size w (wd.alloc (.cells ce.toArray 68)) := hwd.trans (hxA.mono hwd.size)
                have BA := box_below Bd hxA
                have CA := heap_alloc_new wd (.cells ce.toArray 68)
                have hsA : wd.heap.size + 1 = (wd.alloc (.cells ce.toArray 68)).heap.size := by simp
                refine nextP BA ?_
                go_simp
                generalize hWA : wd.alloc (.cells ce.toArray 68) = wA at *
                clear hWA hxA
                refine wpAnyP_one' (i := 0) (by kernel_rfl) rfl ?_
                refine wpList_build0 (te := 0) rfl rfl Try.underlying22 strcE (by decide) (by decide) ?_
                have hxC : Below wA.heap.size wA (wA.alloc (.cells #[] 68)) := ext_alloc (ext_refl _) _
                have hbC : Below w.heap.size w (wA.alloc (.cells #[] 68)) := hbA.trans (hxC.mono hbA.size)
                have BC := box_below BA hxC
                have CC := box_below CA hxC
                have ownC : (wA.alloc (.cells #[] 68)).ownsRow (w.heap.size + 1) 68 29 (.slice (some ⟨wA.heap.size, 0, none⟩) 0 0) 0 [] := ⟨rfl, .inr ⟨_, 0, #[], rfl, by omega, heap_alloc_new _ _, Nat.le_refl _, Nat.zero_le _, rfl, rfl⟩⟩
                have hsC : wA.heap.size + 1 = (wA.alloc (.cells #[] 68)).heap.size := by simp
                refine nextP BC ?_
                go_simp
                generalize hWC : wA.alloc (.cells #[] 68) = wC at *
                clear hWC hxC
                refine wpAnyP_one' (i := 4) (by kernel_rfl) rfl ?_
                refine wpList_append_row rfl (.tmp 55) (.tmp 58) rfl elemE (w.heap.size + 1) _ 0 [] rfl ownC wC.heap.size k c0 A0 F ha0 rfl (r0k.ext hbC) (fun h => by have := p3 h; omega) ok0 (by unfold maxLen; omega) (by omega) (by omega) ?_
                intro v4 w4 ho4 hg4
                have hg4' : wC.grownBy w4 (some wA.heap.size) := hg4
                rw [Nat.zero_add, List.nil_append] at ho4
                have hb4 : Below w.heap.size w w4 := hbC.grown hg4' hbC.size (fun q hq => by injection hq with hq; omega)
                have B4 := box_row BC hg4' (fun e => by injection e with e; omega)
                have C4 := box_row CC hg4' (fun e => by injection e with e; omega)
                have hs4 := hg4'.size
                refine nextP B4 ?_
                clear hg4 hg4'
                go_simp
                refine wpAnyP_one' (i := 7) (by kernel_rfl) rfl ?_
                refine wpList_append_row rfl (.tmp 59) (.tmp 61) rfl elemE (w.heap.size + 1) _ k F rfl ho4 (wd.heap.size + 1) 1 1 (some ⟨wd.heap.size, 0, none⟩) ce (by simpa using HNN) rfl (row_of_box C4 (Nat.lt_succ_self _)) (fun h => by cases h) hoe (by unfold maxLen; omega) (by omega) (by omega) ?_
                intro v5 w5 ho5 hg5
                have hb5 := below_of_own hb4 ho4 hg5 hb4.size (Nat.le_succ _)
                have B5 := box_row B4 hg5 (fun e => by have := (ho4.lt _ e).1; omega)
                refine nextP B5 ?_
                go_simp
                refine wpAnyP_one' (i := 8) (by kernel_rfl) rfl ?_
                go_wp2_with fail
                refine nextP B5 (wpAnyP_done (by kernel_rfl) ?_)
                go_simp
                try go_wp2_with fail
                go_meet
                exact HFIN.out _ _ (by simpa using ho5) hb5
            case rest =>
              obtain ⟨⟨cssR, hoR, htR⟩, hwR⟩ := hcut
              have hrun2 := run_cut elemE A0 l.length c0 k hk
              have td := HTS.out.drop k
              have r3 := hr0.cutA (size := 29) (k := k) (c := c0) (told_len HTS.out) p1
              rw [flat_drop k (told_size HTS.out)] at r3
              have hc3 : (css0.drop k).flatten.length = (l.length - k) * 29 := by rw [told_len td, List.length_drop]
              have oc3 := told_one td
              have hAc : cutA A0 c0 k 29 = none → l.length - k = 0 := fun h => by
                unfold cutA at h
                split at h
                · omega
                · have := p3 (by simpa using h); omega
              have hlk : (l.take k ++ [e]).length = k + 1 := by simp; omega
              rw [hlk] at hoR
              have HFL := hide (show (cssR ++ css0.drop k).flatten = cssR.flatten ++ (css0.drop k).flatten by simp)
              have HTD := hide td
              have HTR := hide htR
              have r4 := r3.ext hwR
              have hsz := hwR.size
              have hd1 : w.heap.size + 1 ≤ wc.heap.size := by
                obtain ⟨g, cg, _, hg1, hg2, _⟩ := own_block hoR (by omega) (by decide)
                omega
              obtain ⟨F3, hF3⟩ : ∃ F3, F3 = (css0.drop k).flatten := ⟨_, rfl⟩
              obtain ⟨FR, hFR⟩ : ∃ FR, FR = cssR.flatten := ⟨_, rfl⟩
              rw [← hF3] at r4 hc3 oc3 HFL
              rw [← hFR] at hoR HFL
              clear td htR r3 hF3 hFR r0k ok0 ha0
              go_wp2_with (at_builtin; go_must (refine wpList_append_row rfl (.tmp 63) (.tmp 66) rfl elemE (w.heap.size + 1) _ (k + 1) FR rfl hoR _ (l.length - k) (c0 - k) (cutA A0 c0 k 29) F3 hc3 rfl r4 hAc oc3 (by unfold maxLen; omega) (by omega) hd1 ?_))
              intro v6 w6 ho6 hg6
              have hb6 := below_of_own hwR hoR hg6 hwR.size (Nat.le_succ _)
              have ht6 : Told (EvR w6 (fun b => S b ∧ b < w.heap.size)) (cssR ++ css0.drop k) ((l.take k ++ [e]) ++ l.drop k) :=
                (HTR.out.imp fun _ _ h => h.grown hg6 fun b hb e => by have := (hoR.lt _ e).1; omega).append (HTD.out.imp fun _ _ h => h.ext hb6)
              have HO6 := hide ho6; have HT6 := hide ht6
              clear ho6 ht6 hg6 hoR
              go_wp2_with fail
              go_ret
              have hls : (l.take k ++ e :: l.drop k) = (l.take k ++ [e]) ++ l.drop k := by simp
              have hll : ((l.take k ++ [e]) ++ l.drop k).length = k + 1 + (l.length - k) := by simp; omega
              refine ⟨_, rfl, ⟨cssR ++ css0.drop k, ?_, ?_⟩, hb6⟩
              · rw [HF.out, hls, hll, HFL.out]; exact own_more HO6.out (Nat.le_succ _)
              · rw [HF.out, hls]; exact HT6.out.imp fun _ _ h => h.weak fun b hb _ => .inl hb.1
          · have hlt : k < l.length := by
              have hT := HTB.out
              rw [htb] at hT
              by_cases hlt : k < l.length
              · exact hlt
              · rw [dif_neg hlt] at hT; cases hT
            have hA : aheadB e l[k] = false := by
              have hT := HTB.out
              rw [htb, dif_pos hlt] at hT
              simpa using hT.symm
            have HS := hide (none_step HM2.out hlt hA)
            clear HTB htb hA
            go_wp2_with fail
            go_roundw
            case rel => exact ⟨k + 1, by omega, by go_num, HS.out, hwx, Bx⟩
            case measure => simp [intOf]; omega
end Go.Proofs.Ytbehflldghhopaa

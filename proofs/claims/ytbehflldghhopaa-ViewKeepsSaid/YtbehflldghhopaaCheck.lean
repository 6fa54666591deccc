/-
  view.Check.
-/
import Derived.Test.YtbehflldghhopaaSetI
import Derived.Test.YtbehflldghhopaaStripS
import Derived.IntWalk
set_option linter.unusedVariables false
set_option linter.unusedSimpArgs false
namespace Go.Proofs.Ytbehflldghhopaa
open Go.RowKit
attribute [local go_sem] Addr.add_mid

def SaysN (n : Int) (w : World) (e : Ending) (w' : World) : Prop := e = .returned (.int .i64 n) ∧ Below w.heap.size w w'
theorem says_mk {n m : Int} {w w' : World} (h : n = m) (hb : Below w.heap.size w w') : SaysN n w (.returned (.int .i64 m)) w' := by subst h; exact ⟨rfl, hb⟩
theorem ids_take (l : List Ev) (k : Nat) : ids (l.take k) = (ids l).take k := by simp [ids, List.map_take]
def InTo (V : Vw) (k : Nat) : Prop := ∀ g ∈ V.gaps.take k, 0 ≤ g.1 ∧ g.1 < (V.events.length : Int)
theorem InTo.step {V : Vw} {k : Nat} (h : InTo V k) (hk : k < V.gaps.length) (hg : 0 ≤ V.gaps[k].1 ∧ V.gaps[k].1 < (V.events.length : Int)) : InTo V (k + 1) := fun g hg' => by
  rw [List.take_succ_eq_append_getElem hk] at hg'
  rcases List.mem_append.1 hg' with h1 | h1
  · exact h g h1
  · rw [List.mem_singleton] at h1; rw [h1]; exact hg
theorem InTo.fin {V : Vw} (h : InTo V V.gaps.length) : V.inside := by unfold InTo at h; rwa [List.take_length] at h

set_option maxRecDepth 100000 in
set_option maxHeartbeats 4000000 in
theorem Check_any {S : Nat → Prop} {cs : List Value} {V : Vw} {w : World} (hv : VwR w S cs V) (hid : ∀ e ∈ V.events, I64 e.id) (hl : V.events.length ≤ 1048576 ∧ V.gaps.length ≤ 1048576 ∧ V.state.length ≤ 1048576) :
    Calls Try.prog 10 #[.agg cs.toArray] w (SaysN (checkV V) w) := by
  obtain ⟨A, c, A2, c2, A3, c3, hcs, h1, h2, h3⟩ := hv.form
  obtain ⟨hl1, hl2, hl3⟩ := hl
  have s2 : cs[2]? = some (.slice A V.events.length c) := by rw [hcs]; rfl
  have s3 : cs[3]? = some (.slice A2 V.gaps.length c2) := by rw [hcs]; rfl
  have s4 : cs[4]? = some (.slice A3 V.state.length c3) := by rw [hcs]; rfl
  obtain ⟨A', c', css, hq, _, _, ha, hre, hte⟩ := h1.form
  injection hq with e1 e2 e3
  subst e1 e3
  obtain ⟨A', c', hq, _, _, ha2, hrg, hlg⟩ := h2.form
  injection hq with e1 e4 e3
  subst e1 e3
  obtain ⟨A', c', css3, hq, _, _, ha3, hrs, hts⟩ := h3.form
  injection hq with e1 e5 e3
  subst e1 e3
  have B0 := heap_alloc_new w (.cells cs.toArray 25)
  have hbW : Below w.heap.size w (w.alloc (.cells cs.toArray 25)) := ext_alloc (ext_refl w) _
  have hz0 : w.heap.size < (w.alloc (.cells cs.toArray 25)).heap.size := by simp
  have S2 := hide s2; have S3 := hide s3; have S4' := hide s4; have HID := hide hid
  clear hcs hv e2 e4 e5 s2 s3 s4 hid
  have hmm := @run_makeMap Try.prog
  go_enter Try.func10, Try.ntmps10
  go_upto_region 1 with fail
  generalize hW : w.alloc (.cells cs.toArray 25) = W at *
  clear hW
  have r2 := box_at B0 S2.out
  have hm0 : Below W.heap.size W (W.alloc (.map #[] 0)) := ext_alloc (ext_refl _) _
  have r2' : (W.alloc (.map #[] 0)).cell? ⟨w.heap.size, 2, none⟩ = some (.slice A V.events.length c) := box_at (box_below B0 hm0) S2.out
  go_wp2_with fail
  clear r2 r2' hmm
  go_loopw [13] (fun i wr => ∃ k : Nat, k ≤ V.events.length ∧ i = .int .i64 (k : Int) ∧ Hid (((ids V.events).take k).Nodup) ∧ OwnsSet wr W.heap.size ((ids V.events).take k) ∧ Below W.heap.size W wr) (fun i _ => V.events.length - (intOf i).toNat)
  case atStart => exact ⟨0, Nat.zero_le _, rfl, by simp [Hid], by rw [List.take_zero]; exact OwnsSet.made _, hm0⟩
  case round =>
    obtain ⟨k, hk, rfl, HN, hos, hbr⟩ := hrel
    have Br := box_below B0 hbr
    have hnw := hbW.trans (hbr.mono hbW.size)
    by_cases hlt : k < V.events.length
    · have hki : k < (ids V.events).length := by rw [ids_length]; exact hlt
      have i0 : (0 : Int) ≤ (k : Int) := by omega
      have i1 : (k : Int) < (V.events.length : Int) := by omega
      obtain ⟨b, o, ck, rfl, hb, he, _, hc⟩ := evs_at (hre.ext hnw) (hte.imp fun _ _ h => h.ext hnw) k hlt
      have hc0 := hc 0 _ he.some0
      rw [Nat.add_zero] at hc0
      have r2 := box_at Br S2.out
      have hI := HID.out _ (List.getElem_mem hlt)
      have hge := ids_get V.events k hlt
      obtain ⟨X, hX⟩ : ∃ X, X = (ids V.events).take k := ⟨_, rfl⟩
      rw [← hX] at hos
      have hXl : X.length ≤ 1048576 := by rw [hX, List.length_take]; omega
      have HX := hide hX; have HGE := hide hge; have HI := hide hI
      obtain ⟨mb, hmb⟩ : ∃ x, x = decide (V.events[k].id ∈ X) := ⟨_, rfl⟩
      have hd : decide (V.events[k].id ∈ X) = mb := hmb.symm
      have HMB := hide hmb
      clear hc he hX hge hI hmb
      go_upto_if 23 with (at_lookup; go_must (refine wpList_inSet rfl (.tmp 16) (.tmp 22) rfl W.heap.size X rfl hos _ HI.out rfl ?_))
      rw [hd]
      cases mb
      · have hnin : V.events[k].id ∉ X := of_decide_eq_false HMB.out.symm
        have HS : Hid (((ids V.events).take (k + 1)).Nodup) := (nodup_step hki).2 ⟨HN.out, by rw [HGE.out, ← HX.out]; exact hnin⟩
        have HSX : Hid ((ids V.events).take (k + 1) = X ++ [V.events[k].id]) := by rw [HX.out, List.take_succ_eq_append_getElem hki, HGE.out]; rfl
        clear hnin hd
        go_wp2_with (at_mapUpdate; go_must (refine wpList_toSet rfl (.tmp 24) (.tmp 30) _ rfl W.heap.size X (by unfold maxLen; omega) rfl hos _ HI.out rfl rfl ?_))
        intro w3 hos3 hg3
        have hb3 := hbr.grown hg3 hbr.size (fun q hq => by injection hq with hq; omega)
        rw [← HSX.out] at hos3
        have HOS := hide hos3
        clear hos3 hg3 hc0 r2 hos
        go_wp2_with fail
        go_roundw
        case rel => exact ⟨k + 1, by omega, by go_num, HS.out, HOS.out, hb3⟩
        case measure => simp [intOf]; omega
      · have HE : Hid (checkV V = 4) := checkV_twice (not_nodup hki (by rw [HGE.out, ← HX.out]; exact of_decide_eq_true HMB.out.symm))
        clear hd
        go_wp2_with fail
        go_ret
        exact says_mk HE.out hnw
    · obtain rfl : k = V.events.length := by omega
      have HND : Hid ((ids V.events).Nodup) := by have := HN.out; rwa [← ids_length, List.take_length] at this
      clear HN hos hlt hm0 hre hte h1
      have r3 := box_at Br S3.out
      go_wp2_with fail
      clear r3
      go_loopw [35] (fun i wr => ∃ k : Nat, k ≤ V.gaps.length ∧ i = .int .i64 (k : Int) ∧ Hid (InTo V k) ∧ Below W.heap.size W wr) (fun i _ => V.gaps.length - (intOf i).toNat)
      case atStart => exact ⟨0, Nat.zero_le _, rfl, by simp [InTo, Hid], hbr⟩
      case round =>
        clear Br hnw hbr
        obtain ⟨k, hk, rfl, HN, hbr⟩ := hrel
        have Br := box_below B0 hbr
        have hnw := hbW.trans (hbr.mono hbW.size)
        by_cases hlt : k < V.gaps.length
        · have i0 : (0 : Int) ≤ (k : Int) := by omega
          have i1 : (k : Int) < (V.gaps.length : Int) := by omega
          obtain ⟨b, o, rfl, hb, hc⟩ := Row.fix (hrg.ext hnw) (kcs_get V.gaps k hlt).1
          have r1 : wr.rangeAt b (o + k * 2) [.int .i64 V.gaps[k].1, .int .i64 V.gaps[k].2] := by
            intro i u hu
            match i, hu with
            | 0, hu => rw [← Option.some.inj hu]; exact hc _ _ (kcs_get V.gaps k hlt).1
            | 1, hu => rw [← Option.some.inj hu, Nat.add_assoc]; exact hc _ _ (kcs_get V.gaps k hlt).2
          obtain ⟨x, hx⟩ : ∃ x, x = V.gaps[k].1 := ⟨_, rfl⟩
          obtain ⟨y, hy⟩ : ∃ y, y = V.gaps[k].2 := ⟨_, rfl⟩
          rw [← hx, ← hy] at r1
          have HX := hide hx
          have hbx : Below W.heap.size W (wr.alloc (.cells #[.int .i64 x, .int .i64 y] 55)) := ext_alloc hbr _
          have r2 := box_at (box_below B0 hbx) S2.out
          have hnx := hbW.trans (hbx.mono hbW.size)
          clear hc hx hy
          by_cases hlo : x < 0
          · have HE : Hid (checkV V = 2) := checkV_range HND.out fun h => by have := (h V.gaps[k] (List.getElem_mem hlt)).1; rw [← HX.out] at this; omega
            have t0 : decide (x < 0) = true := decide_eq_true hlo
            go_wp2_with (first
              | refine wpList_loadS rfl (.tmp 37) rfl strcG ⟨b, o + k * 2, none⟩ rfl [.int .i64 x, .int .i64 y] rfl (cells_range r1) ?_
              | refine wpList_newS rfl rfl strcG rfl (.tmp 6) (.tmp 38) rfl rfl rfl #[.int .i64 x, .int .i64 y] rfl rfl (by simp [Value.oneCell']) ?_)
            go_ret
            exact says_mk HE.out hnx
          · have t0 : decide (x < 0) = false := decide_eq_false hlo
            by_cases hhi : (V.events.length : Int) ≤ x
            · have HE : Hid (checkV V = 2) := checkV_range HND.out fun h => by have := (h V.gaps[k] (List.getElem_mem hlt)).2; rw [← HX.out] at this; omega
              have t1 : decide ((V.events.length : Int) ≤ x) = true := decide_eq_true hhi
              go_wp2_with (first
                | refine wpList_loadS rfl (.tmp 37) rfl strcG ⟨b, o + k * 2, none⟩ rfl [.int .i64 x, .int .i64 y] rfl (cells_range r1) ?_
                | refine wpList_newS rfl rfl strcG rfl (.tmp 6) (.tmp 38) rfl rfl rfl #[.int .i64 x, .int .i64 y] rfl rfl (by simp [Value.oneCell']) ?_)
              go_ret
              exact says_mk HE.out hnx
            · have t1 : decide ((V.events.length : Int) ≤ x) = false := decide_eq_false hhi
              have HS := hide (HN.out.step hlt (by rw [← HX.out]; omega))
              go_wp2_with (first
                | refine wpList_loadS rfl (.tmp 37) rfl strcG ⟨b, o + k * 2, none⟩ rfl [.int .i64 x, .int .i64 y] rfl (cells_range r1) ?_
                | refine wpList_newS rfl rfl strcG rfl (.tmp 6) (.tmp 38) rfl rfl rfl #[.int .i64 x, .int .i64 y] rfl rfl (by simp [Value.oneCell']) ?_)
              go_roundw
              case rel => exact ⟨k + 1, by omega, by go_num, HS.out, hbx⟩
              case measure => simp [intOf]; omega
        · obtain rfl : k = V.gaps.length := by omega
          have HIN := hide HN.out.fin
          clear HN hlt
          go_wp2_with fail
          go_loopw [7] (fun i wr => ∃ k : Nat, k ≤ V.gaps.length ∧ i = .int .i64 ((k + 1 : Nat) : Int) ∧ Hid (ChainTo gapLt V.gaps (k + 1)) ∧ Below W.heap.size W wr) (fun i _ => V.gaps.length + 1 - (intOf i).toNat)
          case atStart => exact ⟨0, Nat.zero_le _, by go_num, ChainTo.start _ _, hbr⟩
          case round =>
            clear Br hnw hbr
            obtain ⟨k, hk, rfl, HN, hbr⟩ := hrel
            have Br := box_below B0 hbr
            have hnw := hbW.trans (hbr.mono hbW.size)
            have r3 := box_at Br S3.out
            obtain ⟨q, hq⟩ : ∃ q, q = k + 1 := ⟨_, rfl⟩
            rw [← hq]
            have HQ := hide hq
            clear hq
            by_cases hlt : q < V.gaps.length
            · have hkl : k + 1 < V.gaps.length := by have := HQ.out; omega
              have hwr : IntKind.i64.wrap ((q : Int) - 1) = (k : Int) := by have := HQ.out; rw [IntWalk.i64_in _ (by omega)]; omega
              have HW := hide hwr
              have i0 : (0 : Int) ≤ (k : Int) := by omega
              have i1 : (k : Int) < (V.gaps.length : Int) := by omega
              have j0 : (0 : Int) ≤ (q : Int) := by omega
              have j1 : (q : Int) < (V.gaps.length : Int) := by omega
              clear hwr
              go_upto_region 18 with fail
              have hbx : Below wr.heap.size wr wr.drew := ext_drew (ext_refl wr)
              have hb1 := hbr.trans (hbx.mono hbr.size)
              have B1 := box_below B0 hb1
              have hn1 := hbW.trans (hb1.mono hbW.size)
              obtain ⟨wd, hWD⟩ : ∃ wd, wd = wr.drew := ⟨_, rfl⟩
              rw [← hWD] at B1 hb1 hn1
              have HWD := hide hWD
              clear hWD hbx r3
              obtain ⟨b, o, rfl, hb, hc⟩ := Row.fix (hrg.ext hn1) (kcs_get V.gaps k (by omega)).1
              have g1 := hc _ _ (kcs_get V.gaps q hlt).1
              have g2 := hc _ _ (kcs_get V.gaps k (by omega)).1
              have hstep : ∀ h : gapLt V.gaps[k] V.gaps[q] = true, ChainTo gapLt V.gaps (q + 1) := fun h => by have e := HQ.out; subst e; exact HN.out.step hkl h
              have hbad : ∀ h : gapLt V.gaps[k] V.gaps[q] = false, checkV V = 8 := fun h => by have e := HQ.out; subst e; exact checkV_gaps HND.out HIN.out (ChainTo.bad hkl h)
              obtain ⟨x, hx⟩ : ∃ x, x = V.gaps[q].1 := ⟨_, rfl⟩
              obtain ⟨y, hy⟩ : ∃ y, y = V.gaps[k].1 := ⟨_, rfl⟩
              have hgl : gapLt V.gaps[k] V.gaps[q] = decide (y < x) := by unfold gapLt; rw [← hx, ← hy]
              rw [← hx] at g1
              rw [← hy] at g2
              rw [hgl] at hstep hbad
              have HSTEP := hide hstep; have HBAD := hide hbad
              clear hc hx hy hgl hstep hbad HN
              refine wp_region_phase (fun w' => w'.heap[w.heap.size]? = some (.cells cs.toArray 25 (0, 0)) ∧ w'.cell? ⟨b, o + q * 2, none⟩ = some (.int .i64 x) ∧ w'.cell? ⟨b, o + k * 2, none⟩ = some (.int .i64 y)) [] (by kernel_rfl) ?_
              rw [show { wr with drawn := wr.drawn + 1 } = wd from HWD.out.symm]
              have T1 := And.intro B1 (And.intro g1 g2)
              refine wpAnyP_take (i := 0) rfl (by kernel_rfl) (by kernel_rfl) (by kernel_rfl) (by kernel_rfl) (fun _ _ _ h => h) (yieldsIf_run (.pointer (some ⟨w.heap.size, 3, none⟩)) rfl (fun w' => by go_simp)) T1 ?_
              refine wpAnyP_take (i := 1) rfl (by kernel_rfl) (by kernel_rfl) (by kernel_rfl) (by kernel_rfl) (fun _ _ _ h => h) (yieldsIf_load rfl rfl Try.underlying23 rfl rfl (fun w' hT => box_at hT.1 S3.out)) T1 ?_
              refine wpAnyP_take (i := 2) rfl (by kernel_rfl) (by kernel_rfl) (by kernel_rfl) (by kernel_rfl) (fun _ _ _ h => h) (yieldsIf_run (.int .i64 (q : Int)) rfl (fun w' => by go_simp)) T1 ?_
              go_simp
              refine wpAnyP_take (i := 3) rfl (by kernel_rfl) (by kernel_rfl) (by kernel_rfl) (by kernel_rfl) (fun _ _ _ h => h) (yieldsIf_run (.pointer (some ⟨b, o + q * 2, none⟩)) rfl (fun w' => by go_simp)) T1 ?_
              refine wpAnyP_take (i := 4) rfl (by kernel_rfl) (by kernel_rfl) (by kernel_rfl) (by kernel_rfl) (fun _ _ _ h => h) (yieldsIf_run (.pointer (some ⟨b, o + q * 2, none⟩)) rfl (fun w' => by go_simp)) T1 ?_
              refine wpAnyP_take (i := 5) rfl (by kernel_rfl) (by kernel_rfl) (by kernel_rfl) (by kernel_rfl) (fun _ _ _ h => h) (yieldsIf_load rfl rfl Try.underlying3 rfl rfl (fun w' hT => hT.2.1)) T1 ?_
              go_simp
              refine wpAnyP_take (i := 6) rfl (by kernel_rfl) (by kernel_rfl) (by kernel_rfl) (by kernel_rfl) (fun _ _ _ h => h) (yieldsIf_run (.pointer (some ⟨w.heap.size, 3, none⟩)) rfl (fun w' => by go_simp)) T1 ?_
              refine wpAnyP_take (i := 7) rfl (by kernel_rfl) (by kernel_rfl) (by kernel_rfl) (by kernel_rfl) (fun _ _ _ h => h) (yieldsIf_load rfl rfl Try.underlying23 rfl rfl (fun w' hT => box_at hT.1 S3.out)) T1 ?_
              refine wpAnyP_take (i := 8) rfl (by kernel_rfl) (by kernel_rfl) (by kernel_rfl) (by kernel_rfl) (fun _ _ _ h => h) (yieldsIf_run (.int .i64 (q : Int)) rfl (fun w' => by go_simp)) T1 ?_
              go_simp
              have hwr := HW.out
              refine wpAnyP_take (i := 9) rfl (by kernel_rfl) (by kernel_rfl) (by kernel_rfl) (by kernel_rfl) (fun _ _ _ h => h) (yieldsIf_run (.int .i64 (k : Int)) rfl (fun w' => by go_simp)) T1 ?_
              go_simp
              clear hwr
              refine wpAnyP_take (i := 10) rfl (by kernel_rfl) (by kernel_rfl) (by kernel_rfl) (by kernel_rfl) (fun _ _ _ h => h) (yieldsIf_run (.pointer (some ⟨b, o + k * 2, none⟩)) rfl (fun w' => by go_simp)) T1 ?_
              refine wpAnyP_take (i := 11) rfl (by kernel_rfl) (by kernel_rfl) (by kernel_rfl) (by kernel_rfl) (fun _ _ _ h => h) (yieldsIf_run (.pointer (some ⟨b, o + k * 2, none⟩)) rfl (fun w' => by go_simp)) T1 ?_
              refine wpAnyP_take (i := 12) rfl (by kernel_rfl) (by kernel_rfl) (by kernel_rfl) (by kernel_rfl) (fun _ _ _ h => h) (yieldsIf_load rfl rfl Try.underlying3 rfl rfl (fun w' hT => hT.2.2)) T1 ?_
              go_simp
              obtain ⟨lb, hlb⟩ : ∃ z, z = decide (x ≤ y) := ⟨_, rfl⟩
              have hd : decide (x ≤ y) = lb := hlb.symm
              have HLB := hide hlb
              clear hlb
              refine wpAnyP_take (i := 13) rfl (by kernel_rfl) (by kernel_rfl) (by kernel_rfl) (by kernel_rfl) (fun _ _ _ h => h) (yieldsIf_run (.bool lb) rfl (fun w' => by go_simp)) T1 ?_
              go_simp
              clear hd
              refine wpAnyP_done (by kernel_rfl) ?_
              clear T1 g1 g2
              cases lb
              · have HE := hide (HSTEP.out (decide_eq_true (by have := of_decide_eq_false HLB.out.symm; omega)))
                go_simp
                go_wp2_with fail
                go_roundw
                case rel => exact ⟨q, by omega, by go_num, HE.out, hb1⟩
                case measure => simp [intOf]; omega
              · have HE := hide (HBAD.out (decide_eq_false (by have := of_decide_eq_true HLB.out.symm; omega)))
                go_simp
                go_wp2_with fail
                go_ret
                exact says_mk HE.out hn1
            · have HCH : Hid (chainB gapLt V.gaps = true) := HN.out.fin (by have := HQ.out; omega)
              clear HN
              go_wp2_with fail
              clear r3 hlt
              go_loopw [8] (fun i wr => ∃ k : Nat, k ≤ V.state.length ∧ i = .int .i64 ((k + 1 : Nat) : Int) ∧ Hid (ChainTo aheadB V.state (k + 1)) ∧ Below W.heap.size W wr) (fun i _ => V.state.length + 1 - (intOf i).toNat)
              case atStart => exact ⟨0, Nat.zero_le _, by go_num, ChainTo.start _ _, hbr⟩
              case round =>
                clear Br hnw hbr
                obtain ⟨k, hk, rfl, HN, hbr⟩ := hrel
                have Br := box_below B0 hbr
                have hnw := hbW.trans (hbr.mono hbW.size)
                have r4 := box_at Br S4'.out
                obtain ⟨q, hq⟩ : ∃ q, q = k + 1 := ⟨_, rfl⟩
                rw [← hq]
                have HQ := hide hq
                clear hq
                by_cases hlt : q < V.state.length
                · have hkl : k + 1 < V.state.length := by have := HQ.out; omega
                  have hk2 : k < V.state.length := by omega
                  have hwr : IntKind.i64.wrap ((q : Int) - 1) = (k : Int) := by have := HQ.out; rw [IntWalk.i64_in _ (by omega)]; omega
                  have HW := hide hwr
                  have i0 : (0 : Int) ≤ (k : Int) := by omega
                  have i1 : (k : Int) < (V.state.length : Int) := by omega
                  have j0 : (0 : Int) ≤ (q : Int) := by omega
                  have j1 : (q : Int) < (V.state.length : Int) := by omega
                  clear hwr
                  go_upto_region 23 with fail
                  have hbx : Below wr.heap.size wr wr.drew := ext_drew (ext_refl wr)
                  have hb1 := hbr.trans (hbx.mono hbr.size)
                  have B1 := box_below B0 hb1
                  have hn1 := hbW.trans (hb1.mono hbW.size)
                  obtain ⟨wd, hWD⟩ : ∃ wd, wd = wr.drew := ⟨_, rfl⟩
                  rw [← hWD] at B1 hb1 hn1
                  have HWD := hide hWD
                  clear hWD hbx r4
                  obtain ⟨b, o, cq, hA, hb, heq, _, hcq⟩ := evs_at (hrs.ext hn1) (hts.imp fun _ _ h => h.ext hn1) q hlt
                  subst hA
                  obtain ⟨b2, o2, ck, hA, _, hek, _, hck⟩ := evs_at (hrs.ext hn1) (hts.imp fun _ _ h => h.ext hn1) k hk2
                  simp only [Option.some.injEq, Addr.mk.injEq, and_true] at hA
                  obtain ⟨rfl, rfl⟩ := hA
                  have r5 : wd.rangeAt b (o + q * 29) cq := hcq
                  have r6 : wd.rangeAt b (o + k * 29) ck := hck
                  have HNQ := hide heq.length; have HNK := hide hek.length
                  have hstep : ∀ h : aheadB V.state[k] V.state[q] = true, ChainTo aheadB V.state (q + 1) := fun h => by have e := HQ.out; subst e; exact HN.out.step hkl h
                  have hbad : ∀ h : aheadB V.state[k] V.state[q] = false, checkV V = 8 := fun h => by have e := HQ.out; subst e; exact checkV_state HND.out HIN.out HCH.out (ChainTo.bad hkl h)
                  have hca := VAhead_any hek heq
                  obtain ⟨ab, hab⟩ : ∃ x, x = aheadB V.state[k] V.state[q] := ⟨_, rfl⟩
                  rw [← hab] at hstep hbad hca
                  have HSTEP := hide hstep; have HBAD := hide hbad; have HCA := hide hca
                  clear hcq hck heq hek hab hstep hbad hca HN
                  refine wp_region_phase (fun w' => w'.heap[w.heap.size]? = some (.cells cs.toArray 25 (0, 0)) ∧ CellsAt w' ⟨b, o + q * 29, none⟩ cq ∧ CellsAt w' ⟨b, o + k * 29, none⟩ ck) [] (by kernel_rfl) ?_
                  rw [show { wr with drawn := wr.drawn + 1 } = wd from HWD.out.symm]
                  have T1 := And.intro B1 (And.intro (cells_range r5) (cells_range r6))
                  refine wpAnyP_take (i := 0) rfl (by kernel_rfl) (by kernel_rfl) (by kernel_rfl) (by kernel_rfl) (fun _ _ _ h => h) (yieldsIf_run (.pointer (some ⟨w.heap.size, 4, none⟩)) rfl (fun w' => by go_simp)) T1 ?_
                  refine wpAnyP_take (i := 1) rfl (by kernel_rfl) (by kernel_rfl) (by kernel_rfl) (by kernel_rfl) (fun _ _ _ h => h) (yieldsIf_load rfl rfl Try.underlying22 rfl rfl (fun w' hT => box_at hT.1 S4'.out)) T1 ?_
                  refine wpAnyP_take (i := 2) rfl (by kernel_rfl) (by kernel_rfl) (by kernel_rfl) (by kernel_rfl) (fun _ _ _ h => h) (yieldsIf_run (.int .i64 (q : Int)) rfl (fun w' => by go_simp)) T1 ?_
                  go_simp
                  have hwr := HW.out
                  refine wpAnyP_take (i := 3) rfl (by kernel_rfl) (by kernel_rfl) (by kernel_rfl) (by kernel_rfl) (fun _ _ _ h => h) (yieldsIf_run (.int .i64 (k : Int)) rfl (fun w' => by go_simp)) T1 ?_
                  go_simp
                  clear hwr
                  refine wpAnyP_take (i := 4) rfl (by kernel_rfl) (by kernel_rfl) (by kernel_rfl) (by kernel_rfl) (fun _ _ _ h => h) (yieldsIf_run (.pointer (some ⟨b, o + k * 29, none⟩)) rfl (fun w' => by go_simp)) T1 ?_
                  refine wpAnyP_take (i := 5) rfl (by kernel_rfl) (by kernel_rfl) (by kernel_rfl) (by kernel_rfl) (fun _ _ _ h => h) (yieldsIf_loadS rfl (.tmp 83) rfl strcE ⟨b, o + k * 29, none⟩ rfl ck HNK.out (fun w' hT => hT.2.2)) T1 ?_
                  go_simp
                  refine wpAnyP_take (i := 6) rfl (by kernel_rfl) (by kernel_rfl) (by kernel_rfl) (by kernel_rfl) (fun _ _ _ h => h) (yieldsIf_run (.pointer (some ⟨w.heap.size, 4, none⟩)) rfl (fun w' => by go_simp)) T1 ?_
                  refine wpAnyP_take (i := 7) rfl (by kernel_rfl) (by kernel_rfl) (by kernel_rfl) (by kernel_rfl) (fun _ _ _ h => h) (yieldsIf_load rfl rfl Try.underlying22 rfl rfl (fun w' hT => box_at hT.1 S4'.out)) T1 ?_
                  refine wpAnyP_take (i := 8) rfl (by kernel_rfl) (by kernel_rfl) (by kernel_rfl) (by kernel_rfl) (fun _ _ _ h => h) (yieldsIf_run (.int .i64 (q : Int)) rfl (fun w' => by go_simp)) T1 ?_
                  go_simp
                  refine wpAnyP_take (i := 9) rfl (by kernel_rfl) (by kernel_rfl) (by kernel_rfl) (by kernel_rfl) (fun _ _ _ h => h) (yieldsIf_run (.pointer (some ⟨b, o + q * 29, none⟩)) rfl (fun w' => by go_simp)) T1 ?_
                  refine wpAnyP_take (i := 10) rfl (by kernel_rfl) (by kernel_rfl) (by kernel_rfl) (by kernel_rfl) (fun _ _ _ h => h) (yieldsIf_loadS rfl (.tmp 88) rfl strcE ⟨b, o + q * 29, none⟩ rfl cq HNQ.out (fun w' hT => hT.2.1)) T1 ?_
                  go_simp
                  refine wpAnyP_one' (i := 11) (by kernel_rfl) rfl ?_
                  go_wp2_with fail
                  refine HCA.out.mono ?_
                  rintro x w3 ⟨rfl, hb3⟩
                  have hb4 := hb1.trans (hb3.mono hb1.size)
                  have hn4 := hbW.trans (hb4.mono hbW.size)
                  have T3 := And.intro (box_below B0 hb4) (And.intro (cells_range (range_below r5 hb3)) (cells_range (range_below r6 hb3)))
                  clear T1 HCA r5 r6
                  go_wp2_with fail
                  refine nextP T3 ?_
                  go_simp
                  refine wpAnyP_one' (i := 12) (by kernel_rfl) rfl ?_
                  cases ab
                  · have HE := hide (HBAD.out rfl)
                    clear HSTEP HBAD
                    go_wp2_with fail
                    refine nextP T3 (wpAnyP_done (by kernel_rfl) ?_)
                    clear T3
                    go_simp
                    go_wp2_with fail
                    go_ret
                    exact says_mk HE.out hn4
                  · have HE := hide (HSTEP.out rfl)
                    clear HSTEP HBAD
                    go_wp2_with fail
                    refine nextP T3 (wpAnyP_done (by kernel_rfl) ?_)
                    clear T3
                    go_simp
                    go_wp2_with fail
                    go_roundw
                    case rel => exact ⟨q, by omega, by go_num, HE.out, hb4⟩
                    case measure => simp [intOf]; omega
                · have HE : Hid (checkV V = 0) := checkV_ok HND.out HIN.out HCH.out (HN.out.fin (by have := HQ.out; omega))
                  go_wp2_with fail
                  go_ret
                  exact says_mk HE.out hnw
end Go.Proofs.Ytbehflldghhopaa

/-
  ViewConverges: the walk of the law.
-/
import Derived.Test.YtbehflldghhopaaViewApplies
import Derived.Test.YtbehflldghhopaaConvL
import Derived.Test.YtbehflldghhopaaSortedI
set_option linter.unusedVariables false
set_option linter.unusedSimpArgs false
namespace Go.Proofs.Ytbehflldghhopaa
open Go.RowKit
attribute [local go_sem] Addr.add_mid

theorem gapsOf_length (ms : List (Nat × Nat)) : ∀ s n, (gapsOf s n ms).length = ms.length := by
  induction ms with
  | nil => intro s n; rfl
  | cons m ms ih => intro s n; simp [gapsOf, ih]
theorem rounds_ge (ms : List (Nat × Nat)) : ms.length ≤ rounds ms := by
  induction ms with
  | nil => exact Nat.zero_le _
  | cons m ms ih => simp only [rounds, List.length_cons]; omega
theorem Conv.sub {l : List Ev} {pos : Nat} {ms : List (Nat × Nat)} {V : Vw} (h : Conv l pos ms V) : V.events.Sublist l := by
  rw [h.events]
  have := pres_sub (l.take pos) ms 0 pos h.sound
  rw [List.drop_zero] at this
  exact this.trans (List.take_sublist _ _)
theorem Conv2.sub {l : List Ev} {ms : List (Nat × Nat)} {V : Vw} (h : Conv2 l ms V) : V.events.Sublist l := by
  rw [h.events]
  have := pres_sub l ms 0 l.length h.sound
  rwa [List.drop_zero] at this
theorem Conv.small {l : List Ev} {pos : Nat} {ms : List (Nat × Nat)} {V : Vw} (h : Conv l pos ms V) (hl : l.length ≤ 20) (hp : pos ≤ l.length) : V.events.length ≤ 20 ∧ V.gaps.length ≤ 40 := by
  have h1 := h.sub.length_le
  have h2 := rounds_ge ms
  have h3 := h.few
  rw [h.gaps, gapsOf_length]
  omega
theorem Conv.fit {l : List Ev} {pos : Nat} {ms : List (Nat × Nat)} {V : Vw} (h : Conv l pos ms V) (hf : ∀ e ∈ l, e.con.fit) : V.fit := ⟨fun e he => hf e (h.sub.subset he), fun e he => by rw [h.state] at he; simp at he⟩
theorem partP_fit {l : List Ev} {pos f e : Nat} (hf : ∀ e ∈ l, e.con.fit) : (partP l pos f e).fit := ⟨fun x hx => hf x (List.mem_of_mem_take (List.mem_of_mem_drop hx)), fun x hx => by simp [partP] at hx⟩
theorem evs_head {w : World} {S : Nat → Prop} {A : Option Addr} {c : Nat} {l : List Ev} (h : EvsR w S (.slice A l.length c) l) (k : Nat) (hk : k ≤ l.length) : EvsR w S (.slice A k c) (l.take k) := by
  obtain ⟨A', c', css, hv, h1, h2, h3, hr, ht⟩ := h.form
  injection hv with hv1 _ hv2
  subst hv1 hv2
  refine ⟨css.take k, ?_, ht.take k⟩
  have hkl : (l.take k).length = k := by rw [List.length_take, Nat.min_eq_left hk]
  have hl : (css.take k).flatten.length = k * 29 := by rw [told_len (ht.take k), hkl]
  have hrow := hr.take (k * 29)
  rw [flat_take k (told_size ht)] at hrow
  refine ⟨A, c, by rw [hkl], by rw [hkl]; exact hl, by rw [hkl]; omega, h2, fun hn => by rw [hkl]; have := h3 hn; omega, hrow, fun _ _ _ => trivial⟩
theorem evs_mid {w : World} {S : Nat → Prop} {A : Option Addr} {c : Nat} {l : List Ev} (h : EvsR w S (.slice A l.length c) l) (j k : Nat) (hj : j ≤ k) (hk : k ≤ l.length) : EvsR w S (.slice (cutA A c j 29) (k - j) (c - j)) ((l.take k).drop j) := by
  have h1 := evs_head h k hk
  have hkl : (l.take k).length = k := by rw [List.length_take, Nat.min_eq_left hk]
  have h2 : EvsR w S (.slice A (l.take k).length c) (l.take k) := by rw [hkl]; exact h1
  have h3 := evs_cut h2 j (by omega)
  rwa [hkl] at h3
theorem VwR.weak {w : World} {S S' : Nat → Prop} {cs : List Value} {V : Vw} (h : VwR w S cs V) (hS : ∀ b, S b → b < w.heap.size → S' b) : VwR w S' cs V := by
  obtain ⟨ve, vg, vs, rfl, h1, h2, h3⟩ := h
  exact ⟨ve, vg, vs, rfl, h1.weak hS, h2, h3.weak hS⟩
/-- VBox.apart with more that is apart -/
theorem VBox.apartS {w w' : World} {g : Nat} {V V0 : Vw} {S : Nat → Prop} {cs : List Value} (h0 : VBox w g V0) (h : VwR w S cs V) (hS : ∀ b, S b → b ≠ g) (hg : w.grownBy w' (some g)) : VwR w' S cs V := by
  obtain ⟨cs0, hB, hv0⟩ := h0
  obtain ⟨A, c, A2, c2, A3, c3, rfl, _⟩ := hv0.form
  have hev : ∀ {v : Value} {l : List Ev}, EvsR w S v l → EvsR w' S v l := by
    rintro v l ⟨css, hs, ht⟩
    refine ⟨css, ?_, ht.imp fun _ _ h => h.grown hg fun b hb e => by injection e with e; exact hS b hb e.symm⟩
    have hs' : Slc w (· ≠ g) v 29 l.length css.flatten := by
      obtain ⟨A, c, rfl, k1, k2, k3, k4, k5, _⟩ := hs
      refine ⟨A, c, rfl, k1, k2, k3, k4, k5, fun hne ad ha hbg => ?_⟩
      subst ha
      have hlen : 0 < css.flatten.length := List.length_pos_iff.2 hne
      obtain ⟨b, o, e, hb, hc⟩ := Row.fix k5 (List.getElem?_eq_getElem hlen)
      injection e with e; subst e
      have hlt : 28 < css.flatten.length := by rw [k1] at hlen ⊢; omega
      have h28 := hc 28 _ (List.getElem?_eq_getElem hlt)
      simp only at hbg
      subst hbg
      rw [box_cell hB] at h28
      have := (List.getElem?_eq_some_iff.1 h28).1
      simp [vwCells] at this
      omega
    exact (hs'.grown hg fun b hb e => by injection e with e; exact hb e.symm).any
  have hga : ∀ {v : Value} {l : List (Int × Int)}, Slc w Any v 2 l.length (kcs l) → Slc w' Any v 2 l.length (kcs l) := by
    intro v l hs
    have hs' : Slc w (· ≠ g) v 2 l.length (kcs l) := by
      obtain ⟨A, c, rfl, k1, k2, k3, k4, k5, _⟩ := hs
      refine ⟨A, c, rfl, k1, k2, k3, k4, k5, fun hne ad ha hbg => ?_⟩
      subst ha
      have hl : 0 < l.length := by
        cases l with
        | nil => exact absurd rfl hne
        | cons _ _ => simp
      obtain ⟨b, o, e, hb, hc⟩ := Row.fix k5 (kcs_get l 0 hl).1
      injection e with e; subst e
      simp only at hbg
      subst hbg
      have h0 := hc _ _ (kcs_get l 0 hl).1
      have h1 := hc _ _ (kcs_get l 0 hl).2
      rw [box_cell hB] at h0 h1
      have hlt := (List.getElem?_eq_some_iff.1 h1).1
      simp only [vwCells, List.length_cons, List.length_nil] at hlt
      match o, hlt, h0, h1 with
      | 0, _, h0, _ => simp [vwCells] at h0
      | 1, _, _, h1 => simp [vwCells] at h1
      | 2, _, h0, _ => simp [vwCells] at h0
      | 3, _, h0, _ => simp [vwCells] at h0
    exact (hs'.grown hg fun b hb e => by injection e with e; exact hb e.symm).any
  obtain ⟨ve, vg, vs, rfl, h1, h2, h3⟩ := h
  exact ⟨ve, vg, vs, rfl, hev h1, hga h2, hev h3⟩
theorem most_eq (s : Nat) (hs : s < 256) : wrap64 (1 + (wrap64 (s : Int)).tmod 10) = ((1 + s % 10 : Nat) : Int) := by
  rw [IntWalk.wrap64_in (s : Int) (by omega), Int.tmod_eq_emod_of_nonneg (by omega), IntWalk.wrap64_in _ (by omega)]; omega
theorem end_eq (pos s n : Nat) (hs : s < 256) (hp : pos ≤ 20) (hn : n ≤ 20) : (if wrap64 ((pos : Int) + (wrap64 (s : Int)).tmod 10) < (n : Int) then wrap64 ((pos : Int) + (wrap64 (s : Int)).tmod 10) else (n : Int)) = ((min n (pos + s % 10) : Nat) : Int) := by
  rw [IntWalk.wrap64_in (s : Int) (by omega), Int.tmod_eq_emod_of_nonneg (by omega), IntWalk.wrap64_in _ (by omega)]
  split <;> omega
theorem from_eq (pos e most : Nat) (hp : pos ≤ 20) (he : e ≤ 20) (hm : most ≤ 10) : (if (pos : Int) < (e : Int) - (most : Int) then (e : Int) - (most : Int) else (pos : Int)) = ((max pos (e - most) : Nat) : Int) := by
  split <;> omega
theorem slI_own {w : World} {base n : Nat} {v : Value} {l : List Int} (h : w.ownsRow base 3 1 v n (ivs l)) (hn : n = l.length) : SlI w v l := by
  subst hn
  obtain ⟨A, c, rfl, hc, _⟩ := own_form h
  refine ⟨A, c, rfl, Row.own h, ?_, hc⟩
  rintro rfl
  rcases h.2 with ⟨hv, _⟩ | ⟨g, cap, cur, hv, _⟩
  · injection hv
  · simp at hv

set_option maxRecDepth 100000 in
set_option maxHeartbeats 4000000 in
theorem converges_any {v : Value} {l : List Ev} {Az : Option Addr} {cz : Nat} {sz : List UInt8} {lim : UInt8} {w : World} (hr : EvsR w Any v l) (hz : Row w w.heap.size Az (bvs sz)) (hcz : sz.length ≤ cz) :
    Calls Try.prog 8 #[v, .slice Az sz.length cz, bv lim] w (Says true w) := by
  obtain ⟨Al, cl, css, rfl, hlc, _⟩ := hr.form
  have HR := hide hr; have HZ := hide hz
  clear hr hz
  unfold bv
  go_enter Try.func8, Try.ntmps8
  go_upto_region 1 with fail
  go_cut [33] (fun t wx => OnlyIf ((l.length ≤ 20 ∧ ∀ e ∈ l, e.short) ∧ sz.length ≤ 20 ∧ (ids l).Nodup) t ∧ Below w.heap.size w wx)
  case first =>
    go_wp2_with fail
    refine (R8Great_any (n := 20) HR.out (by decide)).mono ?_
    rintro x w1 ⟨b, rfl, hsm, hb1⟩
    cases b
    · have HS := hide (hsm rfl)
      have hl20 := (hsm rfl).1
      clear hsm
      by_cases hm : sz.length ≤ 20
      · have t1 : decide ((sz.length : Int) > 20) = false := decide_eq_false (by omega)
        have t1' : decide (20 < (sz.length : Int)) = false := decide_eq_false (by omega)
        go_wp2_with fail
        refine (R8Ids_any (HR.out.ext hb1) (by omega)).mono ?_
        rintro x w2 ⟨v2, rfl, ho2, hb2⟩
        have hs2 := slI_own ho2 (ids_length l).symm
        have hb02 := hb1.trans (hb2.mono hb1.size)
        clear ho2
        go_wp2_with fail
        refine (Sorted_any hs2 (by rw [ids_length]; omega)).mono ?_
        rintro x w3 ⟨v3, r, rfl, ⟨A3, c3, rfl, _⟩, hR, hb3⟩
        have hb03 := hb02.trans (hb3.mono hb02.size)
        by_cases hrl : r.length = l.length
        · have HN := hide (show (ids l).Nodup by have := hR.full (by rw [ids_length]; exact hrl); rwa [List.take_length] at this)
          rw [hrl]
          clear hR hs2 hrl
          go_wp2_with fail
          go_meet
          exact ⟨⟨false, rfl, fun _ => ⟨HS.out, hm, HN.out⟩⟩, hb03⟩
        · have t2 : ((r.length : Int) == (l.length : Int)) = false := by simpa using (show ¬ (r.length : Int) = (l.length : Int) by omega)
          have t3 : ((r.length : Int) != (l.length : Int)) = true := by simpa using (show ¬ (r.length : Int) = (l.length : Int) by omega)
          clear hR hs2
          go_wp2_with fail
          go_meet
          exact ⟨⟨true, rfl, nofun⟩, hb03⟩
      · have t1 : decide ((sz.length : Int) > 20) = true := decide_eq_true (by omega)
        have t1' : decide (20 < (sz.length : Int)) = true := decide_eq_true (by omega)
        go_wp2_with fail
        go_meet
        exact ⟨⟨true, rfl, nofun⟩, hb1⟩
    · go_wp2_with fail
      go_meet
      exact ⟨⟨true, rfl, nofun⟩, hb1⟩
  case rest =>
    obtain ⟨⟨t, rfl, ht⟩, hb1⟩ := hcut
    cases t
    · obtain ⟨⟨hl20, hls⟩, hm20, hnd⟩ := ht rfl
      have HND := hide hnd
      have HLS := hide (show ∀ e ∈ l, e.con.fit from fun e he => (Con.fit_of_short (hls e he)).2.2)
      clear ht hnd hls
      go_upto_region 4 with fail
      obtain ⟨most, hmost, hm1, hm10⟩ : ∃ n : Nat, wrap64 (1 + (wrap64 (lim.toNat : Int)).tmod 10) = (n : Int) ∧ 1 ≤ n ∧ n ≤ 10 := ⟨_, most_eq _ (by have := lim.toNat_lt; omega), by omega, by omega⟩
      rw [hmost]
      clear hmost
      go_upto_region 5 with (refine wpList_zeroS rfl rfl strcV ?_)
      go_simp
      have hx2 := ext_alloc hb1 (.cells vwZero 25)
      have X0 := (show ZBox (wc.alloc (.cells vwZero 25)) wc.heap.size from heap_alloc_new _ _).vb
      have hge := hb1.size
      have HR8 := hide (HR.out.weak (S' := (· ≠ wc.heap.size)) fun b _ hb => Nat.ne_of_lt (Nat.lt_of_lt_of_le hb hge))
      generalize hW2 : wc.alloc (.cells vwZero 25) = w2 at *
      generalize hG2 : wc.heap.size = g8 at *
      clear hW2 hb1
      go_wp2_with fail
      go_loopw [9, 10] (fun p i wr => ∃ (k pos : Nat) (ms : List (Nat × Nat)) (V : Vw), p = .int .i64 (pos : Int) ∧ i = .int .i64 (k : Int) ∧ k ≤ sz.length + 1 ∧ pos ≤ l.length ∧ (k = sz.length + 1 → pos = l.length) ∧ Conv l pos ms V ∧ VBox wr g8 V ∧ Below w.heap.size w wr) (fun _ i _ => sz.length + 1 - (intOf i).toNat)
      case atStart => exact ⟨0, 0, [], _, rfl, rfl, by omega, Nat.zero_le _, by omega, Conv.start l, X0, hx2⟩
      case round =>
      obtain ⟨k, pos, ms, V, rfl, rfl, hk, hpos, hfin, hC, hX, hb⟩ := hrel
      have HC := hide hC
      clear hC
      by_cases hpl : pos < l.length
      · have hkm : k ≤ sz.length := by omega
        have i0 : (0 : Int) ≤ (k : Int) := by omega
        have p0 : (0 : Int) ≤ (pos : Int) := by omega
        by_cases hlt : k < sz.length
        · have i1 : (k : Int) < (sz.length : Int) := by omega
          obtain ⟨bz, oz, hAz, hb8, hc8⟩ := (HZ.out.ext hb).fix (bvs_get sz k hlt)
          subst hAz
          have hc0 := hc8 _ _ (bvs_get sz k hlt)
          clear hc8
          unfold bv at hc0
          obtain ⟨e, he, hpe0, hel0⟩ : ∃ e : Nat, (if wrap64 ((pos : Int) + (wrap64 (sz[k].toNat : Int)).tmod 10) < (l.length : Int) then wrap64 ((pos : Int) + (wrap64 (sz[k].toNat : Int)).tmod 10) else (l.length : Int)) = (e : Int) ∧ pos ≤ e ∧ e ≤ l.length := ⟨_, end_eq pos sz[k].toNat l.length (by have := sz[k].toNat_lt; omega) (by omega) hl20, by omega, by omega⟩
          go_upto_region 12 with fail
          try rw [he]
          clear he hc0
          have hke : k + 1 = sz.length + 1 → e = l.length := by omega
          obtain ⟨f, hf, hpf, hfe, hpe⟩ : ∃ f : Nat, (if (pos : Int) < (e : Int) - (most : Int) then (e : Int) - (most : Int) else (pos : Int)) = (f : Int) ∧ pos ≤ f ∧ f ≤ e ∧ (pos < f → f < e) := ⟨_, from_eq pos e most (by omega) (by omega) hm10, by omega, by omega, by omega⟩
          have hel : e ≤ l.length := hel0
          go_upto_region 13 with fail
          try rw [hf]
          clear hf
          have hbx : Below wr.heap.size wr wr.drew := ext_drew (ext_refl wr)
          have hb3 := hb.trans (hbx.mono hb.size)
          obtain ⟨cs, hB, hv⟩ := hX.ext hbx
          obtain ⟨wd, hWD⟩ : ∃ wd, wd = wr.drew := ⟨_, rfl⟩
          rw [← hWD] at hB hv hb3
          have hgl := (Array.getElem?_eq_some_iff.1 hB).1
          have HRd := hide (evs_mid (HR8.out.ext hb3) f e hfe hel)
          have hcm := run_mid elemE Al l.length cl f e hfe (by omega)
          refine wp_region_phase (fun w' => CellsAt w' ⟨g8, 0, none⟩ cs) [11] (by kernel_rfl) ?_
          rw [show { wr with drawn := wr.drawn + 1 } = wd from hWD.symm]
          clear hWD hbx hX hb
          refine wpAnyP_take (i := 0) rfl (by kernel_rfl) (by kernel_rfl) (by kernel_rfl) (by kernel_rfl) (fun _ _ _ h => h) (yieldsIf_loadS rfl (.tmp 8) rfl strcV ⟨g8, 0, none⟩ rfl cs hv.length (fun w' hT => hT)) (box_all hB) ?_
          go_simp
          refine wpAnyP_take (i := 1) rfl (by kernel_rfl) (by kernel_rfl) (by kernel_rfl) (by kernel_rfl) (fun _ _ _ h => h) (yieldsIf_run (.slice Al l.length cl) rfl (fun w' => by go_simp)) (box_all hB) ?_
          go_simp
          refine wpAnyP_take (i := 2) rfl (by kernel_rfl) (by kernel_rfl) (by kernel_rfl) (by kernel_rfl) (fun _ _ _ h => h) (yieldsIf_run (.int .i64 (f : Int)) rfl (fun w' => by go_simp)) (box_all hB) ?_
          go_simp
          refine wpAnyP_take (i := 3) rfl (by kernel_rfl) (by kernel_rfl) (by kernel_rfl) (by kernel_rfl) (fun _ _ _ h => h) (yieldsIf_run (.int .i64 (e : Int)) rfl (fun w' => by go_simp)) (box_all hB) ?_
          go_simp
          refine wpAnyP_take (i := 4) rfl (by kernel_rfl) (by kernel_rfl) (by kernel_rfl) (by kernel_rfl) (fun _ _ _ h => h) (yieldsIf_run (.slice (cutA Al cl f 29) (e - f) (cl - f)) rfl (fun w' => by go_simp)) (box_all hB) ?_
          go_simp
          refine wpAnyP_take (i := 5) rfl (by kernel_rfl) (by kernel_rfl) (by kernel_rfl) (by kernel_rfl) (fun _ _ _ h => h) (yieldsIf_run (.int .i64 (f : Int)) rfl (fun w' => by go_simp)) (box_all hB) ?_
          go_simp
          refine wpAnyP_take (i := 6) rfl (by kernel_rfl) (by kernel_rfl) (by kernel_rfl) (by kernel_rfl) (fun _ _ _ h => h) (yieldsIf_run (.int .i64 (pos : Int)) rfl (fun w' => by go_simp)) (box_all hB) ?_
          go_simp
          refine wpAnyP_take (i := 7) rfl (by kernel_rfl) (by kernel_rfl) (by kernel_rfl) (by kernel_rfl) (fun _ _ _ h => h) (yieldsIf_run (.bool (decide (pos < f))) rfl (fun w' => by go_simp)) (box_all hB) ?_
          go_simp
          refine wpAnyP_take (i := 8) rfl (by kernel_rfl) (by kernel_rfl) (by kernel_rfl) (by kernel_rfl) (fun _ _ _ h => h) (yieldsIf_run (.int .i64 (f : Int)) rfl (fun w' => by go_simp)) (box_all hB) ?_
          go_simp
          refine wpAnyP_take (i := 9) rfl (by kernel_rfl) (by kernel_rfl) (by kernel_rfl) (by kernel_rfl) (fun _ _ _ h => h) (yieldsIf_run (.agg (ptCells (partP l pos f e) (.slice (cutA Al cl f 29) (e - f) (cl - f)) (.slice none 0 0) (.slice none 0 0) (.slice none 0 0) (.slice none 0 0) (.int .i64 0)).toArray) rfl (fun w' => by go_simp; rfl)) (box_all hB) ?_
          go_simp
          refine wpAnyP_oneQ (i := 10) (by kernel_rfl) rfl ?_
          go_wp2_with fail
          have hpt := part_R (p := partP l pos f e) HRd.out rfl rfl
          have hsm := HC.out.small hl20 hpos
          have hlp : ((l.take e).drop f).length ≤ 20 := by rw [List.length_drop, List.length_take]; omega
          refine (Apply_any hv hpt ⟨by show V.events.length + ((l.take e).drop f).length ≤ 1048576; omega, by show V.state.length + 0 ≤ 1048576; rw [HC.out.state]; decide, by omega, Nat.zero_le _⟩ (HC.out.fit HLS.out) (partP_fit HLS.out)).mono ?_
          intro x w6 hx6
          obtain ⟨cs6, rfl, hv6, hb6⟩ := hx6.off hgl (fun b hb => hb)
          have X6 : VBox w6 g8 V := ⟨cs, box_below hB hb6, hv.ext hb6⟩
          have B6 := box_below hB hb6
          have hb06 := hb3.trans (hb6.mono hb3.size)
          clear hx6 hb6 hB hpt
          go_wp2_with fail
          refine nextQ (box_all B6) ?_
          go_simp
          refine wpAnyP_oneQ (i := 11) (by kernel_rfl) rfl ?_
          refine wpList_storeB rfl (.tmp 8) (.tmp 82) rfl rfl strcV g8 0 rfl cs6 rfl hv6.length hv6.one cs 25 B6 (by rw [hv.length]; decide) ?_
          intro w7 hB7 hg7 hz7
          rw [patch_all _ _ (by rw [hv6.length, hv.length])] at hB7
          have X7 := X6.store hv6 hg7 hB7
          have hb7 : Below w.heap.size w w7 := hb06.grown hg7 hb06.size (fun q hq => by injection hq with hq; omega)
          refine nextQ_bad (by kernel_rfl) ?_
          clear hB7 hg7 hz7 X6 B6 hb06 hv6 hv hgl hcm
          go_simp
          refine wpAnyP_done (by kernel_rfl) ?_
          go_simp
          try go_wp2_with fail
          go_roundw
          case rel => exact ⟨k + 1, e, _, _, by go_num, by go_num, by omega, hel, hke, HC.out.part HND.out hpf hfe hel hpe, X7, hb7⟩
          case measure => simp [intOf]; omega
        · have hpe0 : pos ≤ l.length := hpos
          have hel : l.length ≤ l.length := Nat.le_refl _
          obtain ⟨f, hf, hpf, hfe, hpe⟩ : ∃ f : Nat, (if (pos : Int) < (l.length : Int) - (most : Int) then (l.length : Int) - (most : Int) else (pos : Int)) = (f : Int) ∧ pos ≤ f ∧ f ≤ l.length ∧ (pos < f → f < l.length) := ⟨_, from_eq pos l.length most (by omega) (by omega) hm10, by omega, by omega, by omega⟩
          go_upto_region 13 with fail
          try rw [hf]
          clear hf
          have hbx : Below wr.heap.size wr wr.drew := ext_drew (ext_refl wr)
          have hb3 := hb.trans (hbx.mono hb.size)
          obtain ⟨cs, hB, hv⟩ := hX.ext hbx
          obtain ⟨wd, hWD⟩ : ∃ wd, wd = wr.drew := ⟨_, rfl⟩
          rw [← hWD] at hB hv hb3
          have hgl := (Array.getElem?_eq_some_iff.1 hB).1
          have HRd := hide (evs_mid (HR8.out.ext hb3) f l.length hfe hel)
          have hcm := run_mid elemE Al l.length cl f l.length hfe (by omega)
          refine wp_region_phase (fun w' => CellsAt w' ⟨g8, 0, none⟩ cs) [11] (by kernel_rfl) ?_
          rw [show { wr with drawn := wr.drawn + 1 } = wd from hWD.symm]
          clear hWD hbx hX hb
          refine wpAnyP_take (i := 0) rfl (by kernel_rfl) (by kernel_rfl) (by kernel_rfl) (by kernel_rfl) (fun _ _ _ h => h) (yieldsIf_loadS rfl (.tmp 8) rfl strcV ⟨g8, 0, none⟩ rfl cs hv.length (fun w' hT => hT)) (box_all hB) ?_
          go_simp
          refine wpAnyP_take (i := 1) rfl (by kernel_rfl) (by kernel_rfl) (by kernel_rfl) (by kernel_rfl) (fun _ _ _ h => h) (yieldsIf_run (.slice Al l.length cl) rfl (fun w' => by go_simp)) (box_all hB) ?_
          go_simp
          refine wpAnyP_take (i := 2) rfl (by kernel_rfl) (by kernel_rfl) (by kernel_rfl) (by kernel_rfl) (fun _ _ _ h => h) (yieldsIf_run (.int .i64 (f : Int)) rfl (fun w' => by go_simp)) (box_all hB) ?_
          go_simp
          refine wpAnyP_take (i := 3) rfl (by kernel_rfl) (by kernel_rfl) (by kernel_rfl) (by kernel_rfl) (fun _ _ _ h => h) (yieldsIf_run (.int .i64 (l.length : Int)) rfl (fun w' => by go_simp)) (box_all hB) ?_
          go_simp
          refine wpAnyP_take (i := 4) rfl (by kernel_rfl) (by kernel_rfl) (by kernel_rfl) (by kernel_rfl) (fun _ _ _ h => h) (yieldsIf_run (.slice (cutA Al cl f 29) (l.length - f) (cl - f)) rfl (fun w' => by go_simp)) (box_all hB) ?_
          go_simp
          refine wpAnyP_take (i := 5) rfl (by kernel_rfl) (by kernel_rfl) (by kernel_rfl) (by kernel_rfl) (fun _ _ _ h => h) (yieldsIf_run (.int .i64 (f : Int)) rfl (fun w' => by go_simp)) (box_all hB) ?_
          go_simp
          refine wpAnyP_take (i := 6) rfl (by kernel_rfl) (by kernel_rfl) (by kernel_rfl) (by kernel_rfl) (fun _ _ _ h => h) (yieldsIf_run (.int .i64 (pos : Int)) rfl (fun w' => by go_simp)) (box_all hB) ?_
          go_simp
          refine wpAnyP_take (i := 7) rfl (by kernel_rfl) (by kernel_rfl) (by kernel_rfl) (by kernel_rfl) (fun _ _ _ h => h) (yieldsIf_run (.bool (decide (pos < f))) rfl (fun w' => by go_simp)) (box_all hB) ?_
          go_simp
          refine wpAnyP_take (i := 8) rfl (by kernel_rfl) (by kernel_rfl) (by kernel_rfl) (by kernel_rfl) (fun _ _ _ h => h) (yieldsIf_run (.int .i64 (f : Int)) rfl (fun w' => by go_simp)) (box_all hB) ?_
          go_simp
          refine wpAnyP_take (i := 9) rfl (by kernel_rfl) (by kernel_rfl) (by kernel_rfl) (by kernel_rfl) (fun _ _ _ h => h) (yieldsIf_run (.agg (ptCells (partP l pos f l.length) (.slice (cutA Al cl f 29) (l.length - f) (cl - f)) (.slice none 0 0) (.slice none 0 0) (.slice none 0 0) (.slice none 0 0) (.int .i64 0)).toArray) rfl (fun w' => by go_simp; rfl)) (box_all hB) ?_
          go_simp
          refine wpAnyP_oneQ (i := 10) (by kernel_rfl) rfl ?_
          go_wp2_with fail
          have hpt := part_R (p := partP l pos f l.length) HRd.out rfl rfl
          have hsm := HC.out.small hl20 hpos
          have hlp : ((l.take l.length).drop f).length ≤ 20 := by rw [List.length_drop, List.length_take]; omega
          refine (Apply_any hv hpt ⟨by show V.events.length + ((l.take l.length).drop f).length ≤ 1048576; omega, by show V.state.length + 0 ≤ 1048576; rw [HC.out.state]; decide, by omega, Nat.zero_le _⟩ (HC.out.fit HLS.out) (partP_fit HLS.out)).mono ?_
          intro x w6 hx6
          obtain ⟨cs6, rfl, hv6, hb6⟩ := hx6.off hgl (fun b hb => hb)
          have X6 : VBox w6 g8 V := ⟨cs, box_below hB hb6, hv.ext hb6⟩
          have B6 := box_below hB hb6
          have hb06 := hb3.trans (hb6.mono hb3.size)
          clear hx6 hb6 hB hpt
          go_wp2_with fail
          refine nextQ (box_all B6) ?_
          go_simp
          refine wpAnyP_oneQ (i := 11) (by kernel_rfl) rfl ?_
          refine wpList_storeB rfl (.tmp 8) (.tmp 82) rfl rfl strcV g8 0 rfl cs6 rfl hv6.length hv6.one cs 25 B6 (by rw [hv.length]; decide) ?_
          intro w7 hB7 hg7 hz7
          rw [patch_all _ _ (by rw [hv6.length, hv.length])] at hB7
          have X7 := X6.store hv6 hg7 hB7
          have hb7 : Below w.heap.size w w7 := hb06.grown hg7 hb06.size (fun q hq => by injection hq with hq; omega)
          refine nextQ_bad (by kernel_rfl) ?_
          clear hB7 hg7 hz7 X6 B6 hb06 hv6 hv hgl hcm
          go_simp
          refine wpAnyP_done (by kernel_rfl) ?_
          go_simp
          try go_wp2_with fail
          go_roundw
          case rel => exact ⟨k + 1, l.length, _, _, by go_num, by go_num, by omega, hel, (fun _ => rfl), HC.out.part HND.out hpf hfe hel hpe, X7, hb7⟩
          case measure => simp [intOf]; omega
      · obtain rfl : pos = l.length := by omega
        go_upto_region 7 with fail
        go_cut [48] (fun t wx => t = .bool false ∧ VBox wx g8 V ∧ Below w.heap.size w wx)
        case first =>
          by_cases hkm : k ≤ sz.length
          · go_wp2_with fail
            go_meet
            exact ⟨rfl, hX, hb⟩
          · go_wp2_with fail
            go_meet
            exact ⟨rfl, hX, hb⟩
        case rest =>
        clear hX hb
        obtain ⟨rfl, hX, hb⟩ := hcut
        have hC2 := HC.out.whole
        have hfew := HC.out.few
        clear HC
        go_wp2_with fail
        go_loopw [13] (fun j wr => ∃ (q : Nat) (ms : List (Nat × Nat)) (V : Vw), j = .int .i64 (q : Int) ∧ Conv2 l ms V ∧ q + rounds ms ≤ 40 ∧ VBox wr g8 V ∧ Below w.heap.size w wr) (fun j _ => 41 - (intOf j).toNat)
        case atStart => exact ⟨0, ms, V, rfl, hC2, by omega, hX, hb⟩
        case round =>
        clear hX hb hC2 hfew
        obtain ⟨q, ms, V, rfl, hC, hq, hX, hb⟩ := hrel
        have HC := hide hC
        clear hC
        obtain ⟨cs, B0, v0⟩ := hX
        obtain ⟨Ae, ce, Ag, cg, As, cst, hcs, _, hgp, _⟩ := v0.form
        have hcl := v0.length
        have hq1 : q < 100 := by omega
        have s3 : cs[3]? = some (.slice Ag V.gaps.length cg) := by rw [hcs]; rfl
        clear hcs
        have hsm : V.events.length ≤ 20 ∧ V.gaps.length ≤ 40 := by
          have h1 := HC.out.sub.length_le
          have h2 := rounds_ge ms
          rw [HC.out.gaps, gapsOf_length]
          omega
        cases ms with
        | nil =>
          obtain ⟨hev, hga⟩ := HC.out.done
          have r3 := box_at B0 s3
          rw [hga] at r3
          simp only [List.length_nil] at r3
          have hwh := VWhole_any v0
          rw [decide_eq_true hga] at hwh
          have HW := hide hwh; have HEV := hide hev; have HV := hide v0
          clear hwh hev hga hgp s3 v0
          go_wp2_with (refine wpList_loadS rfl (.tmp 8) rfl strcV ⟨g8, 0, none⟩ rfl cs hcl (box_all B0) ?_)
          refine HW.out.mono ?_
          rintro x wa ⟨rfl, hba⟩
          have Ba := box_below B0 hba
          have hb1 := hb.trans (hba.mono hb.size)
          clear r3 HW
          go_wp2_with (refine wpList_loadS rfl (.tmp 8) rfl strcV ⟨g8, 0, none⟩ rfl cs hcl (box_all Ba) ?_)
          refine (VIds_any (HV.out.ext hba) (by omega)).mono ?_
          rintro x wb ⟨vb, rfl, hob, hbb⟩
          rw [HEV.out, ← ids_length] at hob
          have hb2 := hb1.trans (hbb.mono hb1.size)
          go_wp2_with fail
          refine (R8Ids_any (HR.out.ext hb2) (by omega)).mono ?_
          rintro x we ⟨ve, rfl, hoe, hbe⟩
          rw [← ids_length] at hoe
          have hb3 := hb2.trans (hbe.mono hb2.size)
          obtain ⟨Ab, cb, rfl, _⟩ := own_form hob
          obtain ⟨Ax, cx, rfl, _⟩ := own_form hoe
          have hsm2 := R1Same_any (l := ids l) (m := ids l) (c := cb) (c2 := cx) ((Row.own hob).ext hbe) (Row.own hoe) (by rw [ids_length]; omega) (by rw [ids_length]; omega)
          rw [decide_eq_true (rfl : ids l = ids l)] at hsm2
          have HSM := hide hsm2
          clear hsm2 hob hoe
          go_wp2_with fail
          refine HSM.out.mono ?_
          rintro x wf ⟨rfl, nq, rfl⟩
          have hb4 := below_drewN hb3 nq
          go_wp2_with fail
          refine (live_any _).mono ?_
          rintro x wg ⟨rfl, hbg⟩
          go_wp2_with fail
          go_ret
          exact ⟨rfl, hb4.trans (hbg.mono hb4.size)⟩
        | cons m ms =>
          obtain ⟨lo, hi⟩ := m
          have hhl : hi ≤ l.length := HC.out.sound.2.2.le
          have hga : V.gaps = (((0 + (lo - 0) : Nat) : Int), (hi : Int)) :: gapsOf hi (0 + (lo - 0)) ms := HC.out.gaps
          rw [hga] at hgp s3
          obtain ⟨bg, og, cg', hAg, rg0⟩ := gap_cells hgp
          rw [hAg] at s3
          have rg : wr.cell? ⟨bg, og + 1, none⟩ = some (.int .i64 (hi : Int)) := rg0 1 _ rfl
          have r3 := box_at B0 s3
          obtain ⟨ng, hng⟩ : ∃ n, n = (gapsOf hi (0 + (lo - 0)) ms).length := ⟨_, rfl⟩
          rw [← hng] at r3
          clear hgp s3 hAg rg0 hng hga
          obtain ⟨f, hf, hfh, hfe⟩ : ∃ f : Nat, (if most < hi then (hi : Int) - (most : Int) else 0) = (f : Int) ∧ f ≤ hi ∧ (f < hi ∨ f = 0) := ⟨hi - most, by split <;> omega, by omega, by omega⟩
          obtain ⟨hE, ms2, hC3, hrd⟩ := HC.out.page HND.out hfh hfe
          have HE := hide hE; have HC3 := hide hC3; have HIN := hide (checkV_inv HC.out.right).2.1
          clear hE hC3 HC hfe
          go_upto_region 22 with fail
          try rw [hf]
          clear hf
          have hbx : Below wr.heap.size wr wr.drew := ext_drew (ext_refl wr)
          have hb3 := hb.trans (hbx.mono hb.size)
          have hB := box_below B0 hbx
          have hv := v0.ext hbx
          obtain ⟨wd, hWD⟩ : ∃ wd, wd = wr.drew := ⟨_, rfl⟩
          rw [← hWD] at hB hv hb3
          have hgl := (Array.getElem?_eq_some_iff.1 hB).1
          have HRd := hide (evs_mid (HR8.out.ext hb3) f hi hfh hhl)
          have hcm := run_mid elemE Al l.length cl f hi hfh (by omega)
          refine wp_region_phase (fun w' => CellsAt w' ⟨g8, 0, none⟩ cs) [13] (by kernel_rfl) ?_
          rw [show { wr with drawn := wr.drawn + 1 } = wd from hWD.symm]
          clear hWD hbx B0 v0 hb r3 rg
          refine wpAnyP_take (i := 0) rfl (by kernel_rfl) (by kernel_rfl) (by kernel_rfl) (by kernel_rfl) (fun _ _ _ h => h) (yieldsIf_loadS rfl (.tmp 8) rfl strcV ⟨g8, 0, none⟩ rfl cs hv.length (fun w' hT => hT)) (box_all hB) ?_
          go_simp
          refine wpAnyP_take (i := 1) rfl (by kernel_rfl) (by kernel_rfl) (by kernel_rfl) (by kernel_rfl) (fun _ _ _ h => h) (yieldsIf_run (.slice Al l.length cl) rfl (fun w' => by go_simp)) (box_all hB) ?_
          go_simp
          refine wpAnyP_take (i := 2) rfl (by kernel_rfl) (by kernel_rfl) (by kernel_rfl) (by kernel_rfl) (fun _ _ _ h => h) (yieldsIf_run (.int .i64 (f : Int)) rfl (fun w' => by go_simp)) (box_all hB) ?_
          go_simp
          refine wpAnyP_take (i := 3) rfl (by kernel_rfl) (by kernel_rfl) (by kernel_rfl) (by kernel_rfl) (fun _ _ _ h => h) (yieldsIf_run (.int .i64 (hi : Int)) rfl (fun w' => by go_simp)) (box_all hB) ?_
          go_simp
          refine wpAnyP_take (i := 4) rfl (by kernel_rfl) (by kernel_rfl) (by kernel_rfl) (by kernel_rfl) (fun _ _ _ h => h) (yieldsIf_run (.slice (cutA Al cl f 29) (hi - f) (cl - f)) rfl (fun w' => by go_simp)) (box_all hB) ?_
          go_simp
          refine wpAnyP_take (i := 5) rfl (by kernel_rfl) (by kernel_rfl) (by kernel_rfl) (by kernel_rfl) (fun _ _ _ h => h) (yieldsIf_run (.int .i64 (f : Int)) rfl (fun w' => by go_simp)) (box_all hB) ?_
          go_simp
          refine wpAnyP_take (i := 6) rfl (by kernel_rfl) (by kernel_rfl) (by kernel_rfl) (by kernel_rfl) (fun _ _ _ h => h) (yieldsIf_run (.int .i64 (f : Int)) rfl (fun w' => by go_simp)) (box_all hB) ?_
          go_simp
          refine wpAnyP_take (i := 7) rfl (by kernel_rfl) (by kernel_rfl) (by kernel_rfl) (by kernel_rfl) (fun _ _ _ h => h) (yieldsIf_run (.bool (decide (0 < f))) rfl (fun w' => by go_simp)) (box_all hB) ?_
          go_simp
          clear hcm
          have hlp : ((l.take hi).drop f).length ≤ 20 := by rw [List.length_drop, List.length_take]; omega
          have hFi : V.events.length + ((l.take hi).drop f).length ≤ 1048576 ∧ V.gaps.length ≤ 1048576 := ⟨by have := hsm.1; omega, by have := hsm.2; omega⟩
          refine wpAnyP_twoQ (i := 8) (j := 12) (by kernel_rfl) rfl rfl ?_ ?_
          · go_wp2_with fail
            refine (Fill_any hv HRd.out hFi HIN.out).mono ?_
            rintro x w5 ⟨fX, rfl, vX, hb5⟩
            rw [HE.out]
            have B5 := box_below hB hb5
            have hb05 := hb3.trans (hb5.mono hb3.size)
            have v5 := hv.ext hb5
            have hgl5 := Nat.lt_of_lt_of_le hgl hb5.size
            go_wp2_with fail
            refine nextQ (box_all B5) ?_
            go_simp
            refine wpAnyP_take (i := 9) rfl (by kernel_rfl) (by kernel_rfl) (by kernel_rfl) (by kernel_rfl) (fun _ _ _ h => h) (yieldsIf_run (.tuple #[.agg fX.toArray, .int .i64 0]) rfl (fun w' => by go_simp)) (box_all B5) ?_
            go_simp
            refine wpAnyP_take (i := 10) rfl (by kernel_rfl) (by kernel_rfl) (by kernel_rfl) (by kernel_rfl) (fun _ _ _ h => h) (yieldsIf_run (.agg fX.toArray) rfl (fun w' => by go_simp)) (box_all B5) ?_
            go_simp
            refine wpAnyP_takeU (i := 11) rfl (by kernel_rfl) (by kernel_rfl) (by kernel_rfl) (by kernel_rfl) (fun _ _ _ h => h) (yieldsIf_run (.int .i64 0) rfl (fun w' => by go_simp)) (box_all B5) ?_
            go_simp
            refine wpAnyP_oneQ (i := 12) (by kernel_rfl) rfl ?_
            refine wpList_zeroS rfl rfl strcV ?_
            have hx6 : Below w5.heap.size w5 (w5.alloc (.cells vwZero 25)) := ext_alloc (ext_refl _) _
            have X6 : ZBox (w5.alloc (.cells vwZero 25)) w5.heap.size := heap_alloc_new _ _
            have vS6 : VwR (w5.alloc (.cells vwZero 25)) (fun b => b ≠ g8 ∧ b ≠ w5.heap.size) fX _ := (vX.weak fun b h hlt => ⟨h.elim id (by omega), Nat.ne_of_lt hlt⟩).ext hx6
            have v6 : VwR (w5.alloc (.cells vwZero 25)) (fun b => b ≠ g8 ∧ b ≠ w5.heap.size) cs V := (v5.weak fun b h hlt => ⟨h, Nat.ne_of_lt hlt⟩).ext hx6
            have hb06 := hb05.trans (hx6.mono hb05.size)
            have B6 := box_below B5 hx6
            have hgl6 := Nat.lt_of_lt_of_le hgl5 hx6.size
            have hge6 := hb05.size
            refine nextQ (box_all B6) ?_
            go_simp
            generalize hW6 : w5.alloc (.cells vwZero 25) = w6 at *
            generalize hG6 : w5.heap.size = g16 at *
            clear hW6 hx6 vX v5 B5 hb05 hB hv hb3 hgl
            refine wpAnyP_oneQ (i := 13) (by kernel_rfl) rfl ?_
            refine wpList_storeB rfl (.tmp 16) (.tmp 121) rfl rfl strcV g16 0 rfl fX rfl vS6.length vS6.one vwZero.toList 25 X6.zeroB (by decide) ?_
            intro w7 hB7 hg7 hz7
            rw [patch_all _ _ (by rw [vS6.length]; rfl)] at hB7
            have vX7 := X6.vb.apartS vS6 (fun b h => h.2) hg7
            have v7 := X6.vb.apartS v6 (fun b h => h.2) hg7
            have B7 : w7.heap[g8]? = some (.cells cs.toArray 25 (0, 0)) := by rw [hg7.block g8 hgl6 (by intro h; injection h with h; omega)]; exact B6
            have hb7 : Below w.heap.size w w7 := hb06.grown hg7 hb06.size (fun q hq => by injection hq with hq; omega)
            have X7 : VBox w7 g8 V := ⟨cs, B7, v7.weak fun b h _ => h.1⟩
            have hfl := vX7.length
            have hfo := vX7.one
            have hcl := v7.length
            refine nextQ_bad (by kernel_rfl) ?_
            clear hg7 hz7 X6 vS6 v6 B6 hb06 v7
            go_simp
            refine wpAnyP_oneQ (i := 14) (by kernel_rfl) rfl ?_
            go_wp2_with fail
            refine nextQ_bad (by kernel_rfl) ?_
            go_simp
            refine wpAnyP_done (by kernel_rfl) ?_
            go_simp
            go_wp2_with (first
              | refine wpList_loadS rfl (.tmp 16) rfl strcV ⟨g16, 0, none⟩ rfl fX hfl (box_all hB7) ?_
              | refine wpList_storeB rfl (.tmp 8) (.tmp 125) rfl rfl strcV g8 0 rfl fX rfl hfl hfo cs 25 B7 (by rw [hcl]; decide) ?_)
            intro w9 hB9 hg9 hz9
            rw [patch_all _ _ (by rw [hfl, hcl])] at hB9
            have X9 := X7.store (vX7.weak fun b h _ => h.1) hg9 hB9
            have hb9 : Below w.heap.size w w9 := hb7.grown hg9 hb7.size (fun q hq => by injection hq with hq; omega)
            clear hB9 hg9 hz9 X7 hB7 B7 vX7 hb7
            try go_wp2_with fail
            go_roundw
            case rel => exact ⟨q + 1, ms2, _, by go_num, HC3.out, by omega, X9, hb9⟩
            case measure => simp [intOf]; omega
          · refine wpList_zeroS rfl rfl strcV ?_
            have hx4 : Below wd.heap.size wd (wd.alloc (.cells vwZero 25)) := ext_alloc (ext_refl _) _
            have X4 : ZBox (wd.alloc (.cells vwZero 25)) wd.heap.size := heap_alloc_new _ _
            have v4 : VwR (wd.alloc (.cells vwZero 25)) (fun b => b ≠ g8 ∧ b ≠ wd.heap.size) cs V := (hv.weak fun b h hlt => ⟨h, Nat.ne_of_lt hlt⟩).ext hx4
            have R4 : EvsR (wd.alloc (.cells vwZero 25)) (fun b => b ≠ g8 ∧ b ≠ wd.heap.size) _ _ := (HRd.out.weak fun b h hlt => ⟨h, Nat.ne_of_lt hlt⟩).ext hx4
            have hb04 := hb3.trans (hx4.mono hb3.size)
            have B4 := box_below hB hx4
            have hgl4 := Nat.lt_of_lt_of_le hgl hx4.size
            have hge4 := hb3.size
            have hg4 := X4.lt
            refine nextQ (box_all B4) ?_
            go_simp
            generalize hW4 : wd.alloc (.cells vwZero 25) = w4 at *
            generalize hG4 : wd.heap.size = g16 at *
            clear hW4 hx4 hB hv hb3
            refine wpAnyP_oneQ (i := 8) (by kernel_rfl) rfl ?_
            have hv4 := v4
            go_wp2_with fail
            refine (Fill_any v4 R4 hFi HIN.out).mono ?_
            rintro x w5 ⟨fX, rfl, vX, hb5⟩
            rw [HE.out]
            have B5 := box_below B4 hb5
            have hb05 := hb04.trans (hb5.mono hb04.size)
            have v5 := hv4.ext hb5
            have hgl5 := Nat.lt_of_lt_of_le hgl4 hb5.size
            go_wp2_with fail
            refine nextQ (box_all B5) ?_
            go_simp
            refine wpAnyP_take (i := 9) rfl (by kernel_rfl) (by kernel_rfl) (by kernel_rfl) (by kernel_rfl) (fun _ _ _ h => h) (yieldsIf_run (.tuple #[.agg fX.toArray, .int .i64 0]) rfl (fun w' => by go_simp)) (box_all B5) ?_
            go_simp
            refine wpAnyP_take (i := 10) rfl (by kernel_rfl) (by kernel_rfl) (by kernel_rfl) (by kernel_rfl) (fun _ _ _ h => h) (yieldsIf_run (.agg fX.toArray) rfl (fun w' => by go_simp)) (box_all B5) ?_
            go_simp
            refine wpAnyP_takeU (i := 11) rfl (by kernel_rfl) (by kernel_rfl) (by kernel_rfl) (by kernel_rfl) (fun _ _ _ h => h) (yieldsIf_run (.int .i64 0) rfl (fun w' => by go_simp)) (box_all B5) ?_
            go_simp
            have vS5 : VwR w5 (fun b => b ≠ g8 ∧ b ≠ g16) fX _ := vX.weak fun b h hlt => h.elim id (fun h => ⟨by omega, by omega⟩)
            have X5 := X4.ext hb5
            have hge5 := hb05.size
            clear vX X4 v4 hv4 R4 B4 hb04
            refine wpAnyP_oneQ (i := 13) (by kernel_rfl) rfl ?_
            refine wpList_storeB rfl (.tmp 16) (.tmp 121) rfl rfl strcV g16 0 rfl fX rfl vS5.length vS5.one vwZero.toList 25 X5.zeroB (by decide) ?_
            intro w7 hB7 hg7 hz7
            rw [patch_all _ _ (by rw [vS5.length]; rfl)] at hB7
            have vX7 := X5.vb.apartS vS5 (fun b h => h.2) hg7
            have v7 := X5.vb.apartS v5 (fun b h => h.2) hg7
            have B7 : w7.heap[g8]? = some (.cells cs.toArray 25 (0, 0)) := by rw [hg7.block g8 hgl5 (by intro h; injection h with h; omega)]; exact B5
            have hb7 : Below w.heap.size w w7 := hb05.grown hg7 hb05.size (fun q hq => by injection hq with hq; omega)
            have X7 : VBox w7 g8 V := ⟨cs, B7, v7.weak fun b h _ => h.1⟩
            have hfl := vX7.length
            have hfo := vX7.one
            have hcl := v7.length
            refine nextQ_bad (by kernel_rfl) ?_
            clear hg7 hz7 X5 vS5 v5 B5 hb05 v7
            go_simp
            refine wpAnyP_oneQ (i := 14) (by kernel_rfl) rfl ?_
            go_wp2_with fail
            refine nextQ_bad (by kernel_rfl) ?_
            go_simp
            refine wpAnyP_done (by kernel_rfl) ?_
            go_simp
            go_wp2_with (first
              | refine wpList_loadS rfl (.tmp 16) rfl strcV ⟨g16, 0, none⟩ rfl fX hfl (box_all hB7) ?_
              | refine wpList_storeB rfl (.tmp 8) (.tmp 125) rfl rfl strcV g8 0 rfl fX rfl hfl hfo cs 25 B7 (by rw [hcl]; decide) ?_)
            intro w9 hB9 hg9 hz9
            rw [patch_all _ _ (by rw [hfl, hcl])] at hB9
            have X9 := X7.store (vX7.weak fun b h _ => h.1) hg9 hB9
            have hb9 : Below w.heap.size w w9 := hb7.grown hg9 hb7.size (fun q hq => by injection hq with hq; omega)
            clear hB9 hg9 hz9 X7 hB7 B7 vX7 hb7
            try go_wp2_with fail
            go_roundw
            case rel => exact ⟨q + 1, ms2, _, by go_num, HC3.out, by omega, X9, hb9⟩
            case measure => simp [intOf]; omega
    · go_wp2_with fail
      refine (live_any _).mono ?_
      rintro x w2 ⟨rfl, hb2⟩
      go_wp2_with fail
      go_ret
      exact ⟨rfl, hb1.trans (hb2.mono hb1.size)⟩
end Go.Proofs.Ytbehflldghhopaa

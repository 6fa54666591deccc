/-
  content.Same.
-/
import Derived.Test.YtmlnmcoophnlaaaGreatAlike
import Derived.Test.YtmlnmcoophnlaaaGreatCkP
import Derived.Test.YtmlnmcoophnlaaaGreatCop6
import Derived.Deep.DeepCutAuto
set_option linter.unusedVariables false
set_option linter.unusedSimpArgs false
namespace Go.Proofs.YtmlnmcoophnlaaaGreat
open Go.RowKit
attribute [local go_sem] Addr.add_mid
theorem lev_decide2 (l m : Lev) : decide (l = m) = (decide (l.users = m.users) && (decide (l.kinds = m.kinds) && (l.user == m.user && (l.message == m.message && (l.state == m.state && (l.invite == m.invite && (l.kick == m.kick && (l.ban == m.ban && l.redact == m.redact)))))))) := by
  obtain ⟨a, b, c, d, e, f, g, h, i⟩ := l
  obtain ⟨a', b', c', d', e', f', g', h', i'⟩ := m
  rw [Bool.eq_iff_iff]
  simp
theorem LevR.parts {w : World} {S : Nat → Prop} {cs : List Value} {l : Lev} (h : LevR w S cs l) : ∃ A1 c1 A2 c2, cs[0]? = some (.slice A1 l.users.length c1) ∧ cs[1]? = some (.slice A2 l.kinds.length c2) ∧ Row w w.heap.size A1 (ucs l.users) ∧ Row w w.heap.size A2 (kcs l.kinds) ∧
    cs[2]? = some (.int .i64 l.user) ∧ cs[3]? = some (.int .i64 l.message) ∧ cs[4]? = some (.int .i64 l.state) ∧ cs[5]? = some (.int .i64 l.invite) ∧ cs[6]? = some (.int .i64 l.kick) ∧ cs[7]? = some (.int .i64 l.ban) ∧ cs[8]? = some (.int .i64 l.redact) := by
  obtain ⟨vu, vk, rfl, h1, h2⟩ := h
  obtain ⟨A1, c1, rfl, _, _, _, h1, _⟩ := h1.form
  obtain ⟨A2, c2, rfl, _, _, _, h2, _⟩ := h2.form
  exact ⟨A1, c1, A2, c2, rfl, rfl, h1, h2, rfl, rfl, rfl, rfl, rfl, rfl, rfl⟩

set_option maxRecDepth 100000 in
set_option maxHeartbeats 8000000 in
theorem CSame_any {S S2 : Nat → Prop} {cs cs2 : List Value} {a b : Con} {w : World} (hr : ConR w S cs a) (hr2 : ConR w S2 cs2 b) (ha : a.fit) (hb : b.fit) :
    Calls Tryz.prog 54 #[.agg cs.toArray, .agg cs2.toArray] w (Says (decide (a = b)) w) := by
  have HD := hide (con_decide a b)
  have HD2 := hide (lev_decide2 a.lv b.lv)
  have HLEN := hide (show (cs.drop 7).length = 9 by rw [List.length_drop, hr.length])
  have HLEN2 := hide (show (cs2.drop 7).length = 9 by rw [List.length_drop, hr2.length])
  have HONE := hide (fun u (hu : u ∈ cs.drop 7) => hr.one u (List.mem_of_mem_drop hu))
  have HONE2 := hide (fun u (hu : u ∈ cs2.drop 7) => hr2.one u (List.mem_of_mem_drop hu))
  obtain ⟨A1, c1, A2, c2, s5, s6, h5, h6⟩ := hr.lists
  obtain ⟨A3, c3, A4, c4, t5, t6, h5', h6'⟩ := hr2.lists
  obtain ⟨s0, s1, s2, s3, s4⟩ := hr.gets
  obtain ⟨t0, t1, t2, t3, t4⟩ := hr2.gets
  obtain ⟨A5, c5, A6, c6, l0, l1, hu, hk, l2, l3, l4, l5, l6, l7, l8⟩ := hr.lev.parts
  obtain ⟨A7, c7, A8, c8, m0, m1, hu', hk', m2, m3, m4, m5, m6, m7, m8⟩ := hr2.lev.parts
  obtain ⟨f1, f2, f3, f4⟩ := ha
  obtain ⟨g1, g2, g3, g4⟩ := hb
  have C5 := fun W (hb : Below w.heap.size w W) => AlikeS_any (c := c1) (c2 := c3) (h5.ext hb) (h5'.ext hb) f1 g1
  have C6 := fun W (hb : Below w.heap.size w W) => AlikeS_any (c := c2) (c2 := c4) (h6.ext hb) (h6'.ext hb) f2 g2
  have CU := fun W (hb : Below w.heap.size w W) => AlikeU_any (c := c5) (c2 := c7) (hu.ext hb) (hu'.ext hb) f3 g3
  have CK := fun W (hb : Below w.heap.size w W) => AlikeK_any (c := c6) (c2 := c8) (hk.ext hb) (hk'.ext hb) f4 g4
  have B1 := heap_alloc2_old w (.cells cs.toArray 31) (.cells cs2.toArray 31)
  have B2 := heap_alloc2_new w (.cells cs.toArray 31) (.cells cs2.toArray 31)
  have hbW := below_two w (.cells cs.toArray 31) (.cells cs2.toArray 31)
  have hz : ((w.alloc (.cells cs.toArray 31)).alloc (.cells cs2.toArray 31)).heap.size = w.heap.size + 2 := by simp
  clear hr hr2 h5 h6 h5' h6' hu hk hu' hk' f1 f2 f3 f4 g1 g2 g3 g4
  go_enter Tryz.func54, Tryz.ntmps54
  go_upto_region 1 with fail
  generalize (w.alloc (.cells cs.toArray 31)).alloc (.cells cs2.toArray 31) = W at B1 B2 hbW hz ⊢
  have hbx : Below W.heap.size W W.drew := ext_drew (ext_refl W)
  have HZ := hide hz
  have HS := hide (And.intro s0 (And.intro s1 (And.intro s2 (And.intro s3 (And.intro s4 (And.intro s5 s6))))))
  have HT := hide (And.intro t0 (And.intro t1 (And.intro t2 (And.intro t3 (And.intro t4 (And.intro t5 t6))))))
  have HL := hide (And.intro l0 (And.intro l1 (And.intro l2 (And.intro l3 (And.intro l4 (And.intro l5 (And.intro l6 (And.intro l7 l8))))))))
  have HM := hide (And.intro m0 (And.intro m1 (And.intro m2 (And.intro m3 (And.intro m4 (And.intro m5 (And.intro m6 (And.intro m7 m8))))))))
  clear hz s0 s1 s2 s3 s4 s5 s6 t0 t1 t2 t3 t4 t5 t6 l0 l1 l2 l3 l4 l5 l6 l7 l8 m0 m1 m2 m3 m4 m5 m6 m7 m8
  obtain ⟨D1, hD1⟩ : ∃ D, D = cs.drop 7 := ⟨_, rfl⟩
  obtain ⟨D2, hD2⟩ : ∃ D, D = cs2.drop 7 := ⟨_, rfl⟩
  rw [← hD1] at HLEN HONE HL
  rw [← hD2] at HLEN2 HONE2 HM
  have HD1 := hide hD1; have HD2' := hide hD2
  clear hD1 hD2
  go_cut [5, 6] (fun v5 v6 wx => ∃ g1 g2 : Nat, v5 = .pointer (some ⟨g1, 0, none⟩) ∧ v6 = .pointer (some ⟨g2, 0, none⟩) ∧ wx.heap[g1]? = some (.cells D1.toArray 29 (0, 0)) ∧ wx.heap[g2]? = some (.cells D2.toArray 29 (0, 0)) ∧ wx.heap[w.heap.size]? = some (.cells cs.toArray 31 (0, 0)) ∧ wx.heap[w.heap.size + 1]? = some (.cells cs2.toArray 31 (0, 0)) ∧ Below w.heap.size w wx)
  case first =>
    obtain ⟨wd, hWD⟩ : ∃ wd, wd = W.drew := ⟨_, rfl⟩
    rw [← hWD] at hbx
    have hb1 := ext_trans hbW hbx
    replace B1 := box_below B1 hbx
    replace B2 := box_below B2 hbx
    have HZD := hide (show wd.heap.size = w.heap.size + 2 by rw [hWD]; exact HZ.out)
    refine wp_region_phase (fun w' => w'.heap[w.heap.size]? = some (.cells cs.toArray 31 (0, 0)) ∧ w'.heap[w.heap.size + 1]? = some (.cells cs2.toArray 31 (0, 0))) [] (by kernel_rfl) ?_
    rw [show { W with drawn := W.drawn + 1 } = wd from hWD.symm]
    clear hWD hbx
    have T0 := And.intro B1 B2
    refine wpAnyP_take (i := 0) rfl (by kernel_rfl) (by kernel_rfl) (by kernel_rfl) (by kernel_rfl) (fun _ _ _ h => h) (yieldsIf_run (.pointer (some ⟨w.heap.size, 7, none⟩)) rfl (fun w' => by go_simp)) T0 ?_
    refine wpAnyP_take (i := 1) rfl (by kernel_rfl) (by kernel_rfl) (by kernel_rfl) (by kernel_rfl) (fun _ _ _ h => h) (yieldsIf_loadS rfl (.tmp 7) rfl strcL ⟨w.heap.size, 7, none⟩ rfl D1 HLEN.out (fun w' hT => by rw [HD1.out]; exact box_from hT.1)) T0 ?_
    refine wpAnyP_take (i := 2) rfl (by kernel_rfl) (by kernel_rfl) (by kernel_rfl) (by kernel_rfl) (fun _ _ _ h => h) (yieldsIf_run (.pointer (some ⟨w.heap.size + 1, 7, none⟩)) rfl (fun w' => by go_simp)) T0 ?_
    refine wpAnyP_take (i := 3) rfl (by kernel_rfl) (by kernel_rfl) (by kernel_rfl) (by kernel_rfl) (fun _ _ _ h => h) (yieldsIf_loadS rfl (.tmp 9) rfl strcL ⟨w.heap.size + 1, 7, none⟩ rfl D2 HLEN2.out (fun w' hT => by rw [HD2'.out]; exact box_from hT.2)) T0 ?_
    go_simp
    refine wpAnyP_two' (i := 4) (j := 5) (by kernel_rfl) rfl rfl ?_ ?_
    · refine wpList_zeroS rfl rfl strcL ?_
      have X1 := heap_alloc_new wd (.cells levZero 29)
      have hx1 := ext_alloc (ext_refl wd) (.cells levZero 29)
      have hz1 : (wd.alloc (.cells levZero 29)).heap.size = w.heap.size + 3 := by simp [HZD.out]
      have T1 := And.intro (box_below T0.1 hx1) (box_below T0.2 hx1)
      have hb2 := ext_trans hb1 hx1
      refine nextP T1 ?_
      go_simp
      generalize wd.alloc (.cells levZero 29) = w1 at X1 hx1 hz1 T1 hb2 ⊢
      generalize hG1 : wd.heap.size = g1 at X1 ⊢
      have hg1 : g1 = w.heap.size + 2 := by rw [← hG1]; exact HZD.out
      clear hx1 T0 hb1 B1 B2 hG1
      have HG1 := hide hg1; have HZ1 := hide hz1; clear hg1 hz1
      refine wpAnyP_one' (i := 5) (by kernel_rfl) rfl ?_
      refine wpList_zeroS rfl rfl strcL ?_
      have X2 := heap_alloc_new w1 (.cells levZero 29)
      have hx2 := ext_alloc (ext_refl w1) (.cells levZero 29)
      have T2 := And.intro (box_below T1.1 hx2) (box_below T1.2 hx2)
      have hb3 := ext_trans hb2 hx2
      replace X1 := box_below X1 hx2
      have hz2 : (w1.alloc (.cells levZero 29)).heap.size = w1.heap.size + 1 := by simp
      refine nextP T2 ?_
      go_simp
      generalize w1.alloc (.cells levZero 29) = w2 at X1 X2 hx2 T2 hb3 hz2 ⊢
      generalize hG2 : w1.heap.size = g2 at X2 hz2 ⊢
      have HG2 := hide (show g2 = w.heap.size + 3 by rw [← hG2]; exact HZ1.out)
      have HZ2 := hide hz2
      clear hx2 T1 hb2 hG2 hz2
      refine wpAnyP_one' (i := 6) (by kernel_rfl) rfl ?_
      refine wpList_storeB rfl (.tmp 5) (.tmp 8) rfl rfl strcL g1 0 rfl D1 rfl HLEN.out HONE.out levZero.toList 29 X1 (by decide) ?_
      intro w3 Y1 gr1 hz3
      rw [patch_all _ _ (by rw [HLEN.out]; rfl)] at Y1
      have T3 := And.intro (box_grown T2.1 gr1 (by have := HG1.out; have := HG2.out; omega)) (box_grown T2.2 gr1 (by have := HG1.out; have := HG2.out; omega))
      have Y2 := box_grown X2 gr1 (by have := HG1.out; have := HG2.out; omega)
      have hb4 := hb3.grown gr1 hb3.size (fun k hk => by injection hk with hk; have := HG1.out; have := HG2.out; omega)
      clear T2 X1 X2 hb3 gr1 hz3
      refine nextP T3 ?_
      go_simp
      refine wpAnyP_one' (i := 7) (by kernel_rfl) rfl ?_
      refine wpList_storeB rfl (.tmp 6) (.tmp 10) rfl rfl strcL g2 0 rfl D2 rfl HLEN2.out HONE2.out levZero.toList 29 Y2 (by decide) ?_
      intro w4 Z2 gr2 hz4
      rw [patch_all _ _ (by rw [HLEN2.out]; rfl)] at Z2
      have T4 := And.intro (box_grown T3.1 gr2 (by have := HG1.out; have := HG2.out; omega)) (box_grown T3.2 gr2 (by have := HG1.out; have := HG2.out; omega))
      have Z1 := box_grown Y1 gr2 (by have := HG1.out; have := HG2.out; omega)
      have hb5 := hb4.grown gr2 hb4.size (fun k hk => by injection hk with hk; have := HG1.out; have := HG2.out; omega)
      clear T3 Y1 Y2 hb4 gr2 hz4
      refine nextP T4 ?_
      go_simp
      refine wpAnyP_done (by kernel_rfl) ?_
      go_simp
      try go_wp2_with fail
      go_meet
      exact ⟨g1, g2, rfl, rfl, Z1, Z2, T4.1, T4.2, hb5⟩
    · refine wpList_zeroS rfl rfl strcL ?_
      have X1 := heap_alloc_new wd (.cells levZero 29)
      have hx1 := ext_alloc (ext_refl wd) (.cells levZero 29)
      have hz1 : (wd.alloc (.cells levZero 29)).heap.size = w.heap.size + 3 := by simp [HZD.out]
      have T1 := And.intro (box_below T0.1 hx1) (box_below T0.2 hx1)
      have hb2 := ext_trans hb1 hx1
      refine nextP T1 ?_
      go_simp
      generalize wd.alloc (.cells levZero 29) = w1 at X1 hx1 hz1 T1 hb2 ⊢
      generalize hG1 : wd.heap.size = g1 at X1 ⊢
      have hg1 : g1 = w.heap.size + 2 := by rw [← hG1]; exact HZD.out
      clear hx1 T0 hb1 B1 B2 hG1
      have HG1 := hide hg1; have HZ1 := hide hz1; clear hg1 hz1
      refine wpAnyP_one' (i := 4) (by kernel_rfl) rfl ?_
      refine wpList_zeroS rfl rfl strcL ?_
      have X2 := heap_alloc_new w1 (.cells levZero 29)
      have hx2 := ext_alloc (ext_refl w1) (.cells levZero 29)
      have T2 := And.intro (box_below T1.1 hx2) (box_below T1.2 hx2)
      have hb3 := ext_trans hb2 hx2
      replace X1 := box_below X1 hx2
      have hz2 : (w1.alloc (.cells levZero 29)).heap.size = w1.heap.size + 1 := by simp
      refine nextP T2 ?_
      go_simp
      generalize w1.alloc (.cells levZero 29) = w2 at X1 X2 hx2 T2 hb3 hz2 ⊢
      generalize hG2 : w1.heap.size = g2 at X2 hz2 ⊢
      have HG2 := hide (show g2 = w.heap.size + 3 by rw [← hG2]; exact HZ1.out)
      have HZ2 := hide hz2
      clear hx2 T1 hb2 hG2 hz2
      refine wpAnyP_one' (i := 6) (by kernel_rfl) rfl ?_
      refine wpList_storeB rfl (.tmp 5) (.tmp 8) rfl rfl strcL g2 0 rfl D1 rfl HLEN.out HONE.out levZero.toList 29 X2 (by decide) ?_
      intro w3 Y1 gr1 hz3
      rw [patch_all _ _ (by rw [HLEN.out]; rfl)] at Y1
      have T3 := And.intro (box_grown T2.1 gr1 (by have := HG1.out; have := HG2.out; omega)) (box_grown T2.2 gr1 (by have := HG1.out; have := HG2.out; omega))
      have Y2 := box_grown X1 gr1 (by have := HG1.out; have := HG2.out; omega)
      have hb4 := hb3.grown gr1 hb3.size (fun k hk => by injection hk with hk; have := HG1.out; have := HG2.out; omega)
      clear T2 X1 X2 hb3 gr1 hz3
      refine nextP T3 ?_
      go_simp
      refine wpAnyP_one' (i := 7) (by kernel_rfl) rfl ?_
      refine wpList_storeB rfl (.tmp 6) (.tmp 10) rfl rfl strcL g1 0 rfl D2 rfl HLEN2.out HONE2.out levZero.toList 29 Y2 (by decide) ?_
      intro w4 Z2 gr2 hz4
      rw [patch_all _ _ (by rw [HLEN2.out]; rfl)] at Z2
      have T4 := And.intro (box_grown T3.1 gr2 (by have := HG1.out; have := HG2.out; omega)) (box_grown T3.2 gr2 (by have := HG1.out; have := HG2.out; omega))
      have Z1 := box_grown Y1 gr2 (by have := HG1.out; have := HG2.out; omega)
      have hb5 := hb4.grown gr2 hb4.size (fun k hk => by injection hk with hk; have := HG1.out; have := HG2.out; omega)
      clear T3 Y1 Y2 hb4 gr2 hz4
      refine nextP T4 ?_
      go_simp
      refine wpAnyP_done (by kernel_rfl) ?_
      go_simp
      try go_wp2_with fail
      go_meet
      exact ⟨g2, g1, rfl, rfl, Z1, Z2, T4.1, T4.2, hb5⟩
  case rest =>
  obtain ⟨g1, g2, rfl, rfl, L1, L2, B1, B2, hbc⟩ := hcut
  obtain ⟨s0, s1, s2, s3, s4, s5, s6⟩ := HS.out
  obtain ⟨t0, t1, t2, t3, t4, t5, t6⟩ := HT.out
  obtain ⟨l0, l1, l2, l3, l4, l5, l6, l7, l8⟩ := HL.out
  obtain ⟨m0, m1, m2, m3, m4, m5, m6, m7, m8⟩ := HM.out
  have rs0 := box_at B1 s0
  have rs1 := box_at B1 s1
  have rs2 := box_at B1 s2
  have rs3 := box_at B1 s3
  have rs4 := box_at B1 s4
  have rs5 := box_at B1 s5
  have rs6 := box_at B1 s6
  have rt0 := box_at B2 t0
  have rt1 := box_at B2 t1
  have rt2 := box_at B2 t2
  have rt3 := box_at B2 t3
  have rt4 := box_at B2 t4
  have rt5 := box_at B2 t5
  have rt6 := box_at B2 t6
  have rl0 := box_at L1 l0
  have rl1 := box_at L1 l1
  have rl2 := box_at L1 l2
  have rl3 := box_at L1 l3
  have rl4 := box_at L1 l4
  have rl5 := box_at L1 l5
  have rl6 := box_at L1 l6
  have rl7 := box_at L1 l7
  have rl8 := box_at L1 l8
  have rm0 := box_at L2 m0
  have rm1 := box_at L2 m1
  have rm2 := box_at L2 m2
  have rm3 := box_at L2 m3
  have rm4 := box_at L2 m4
  have rm5 := box_at L2 m5
  have rm6 := box_at L2 m6
  have rm7 := box_at L2 m7
  have rm8 := box_at L2 m8
  clear s0 s1 s2 s3 s4 s5 s6 t0 t1 t2 t3 t4 t5 t6 l0 l1 l2 l3 l4 l5 l6 l7 l8 m0 m1 m2 m3 m4 m5 m6 m7 m8 B1 B2 L1 L2
  go_wp2_with (first
    | (go_at_call 70; first
        | ((with_reducible refine (C5 _ hbc).mono ?_); rintro e W1 ⟨rfl, n1, rfl⟩)
        | ((with_reducible refine (C6 _ (below_drewN hbc _)).mono ?_); rintro e W2 ⟨rfl, n2, rfl⟩))
    | (go_at_call 71; (with_reducible refine (CU _ (below_drewN hbc _)).mono ?_); rintro e W3 ⟨rfl, n3, rfl⟩)
    | (go_at_call 72; (with_reducible refine (CK _ (below_drewN hbc _)).mono ?_); rintro e W4 ⟨rfl, n4, rfl⟩))
  all_goals
    go_ret
    refine ⟨?_, by first | exact hbc | exact below_drewN hbc _⟩
    rw [HD.out, HD2.out]
    first
      | (simp [*]; done)
      | (have hq : a.deny ≠ b.deny := by simpa using (show (!decide (a.deny = b.deny)) = true from ‹_›)
         simp [*]; done)
      | (have hq : a.deny = b.deny := by simpa using (show (!decide (a.deny = b.deny)) = false from ‹_›)
         simp [*]; done)
end Go.Proofs.YtmlnmcoophnlaaaGreat

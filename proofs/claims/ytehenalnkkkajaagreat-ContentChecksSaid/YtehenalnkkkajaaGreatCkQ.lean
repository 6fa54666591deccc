/-
  fedchatref06: Check.
-/
import Derived.Test.YtehenalnkkkajaaGreatCkO
import Derived.Test.YtehenalnkkkajaaGreatDecC
import Derived.Deep.DeepCutAuto
set_option linter.unusedVariables false
set_option linter.unusedSimpArgs false
namespace Go.Proofs.YtehenalnkkkajaaGreat
open Go.RowKit
attribute [local go_sem] Addr.add_mid
set_option maxRecDepth 100000 in
set_option maxHeartbeats 8000000 in
theorem r6_Check {S : Nat → Prop} {cs : List Value} {c : Con} {k : Int} {w : World} (hr : ConR w S cs c) (hm : c.mild) :
    Calls Tryz.prog 6 #[.int .i64 k, .agg cs.toArray] w (Errs (ckE k c) w) := by
  rw [← ckE_R]
  obtain ⟨s0, s1, s2, s3, s4⟩ := hr.gets
  obtain ⟨A1, c1, A2, c2, s5, s6, h5, h6⟩ := hr.lists
  have HR := hide hr
  have HL := hide hr.length
  have HM := hide hm
  have HN := hide (show (cs.drop 7).length = 9 by rw [List.length_drop, hr.length])
  have B := heap_alloc_new w (.cells cs.toArray 29)
  have hb := ext_alloc (ext_refl w) (.cells cs.toArray 29)
  have CKN := fun W => r6_known k W
  have CO := fun W (h : Below w.heap.size w W) => r6_only (k := k) (hr.ext h) ⟨hm.usersL, hm.kindsL⟩
  have CB := fun W => r6_bare k W
  have CS := fun W (h : Below w.heap.size w W) => R6Same_any (S2 := Any) (cs2 := conZero.toList) (b := Con.zero) (hr.ext h) (conZero_R W Any) ⟨hm.allowL, hm.denyL, hm.usersL, hm.kindsL⟩ ⟨Nat.zero_le _, Nat.zero_le _, Nat.zero_le _, Nat.zero_le _⟩
  have CT := fun W (h : Below w.heap.size w W) => r6_text (k := k) (hr.ext h)
  have CNu := fun W => r6_number k c.n W
  have CTa := fun W (h : Below w.heap.size w W) => r6_target (k := k) (hr.ext h)
  have CV := fun W (h : Below w.heap.size w W) => r6_via (hr.ext h) hm.via
  have CR := fun W (h : Below w.heap.size w W) => r6_rooms (hr.ext h) hm.allowL hm.allow
  have CP := fun W (h : Below w.heap.size w W) => r6_patterns A1 c1 c.allow W (h5.ext h) hm.allowL
  have CD := fun W (h : Below w.heap.size w W) => r6_patterns A2 c2 c.deny W (h6.ext h) hm.denyL
  have CL := fun W (h : Below w.heap.size w W) => R6LevelsE_any (hr.lev.ext h) ⟨hm.usersL, hm.kindsL⟩ hm.users
  have hz : decide (c = Con.zero) = decide (setN c = 0) := decide_eq_decide.2 setN_Con.symm
  simp only [hz] at CS
  obtain ⟨kn, hkn⟩ : ∃ b, knownB k = b := ⟨_, rfl⟩
  obtain ⟨on, hon⟩ : ∃ b, onlyB k c = b := ⟨_, rfl⟩
  obtain ⟨ba, hba⟩ : ∃ b, bareK k = b := ⟨_, rfl⟩
  obtain ⟨sz, hsz⟩ : ∃ b, decide (setN c = 0) = b := ⟨_, rfl⟩
  obtain ⟨e1, he1⟩ : ∃ b, textE k c = b := ⟨_, rfl⟩
  obtain ⟨e2, he2⟩ : ∃ b, numR k c.n = b := ⟨_, rfl⟩
  obtain ⟨e3, he3⟩ : ∃ b, targetR k c = b := ⟨_, rfl⟩
  obtain ⟨e4, he4⟩ : ∃ b, viaE c = b := ⟨_, rfl⟩
  obtain ⟨e5, he5⟩ : ∃ b, rulesE c = b := ⟨_, rfl⟩
  obtain ⟨e6, he6⟩ : ∃ b, patternsE c.allow = b := ⟨_, rfl⟩
  obtain ⟨e7, he7⟩ : ∃ b, patternsE c.deny = b := ⟨_, rfl⟩
  obtain ⟨e8, he8⟩ : ∃ b, levelsE c.lv = b := ⟨_, rfl⟩
  have HE := hide (show ckR k c = if kn = false ∨ on = false then 1 else if ba = true ∧ sz = true then 0 else thenE e1 (thenE e2 (thenE e3 (thenE e4 (if k = 4 then e5 else thenE e6 (thenE e7 e8))))) by
    unfold ckR
    rw [hkn, hon, hba, he1, he2, he3, he4, he5, he6, he7, he8]
    by_cases q : setN c = 0
    · have hs : sz = true := by rw [← hsz]; exact decide_eq_true q
      rw [hs]; simp [q]
    · have hs : sz = false := by rw [← hsz]; exact decide_eq_false q
      rw [hs]; simp [q])
  simp only [hkn] at CKN; simp only [hon] at CO; simp only [hba] at CB; simp only [hsz] at CS; simp only [he1] at CT; simp only [he2] at CNu; simp only [he3] at CTa; simp only [he4] at CV; simp only [he5] at CR; simp only [he6] at CP; simp only [he7] at CD; simp only [he8] at CL
  have HB := hide B
  have t1 := s1
  clear hr hm h5 h6 B hz hkn hon hba hsz he1 he2 he3 he4 he5 he6 he7 he8 s0 s1 s2 s3 s4
  generalize hE : ckR k c = E at HE ⊢
  clear hE
  cases kn
  case false =>
    have HV := hide (show E = 1 by rw [HE.out, if_pos (.inl rfl)])
    go_enter Tryz.func6, Tryz.ntmps6
    go_wp2_with (go_at_call 22; refine (CKN _).mono ?_; rintro e w2 ⟨rfl, hw2⟩; rw [hw2]; clear hw2 w2)
    go_ret
    exact ⟨by rw [HV.out]; rfl, hb⟩
  cases on
  case false =>
    have HV := hide (show E = 1 by rw [HE.out, if_pos (.inr rfl)])
    go_enter Tryz.func6, Tryz.ntmps6
    go_wp2_with (first | (go_at_call 22; refine (CKN _).mono ?_; rintro e w2 ⟨rfl, hw2⟩; rw [hw2]; clear hw2 w2) | refine wpList_loadS rfl (.tmp 3) rfl strcC ⟨w.heap.size, 0, none⟩ rfl cs HL.out (box_all HB.out) ?_ | (go_at_call 23; refine (CO _ hb).mono ?_; rintro e w3 ⟨rfl, k3⟩; have HB3 := hide (box_below HB.out k3); have hb3 := ext_trans hb k3))
    go_ret
    exact ⟨by rw [HV.out]; rfl, hb3⟩
  have HE2 := hide (show E = if ba = true ∧ sz = true then 0 else thenE e1 (thenE e2 (thenE e3 (thenE e4 (if k = 4 then e5 else thenE e6 (thenE e7 e8))))) by rw [HE.out, if_neg (by simp)])
  clear HE
  have hx : (ba = true ∧ sz = true) ∨ (ba = false) ∨ (ba = true ∧ sz = false) := by cases ba <;> cases sz <;> simp
  rcases hx with ⟨rfl, rfl⟩ | hx
  · have HV := hide (show E = 0 by rw [HE2.out]; rfl)
    go_enter Tryz.func6, Tryz.ntmps6
    go_wp2_with (first | (go_at_call 22; refine (CKN _).mono ?_; rintro e w2 ⟨rfl, hw2⟩; rw [hw2]; clear hw2 w2) | refine wpList_loadS rfl (.tmp 3) rfl strcC ⟨w.heap.size, 0, none⟩ rfl cs HL.out (box_all HB.out) ?_ | (go_at_call 23; refine (CO _ hb).mono ?_; rintro e w3 ⟨rfl, k3⟩; have HB3 := hide (box_below HB.out k3); have hb3 := ext_trans hb k3) | (go_at_call 24; refine (CB _).mono ?_; rintro e w2 ⟨rfl, hw2⟩; rw [hw2]; clear hw2 w2) | refine wpList_loadS rfl (.tmp 3) rfl strcC ⟨w.heap.size, 0, none⟩ rfl cs HL.out (box_all HB3.out) ?_ | (go_at_call 25; refine (CS _ hb3).mono ?_; rintro e w4 ⟨rfl, k4⟩; have HB4 := hide (box_below HB3.out k4); have hb4 := ext_trans hb3 k4))
    go_ret
    exact ⟨by rw [HV.out]; rfl, hb4⟩
  have HE3 := hide (show E = thenE e1 (thenE e2 (thenE e3 (thenE e4 (if k = 4 then e5 else thenE e6 (thenE e7 e8))))) by
    rw [HE2.out, if_neg (by rcases hx with rfl | ⟨rfl, rfl⟩ <;> simp)])
  clear HE2
  rcases hx with rfl | ⟨rfl, rfl⟩
  · go_enter Tryz.func6, Tryz.ntmps6
    go_upto_region 5 with (first | (go_at_call 22; refine (CKN _).mono ?_; rintro e w2 ⟨rfl, hw2⟩; rw [hw2]; clear hw2 w2) | refine wpList_loadS rfl (.tmp 3) rfl strcC ⟨w.heap.size, 0, none⟩ rfl cs HL.out (box_all HB.out) ?_ | (go_at_call 23; refine (CO _ hb).mono ?_; rintro e w3 ⟨rfl, k3⟩; have HB3 := hide (box_below HB.out k3); have hb3 := ext_trans hb k3) | (go_at_call 24; refine (CB _).mono ?_; rintro e w2 ⟨rfl, hw2⟩; rw [hw2]; clear hw2 w2) | refine wpList_loadS rfl (.tmp 3) rfl strcC ⟨w.heap.size, 0, none⟩ rfl cs HL.out (box_all HB3.out) ?_ | (go_at_call 25; refine (CS _ hb3).mono ?_; rintro e w4 ⟨rfl, k4⟩; have HB4 := hide (box_below HB3.out k4); have hb4 := ext_trans hb3 k4))
    have hbx := hb3
    have HBx := HB3
    clear hb3 HB3
    go_upto_region 6 with (first | refine wpList_loadS rfl (.tmp 3) rfl strcC ⟨w.heap.size, 0, none⟩ rfl cs HL.out (box_all HBx.out) ?_ | (go_at_call 26; refine (CT _ hbx).mono ?_; rintro e wy1 ⟨rfl, kx1⟩))
    have hbx := ext_trans hbx kx1
    have HBx := hide (box_below HBx.out kx1)
    clear kx1
    by_cases h1 : e1 = 0
    case neg =>
      have HV := hide (show E = e1 by rw [HE3.out]; exact if_pos h1)
      have h' : (e1 != 0) = true := by simpa using h1
      clear h1
      go_wp2_with fail
      go_ret
      exact ⟨by rw [HV.out]; rfl, hbx⟩
    subst h1
    have HE3 := hide (show E = thenE e2 (thenE e3 (thenE e4 (if k = 4 then e5 else thenE e6 (thenE e7 e8)))) by rw [HE3.out]; exact thenE_z)
    have q1 := box_at HBx.out t1
    go_upto_region 9 with ((go_at_call 27; refine (CNu _).mono ?_; rintro e wy2 ⟨rfl, hw2⟩; rw [hw2]; clear hw2 wy2))
    clear q1
    by_cases h2 : e2 = 0
    case neg =>
      have HV := hide (show E = e2 by rw [HE3.out]; exact if_pos h2)
      have h' : (e2 != 0) = true := by simpa using h2
      clear h2
      go_wp2_with fail
      go_ret
      exact ⟨by rw [HV.out]; rfl, hbx⟩
    subst h2
    have HE3 := hide (show E = thenE e3 (thenE e4 (if k = 4 then e5 else thenE e6 (thenE e7 e8))) by rw [HE3.out]; exact thenE_z)
    go_upto_region 12 with (first | refine wpList_loadS rfl (.tmp 3) rfl strcC ⟨w.heap.size, 0, none⟩ rfl cs HL.out (box_all HBx.out) ?_ | (go_at_call 28; refine (CTa _ hbx).mono ?_; rintro e wy3 ⟨rfl, kx3⟩))
    have hbx := ext_trans hbx kx3
    have HBx := hide (box_below HBx.out kx3)
    clear kx3
    by_cases h3 : e3 = 0
    case neg =>
      have HV := hide (show E = e3 by rw [HE3.out]; exact if_pos h3)
      have h' : (e3 != 0) = true := by simpa using h3
      clear h3
      go_wp2_with fail
      go_ret
      exact ⟨by rw [HV.out]; rfl, hbx⟩
    subst h3
    have HE3 := hide (show E = thenE e4 (if k = 4 then e5 else thenE e6 (thenE e7 e8)) by rw [HE3.out]; exact thenE_z)
    go_upto_region 15 with (first | refine wpList_loadS rfl (.tmp 3) rfl strcC ⟨w.heap.size, 0, none⟩ rfl cs HL.out (box_all HBx.out) ?_ | (go_at_call 29; refine (CV _ hbx).mono ?_; rintro e wy4 ⟨rfl, kx4⟩))
    have hbx := ext_trans hbx kx4
    have HBx := hide (box_below HBx.out kx4)
    clear kx4
    by_cases h4 : e4 = 0
    case neg =>
      have HV := hide (show E = e4 by rw [HE3.out]; exact if_pos h4)
      have h' : (e4 != 0) = true := by simpa using h4
      clear h4
      go_wp2_with fail
      go_ret
      exact ⟨by rw [HV.out]; rfl, hbx⟩
    subst h4
    have HE3 := hide (show E = if k = 4 then e5 else thenE e6 (thenE e7 e8) by rw [HE3.out]; exact thenE_z)
    by_cases hk : k = 4
    · have HV := hide (show E = e5 by rw [HE3.out, if_pos hk])
      have hk' : (k == 4) = true := by simpa using hk
      clear hk
      go_wp2_with (first | refine wpList_loadS rfl (.tmp 3) rfl strcC ⟨w.heap.size, 0, none⟩ rfl cs HL.out (box_all HBx.out) ?_ | (go_at_call 30; refine (CR _ hbx).mono ?_; rintro e wy5 ⟨rfl, kx5⟩))
      go_ret
      exact ⟨by rw [HV.out]; rfl, ext_trans hbx kx5⟩
    have HE3 := hide (show E = thenE e6 (thenE e7 e8) by rw [HE3.out, if_neg hk])
    have hk' : (k == 4) = false := by simpa using hk
    clear hk
    have q5 := box_at HBx.out s5
    go_upto_region 20 with ((go_at_call 31; refine (CP _ hbx).mono ?_; rintro e wy6 ⟨rfl, kx6⟩))
    have hbx := ext_trans hbx kx6
    have HBx := hide (box_below HBx.out kx6)
    clear q5
    clear kx6
    by_cases h6 : e6 = 0
    case neg =>
      have HV := hide (show E = e6 by rw [HE3.out]; exact if_pos h6)
      have h' : (e6 != 0) = true := by simpa using h6
      clear h6
      go_wp2_with fail
      go_ret
      exact ⟨by rw [HV.out]; rfl, hbx⟩
    subst h6
    have HE3 := hide (show E = thenE e7 e8 by rw [HE3.out]; exact thenE_z)
    have q6 := box_at HBx.out s6
    go_upto_region 23 with ((go_at_call 31; refine (CD _ hbx).mono ?_; rintro e wy7 ⟨rfl, kx7⟩))
    have hbx := ext_trans hbx kx7
    have HBx := hide (box_below HBx.out kx7)
    clear q6
    clear kx7
    by_cases h7 : e7 = 0
    case neg =>
      have HV := hide (show E = e7 by rw [HE3.out]; exact if_pos h7)
      have h' : (e7 != 0) = true := by simpa using h7
      clear h7
      go_wp2_with fail
      go_ret
      exact ⟨by rw [HV.out]; rfl, hbx⟩
    subst h7
    have HE3 := hide (show E = e8 by rw [HE3.out]; exact thenE_z)
    go_wp2_with (first | refine wpList_loadS rfl (.tmp 67) rfl strcL ⟨w.heap.size, 7, none⟩ rfl (cs.drop 7) HN.out (box_from HBx.out) ?_ | (go_at_call 32; refine (CL _ hbx).mono ?_; rintro e wy8 ⟨rfl, kx8⟩))
    go_ret
    exact ⟨by rw [HE3.out]; rfl, ext_trans hbx kx8⟩
  · go_enter Tryz.func6, Tryz.ntmps6
    go_upto_region 5 with (first | (go_at_call 22; refine (CKN _).mono ?_; rintro e w2 ⟨rfl, hw2⟩; rw [hw2]; clear hw2 w2) | refine wpList_loadS rfl (.tmp 3) rfl strcC ⟨w.heap.size, 0, none⟩ rfl cs HL.out (box_all HB.out) ?_ | (go_at_call 23; refine (CO _ hb).mono ?_; rintro e w3 ⟨rfl, k3⟩; have HB3 := hide (box_below HB.out k3); have hb3 := ext_trans hb k3) | (go_at_call 24; refine (CB _).mono ?_; rintro e w2 ⟨rfl, hw2⟩; rw [hw2]; clear hw2 w2) | refine wpList_loadS rfl (.tmp 3) rfl strcC ⟨w.heap.size, 0, none⟩ rfl cs HL.out (box_all HB3.out) ?_ | (go_at_call 25; refine (CS _ hb3).mono ?_; rintro e w4 ⟨rfl, k4⟩; have HB4 := hide (box_below HB3.out k4); have hb4 := ext_trans hb3 k4))
    have hbx := hb4
    have HBx := HB4
    clear hb4 HB4
    go_upto_region 6 with (first | refine wpList_loadS rfl (.tmp 3) rfl strcC ⟨w.heap.size, 0, none⟩ rfl cs HL.out (box_all HBx.out) ?_ | (go_at_call 26; refine (CT _ hbx).mono ?_; rintro e wy1 ⟨rfl, kx1⟩))
    have hbx := ext_trans hbx kx1
    have HBx := hide (box_below HBx.out kx1)
    clear kx1
    by_cases h1 : e1 = 0
    case neg =>
      have HV := hide (show E = e1 by rw [HE3.out]; exact if_pos h1)
      have h' : (e1 != 0) = true := by simpa using h1
      clear h1
      go_wp2_with fail
      go_ret
      exact ⟨by rw [HV.out]; rfl, hbx⟩
    subst h1
    have HE3 := hide (show E = thenE e2 (thenE e3 (thenE e4 (if k = 4 then e5 else thenE e6 (thenE e7 e8)))) by rw [HE3.out]; exact thenE_z)
    have q1 := box_at HBx.out t1
    go_upto_region 9 with ((go_at_call 27; refine (CNu _).mono ?_; rintro e wy2 ⟨rfl, hw2⟩; rw [hw2]; clear hw2 wy2))
    clear q1
    by_cases h2 : e2 = 0
    case neg =>
      have HV := hide (show E = e2 by rw [HE3.out]; exact if_pos h2)
      have h' : (e2 != 0) = true := by simpa using h2
      clear h2
      go_wp2_with fail
      go_ret
      exact ⟨by rw [HV.out]; rfl, hbx⟩
    subst h2
    have HE3 := hide (show E = thenE e3 (thenE e4 (if k = 4 then e5 else thenE e6 (thenE e7 e8))) by rw [HE3.out]; exact thenE_z)
    go_upto_region 12 with (first | refine wpList_loadS rfl (.tmp 3) rfl strcC ⟨w.heap.size, 0, none⟩ rfl cs HL.out (box_all HBx.out) ?_ | (go_at_call 28; refine (CTa _ hbx).mono ?_; rintro e wy3 ⟨rfl, kx3⟩))
    have hbx := ext_trans hbx kx3
    have HBx := hide (box_below HBx.out kx3)
    clear kx3
    by_cases h3 : e3 = 0
    case neg =>
      have HV := hide (show E = e3 by rw [HE3.out]; exact if_pos h3)
      have h' : (e3 != 0) = true := by simpa using h3
      clear h3
      go_wp2_with fail
      go_ret
      exact ⟨by rw [HV.out]; rfl, hbx⟩
    subst h3
    have HE3 := hide (show E = thenE e4 (if k = 4 then e5 else thenE e6 (thenE e7 e8)) by rw [HE3.out]; exact thenE_z)
    go_upto_region 15 with (first | refine wpList_loadS rfl (.tmp 3) rfl strcC ⟨w.heap.size, 0, none⟩ rfl cs HL.out (box_all HBx.out) ?_ | (go_at_call 29; refine (CV _ hbx).mono ?_; rintro e wy4 ⟨rfl, kx4⟩))
    have hbx := ext_trans hbx kx4
    have HBx := hide (box_below HBx.out kx4)
    clear kx4
    by_cases h4 : e4 = 0
    case neg =>
      have HV := hide (show E = e4 by rw [HE3.out]; exact if_pos h4)
      have h' : (e4 != 0) = true := by simpa using h4
      clear h4
      go_wp2_with fail
      go_ret
      exact ⟨by rw [HV.out]; rfl, hbx⟩
    subst h4
    have HE3 := hide (show E = if k = 4 then e5 else thenE e6 (thenE e7 e8) by rw [HE3.out]; exact thenE_z)
    by_cases hk : k = 4
    · have HV := hide (show E = e5 by rw [HE3.out, if_pos hk])
      have hk' : (k == 4) = true := by simpa using hk
      clear hk
      go_wp2_with (first | refine wpList_loadS rfl (.tmp 3) rfl strcC ⟨w.heap.size, 0, none⟩ rfl cs HL.out (box_all HBx.out) ?_ | (go_at_call 30; refine (CR _ hbx).mono ?_; rintro e wy5 ⟨rfl, kx5⟩))
      go_ret
      exact ⟨by rw [HV.out]; rfl, ext_trans hbx kx5⟩
    have HE3 := hide (show E = thenE e6 (thenE e7 e8) by rw [HE3.out, if_neg hk])
    have hk' : (k == 4) = false := by simpa using hk
    clear hk
    have q5 := box_at HBx.out s5
    go_upto_region 20 with ((go_at_call 31; refine (CP _ hbx).mono ?_; rintro e wy6 ⟨rfl, kx6⟩))
    have hbx := ext_trans hbx kx6
    have HBx := hide (box_below HBx.out kx6)
    clear q5
    clear kx6
    by_cases h6 : e6 = 0
    case neg =>
      have HV := hide (show E = e6 by rw [HE3.out]; exact if_pos h6)
      have h' : (e6 != 0) = true := by simpa using h6
      clear h6
      go_wp2_with fail
      go_ret
      exact ⟨by rw [HV.out]; rfl, hbx⟩
    subst h6
    have HE3 := hide (show E = thenE e7 e8 by rw [HE3.out]; exact thenE_z)
    have q6 := box_at HBx.out s6
    go_upto_region 23 with ((go_at_call 31; refine (CD _ hbx).mono ?_; rintro e wy7 ⟨rfl, kx7⟩))
    have hbx := ext_trans hbx kx7
    have HBx := hide (box_below HBx.out kx7)
    clear q6
    clear kx7
    by_cases h7 : e7 = 0
    case neg =>
      have HV := hide (show E = e7 by rw [HE3.out]; exact if_pos h7)
      have h' : (e7 != 0) = true := by simpa using h7
      clear h7
      go_wp2_with fail
      go_ret
      exact ⟨by rw [HV.out]; rfl, hbx⟩
    subst h7
    have HE3 := hide (show E = e8 by rw [HE3.out]; exact thenE_z)
    go_wp2_with (first | refine wpList_loadS rfl (.tmp 67) rfl strcL ⟨w.heap.size, 7, none⟩ rfl (cs.drop 7) HN.out (box_from HBx.out) ?_ | (go_at_call 32; refine (CL _ hbx).mono ?_; rintro e wy8 ⟨rfl, kx8⟩))
    go_ret
    exact ⟨by rw [HE3.out]; rfl, ext_trans hbx kx8⟩
end Go.Proofs.YtehenalnkkkajaaGreat

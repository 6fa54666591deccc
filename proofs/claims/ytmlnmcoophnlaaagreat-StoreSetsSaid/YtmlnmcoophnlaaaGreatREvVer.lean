/-
  fedchatref07: Rising, Key, Frame, Check.
  fedchatref07: Verify, Receive.
-/
import Derived.Test.YtmlnmcoophnlaaaGreatEvChk
import Derived.Test.YtmlnmcoophnlaaaGreatEvP
import Derived.Test.YtmlnmcoophnlaaaGreatCkQ
import Derived.Test.YtmlnmcoophnlaaaGreatIdsR
import Derived.Test.YtmlnmcoophnlaaaGreatEvVer
import Derived.Test.YtmlnmcoophnlaaaGreatREvStr
set_option linter.unusedVariables false
set_option linter.unusedSimpArgs false
namespace Go.Proofs.YtmlnmcoophnlaaaGreat
section
open Go.RowKit
attribute [local go_sem] Addr.add_mid
set_option maxRecDepth 100000 in
set_option maxHeartbeats 20000000 in
theorem Rising_any {S : Nat → Prop} {v : Value} {l : List Int} {w : World} (hs : Slc w S v 1 l.length (ivs l)) (hl : l.length ≤ 1073741824) : Calls Tryz.prog 130 #[v] w (Says (orderedB l) w) := by
  obtain ⟨A, c, rfl, _, _, _, hr, _⟩ := hs.form
  clear hs
  go_enter Tryz.func130, Tryz.ntmps130
  go_wp2_with fail
  go_loopw [3] (fun i wr => ∃ k : Nat, k ≤ l.length ∧ i = .int .i64 (k : Int) ∧ Hid (FE ordF l k) ∧ Below w.heap.size w wr) (fun i _ => l.length - (intOf i).toNat)
  case atStart => exact ⟨0, Nat.zero_le _, rfl, FE.start, ext_refl w⟩
  case round =>
  obtain ⟨k, hk, rfl, HK, hbel⟩ := hrel
  by_cases hlt : k < l.length
  · obtain ⟨b, o, rfl, hb, hc⟩ := hr.fix (ivs_get l k hlt)
    have r0 := (Below.cell hbel hb).trans (hc _ _ (ivs_get l k hlt))
    obtain ⟨x, hx⟩ : ∃ x, x = l[k] := ⟨_, rfl⟩
    have HX := hide hx
    rw [← hx] at r0
    have HC := hide hc
    clear hx hc
    by_cases hneg : x < 0
    · have HE := hide (ord_no (HK.out.err (e := 1) hlt (by rw [← HX.out]; exact ordF_neg hneg) (by decide)))
      try simp only [Nat.zero_mul, Nat.add_zero] at r0
      go_upto_region 4 with fail
      go_quiet (fail)
      go_wp2_with fail
      go_ret
      exact ⟨by rw [HE.out]; rfl, below_drewN hbel _⟩
    · rcases Nat.eq_zero_or_pos k with rfl | hpos
      · have HN := hide (HK.out.next hlt (by rw [← HX.out]; exact ordF_one hneg))
        try simp only [Nat.zero_mul, Nat.add_zero] at r0
        go_upto_region 4 with fail
        go_quiet (fail)
        go_wp2_with fail
        go_roundw
        case rel => exact ⟨1, by omega, rfl, HN.out, below_drewN hbel _⟩
        case measure => (simp [intOf]; try omega)
      · obtain ⟨j, rfl⟩ : ∃ j, k = j + 1 := ⟨k - 1, by omega⟩
        have hj : j < l.length := by omega
        have hprev := prev_succ hj
        obtain ⟨y, hy⟩ : ∃ y, y = l[j] := ⟨_, rfl⟩
        have q0 := (Below.cell hbel hb).trans (HC.out _ _ (ivs_get l j hj))
        rw [← hy] at hprev q0
        have HPREV := hide hprev
        have hwr := wrap_k j (by omega)
        clear hprev hy
        by_cases hle : x ≤ y
        · have HE := hide (ord_no (HK.out.err (e := 1) hlt (by rw [← HX.out, HPREV.out]; exact ordF_le hneg hle) (by decide)))
          go_upto_region 4 with fail
          go_quiet (fail)
          go_wp2_with fail
          go_ret
          exact ⟨by rw [HE.out]; rfl, below_drewN hbel _⟩
        · have HN := hide (HK.out.next hlt (by rw [← HX.out, HPREV.out]; exact ordF_ok hneg hle))
          go_upto_region 4 with fail
          go_quiet (fail)
          go_wp2_with fail
          go_roundw
          case rel => exact ⟨j + 1 + 1, by omega, by go_num, HN.out, below_drewN hbel _⟩
          case measure => (simp [intOf]; try omega)
  · obtain rfl : k = l.length := by omega
    have HF := hide (ord_yes HK.out.fin)
    go_wp2_with fail
    go_ret
    exact ⟨by rw [HF.out]; rfl, hbel⟩
def keyB7 (k : Int) (s : ByteArray) : Bool := if k = 2 then userB s else if k = 9 then keyB s else true
theorem nameB7_key (e : Ev) : nameB7 e = (roomB e.room && (userB e.sender && keyB7 e.kind e.key)) := rfl
/-- what stands ahead of the content -/
def frE (e : Ev) : Int :=
  if headB e = true then 1
  else if nameB7 e = false then 3
  else if e.time < 0 ∨ 1000000000 < e.time ∨ e.depth < 1 ∨ 100000 < e.depth then 2
  else if 10 < e.prev.length ∨ 8 < e.auth.length then 7
  else if orderedB e.prev = false ∨ orderedB e.auth = false then 8
  else if e.prev.length = 0 ∧ e.kind ≠ 1 then 9
  else if e.kind = 1 ∧ 0 < e.prev.length + e.auth.length then 6
  else 0
theorem evE_fr (e : Ev) : evE e = if frE e ≠ 0 then frE e else ckE e.kind e.con := by
  unfold evE frE
  repeat' split
  all_goals first | rfl | (exfalso; simp at *; done) | simp_all
set_option maxRecDepth 100000 in
set_option maxHeartbeats 20000000 in
theorem RKey_any (k : Int) (s : ByteArray) (w : World) (hs : s.size ≤ 1073741824) : Calls Tryz.prog 129 #[.int .i64 k, .string s] w (fun e w' => e = .returned (.bool (keyB7 k s)) ∧ w' = w) := by
  have hsz := hide (Enc.size_toList s)
  have CU := fun W => r2_User s W (by omega)
  obtain ⟨ub, hub⟩ : ∃ b, userB s = b := ⟨_, rfl⟩
  have p2 : (splitL [64] s.data.toList).isSome = ub := hub
  simp only [p2] at CU
  have HK := hide (show keyB7 k s = if k = 2 then ub else if k = 9 then keyB s else true by unfold keyB7; rw [hub])
  clear hub p2
  by_cases k2 : k = 2
  · subst k2
    have HV := hide (show keyB7 2 s = ub by rw [HK.out]; rfl)
    cases ub
    all_goals
      simp only [errN, Bool.false_eq_true, if_false, if_true] at CU
      go_enter Tryz.func129, Tryz.ntmps129
      go_wp2_with (go_at_call 128; refine (CU _).mono ?_; rintro x w2 ⟨rfl, hw2⟩; rw [hw2]; clear hw2 w2)
      go_ret
      exact ⟨by rw [HV.out]; rfl, rfl⟩
  by_cases k9 : k = 9
  rotate_left
  · have HV := hide (show keyB7 k s = true by rw [HK.out, if_neg k2, if_neg k9])
    have e1 : (k == 2) = false := by simpa using k2
    have e2 : (k != 9) = true := by simpa using k9
    go_enter Tryz.func129, Tryz.ntmps129
    go_wp2_with fail
    go_ret
    exact ⟨by rw [HV.out]; rfl, rfl⟩
  subst k9
  have HK9 := hide (show keyB7 9 s = keyB s by rw [HK.out]; rfl)
  clear HK CU k2
  by_cases hlen : (s.size : Int) < 1 ∨ (¬ (s.size : Int) < 1 ∧ (32 : Int) < (s.size : Int))
  · have HV := hide (show keyB7 9 s = false by
      rw [HK9.out]; unfold keyB
      rcases hlen with h | ⟨h, h2⟩
      · rw [decide_eq_false (by omega : ¬ 1 ≤ s.size)]; rfl
      · rw [decide_eq_false (by omega : ¬ s.size ≤ 32)]; simp)
    rcases hlen with h | ⟨h, h2⟩
    all_goals
      go_enter Tryz.func129, Tryz.ntmps129
      go_wp2_with fail
      go_ret
      exact ⟨by rw [HV.out]; rfl, rfl⟩
  have l1 : ¬ (s.size : Int) < 1 := by omega
  have l2 : ¬ (32 : Int) < (s.size : Int) := by omega
  have HKB := hide (show keyB s = !s.data.toList.any badB by unfold keyB; rw [decide_eq_true (by omega : 1 ≤ s.size), decide_eq_true (by omega : s.size ≤ 32)]; rfl)
  clear hlen
  go_enter Tryz.func129, Tryz.ntmps129
  go_wp2_with fail
  clear l1 l2
  go_loop [5] (fun i => ∃ k : Nat, k ≤ s.size ∧ i = .int .i64 (k : Int) ∧ Hid (∀ c ∈ s.data.toList.take k, badB c = false)) (fun i => s.size - (intOf i).toNat)
  case atStart => exact ⟨0, Nat.zero_le _, rfl, by simp [Hid]⟩
  case round =>
  obtain ⟨k, hk, rfl, HT⟩ := hrel
  by_cases hlt : k < s.size
  · have hi := bad_int s[k]
    cases hb : badB s[k]
    · have h3 : ¬ ((s[k].toNat : Int) < 33) := fun h => by rw [hi.2 (.inl h)] at hb; cases hb
      have h4 : ¬ (126 < (s[k].toNat : Int)) := fun h => by rw [hi.2 (.inr h)] at hb; cases hb
      have HN := hide (all_next HT.out hlt hb)
      clear hi hb
      go_wp2_with fail
      go_round
      case rel => exact ⟨k + 1, by omega, by go_num, HN.out⟩
      case measure => (simp [intOf]; try omega)
    · have HF := hide (show keyB7 9 s = false by
        have : s.data.toList.any badB = true := by
          obtain ⟨h, hg⟩ := list_at s hlt
          exact List.any_eq_true.2 ⟨s[k], by rw [← hg]; exact List.getElem_mem h, hb⟩
        rw [HK9.out, HKB.out, this]; rfl)
      by_cases h3 : (s[k].toNat : Int) < 33
      · clear hi hb
        go_wp2_with fail
        go_ret
        exact ⟨by rw [HF.out]; rfl, rfl⟩
      · have h4 : 126 < (s[k].toNat : Int) := (hi.1 hb).resolve_left h3
        clear hi hb
        go_wp2_with fail
        go_ret
        exact ⟨by rw [HF.out]; rfl, rfl⟩
  · obtain rfl : k = s.size := by omega
    have HF := hide (show keyB7 9 s = true by
      have ha := HT.out
      rw [← hsz.out, List.take_length] at ha
      have : s.data.toList.any badB = false := by
        rw [← Bool.not_eq_true, List.any_eq_true]
        rintro ⟨c, hc, hb⟩
        rw [ha c hc] at hb; cases hb
      rw [HK9.out, HKB.out, this]; rfl)
    clear HT
    go_wp2_with fail
    go_ret
    exact ⟨by rw [HF.out]; rfl, rfl⟩
theorem int_ne (x y : Int) : (x != y) = decide (x ≠ y) := by by_cases h : x = y <;> simp [h]
set_option maxRecDepth 100000 in
set_option maxHeartbeats 20000000 in
theorem Frame_any {S : Nat → Prop} {cs : List Value} {e : Ev} {w : World} (hr : EvR w S cs e) (h1 : e.room.size ≤ 1073741824) (h2 : e.sender.size ≤ 1073741824) (h3 : e.key.size ≤ 1073741824) (h4 : e.prev.length ≤ 1073741824) (h5 : e.auth.length ≤ 1073741824) :
    Calls Tryz.prog 83 #[.agg cs.toArray] w (Errs (frE e) w) := by
  obtain ⟨s0, s1, s2, s3, s4, s5, s6, s7, s26, s27, s28⟩ := hr.gets
  obtain ⟨A8, c8, A9, c9, s8, s9, hv8, hv9⟩ : ∃ A8 c8 A9 c9, cs[8]? = some (.slice A8 e.prev.length c8) ∧ cs[9]? = some (.slice A9 e.auth.length c9) ∧ Slc w S (.slice A8 e.prev.length c8) 1 e.prev.length (ivs e.prev) ∧ Slc w S (.slice A9 e.auth.length c9) 1 e.auth.length (ivs e.auth) := by
    obtain ⟨vp, vq, s8, s9, hvp, hvq⟩ := hr.lists
    obtain ⟨A8, c8, rfl, _⟩ := hvp.form
    obtain ⟨A9, c9, rfl, _⟩ := hvq.form
    exact ⟨A8, c8, A9, c9, s8, s9, hvp, hvq⟩
  have B := heap_alloc_new w (.cells cs.toArray 35)
  have hb := ext_alloc (ext_refl w) (.cells cs.toArray 35)
  have CO8 := fun W (h : Below w.heap.size w W) => Rising_any (hv8.ext h) h4
  have CO9 := fun W (h : Below w.heap.size w W) => Rising_any (hv9.ext h) h5
  have CS := fun W => r6_state e.kind W
  have CR := fun W => r2_Room e.room W (by omega)
  have CU := fun W => r2_User e.sender W (by omega)
  have CK := fun W => RKey_any e.kind e.key W h3
  obtain ⟨st, hst⟩ : ∃ b, stateB e.kind = b := ⟨_, rfl⟩
  obtain ⟨sn, hsn⟩ : ∃ b, (!(e.state == st)) = b := ⟨_, rfl⟩
  obtain ⟨kn, hkn⟩ : ∃ b, (!e.key.toList.isEmpty) = b := ⟨_, rfl⟩
  obtain ⟨n2, hn2⟩ : ∃ b, (e.kind != 2) = b := ⟨_, rfl⟩
  obtain ⟨n9, hn9⟩ : ∃ b, (e.kind != 9) = b := ⟨_, rfl⟩
  obtain ⟨hd, hhd⟩ : ∃ b, headB e = b := ⟨_, rfl⟩
  obtain ⟨b1, hb1⟩ : ∃ b, roomB e.room = b := ⟨_, rfl⟩
  obtain ⟨b2, hb2⟩ : ∃ b, userB e.sender = b := ⟨_, rfl⟩
  obtain ⟨b3, hb3⟩ : ∃ b, keyB7 e.kind e.key = b := ⟨_, rfl⟩
  obtain ⟨nm, hnm⟩ : ∃ b, nameB7 e = b := ⟨_, rfl⟩
  obtain ⟨o8, ho8⟩ : ∃ b, orderedB e.prev = b := ⟨_, rfl⟩
  obtain ⟨o9, ho9⟩ : ∃ b, orderedB e.auth = b := ⟨_, rfl⟩
  have HH := hide (show hd = (decide (e.kind < 1) || (decide (14 < e.kind) || (sn || (kn && (n2 && n9))))) by
    have e2 : (n2 && n9) = (decide (e.kind ≠ 2) && decide (e.kind ≠ 9)) := by
      rw [← hn2, ← hn9, int_ne, int_ne]
    have e3 : (e.state != st) = sn := by rw [← hsn]; cases e.state <;> cases st <;> rfl
    rw [← hhd]; unfold headB
    rw [hst, e3, ← str_b, hkn, e2])
  have HNM := hide (show nm = (b1 && (b2 && b3)) by rw [← hnm, nameB7_key, hb1, hb2, hb3])
  have HE := hide (show frE e = if hd = true then 1 else if nm = false then 3 else if e.time < 0 ∨ 1000000000 < e.time ∨ e.depth < 1 ∨ 100000 < e.depth then 2 else if 10 < e.prev.length ∨ 8 < e.auth.length then 7 else if o8 = false ∨ o9 = false then 8 else if e.prev.length = 0 ∧ e.kind ≠ 1 then 9 else if e.kind = 1 ∧ 0 < e.prev.length + e.auth.length then 6 else 0 by
    unfold frE; rw [hhd, hnm, ho8, ho9])
  have p2 : (splitL [64] e.sender.data.toList).isSome = b2 := hb2
  simp only [hst] at CS; simp only [hb1] at CR; simp only [p2] at CU; simp only [hb3] at CK; simp only [ho8] at CO8; simp only [ho9] at CO9
  have HB := hide B
  clear hr h1 h2 h3 B hv8 hv9 hst hhd hnm ho8 ho9 hb1 hb2 hb3 p2 s0 s26 s27 s28
  generalize hE : frE e = E at HE ⊢
  clear hE
  go_enter Tryz.func83, Tryz.ntmps83
  go_upto_region 1 with fail
  generalize w.alloc (.cells cs.toArray 35) = W0 at HB hb ⊢
  have KB := ext_refl W0
  have r3 := box_at (box_below HB.out KB) s3
  have r4 := box_at (box_below HB.out KB) s4
  have r5 := box_at (box_below HB.out KB) s5
  have H1 : Hid (hd = true → E = 1) := fun h => by rw [HE.out, if_pos h]
  have HE3 : Hid (hd = false → E = if nm = false then 3 else if e.time < 0 ∨ 1000000000 < e.time ∨ e.depth < 1 ∨ 100000 < e.depth then 2 else if 10 < e.prev.length ∨ 8 < e.auth.length then 7 else if o8 = false ∨ o9 = false then 8 else if e.prev.length = 0 ∧ e.kind ≠ 1 then 9 else if e.kind = 1 ∧ 0 < e.prev.length + e.auth.length then 6 else 0) := fun h => by rw [HE.out, if_neg (by rw [h]; simp)]
  clear HE
  go_cut [33] (fun c wx => c = .bool hd ∧ Below W0.heap.size W0 wx)
  case first =>
    have hcase : (e.kind < 1) ∨ (¬ e.kind < 1 ∧ 14 < e.kind) ∨ (¬ e.kind < 1 ∧ ¬ 14 < e.kind) := by omega
    rcases hcase with q | ⟨q, q2⟩ | ⟨q, q2⟩
    · have HF := hide (show hd = true by rw [HH.out]; simp [q])
      clear HH H1 HE3 HNM
      go_quiet (fail)
      go_wp2_with fail
      go_meet
      exact ⟨by rw [HF.out], ext_trans KB (below_drewN (ext_refl _) _)⟩
    · have HF := hide (show hd = true by rw [HH.out]; simp [q2])
      clear HH H1 HE3 HNM
      go_quiet (fail)
      go_wp2_with fail
      go_meet
      exact ⟨by rw [HF.out], ext_trans KB (below_drewN (ext_refl _) _)⟩
    · have HH2 := hide (show hd = (sn || (kn && (n2 && n9))) by rw [HH.out]; simp [q, q2])
      clear HH H1 HE3 HNM
      have hall : (sn = true) ∨ (sn = false ∧ kn = false) ∨ (sn = false ∧ kn = true ∧ n2 = false) ∨ (sn = false ∧ kn = true ∧ n2 = true) := by cases sn <;> cases kn <;> cases n2 <;> simp
      rcases hall with rfl | ⟨rfl, rfl⟩ | ⟨rfl, rfl, rfl⟩ | ⟨rfl, rfl, rfl⟩
      · have HF := hide (show hd = true by rw [HH2.out]; rfl)
        go_quiet ((go_at_call 126; refine Calls.quiet_of_same (CS _)))
        go_wp2_with fail
        go_meet
        exact ⟨by rw [HF.out], ext_trans KB (below_drewN (ext_refl _) _)⟩
      · have HF := hide (show hd = false by rw [HH2.out]; rfl)
        go_quiet ((go_at_call 126; refine Calls.quiet_of_same (CS _)))
        go_wp2_with fail
        go_meet
        exact ⟨by rw [HF.out], ext_trans KB (below_drewN (ext_refl _) _)⟩
      · have HF := hide (show hd = false by rw [HH2.out]; rfl)
        go_quiet ((go_at_call 126; refine Calls.quiet_of_same (CS _)))
        go_wp2_with fail
        go_meet
        exact ⟨by rw [HF.out], ext_trans KB (below_drewN (ext_refl _) _)⟩
      · have HF := hide (show hd = n9 by rw [HH2.out]; rfl)
        go_quiet ((go_at_call 126; refine Calls.quiet_of_same (CS _)))
        go_wp2_with fail
        go_meet
        exact ⟨by rw [HF.out], ext_trans KB (below_drewN (ext_refl _) _)⟩
  case rest =>
  obtain ⟨rfl, hbd⟩ := hcut
  clear HH r3 r4 r5 KB hsn hkn hn2 hn9
  have hT : (e.time < 0) ∨ (¬ e.time < 0 ∧ 1000000000 < e.time) ∨ (¬ e.time < 0 ∧ ¬ 1000000000 < e.time ∧ e.depth < 1) ∨ (¬ e.time < 0 ∧ ¬ 1000000000 < e.time ∧ ¬ e.depth < 1 ∧ 100000 < e.depth) ∨ (¬ e.time < 0 ∧ ¬ 1000000000 < e.time ∧ ¬ e.depth < 1 ∧ ¬ 100000 < e.depth) := by omega
  have HTT := hide hT
  clear hT
  cases hd
  case true =>
    have HF := hide (H1.out rfl)
    go_wp2_with fail
    go_ret
    exact ⟨by rw [HF.out]; rfl, ext_trans hb hbd⟩
  case false =>
    replace HE3 := hide (HE3.out rfl)
    clear H1
    have HB3 := hide (box_below HB.out hbd)
    have hb3 := ext_trans hb hbd
    clear hbd HB
    have r1 := box_at HB3.out s1
    have r2 := box_at HB3.out s2
    have r3 := box_at HB3.out s3
    have r5 := box_at HB3.out s5
    go_upto_region 3 with fail
    go_cut [51] (fun c wx => c = .bool (!nm) ∧ wx = wc)
    case first =>
      cases b1
      case false =>
        simp only [errN, Bool.false_eq_true, if_false] at CR
        have HF := hide (show (!nm) = true by rw [HNM.out]; rfl)
        go_wp2_with (go_at_call 127; refine (CR _).mono ?_; rintro x w2 ⟨rfl, hw2⟩; rw [hw2]; clear hw2 w2)
        go_meet
        exact ⟨by rw [HF.out], rfl⟩
      simp only [errN, if_true] at CR
      cases b2
      case false =>
        simp only [errN, Bool.false_eq_true, if_false] at CU
        have HF := hide (show (!nm) = true by rw [HNM.out]; rfl)
        go_wp2_with (first | (go_at_call 127; refine (CR _).mono ?_; rintro x w2 ⟨rfl, hw2⟩; rw [hw2]; clear hw2 w2) | (go_at_call 128; refine (CU _).mono ?_; rintro x w2 ⟨rfl, hw2⟩; rw [hw2]; clear hw2 w2))
        go_meet
        exact ⟨by rw [HF.out], rfl⟩
      simp only [errN, if_true] at CU
      have HF := hide (show (!nm) = !b3 by rw [HNM.out]; rfl)
      go_wp2_with (first | (go_at_call 127; refine (CR _).mono ?_; rintro x w2 ⟨rfl, hw2⟩; rw [hw2]; clear hw2 w2) | (go_at_call 128; refine (CU _).mono ?_; rintro x w2 ⟨rfl, hw2⟩; rw [hw2]; clear hw2 w2) | (go_at_call 129; refine (CK _).mono ?_; rintro x w2 ⟨rfl, hw2⟩; rw [hw2]; clear hw2 w2))
      go_meet
      exact ⟨by rw [HF.out], rfl⟩
    case rest =>
    obtain ⟨rfl, rfl⟩ := hcut
    clear r1 r2 r3 r5 HNM CR CU CK CS
    cases nm
    case false =>
      have HF := hide (show E = 3 by rw [HE3.out]; exact if_pos rfl)
      go_wp2_with fail
      go_ret
      exact ⟨by rw [HF.out]; rfl, hb3⟩
    have r6 := box_at HB3.out s6
    have r7 := box_at HB3.out s7
    rcases HTT.out with t1 | ⟨t1, t2⟩ | ⟨t1, t2, t3⟩ | ⟨t1, t2, t3, t4⟩ | ⟨t1, t2, t3, t4⟩
    case inr.inr.inr.inr =>
      have HE4 := hide (show E = if 10 < e.prev.length ∨ 8 < e.auth.length then 7 else if o8 = false ∨ o9 = false then 8 else if e.prev.length = 0 ∧ e.kind ≠ 1 then 9 else if e.kind = 1 ∧ 0 < e.prev.length + e.auth.length then 6 else 0 by rw [HE3.out, if_neg (by simp), if_neg (by omega)])
      go_upto_region 7 with fail
      clear r6 r7 t1 t2 t3 t4
      have r8 := box_at HB3.out s8
      have r9 := box_at HB3.out s9
      have hLn : (10 < e.prev.length) ∨ (¬ 10 < e.prev.length ∧ 8 < e.auth.length) ∨ (¬ 10 < e.prev.length ∧ ¬ 8 < e.auth.length) := by omega
      rcases hLn with t1 | ⟨t1, t2⟩ | ⟨t1, t2⟩
      case inr.inr =>
        have HE5 := hide (show E = if o8 = false ∨ o9 = false then 8 else if e.prev.length = 0 ∧ e.kind ≠ 1 then 9 else if e.kind = 1 ∧ 0 < e.prev.length + e.auth.length then 6 else 0 by rw [HE4.out, if_neg (by omega)])
        go_upto_region 9 with fail
        cases o8
        case false =>
          have HF := hide (show E = 8 by rw [HE5.out]; exact if_pos (.inl rfl))
          go_wp2_with (go_at_call 130; refine (CO8 _ hb3).mono ?_; rintro x w4 ⟨rfl, k4⟩)
          go_ret
          exact ⟨by rw [HF.out]; rfl, ext_trans hb3 k4⟩
        cases o9
        case false =>
          have HF := hide (show E = 8 by rw [HE5.out]; exact if_pos (.inr rfl))
          go_wp2_with (go_at_call 130; first
            | ((with_reducible refine (CO8 _ hb3).mono ?_); rintro x w4 ⟨rfl, k4⟩; have r9 := box_at (box_below HB3.out k4) s9; have hb4 := ext_trans hb3 k4)
            | ((with_reducible refine (CO9 _ hb4).mono ?_); rintro x w5 ⟨rfl, k5⟩))
          go_ret
          exact ⟨by rw [HF.out]; rfl, ext_trans hb4 k5⟩
        have HE6 := hide (show E = if e.prev.length = 0 ∧ e.kind ≠ 1 then 9 else if e.kind = 1 ∧ 0 < e.prev.length + e.auth.length then 6 else 0 by rw [HE5.out, if_neg (by simp)])
        go_upto_region 11 with (go_at_call 130; first
            | ((with_reducible refine (CO8 _ hb3).mono ?_); rintro x w4 ⟨rfl, k4⟩; have r9 := box_at (box_below HB3.out k4) s9; have hb4 := ext_trans hb3 k4)
            | ((with_reducible refine (CO9 _ hb4).mono ?_); rintro x w5 ⟨rfl, k5⟩))
        have HB5 := hide (box_below (box_below HB3.out k4) k5)
        have hb5 := ext_trans hb4 k5
        clear r8 r9 t1 t2
        have r3 := box_at HB5.out s3
        have r8 := box_at HB5.out s8
        have r9 := box_at HB5.out s9
        by_cases z : e.prev.length = 0
        · have z1 : ((e.prev.length : Int) == 0) = true := by simp [z]
          by_cases y : e.kind = 1
          · have y1 : (e.kind == 1) = true := by simpa using y
            have y2 : (e.kind != 1) = false := by simpa using y
            have zp : e.prev = [] := List.length_eq_zero_iff.1 z
            by_cases x0 : 0 < e.auth.length
            · have HF := hide (show E = 6 by rw [HE6.out, if_neg (by simp [y]), if_pos ⟨y, by omega⟩])
              have x1 : (0 : Int) < (e.auth.length : Int) := by omega
              clear z y
              go_upto_region 13 with fail
              go_wp2_with fail
              go_ret
              exact ⟨by rw [HF.out]; rfl, hb5⟩
            · have HF := hide (show E = 0 by rw [HE6.out, if_neg (by simp [y]), if_neg (by omega)])
              have x1 : ¬ (0 : Int) < (e.auth.length : Int) := by omega
              clear z y
              go_upto_region 13 with fail
              go_wp2_with fail
              go_ret
              exact ⟨by rw [HF.out]; rfl, hb5⟩
          · have y1 : (e.kind != 1) = true := by simpa using y
            have HF := hide (show E = 9 by rw [HE6.out]; exact if_pos ⟨z, y⟩)
            clear z y
            go_wp2_with fail
            go_ret
            exact ⟨by rw [HF.out]; rfl, hb5⟩
        · have z1 : ((e.prev.length : Int) == 0) = false := by simpa using z
          have zp : ¬ e.prev = [] := fun h => z (by rw [h]; rfl)
          have x1 : (0 : Int) < (e.prev.length : Int) := by omega
          by_cases y : e.kind = 1
          · have y1 : (e.kind == 1) = true := by simpa using y
            have HF := hide (show E = 6 by rw [HE6.out, if_neg (by simp [y]), if_pos ⟨y, by omega⟩])
            clear z y
            go_upto_region 13 with fail
            go_wp2_with fail
            go_ret
            exact ⟨by rw [HF.out]; rfl, hb5⟩
          · have y1 : (e.kind == 1) = false := by simpa using y
            have HF := hide (show E = 0 by rw [HE6.out, if_neg (by simp [z]), if_neg (by simp [y])])
            clear z y
            go_upto_region 13 with fail
            go_wp2_with fail
            go_ret
            exact ⟨by rw [HF.out]; rfl, hb5⟩
      all_goals
        have HF := hide (show E = 7 by rw [HE4.out]; exact if_pos (by omega))
        go_wp2_with fail
        go_ret
        exact ⟨by rw [HF.out]; rfl, hb3⟩
    all_goals
      have HF := hide (show E = 2 by rw [HE3.out, if_neg (by simp)]; exact if_pos (by omega))
      go_wp2_with fail
      go_ret
      exact ⟨by rw [HF.out]; rfl, hb3⟩
set_option maxRecDepth 100000 in
set_option maxHeartbeats 20000000 in
theorem RCheck7_any {S : Nat → Prop} {cs : List Value} {e : Ev} {w : World} (hr : EvR w S cs e) (hg : e.good) :
    Calls Tryz.prog 61 #[.agg cs.toArray] w (Errs (evE e) w) := by
  have s3 := hr.gets.2.2.2.1
  have HL := hide hr.length
  have HLC := hide (show ((cs.drop 10).take 16).length = 16 by rw [List.length_take, List.length_drop, hr.length]; rfl)
  have BE := heap_alloc_new w (.cells cs.toArray 35)
  have hb := ext_alloc (ext_refl w) (.cells cs.toArray 35)
  have CF := fun W (h : Below w.heap.size w W) => Frame_any (hr.ext h) (by have := hg.room; omega) (by have := hg.sender; omega) (by have := hg.key; omega) (by have := hg.prev; omega) (by have := hg.auth; omega)
  have CC := fun W (h : Below w.heap.size w W) => r6_Check (k := e.kind) (hr.con.ext h) hg.mild
  obtain ⟨fe, hfe⟩ : ∃ v, frE e = v := ⟨_, rfl⟩
  obtain ⟨ck, hck⟩ : ∃ v, ckE e.kind e.con = v := ⟨_, rfl⟩
  simp only [hfe] at CF; simp only [hck] at CC
  have HV := hide (show evE e = if fe ≠ 0 then fe else ck by rw [evE_fr, hfe, hck])
  generalize evE e = E at HV ⊢
  have HBE := hide BE
  clear hr hg BE hfe hck
  go_enter Tryz.func61, Tryz.ntmps61
  go_upto_region 2 with (first
    | refine wpList_loadS rfl (.tmp 1) rfl strcE ⟨w.heap.size, 0, none⟩ rfl cs HL.out (box_all HBE.out) ?_
    | (go_at_call 83; refine (CF _ hb).mono ?_; rintro x w1 ⟨rfl, hb1⟩))
  by_cases z : fe = 0
  rotate_left
  · have z1 : (fe != 0) = true := by simpa using z
    have HF := hide (show E = fe by rw [HV.out, if_pos z])
    clear z
    go_wp2_with fail
    go_ret
    exact ⟨by rw [HF.out]; rfl, ext_trans hb hb1⟩
  subst z
  have KB := ext_trans hb hb1
  have HB1 := hide (box_below HBE.out hb1)
  have HF := hide (show E = ck by rw [HV.out]; exact if_neg (by simp))
  have r3 := box_at HB1.out s3
  clear hb hb1 HBE HV
  go_wp2_with (first | refine wpList_loadS rfl (.tmp 11) rfl strcC ⟨w.heap.size, 10, none⟩ rfl ((cs.drop 10).take 16) HLC.out (box_cells HB1.out 10 16) ?_ | (go_at_call 84; refine (CC _ KB).mono ?_; rintro x w6 ⟨rfl, k6⟩))
  go_ret
  exact ⟨by rw [HF.out]; rfl, ext_trans KB k6⟩
end

section
open Go.RowKit
attribute [local go_sem] Addr.add_mid
theorem bne_str (s t : ByteArray) : (!(s.toList == t.toList)) = !decide (s = t) := by
  by_cases h : s = t
  · subst h; simp
  · have h3 : ¬ s.toList = t.toList := fun k => h (str_eq_of k)
    simp [h, h3]
set_option maxRecDepth 100000 in
set_option maxHeartbeats 4000000 in
theorem R7Verify_any {S : Nat → Prop} {cs : List Value} {e : Ev} {w : World} (hr : EvR w S cs e) (hg : e.good) :
    Calls Tryz.prog 44 #[.agg cs.toArray] w (Errs (verE e) w) := by
  obtain ⟨s0, s1, s2, s3, s4, s5, s6, s7, s26, s27, s28⟩ := hr.gets
  have HL := hide hr.length
  have HLC := hide (show ((cs.drop 10).take 16).length = 16 by rw [List.length_take, List.length_drop, hr.length]; rfl)
  have q27 : (cs.drop 27).take 2 = [.string e.server, .int .i64 e.sum] := by
    obtain ⟨_, _, _, _, _, _, rfl, _⟩ := hr; rfl
  have HQ := hide q27
  have BE := heap_alloc_new w (.cells cs.toArray 35)
  have hb := ext_alloc (ext_refl w) (.cells cs.toArray 35)
  have CK := fun W (h : Below w.heap.size w W) => RCheck7_any (hr.ext h) hg
  have CW := fun W (h : Below w.heap.size w W) => R7Whole_any (hr.ext h) hg.cputs
  have CT := fun W (h : Below w.heap.size w W) => R6Strip_any (k := e.kind) (hr.con.ext h)
  have CI := fun W (h : Below w.heap.size w W) => R7IdOf_any (hr.ext h) hg.fit hg.plain.puts
  have CV := fun W => r2_ServerOf e.sender W (by have := hg.sender; omega)
  have HR := hide hr
  have f1 := hide hg.fit
  have f2 := hide (stripC_fit (k := e.kind) hg.fit)
  obtain ⟨ev, hev⟩ : ∃ v, evE e = v := ⟨_, rfl⟩
  obtain ⟨wb, hwb⟩ : ∃ v, wholeB e = v := ⟨_, rfl⟩
  obtain ⟨sb, hsb⟩ : ∃ v, decide (e.con = stripC e.kind e.con) = v := ⟨_, rfl⟩
  obtain ⟨iv, hiv⟩ : ∃ v, idV e = v := ⟨_, rfl⟩
  obtain ⟨pv, hpv⟩ : ∃ v, partB e.sender = v := ⟨_, rfl⟩
  simp only [hev] at CK; simp only [hwb] at CW; simp only [hiv] at CI; simp only [hpv] at CV
  have HS := hide hsb
  have HV := hide (show verE e = if ev ≠ 0 then ev else if (!wb && !sb) = true then 6 else if iv ≠ e.id then 11 else if (decide (e.server = pv) && decide (e.sum = e.id)) = false then 12 else 0 by
    unfold verE spoilB sigB; rw [hev, hwb, hsb, hiv, hpv])
  generalize verE e = E at HV ⊢
  have HBE := hide BE
  clear hr hg BE hev hwb hsb hiv hpv q27 s1 s4 s5 s6 s7 s26
  go_enter Tryz.func44, Tryz.ntmps44
  go_upto_region 2 with (first
    | refine wpList_loadS rfl (.tmp 1) rfl strcE ⟨w.heap.size, 0, none⟩ rfl cs HL.out (box_all HBE.out) ?_
    | (go_at_call 61; refine (CK _ hb).mono ?_; rintro x w1 ⟨rfl, hb1⟩))
  by_cases z : ev = 0
  rotate_left
  · have z1 : (ev != 0) = true := by simpa using z
    have HF := hide (show E = ev by rw [HV.out, if_pos z])
    clear z
    go_wp2_with fail
    go_ret
    exact ⟨by rw [HF.out]; rfl, ext_trans hb hb1⟩
  subst z
  have KB := ext_trans hb hb1
  have HB1 := hide (box_below HBE.out hb1)
  have HV2 := hide (show E = if (!wb && !sb) = true then 6 else if iv ≠ e.id then 11 else if (decide (e.server = pv) && decide (e.sum = e.id)) = false then 12 else 0 by rw [HV.out, if_neg (by simp)])
  clear HV CK hb hb1 HBE
  go_upto_region 4 with fail
  obtain ⟨nb, hnb⟩ : ∃ b, (!wb && !sb) = b := ⟨_, rfl⟩
  have tail : ∀ (Z : World), Below w1.heap.size w1 Z → nb = nb → True := fun _ _ _ => trivial
  clear tail
  cases wb
  case true =>
    have HV3 := hide (show E = if iv ≠ e.id then 11 else if (decide (e.server = pv) && decide (e.sum = e.id)) = false then 12 else 0 by rw [HV2.out]; exact if_neg (by simp))
    clear hnb nb
    refine wp_region_now (by kernel_rfl) ?_
    intro Y hY
    have T0 : Below Y.heap.size Y Y := ext_refl Y
    have HBY := hide (box_below HB1.out hY)
    refine wpAnyP_take (i := 0) rfl (by kernel_rfl) (by kernel_rfl) (by kernel_rfl) (by kernel_rfl) (fun _ _ _ h => h) (yieldsIf_loadS rfl (.tmp 1) rfl strcE ⟨w.heap.size, 0, none⟩ rfl cs HL.out (fun w2 hT => box_all (box_below HBY.out hT))) T0 ?_
    go_simp
    refine wpAnyP_oneQ (i := 1) (by kernel_rfl) rfl ?_
    go_wp2_with fail
    refine (CW _ (ext_trans KB (ext_trans hY T0))).mono ?_
    rintro x c1 ⟨rfl, hc1⟩
    have T1 := ext_trans T0 hc1
    go_wp2_with fail
    refine nextQ T1 ?_
    go_simp
    refine wpAnyP_take (i := 2) rfl (by kernel_rfl) (by kernel_rfl) (by kernel_rfl) (by kernel_rfl) (fun _ _ _ h => h) (yieldsIf_run (.bool false) rfl (fun w' => by go_simp)) T1 ?_
    refine wpAnyP_take (i := 3) rfl (by kernel_rfl) (by kernel_rfl) (by kernel_rfl) (by kernel_rfl) (fun _ _ _ h => h) (yieldsIf_run (.bool false) rfl (fun w' => by go_simp)) T1 ?_
    go_simp
    refine wpAnyP_take (i := 4) rfl (by kernel_rfl) (by kernel_rfl) (by kernel_rfl) (by kernel_rfl) (fun _ _ _ h => h) (v := undef) (.inr ⟨rfl, rfl⟩) T1 ?_
    refine wpAnyP_take (i := 5) rfl (by kernel_rfl) (by kernel_rfl) (by kernel_rfl) (by kernel_rfl) (fun _ _ _ h => h) (v := undef) (.inr ⟨rfl, rfl⟩) T1 ?_
    refine wpAnyP_take (i := 6) rfl (by kernel_rfl) (by kernel_rfl) (by kernel_rfl) (by kernel_rfl) (fun _ _ _ h => h) (v := undef) (.inr ⟨rfl, rfl⟩) T1 ?_
    go_simp
    refine wpAnyP_take (i := 7) rfl (by kernel_rfl) (by kernel_rfl) (by kernel_rfl) (by kernel_rfl) (fun _ _ _ h => h) (v := undef) (.inr ⟨rfl, rfl⟩) T1 ?_
    refine wpAnyP_take (i := 8) rfl (by kernel_rfl) (by kernel_rfl) (by kernel_rfl) (by kernel_rfl) (fun _ _ _ h => h) (v := undef) (.inr ⟨rfl, rfl⟩) T1 ?_
    refine wpAnyP_take (i := 9) rfl (by kernel_rfl) (by kernel_rfl) (by kernel_rfl) (by kernel_rfl) (fun _ _ _ h => h) (v := undef) (.inr ⟨rfl, rfl⟩) T1 ?_
    go_simp
    refine wpAnyP_take (i := 10) rfl (by kernel_rfl) (by kernel_rfl) (by kernel_rfl) (by kernel_rfl) (fun _ _ _ h => h) (v := undef) (.inr ⟨rfl, rfl⟩) T1 ?_
    refine wpAnyP_take (i := 11) rfl (by kernel_rfl) (by kernel_rfl) (by kernel_rfl) (by kernel_rfl) (fun _ _ _ h => h) (v := undef) (.inr ⟨rfl, rfl⟩) T1 ?_
    refine wpAnyP_take (i := 12) rfl (by kernel_rfl) (by kernel_rfl) (by kernel_rfl) (by kernel_rfl) (fun _ _ _ h => h) (v := undef) (.inr ⟨rfl, rfl⟩) T1 ?_
    go_simp
    refine wpAnyP_take (i := 13) rfl (by kernel_rfl) (by kernel_rfl) (by kernel_rfl) (by kernel_rfl) (fun _ _ _ h => h) (yieldsIf_run (.bool false) rfl (fun w' => by go_simp)) T1 ?_
    go_simp
    refine wpAnyP_done (by kernel_rfl) ?_
    have KD := ext_trans KB (ext_trans hY T1)
    have HBD := hide (box_below HBY.out T1)
    clear hY T0 T1
    go_upto_region 6 with fail
    refine wp_region_now (by kernel_rfl) ?_
    intro Y hY
    have T0 : Below Y.heap.size Y Y := ext_refl Y
    have HBY := hide (box_below HBD.out hY)
    refine wpAnyP_take (i := 0) rfl (by kernel_rfl) (by kernel_rfl) (by kernel_rfl) (by kernel_rfl) (fun _ _ _ h => h) (yieldsIf_loadS rfl (.tmp 1) rfl strcE ⟨w.heap.size, 0, none⟩ rfl cs HL.out (fun w2 hT => box_all (box_below HBY.out hT))) T0 ?_
    refine wpAnyP_take (i := 2) rfl (by kernel_rfl) (by kernel_rfl) (by kernel_rfl) (by kernel_rfl) (fun _ _ _ h => h) (yieldsIf_run (.pointer (some ⟨w.heap.size, 0, none⟩)) rfl (fun w' => by go_simp)) T0 ?_
    refine wpAnyP_take (i := 3) rfl (by kernel_rfl) (by kernel_rfl) (by kernel_rfl) (by kernel_rfl) (fun _ _ _ h => h) (yieldsIf_load rfl rfl Tryz.underlying3 rfl rfl (fun w2 hT => box_at (box_below HBY.out hT) (j := 0) (u := .int .i64 e.id) s0)) T0 ?_
    go_simp
    go_simp
    refine wpAnyP_oneQ (i := 1) (by kernel_rfl) rfl ?_
    go_wp2_with fail
    refine (CI _ (ext_trans KD (ext_trans hY T0))).mono ?_
    rintro x c1 ⟨rfl, hc1⟩
    have T1 := ext_trans T0 hc1
    go_wp2_with fail
    refine nextQ T1 ?_
    go_simp
    refine wpAnyP_take (i := 4) rfl (by kernel_rfl) (by kernel_rfl) (by kernel_rfl) (by kernel_rfl) (fun _ _ _ h => h) (yieldsIf_run (.bool (iv != e.id)) rfl (fun w' => by go_simp)) T1 ?_
    go_simp
    refine wpAnyP_done (by kernel_rfl) ?_
    have KC := ext_trans KD (ext_trans hY T1)
    have HBC := hide (box_below HBY.out T1)
    by_cases q : iv = e.id
    rotate_left
    · have q1 : (iv != e.id) = true := by simpa using q
      have HF := hide (show E = 11 by rw [HV3.out, if_pos q])
      simp only [q1]
      clear q
      go_wp2_with fail
      go_ret
      exact ⟨by rw [HF.out]; rfl, KC⟩
    have q1 : (iv != e.id) = false := by simpa using q
    have HV5 := hide (show E = if (decide (e.server = pv) && decide (e.sum = e.id)) = false then 12 else 0 by rw [HV3.out, if_neg (by simpa using q)])
    simp only [q1]
    clear q hY T0 T1
    go_upto_region 8 with fail
    obtain ⟨sv, hsv⟩ : ∃ b, (!(e.server.toList == pv.toList)) = b := ⟨_, rfl⟩
    have HG := hide hsv
    have HSV := hide (show sv = !decide (e.server = pv) by rw [← hsv, bne_str])
    clear hsv
    cases sv
    case true =>
      have HD := hide (show decide (e.server = pv) = false by have := HSV.out; revert this; cases decide (e.server = pv) <;> simp)
      have HN := hide (show ¬ e.server.toList = pv.toList from fun h => by have h1 := HD.out; rw [str_eq_of h] at h1; simp at h1)
      have HF := hide (show E = 12 by rw [HV5.out]; exact if_pos (by rw [HD.out]; rfl))
      refine wp_region_now (by kernel_rfl) ?_
      intro Y hY
      have T0 : Below Y.heap.size Y Y := ext_refl Y
      have HBY := hide (box_below HBC.out hY)
      refine wpAnyP_take (i := 0) rfl (by kernel_rfl) (by kernel_rfl) (by kernel_rfl) (by kernel_rfl) (fun _ _ _ h => h) (yieldsIf_run (.pointer (some ⟨w.heap.size, 27, none⟩)) rfl (fun w' => by go_simp)) T0 ?_
      refine wpAnyP_take (i := 1) rfl (by kernel_rfl) (by kernel_rfl) (by kernel_rfl) (by kernel_rfl) (fun _ _ _ h => h) (yieldsIf_run (.pointer (some ⟨w.heap.size, 27, none⟩)) rfl (fun w' => by go_simp)) T0 ?_
      refine wpAnyP_take (i := 2) rfl (by kernel_rfl) (by kernel_rfl) (by kernel_rfl) (by kernel_rfl) (fun _ _ _ h => h) (yieldsIf_load rfl rfl Tryz.underlying9 rfl rfl (fun w2 hT => box_at (box_below HBY.out hT) (j := 27) (u := .string e.server) s27)) T0 ?_
      go_simp
      refine wpAnyP_take (i := 3) rfl (by kernel_rfl) (by kernel_rfl) (by kernel_rfl) (by kernel_rfl) (fun _ _ _ h => h) (yieldsIf_run (.pointer (some ⟨w.heap.size, 2, none⟩)) rfl (fun w' => by go_simp)) T0 ?_
      refine wpAnyP_take (i := 4) rfl (by kernel_rfl) (by kernel_rfl) (by kernel_rfl) (by kernel_rfl) (fun _ _ _ h => h) (yieldsIf_load rfl rfl Tryz.underlying9 rfl rfl (fun w2 hT => box_at (box_below HBY.out hT) (j := 2) (u := .string e.sender) s2)) T0 ?_
      go_simp
      refine wpAnyP_oneQ (i := 5) (by kernel_rfl) rfl ?_
      go_wp2_with fail
      refine (CV _).mono ?_
      rintro x c1 ⟨rfl, hw1⟩
      have hc1 : Below Y.heap.size Y c1 := by rw [hw1]; exact ext_refl _
      have T1 := ext_trans T0 hc1
      clear hw1
      go_wp2_with fail
      refine nextQ T1 ?_
      go_simp
      refine wpAnyP_take (i := 6) rfl (by kernel_rfl) (by kernel_rfl) (by kernel_rfl) (by kernel_rfl) (fun _ _ _ h => h) (yieldsIf_run (.bool true) rfl (fun w2 => by go_simp; exact HN.out)) T1 ?_
      go_simp
      refine wpAnyP_take (i := 7) rfl (by kernel_rfl) (by kernel_rfl) (by kernel_rfl) (by kernel_rfl) (fun _ _ _ h => h) (yieldsIf_run (.bool true) rfl (fun w' => by go_simp)) T1 ?_
      refine wpAnyP_take (i := 8) rfl (by kernel_rfl) (by kernel_rfl) (by kernel_rfl) (by kernel_rfl) (fun _ _ _ h => h) (v := undef) (.inr ⟨rfl, rfl⟩) T1 ?_
      refine wpAnyP_take (i := 9) rfl (by kernel_rfl) (by kernel_rfl) (by kernel_rfl) (by kernel_rfl) (fun _ _ _ h => h) (v := undef) (.inr ⟨rfl, rfl⟩) T1 ?_
      go_simp
      refine wpAnyP_take (i := 10) rfl (by kernel_rfl) (by kernel_rfl) (by kernel_rfl) (by kernel_rfl) (fun _ _ _ h => h) (v := undef) (.inr ⟨rfl, rfl⟩) T1 ?_
      refine wpAnyP_take (i := 11) rfl (by kernel_rfl) (by kernel_rfl) (by kernel_rfl) (by kernel_rfl) (fun _ _ _ h => h) (v := undef) (.inr ⟨rfl, rfl⟩) T1 ?_
      refine wpAnyP_take (i := 12) rfl (by kernel_rfl) (by kernel_rfl) (by kernel_rfl) (by kernel_rfl) (fun _ _ _ h => h) (v := undef) (.inr ⟨rfl, rfl⟩) T1 ?_
      go_simp
      refine wpAnyP_take (i := 13) rfl (by kernel_rfl) (by kernel_rfl) (by kernel_rfl) (by kernel_rfl) (fun _ _ _ h => h) (v := undef) (.inr ⟨rfl, rfl⟩) T1 ?_
      refine wpAnyP_take (i := 14) rfl (by kernel_rfl) (by kernel_rfl) (by kernel_rfl) (by kernel_rfl) (fun _ _ _ h => h) (yieldsIf_run (.bool true) rfl (fun w' => by go_simp)) T1 ?_
      go_simp
      refine wpAnyP_done (by kernel_rfl) ?_
      go_wp2_with fail
      go_ret
      exact ⟨by rw [HF.out]; rfl, ext_trans KC (ext_trans hY T1)⟩
    case false =>
      have HD := hide (show decide (e.server = pv) = true by have := HSV.out; revert this; cases decide (e.server = pv) <;> simp)
      have HN := hide (show e.server.toList = pv.toList by have h1 := of_decide_eq_true HD.out; rw [h1])
      have HF := hide (show E = if (e.sum != e.id) = true then 12 else 0 by
        rw [HV5.out]
        rw [HD.out]; by_cases h2 : e.sum = e.id <;> simp [h2])
      refine wp_region_now (by kernel_rfl) ?_
      intro Y hY
      have T0 : Below Y.heap.size Y Y := ext_refl Y
      have HBY := hide (box_below HBC.out hY)
      refine wpAnyP_take (i := 0) rfl (by kernel_rfl) (by kernel_rfl) (by kernel_rfl) (by kernel_rfl) (fun _ _ _ h => h) (yieldsIf_run (.pointer (some ⟨w.heap.size, 27, none⟩)) rfl (fun w' => by go_simp)) T0 ?_
      refine wpAnyP_take (i := 1) rfl (by kernel_rfl) (by kernel_rfl) (by kernel_rfl) (by kernel_rfl) (fun _ _ _ h => h) (yieldsIf_run (.pointer (some ⟨w.heap.size, 27, none⟩)) rfl (fun w' => by go_simp)) T0 ?_
      refine wpAnyP_take (i := 2) rfl (by kernel_rfl) (by kernel_rfl) (by kernel_rfl) (by kernel_rfl) (fun _ _ _ h => h) (yieldsIf_load rfl rfl Tryz.underlying9 rfl rfl (fun w2 hT => box_at (box_below HBY.out hT) (j := 27) (u := .string e.server) s27)) T0 ?_
      go_simp
      refine wpAnyP_take (i := 3) rfl (by kernel_rfl) (by kernel_rfl) (by kernel_rfl) (by kernel_rfl) (fun _ _ _ h => h) (yieldsIf_run (.pointer (some ⟨w.heap.size, 2, none⟩)) rfl (fun w' => by go_simp)) T0 ?_
      refine wpAnyP_take (i := 4) rfl (by kernel_rfl) (by kernel_rfl) (by kernel_rfl) (by kernel_rfl) (fun _ _ _ h => h) (yieldsIf_load rfl rfl Tryz.underlying9 rfl rfl (fun w2 hT => box_at (box_below HBY.out hT) (j := 2) (u := .string e.sender) s2)) T0 ?_
      go_simp
      refine wpAnyP_oneQ (i := 5) (by kernel_rfl) rfl ?_
      go_wp2_with fail
      refine (CV _).mono ?_
      rintro x c1 ⟨rfl, hw1⟩
      have hc1 : Below Y.heap.size Y c1 := by rw [hw1]; exact ext_refl _
      have T1 := ext_trans T0 hc1
      clear hw1
      go_wp2_with fail
      refine nextQ T1 ?_
      go_simp
      refine wpAnyP_take (i := 6) rfl (by kernel_rfl) (by kernel_rfl) (by kernel_rfl) (by kernel_rfl) (fun _ _ _ h => h) (yieldsIf_run (.bool false) rfl (fun w2 => by go_simp; exact HN.out)) T1 ?_
      go_simp
      refine wpAnyP_take (i := 7) rfl (by kernel_rfl) (by kernel_rfl) (by kernel_rfl) (by kernel_rfl) (fun _ _ _ h => h) (yieldsIf_run (.bool false) rfl (fun w' => by go_simp)) T1 ?_
      refine wpAnyP_take (i := 8) rfl (by kernel_rfl) (by kernel_rfl) (by kernel_rfl) (by kernel_rfl) (fun _ _ _ h => h) (yieldsIf_run (.pointer (some ⟨w.heap.size, 27, none⟩)) rfl (fun w' => by go_simp)) T1 ?_
      refine wpAnyP_take (i := 9) rfl (by kernel_rfl) (by kernel_rfl) (by kernel_rfl) (by kernel_rfl) (fun _ _ _ h => h) (yieldsIf_run (.pointer (some ⟨w.heap.size, 28, none⟩)) rfl (fun w' => by go_simp)) T1 ?_
      go_simp
      refine wpAnyP_take (i := 10) rfl (by kernel_rfl) (by kernel_rfl) (by kernel_rfl) (by kernel_rfl) (fun _ _ _ h => h) (yieldsIf_load rfl rfl Tryz.underlying3 rfl rfl (fun w2 hT => box_at (box_below HBY.out hT) (j := 28) (u := .int .i64 e.sum) s28)) T1 ?_
      refine wpAnyP_take (i := 11) rfl (by kernel_rfl) (by kernel_rfl) (by kernel_rfl) (by kernel_rfl) (fun _ _ _ h => h) (yieldsIf_run (.pointer (some ⟨w.heap.size, 0, none⟩)) rfl (fun w' => by go_simp)) T1 ?_
      refine wpAnyP_take (i := 12) rfl (by kernel_rfl) (by kernel_rfl) (by kernel_rfl) (by kernel_rfl) (fun _ _ _ h => h) (yieldsIf_load rfl rfl Tryz.underlying3 rfl rfl (fun w2 hT => box_at (box_below HBY.out hT) (j := 0) (u := .int .i64 e.id) s0)) T1 ?_
      go_simp
      refine wpAnyP_take (i := 13) rfl (by kernel_rfl) (by kernel_rfl) (by kernel_rfl) (by kernel_rfl) (fun _ _ _ h => h) (yieldsIf_run (.bool (e.sum != e.id)) rfl (fun w' => by go_simp)) T1 ?_
      refine wpAnyP_take (i := 14) rfl (by kernel_rfl) (by kernel_rfl) (by kernel_rfl) (by kernel_rfl) (fun _ _ _ h => h) (yieldsIf_run (.bool (e.sum != e.id)) rfl (fun w' => by go_simp)) T1 ?_
      go_simp
      refine wpAnyP_done (by kernel_rfl) ?_
      obtain ⟨gb, hgb⟩ : ∃ b, (e.sum != e.id) = b := ⟨_, rfl⟩
      rw [hgb] at HF
      try rw [hgb]
      cases gb
      all_goals
        go_wp2_with fail
        go_ret
        exact ⟨by rw [HF.out]; rfl, ext_trans KC (ext_trans hY T1)⟩
  case false =>
    refine wp_region_now (by kernel_rfl) ?_
    intro Y hY
    have T0 : Below Y.heap.size Y Y := ext_refl Y
    have HBY := hide (box_below HB1.out hY)
    refine wpAnyP_take (i := 0) rfl (by kernel_rfl) (by kernel_rfl) (by kernel_rfl) (by kernel_rfl) (fun _ _ _ h => h) (yieldsIf_loadS rfl (.tmp 1) rfl strcE ⟨w.heap.size, 0, none⟩ rfl cs HL.out (fun w2 hT => box_all (box_below HBY.out hT))) T0 ?_
    go_simp
    refine wpAnyP_oneQ (i := 1) (by kernel_rfl) rfl ?_
    go_wp2_with fail
    refine (CW _ (ext_trans KB (ext_trans hY T0))).mono ?_
    rintro x c1 ⟨rfl, hc1⟩
    have T1 := ext_trans T0 hc1
    go_wp2_with fail
    refine nextQ T1 ?_
    go_simp
    refine wpAnyP_take (i := 2) rfl (by kernel_rfl) (by kernel_rfl) (by kernel_rfl) (by kernel_rfl) (fun _ _ _ h => h) (yieldsIf_run (.bool true) rfl (fun w' => by go_simp)) T1 ?_
    refine wpAnyP_take (i := 3) rfl (by kernel_rfl) (by kernel_rfl) (by kernel_rfl) (by kernel_rfl) (fun _ _ _ h => h) (yieldsIf_run (.bool true) rfl (fun w' => by go_simp)) T1 ?_
    go_simp
    refine wpAnyP_take (i := 4) rfl (by kernel_rfl) (by kernel_rfl) (by kernel_rfl) (by kernel_rfl) (fun _ _ _ h => h) (yieldsIf_run (.pointer (some ⟨w.heap.size, 10, none⟩)) rfl (fun w' => by go_simp)) T1 ?_
    refine wpAnyP_take (i := 5) rfl (by kernel_rfl) (by kernel_rfl) (by kernel_rfl) (by kernel_rfl) (fun _ _ _ h => h) (yieldsIf_loadS rfl (.tmp 13) rfl strcC ⟨w.heap.size, 10, none⟩ rfl ((cs.drop 10).take 16) HLC.out (fun w2 hT => box_cells (box_below HBY.out hT) 10 16)) T1 ?_
    refine wpAnyP_take (i := 6) rfl (by kernel_rfl) (by kernel_rfl) (by kernel_rfl) (by kernel_rfl) (fun _ _ _ h => h) (yieldsIf_run (.pointer (some ⟨w.heap.size, 3, none⟩)) rfl (fun w' => by go_simp)) T1 ?_
    go_simp
    refine wpAnyP_take (i := 7) rfl (by kernel_rfl) (by kernel_rfl) (by kernel_rfl) (by kernel_rfl) (fun _ _ _ h => h) (yieldsIf_load rfl rfl Tryz.underlying23 rfl rfl (fun w2 hT => box_at (box_below HBY.out hT) (j := 3) (u := .int .i64 e.kind) s3)) T1 ?_
    refine wpAnyP_take (i := 8) rfl (by kernel_rfl) (by kernel_rfl) (by kernel_rfl) (by kernel_rfl) (fun _ _ _ h => h) (yieldsIf_run (.pointer (some ⟨w.heap.size, 10, none⟩)) rfl (fun w' => by go_simp)) T1 ?_
    refine wpAnyP_take (i := 9) rfl (by kernel_rfl) (by kernel_rfl) (by kernel_rfl) (by kernel_rfl) (fun _ _ _ h => h) (yieldsIf_loadS rfl (.tmp 17) rfl strcC ⟨w.heap.size, 10, none⟩ rfl ((cs.drop 10).take 16) HLC.out (fun w2 hT => box_cells (box_below HBY.out hT) 10 16)) T1 ?_
    go_simp
    go_simp
    refine wpAnyP_oneQ (i := 10) (by kernel_rfl) rfl ?_
    go_wp2_with fail
    refine (CT _ (ext_trans KB (ext_trans hY T1))).mono ?_
    rintro x c2 ⟨cs2, rfl, R2, hc2⟩
    have T2 := ext_trans T1 hc2
    go_wp2_with fail
    refine nextQ T2 ?_
    go_simp
    go_simp
    refine wpAnyP_oneQ (i := 11) (by kernel_rfl) rfl ?_
    go_wp2_with fail
    have CX3 := R6Same_any (HR.out.con.ext (ext_trans KB (ext_trans hY T2))) R2 f1.out f2.out
    rw [HS.out] at CX3
    refine CX3.mono ?_
    rintro x c3 ⟨rfl, hc3⟩
    clear CX3
    have T3 := ext_trans T2 hc3
    go_wp2_with fail
    refine nextQ T3 ?_
    go_simp
    refine wpAnyP_take (i := 12) rfl (by kernel_rfl) (by kernel_rfl) (by kernel_rfl) (by kernel_rfl) (fun _ _ _ h => h) (yieldsIf_run (.bool (!sb)) rfl (fun w' => by go_simp)) T3 ?_
    refine wpAnyP_take (i := 13) rfl (by kernel_rfl) (by kernel_rfl) (by kernel_rfl) (by kernel_rfl) (fun _ _ _ h => h) (yieldsIf_run (.bool (!sb)) rfl (fun w' => by go_simp)) T3 ?_
    go_simp
    refine wpAnyP_done (by kernel_rfl) ?_
    have KD := ext_trans KB (ext_trans hY T3)
    have HBD := hide (box_below HBY.out T3)
    clear hY T0 T1 T2 T3 R2
    cases sb
    case false =>
      have HF := hide (show E = 6 by rw [HV2.out]; exact if_pos rfl)
      go_wp2_with fail
      go_ret
      exact ⟨by rw [HF.out]; rfl, KD⟩
    have HV3 := hide (show E = if iv ≠ e.id then 11 else if (decide (e.server = pv) && decide (e.sum = e.id)) = false then 12 else 0 by rw [HV2.out]; exact if_neg (by simp))
    clear hnb nb
    go_upto_region 6 with fail
    refine wp_region_now (by kernel_rfl) ?_
    intro Y hY
    have T0 : Below Y.heap.size Y Y := ext_refl Y
    have HBY := hide (box_below HBD.out hY)
    refine wpAnyP_take (i := 0) rfl (by kernel_rfl) (by kernel_rfl) (by kernel_rfl) (by kernel_rfl) (fun _ _ _ h => h) (yieldsIf_loadS rfl (.tmp 1) rfl strcE ⟨w.heap.size, 0, none⟩ rfl cs HL.out (fun w2 hT => box_all (box_below HBY.out hT))) T0 ?_
    refine wpAnyP_take (i := 2) rfl (by kernel_rfl) (by kernel_rfl) (by kernel_rfl) (by kernel_rfl) (fun _ _ _ h => h) (yieldsIf_run (.pointer (some ⟨w.heap.size, 0, none⟩)) rfl (fun w' => by go_simp)) T0 ?_
    refine wpAnyP_take (i := 3) rfl (by kernel_rfl) (by kernel_rfl) (by kernel_rfl) (by kernel_rfl) (fun _ _ _ h => h) (yieldsIf_load rfl rfl Tryz.underlying3 rfl rfl (fun w2 hT => box_at (box_below HBY.out hT) (j := 0) (u := .int .i64 e.id) s0)) T0 ?_
    go_simp
    go_simp
    refine wpAnyP_oneQ (i := 1) (by kernel_rfl) rfl ?_
    go_wp2_with fail
    refine (CI _ (ext_trans KD (ext_trans hY T0))).mono ?_
    rintro x c1 ⟨rfl, hc1⟩
    have T1 := ext_trans T0 hc1
    go_wp2_with fail
    refine nextQ T1 ?_
    go_simp
    refine wpAnyP_take (i := 4) rfl (by kernel_rfl) (by kernel_rfl) (by kernel_rfl) (by kernel_rfl) (fun _ _ _ h => h) (yieldsIf_run (.bool (iv != e.id)) rfl (fun w' => by go_simp)) T1 ?_
    go_simp
    refine wpAnyP_done (by kernel_rfl) ?_
    have KC := ext_trans KD (ext_trans hY T1)
    have HBC := hide (box_below HBY.out T1)
    by_cases q : iv = e.id
    rotate_left
    · have q1 : (iv != e.id) = true := by simpa using q
      have HF := hide (show E = 11 by rw [HV3.out, if_pos q])
      simp only [q1]
      clear q
      go_wp2_with fail
      go_ret
      exact ⟨by rw [HF.out]; rfl, KC⟩
    have q1 : (iv != e.id) = false := by simpa using q
    have HV5 := hide (show E = if (decide (e.server = pv) && decide (e.sum = e.id)) = false then 12 else 0 by rw [HV3.out, if_neg (by simpa using q)])
    simp only [q1]
    clear q hY T0 T1
    go_upto_region 8 with fail
    obtain ⟨sv, hsv⟩ : ∃ b, (!(e.server.toList == pv.toList)) = b := ⟨_, rfl⟩
    have HG := hide hsv
    have HSV := hide (show sv = !decide (e.server = pv) by rw [← hsv, bne_str])
    clear hsv
    cases sv
    case true =>
      have HD := hide (show decide (e.server = pv) = false by have := HSV.out; revert this; cases decide (e.server = pv) <;> simp)
      have HN := hide (show ¬ e.server.toList = pv.toList from fun h => by have h1 := HD.out; rw [str_eq_of h] at h1; simp at h1)
      have HF := hide (show E = 12 by rw [HV5.out]; exact if_pos (by rw [HD.out]; rfl))
      refine wp_region_now (by kernel_rfl) ?_
      intro Y hY
      have T0 : Below Y.heap.size Y Y := ext_refl Y
      have HBY := hide (box_below HBC.out hY)
      refine wpAnyP_take (i := 0) rfl (by kernel_rfl) (by kernel_rfl) (by kernel_rfl) (by kernel_rfl) (fun _ _ _ h => h) (yieldsIf_run (.pointer (some ⟨w.heap.size, 27, none⟩)) rfl (fun w' => by go_simp)) T0 ?_
      refine wpAnyP_take (i := 1) rfl (by kernel_rfl) (by kernel_rfl) (by kernel_rfl) (by kernel_rfl) (fun _ _ _ h => h) (yieldsIf_run (.pointer (some ⟨w.heap.size, 27, none⟩)) rfl (fun w' => by go_simp)) T0 ?_
      refine wpAnyP_take (i := 2) rfl (by kernel_rfl) (by kernel_rfl) (by kernel_rfl) (by kernel_rfl) (fun _ _ _ h => h) (yieldsIf_load rfl rfl Tryz.underlying9 rfl rfl (fun w2 hT => box_at (box_below HBY.out hT) (j := 27) (u := .string e.server) s27)) T0 ?_
      go_simp
      refine wpAnyP_take (i := 3) rfl (by kernel_rfl) (by kernel_rfl) (by kernel_rfl) (by kernel_rfl) (fun _ _ _ h => h) (yieldsIf_run (.pointer (some ⟨w.heap.size, 2, none⟩)) rfl (fun w' => by go_simp)) T0 ?_
      refine wpAnyP_take (i := 4) rfl (by kernel_rfl) (by kernel_rfl) (by kernel_rfl) (by kernel_rfl) (fun _ _ _ h => h) (yieldsIf_load rfl rfl Tryz.underlying9 rfl rfl (fun w2 hT => box_at (box_below HBY.out hT) (j := 2) (u := .string e.sender) s2)) T0 ?_
      go_simp
      refine wpAnyP_oneQ (i := 5) (by kernel_rfl) rfl ?_
      go_wp2_with fail
      refine (CV _).mono ?_
      rintro x c1 ⟨rfl, hw1⟩
      have hc1 : Below Y.heap.size Y c1 := by rw [hw1]; exact ext_refl _
      have T1 := ext_trans T0 hc1
      clear hw1
      go_wp2_with fail
      refine nextQ T1 ?_
      go_simp
      refine wpAnyP_take (i := 6) rfl (by kernel_rfl) (by kernel_rfl) (by kernel_rfl) (by kernel_rfl) (fun _ _ _ h => h) (yieldsIf_run (.bool true) rfl (fun w2 => by go_simp; exact HN.out)) T1 ?_
      go_simp
      refine wpAnyP_take (i := 7) rfl (by kernel_rfl) (by kernel_rfl) (by kernel_rfl) (by kernel_rfl) (fun _ _ _ h => h) (yieldsIf_run (.bool true) rfl (fun w' => by go_simp)) T1 ?_
      refine wpAnyP_take (i := 8) rfl (by kernel_rfl) (by kernel_rfl) (by kernel_rfl) (by kernel_rfl) (fun _ _ _ h => h) (v := undef) (.inr ⟨rfl, rfl⟩) T1 ?_
      refine wpAnyP_take (i := 9) rfl (by kernel_rfl) (by kernel_rfl) (by kernel_rfl) (by kernel_rfl) (fun _ _ _ h => h) (v := undef) (.inr ⟨rfl, rfl⟩) T1 ?_
      go_simp
      refine wpAnyP_take (i := 10) rfl (by kernel_rfl) (by kernel_rfl) (by kernel_rfl) (by kernel_rfl) (fun _ _ _ h => h) (v := undef) (.inr ⟨rfl, rfl⟩) T1 ?_
      refine wpAnyP_take (i := 11) rfl (by kernel_rfl) (by kernel_rfl) (by kernel_rfl) (by kernel_rfl) (fun _ _ _ h => h) (v := undef) (.inr ⟨rfl, rfl⟩) T1 ?_
      refine wpAnyP_take (i := 12) rfl (by kernel_rfl) (by kernel_rfl) (by kernel_rfl) (by kernel_rfl) (fun _ _ _ h => h) (v := undef) (.inr ⟨rfl, rfl⟩) T1 ?_
      go_simp
      refine wpAnyP_take (i := 13) rfl (by kernel_rfl) (by kernel_rfl) (by kernel_rfl) (by kernel_rfl) (fun _ _ _ h => h) (v := undef) (.inr ⟨rfl, rfl⟩) T1 ?_
      refine wpAnyP_take (i := 14) rfl (by kernel_rfl) (by kernel_rfl) (by kernel_rfl) (by kernel_rfl) (fun _ _ _ h => h) (yieldsIf_run (.bool true) rfl (fun w' => by go_simp)) T1 ?_
      go_simp
      refine wpAnyP_done (by kernel_rfl) ?_
      go_wp2_with fail
      go_ret
      exact ⟨by rw [HF.out]; rfl, ext_trans KC (ext_trans hY T1)⟩
    case false =>
      have HD := hide (show decide (e.server = pv) = true by have := HSV.out; revert this; cases decide (e.server = pv) <;> simp)
      have HN := hide (show e.server.toList = pv.toList by have h1 := of_decide_eq_true HD.out; rw [h1])
      have HF := hide (show E = if (e.sum != e.id) = true then 12 else 0 by
        rw [HV5.out]
        rw [HD.out]; by_cases h2 : e.sum = e.id <;> simp [h2])
      refine wp_region_now (by kernel_rfl) ?_
      intro Y hY
      have T0 : Below Y.heap.size Y Y := ext_refl Y
      have HBY := hide (box_below HBC.out hY)
      refine wpAnyP_take (i := 0) rfl (by kernel_rfl) (by kernel_rfl) (by kernel_rfl) (by kernel_rfl) (fun _ _ _ h => h) (yieldsIf_run (.pointer (some ⟨w.heap.size, 27, none⟩)) rfl (fun w' => by go_simp)) T0 ?_
      refine wpAnyP_take (i := 1) rfl (by kernel_rfl) (by kernel_rfl) (by kernel_rfl) (by kernel_rfl) (fun _ _ _ h => h) (yieldsIf_run (.pointer (some ⟨w.heap.size, 27, none⟩)) rfl (fun w' => by go_simp)) T0 ?_
      refine wpAnyP_take (i := 2) rfl (by kernel_rfl) (by kernel_rfl) (by kernel_rfl) (by kernel_rfl) (fun _ _ _ h => h) (yieldsIf_load rfl rfl Tryz.underlying9 rfl rfl (fun w2 hT => box_at (box_below HBY.out hT) (j := 27) (u := .string e.server) s27)) T0 ?_
      go_simp
      refine wpAnyP_take (i := 3) rfl (by kernel_rfl) (by kernel_rfl) (by kernel_rfl) (by kernel_rfl) (fun _ _ _ h => h) (yieldsIf_run (.pointer (some ⟨w.heap.size, 2, none⟩)) rfl (fun w' => by go_simp)) T0 ?_
      refine wpAnyP_take (i := 4) rfl (by kernel_rfl) (by kernel_rfl) (by kernel_rfl) (by kernel_rfl) (fun _ _ _ h => h) (yieldsIf_load rfl rfl Tryz.underlying9 rfl rfl (fun w2 hT => box_at (box_below HBY.out hT) (j := 2) (u := .string e.sender) s2)) T0 ?_
      go_simp
      refine wpAnyP_oneQ (i := 5) (by kernel_rfl) rfl ?_
      go_wp2_with fail
      refine (CV _).mono ?_
      rintro x c1 ⟨rfl, hw1⟩
      have hc1 : Below Y.heap.size Y c1 := by rw [hw1]; exact ext_refl _
      have T1 := ext_trans T0 hc1
      clear hw1
      go_wp2_with fail
      refine nextQ T1 ?_
      go_simp
      refine wpAnyP_take (i := 6) rfl (by kernel_rfl) (by kernel_rfl) (by kernel_rfl) (by kernel_rfl) (fun _ _ _ h => h) (yieldsIf_run (.bool false) rfl (fun w2 => by go_simp; exact HN.out)) T1 ?_
      go_simp
      refine wpAnyP_take (i := 7) rfl (by kernel_rfl) (by kernel_rfl) (by kernel_rfl) (by kernel_rfl) (fun _ _ _ h => h) (yieldsIf_run (.bool false) rfl (fun w' => by go_simp)) T1 ?_
      refine wpAnyP_take (i := 8) rfl (by kernel_rfl) (by kernel_rfl) (by kernel_rfl) (by kernel_rfl) (fun _ _ _ h => h) (yieldsIf_run (.pointer (some ⟨w.heap.size, 27, none⟩)) rfl (fun w' => by go_simp)) T1 ?_
      refine wpAnyP_take (i := 9) rfl (by kernel_rfl) (by kernel_rfl) (by kernel_rfl) (by kernel_rfl) (fun _ _ _ h => h) (yieldsIf_run (.pointer (some ⟨w.heap.size, 28, none⟩)) rfl (fun w' => by go_simp)) T1 ?_
      go_simp
      refine wpAnyP_take (i := 10) rfl (by kernel_rfl) (by kernel_rfl) (by kernel_rfl) (by kernel_rfl) (fun _ _ _ h => h) (yieldsIf_load rfl rfl Tryz.underlying3 rfl rfl (fun w2 hT => box_at (box_below HBY.out hT) (j := 28) (u := .int .i64 e.sum) s28)) T1 ?_
      refine wpAnyP_take (i := 11) rfl (by kernel_rfl) (by kernel_rfl) (by kernel_rfl) (by kernel_rfl) (fun _ _ _ h => h) (yieldsIf_run (.pointer (some ⟨w.heap.size, 0, none⟩)) rfl (fun w' => by go_simp)) T1 ?_
      refine wpAnyP_take (i := 12) rfl (by kernel_rfl) (by kernel_rfl) (by kernel_rfl) (by kernel_rfl) (fun _ _ _ h => h) (yieldsIf_load rfl rfl Tryz.underlying3 rfl rfl (fun w2 hT => box_at (box_below HBY.out hT) (j := 0) (u := .int .i64 e.id) s0)) T1 ?_
      go_simp
      refine wpAnyP_take (i := 13) rfl (by kernel_rfl) (by kernel_rfl) (by kernel_rfl) (by kernel_rfl) (fun _ _ _ h => h) (yieldsIf_run (.bool (e.sum != e.id)) rfl (fun w' => by go_simp)) T1 ?_
      refine wpAnyP_take (i := 14) rfl (by kernel_rfl) (by kernel_rfl) (by kernel_rfl) (by kernel_rfl) (fun _ _ _ h => h) (yieldsIf_run (.bool (e.sum != e.id)) rfl (fun w' => by go_simp)) T1 ?_
      go_simp
      refine wpAnyP_done (by kernel_rfl) ?_
      obtain ⟨gb, hgb⟩ : ∃ b, (e.sum != e.id) = b := ⟨_, rfl⟩
      rw [hgb] at HF
      try rw [hgb]
      cases gb
      all_goals
        go_wp2_with fail
        go_ret
        exact ⟨by rw [HF.out]; rfl, ext_trans KC (ext_trans hY T1)⟩
end
end Go.Proofs.YtmlnmcoophnlaaaGreat

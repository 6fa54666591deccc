/-
  event: ordered, isPolicy, named, Check.
-/
import Derived.Test.YtmlnmcoophnlaaaGreatUs
import Derived.Test.YtmlnmcoophnlaaaGreatEvStr
import Derived.BigQuiet
import Derived.Deep.DeepCutAuto
set_option linter.unusedVariables false
set_option linter.unusedSimpArgs false
namespace Go.Proofs.YtmlnmcoophnlaaaGreat
open Go.RowKit
attribute [local go_sem] Addr.add_mid
def ordF (p : Option Int) (x : Int) : Int := if x < 0 then 1 else if (match p with | none => false | some y => decide (x ≤ y)) = true then 1 else 0
def orderedB (l : List Int) : Bool := decide (firstE ordF none l = 0)
def keyB (s : ByteArray) : Bool := decide (1 ≤ s.size) && decide (s.size ≤ 32) && !s.data.toList.any badB
def nameB7 (e : Ev) : Bool := roomB e.room && (userB e.sender && (if e.kind = 2 then userB e.key else if e.kind = 9 then keyB e.key else true))
def headB (e : Ev) : Bool := decide (e.kind < 1) || (decide (14 < e.kind) || ((e.state != stateB e.kind) || (decide (e.key.size ≠ 0) && (decide (e.kind ≠ 2) && decide (e.kind ≠ 9)))))
def evE (e : Ev) : Int :=
  if headB e = true then 1
  else if nameB7 e = false then 3
  else if e.time < 0 ∨ 1000000000 < e.time ∨ e.depth < 1 ∨ 100000 < e.depth then 2
  else if 10 < e.prev.length ∨ 8 < e.auth.length then 7
  else if orderedB e.prev = false ∨ orderedB e.auth = false then 8
  else if e.prev.length = 0 ∧ e.kind ≠ 1 then 9
  else if e.kind = 1 ∧ 0 < e.prev.length + e.auth.length then 6
  else ckE e.kind e.con
theorem ordF_neg {p : Option Int} {x : Int} (h : x < 0) : ordF p x = 1 := if_pos h
theorem ordF_le {y x : Int} (h : ¬ x < 0) (h2 : x ≤ y) : ordF (some y) x = 1 := by unfold ordF; rw [if_neg h, if_pos (by simpa using h2)]
theorem ordF_ok {y x : Int} (h : ¬ x < 0) (h2 : ¬ x ≤ y) : ordF (some y) x = 0 := by unfold ordF; rw [if_neg h, if_neg (by simpa using h2)]
theorem ordF_one {x : Int} (h : ¬ x < 0) : ordF none x = 0 := by unfold ordF; rw [if_neg h, if_neg (by simp)]
theorem ord_no {l : List Int} (h : firstE ordF none l = 1) : orderedB l = false := by unfold orderedB; rw [h]; rfl
theorem ord_yes {l : List Int} (h : firstE ordF none l = 0) : orderedB l = true := by unfold orderedB; rw [h]; rfl
set_option maxRecDepth 100000 in
set_option maxHeartbeats 20000000 in
theorem ordered_any {S : Nat → Prop} {v : Value} {l : List Int} {w : World} (hs : Slc w S v 1 l.length (ivs l)) (hl : l.length ≤ 1073741824) : Calls Tryz.prog 75 #[v] w (Says (orderedB l) w) := by
  obtain ⟨A, c, rfl, _, _, _, hr, _⟩ := hs.form
  clear hs
  go_enter Tryz.func75, Tryz.ntmps75
  go_wp2_with fail
  go_loopw [7] (fun i wr => ∃ k : Nat, k ≤ l.length ∧ i = .int .i64 (k : Int) ∧ Hid (FE ordF l k) ∧ Below w.heap.size w wr) (fun i _ => l.length - (intOf i).toNat)
  case atStart => exact ⟨0, Nat.zero_le _, rfl, FE.start, ext_refl w⟩
  case round =>
  obtain ⟨k, hk, rfl, HK, hbel⟩ := hrel
  by_cases hlt : k < l.length
  · obtain ⟨b, o, rfl, hb, hc⟩ := hr.fix (ivs_get l k hlt)
    have r0 := (Below.cell hbel hb).trans (hc _ _ (ivs_get l k hlt))
    obtain ⟨x, hx⟩ : ∃ x, x = l[k] := ⟨_, rfl⟩
    have HX := hide hx
    rw [← hx] at r0
    have HC := hide hc
    clear hx hc
    by_cases hneg : x < 0
    · have HE := hide (ord_no (HK.out.err (e := 1) hlt (by rw [← HX.out]; exact ordF_neg hneg) (by decide)))
      try simp only [Nat.zero_mul, Nat.add_zero] at r0
      go_wp2_with fail
      go_ret
      exact ⟨by rw [HE.out]; rfl, hbel⟩
    · rcases Nat.eq_zero_or_pos k with rfl | hpos
      · have HN := hide (HK.out.next hlt (by rw [← HX.out]; exact ordF_one hneg))
        try simp only [Nat.zero_mul, Nat.add_zero] at r0
        go_wp2_with fail
        go_roundw
        case rel => exact ⟨1, by omega, rfl, HN.out, hbel⟩
        case measure => (simp [intOf]; try omega)
      · obtain ⟨j, rfl⟩ : ∃ j, k = j + 1 := ⟨k - 1, by omega⟩
        have hj : j < l.length := by omega
        have hprev := prev_succ hj
        obtain ⟨y, hy⟩ : ∃ y, y = l[j] := ⟨_, rfl⟩
        have q0 := (Below.cell hbel hb).trans (HC.out _ _ (ivs_get l j hj))
        rw [← hy] at hprev q0
        have HPREV := hide hprev
        have hwr := wrap_k j (by omega)
        clear hprev hy
        by_cases hle : x ≤ y
        · have HE := hide (ord_no (HK.out.err (e := 1) hlt (by rw [← HX.out, HPREV.out]; exact ordF_le hneg hle) (by decide)))
          go_wp2_with fail
          go_ret
          exact ⟨by rw [HE.out]; rfl, hbel⟩
        · have HN := hide (HK.out.next hlt (by rw [← HX.out, HPREV.out]; exact ordF_ok hneg hle))
          go_wp2_with fail
          go_roundw
          case rel => exact ⟨j + 1 + 1, by omega, by go_num, HN.out, hbel⟩
          case measure => (simp [intOf]; try omega)
  · obtain rfl : k = l.length := by omega
    have HF := hide (ord_yes HK.out.fin)
    go_wp2_with fail
    go_ret
    exact ⟨by rw [HF.out]; rfl, hbel⟩
set_option maxRecDepth 100000 in
set_option maxHeartbeats 20000000 in
theorem isPolicy_any (s : ByteArray) (w : World) (hs : s.size ≤ 1073741824) : Calls Tryz.prog 102 #[.string s] w (fun e w' => e = .returned (.bool (keyB s)) ∧ w' = w) := by
  have hsz := hide (Enc.size_toList s)
  go_enter Tryz.func102, Tryz.ntmps102
  go_wp2_with fail
  go_loop [6] (fun i => ∃ k : Nat, k ≤ s.size ∧ i = .int .i64 (k : Int) ∧ Hid (∀ c ∈ s.data.toList.take k, badB c = false)) (fun i => s.size - (intOf i).toNat)
  case atStart => exact ⟨0, Nat.zero_le _, rfl, by simp [Hid]⟩
  case round =>
  obtain ⟨k, hk, rfl, HT⟩ := hrel
  by_cases hlt : k < s.size
  · have hi := bad_int s[k]
    cases hb : badB s[k]
    · have h3 : ¬ ((s[k].toNat : Int) < 33) := fun h => by rw [hi.2 (.inl h)] at hb; cases hb
      have h4 : ¬ (126 < (s[k].toNat : Int)) := fun h => by rw [hi.2 (.inr h)] at hb; cases hb
      have HN := hide (all_next HT.out hlt hb)
      clear hi hb
      go_wp2_with fail
      go_round
      case rel => exact ⟨k + 1, by omega, by go_num, HN.out⟩
      case measure => simp [intOf]; omega
    · have HF := hide (show keyB s = false by
        have : s.data.toList.any badB = true := by
          obtain ⟨h, hg⟩ := list_at s hlt
          exact List.any_eq_true.2 ⟨s[k], by rw [← hg]; exact List.getElem_mem h, hb⟩
        unfold keyB; rw [this]; simp)
      by_cases h3 : (s[k].toNat : Int) < 33
      · clear hi hb
        go_wp2_with fail
        go_ret
        exact ⟨by rw [HF.out]; rfl, rfl⟩
      · have h4 : 126 < (s[k].toNat : Int) := (hi.1 hb).resolve_left h3
        clear hi hb
        go_wp2_with fail
        go_ret
        exact ⟨by rw [HF.out]; rfl, rfl⟩
  · obtain rfl : k = s.size := by omega
    have HF := hide (show keyB s = (decide (1 ≤ s.size) && decide (s.size ≤ 32)) by
      have ha := HT.out
      rw [← hsz.out, List.take_length] at ha
      have : s.data.toList.any badB = false := by
        rw [← Bool.not_eq_true, List.any_eq_true]
        rintro ⟨c, hc, hb⟩
        rw [ha c hc] at hb; cases hb
      unfold keyB; rw [this]; simp)
    clear HT
    by_cases h1 : 1 ≤ s.size
    · by_cases h2 : s.size ≤ 32
      · have e1 : (1 : Int) ≤ (s.size : Int) := by omega
        have e2 : (s.size : Int) ≤ 32 := by omega
        have HV := hide (show keyB s = true by rw [HF.out]; simp [h1, h2])
        go_wp2_with fail
        go_ret
        exact ⟨by rw [HV.out]; rfl, rfl⟩
      · have e1 : (1 : Int) ≤ (s.size : Int) := by omega
        have e2 : ¬ (s.size : Int) ≤ 32 := by omega
        have HV := hide (show keyB s = false by rw [HF.out]; simp [h2])
        go_wp2_with fail
        go_ret
        exact ⟨by rw [HV.out]; rfl, rfl⟩
    · have e1 : ¬ (1 : Int) ≤ (s.size : Int) := by omega
      have HV := hide (show keyB s = false by rw [HF.out]; simp [h1])
      go_wp2_with fail
      go_ret
      exact ⟨by rw [HV.out]; rfl, rfl⟩
set_option maxRecDepth 100000 in
set_option maxHeartbeats 20000000 in
theorem named_any {S : Nat → Prop} {cs : List Value} {e : Ev} {w : World} (hr : EvR w S cs e) (h1 : e.room.size ≤ 1073741824) (h2 : e.sender.size ≤ 1073741824) (h3 : e.key.size ≤ 1073741824) :
    Calls Tryz.prog 74 #[.agg cs.toArray] w (Says (nameB7 e) w) := by
  obtain ⟨s0, s1, s2, s3, s4, s5, _⟩ := hr.gets
  have B := heap_alloc_new w (.cells cs.toArray 35)
  have hb := ext_alloc (ext_refl w) (.cells cs.toArray 35)
  have CR := fun W => ids_Room e.room W (by omega)
  have CU := fun W => ids_User e.sender W (by omega)
  have CK := fun W => ids_User e.key W (by omega)
  have CP := fun W => isPolicy_any e.key W h3
  obtain ⟨b1, q1⟩ : ∃ b, roomB e.room = b := ⟨_, rfl⟩
  obtain ⟨b2, q2⟩ : ∃ b, userB e.sender = b := ⟨_, rfl⟩
  obtain ⟨b3, q3⟩ : ∃ b, userB e.key = b := ⟨_, rfl⟩
  obtain ⟨b4, q4⟩ : ∃ b, keyB e.key = b := ⟨_, rfl⟩
  have p2 : (splitL [64] e.sender.data.toList).isSome = b2 := q2
  have p3 : (splitL [64] e.key.data.toList).isSome = b3 := q3
  simp only [q1] at CR; simp only [p2] at CU; simp only [p3] at CK; simp only [q4] at CP
  have HE := hide (show nameB7 e = (b1 && (b2 && (if e.kind = 2 then b3 else if e.kind = 9 then b4 else true))) by unfold nameB7; rw [q1, q2, q3, q4])
  have HB := hide B
  clear hr B q1 q2 q3 q4 p2 p3 s0 s4
  have r1 := box_at HB.out s1
  have r2 := box_at HB.out s2
  have r3 := box_at HB.out s3
  have r5 := box_at HB.out s5
  have HCR := hide CR
  cases b1
  case false =>
    simp only [errN, Bool.false_eq_true, if_false] at CR
    clear r2 r3 r5
    go_enter Tryz.func74, Tryz.ntmps74
    go_wp2_with (go_at_call 100; refine (CR _).mono ?_; rintro x w2 ⟨rfl, hb2⟩)
    go_ret
    exact ⟨by rw [HE.out]; rfl, ext_trans hb hb2⟩
  simp only [errN, if_true] at CR
  cases b2
  case false =>
    simp only [errN, Bool.false_eq_true, if_false] at CU
    clear r3 r5
    go_enter Tryz.func74, Tryz.ntmps74
    go_wp2_with (first | (go_at_call 100; refine (CR _).mono ?_; rintro x w2 ⟨rfl, hb2⟩; have r2 := box_at (box_below HB.out hb2) s2) | (go_at_call 101; refine (CU _).mono ?_; rintro x w3 ⟨rfl, hb3⟩))
    go_ret
    exact ⟨by rw [HE.out]; rfl, ext_trans hb (ext_trans hb2 hb3)⟩
  simp only [errN, if_true] at CU
  clear r2 r3 r5
  go_enter Tryz.func74, Tryz.ntmps74
  go_upto_region 3 with (first | (go_at_call 100; refine (CR _).mono ?_; rintro x w2 ⟨rfl, hb2⟩; have r2 := box_at (box_below HB.out hb2) s2) | (go_at_call 101; refine (CU _).mono ?_; rintro x w3 ⟨rfl, hb3⟩))
  have hb4 := ext_trans hb2 hb3
  have B4 := box_below HB.out hb4
  have hb5 := ext_trans hb hb4
  have r3 := box_at B4 s3
  have r5 := box_at B4 s5
  clear B4 r1 r2 hb2 hb3 hb4 HCR CR CU
  by_cases k2 : e.kind = 2
  · have HV := hide (show nameB7 e = b3 by rw [HE.out, if_pos k2]; rfl)
    have k2' : (e.kind == 2) = true := by simpa using k2
    clear k2
    cases b3
    all_goals
      simp only [errN, Bool.false_eq_true, if_false, if_true] at CK
      go_wp2_with (go_at_call 101; refine (CK _).mono ?_; rintro x w6 ⟨rfl, hb6⟩)
      go_ret
      exact ⟨by rw [HV.out]; rfl, ext_trans hb5 hb6⟩
  · have k2' : (e.kind == 2) = false := by simpa using k2
    by_cases k9 : e.kind = 9
    · have HV := hide (show nameB7 e = b4 by rw [HE.out, if_neg k2, if_pos k9]; rfl)
      have k9' : (e.kind == 9) = true := by simpa using k9
      clear k2 k9
      go_wp2_with (go_at_call 102; refine (CP _).mono ?_; rintro x w6 ⟨rfl, hw6⟩; rw [hw6]; clear hw6 w6)
      go_ret
      exact ⟨by rw [HV.out]; rfl, hb5⟩
    · have HV := hide (show nameB7 e = true by rw [HE.out, if_neg k2, if_neg k9]; rfl)
      have k9' : (e.kind == 9) = false := by simpa using k9
      clear k2 k9
      go_wp2_with fail
      go_ret
      exact ⟨by rw [HV.out]; rfl, hb5⟩
set_option maxRecDepth 100000 in
set_option maxHeartbeats 20000000 in
theorem EvCheck_any {S : Nat → Prop} {cs : List Value} {e : Ev} {w : World} (hr : EvR w S cs e) (hm : e.con.mild) (h1 : e.room.size ≤ 1073741824) (h2 : e.sender.size ≤ 1073741824) (h3 : e.key.size ≤ 1073741824) (h4 : e.prev.length ≤ 1073741824) (h5 : e.auth.length ≤ 1073741824) :
    Calls Tryz.prog 57 #[.agg cs.toArray] w (Errs (evE e) w) := by
  obtain ⟨s0, s1, s2, s3, s4, s5, s6, s7, s26, s27, s28⟩ := hr.gets
  obtain ⟨A8, c8, A9, c9, s8, s9, hv8, hv9⟩ : ∃ A8 c8 A9 c9, cs[8]? = some (.slice A8 e.prev.length c8) ∧ cs[9]? = some (.slice A9 e.auth.length c9) ∧ Slc w S (.slice A8 e.prev.length c8) 1 e.prev.length (ivs e.prev) ∧ Slc w S (.slice A9 e.auth.length c9) 1 e.auth.length (ivs e.auth) := by
    obtain ⟨vp, vq, s8, s9, hvp, hvq⟩ := hr.lists
    obtain ⟨A8, c8, rfl, _⟩ := hvp.form
    obtain ⟨A9, c9, rfl, _⟩ := hvq.form
    exact ⟨A8, c8, A9, c9, s8, s9, hvp, hvq⟩
  have HL := hide hr.length
  have B := heap_alloc_new w (.cells cs.toArray 35)
  have hb := ext_alloc (ext_refl w) (.cells cs.toArray 35)
  have CN := fun W (h : Below w.heap.size w W) => named_any (hr.ext h) h1 h2 h3
  have CO8 := fun W (h : Below w.heap.size w W) => ordered_any (hv8.ext h) h4
  have CO9 := fun W (h : Below w.heap.size w W) => ordered_any (hv9.ext h) h5
  have CC := fun W (h : Below w.heap.size w W) => Check_any (k := e.kind) (hr.con.ext h) hm
  have CS := fun W => state_any e.kind W
  have HLC := hide (show ((cs.drop 10).take 16).length = 16 by rw [List.length_take, List.length_drop, hr.length]; rfl)
  obtain ⟨st, hst⟩ : ∃ b, stateB e.kind = b := ⟨_, rfl⟩
  obtain ⟨sn, hsn⟩ : ∃ b, (!(e.state == st)) = b := ⟨_, rfl⟩
  obtain ⟨kn, hkn⟩ : ∃ b, (!e.key.toList.isEmpty) = b := ⟨_, rfl⟩
  obtain ⟨kd, hkd⟩ : ∃ b, ((e.kind == 2) || (e.kind == 9)) = b := ⟨_, rfl⟩
  obtain ⟨hd, hhd⟩ : ∃ b, headB e = b := ⟨_, rfl⟩
  obtain ⟨nm, hnm⟩ : ∃ b, nameB7 e = b := ⟨_, rfl⟩
  obtain ⟨o8, ho8⟩ : ∃ b, orderedB e.prev = b := ⟨_, rfl⟩
  obtain ⟨o9, ho9⟩ : ∃ b, orderedB e.auth = b := ⟨_, rfl⟩
  obtain ⟨ck, hck⟩ : ∃ b, ckE e.kind e.con = b := ⟨_, rfl⟩
  have HH := hide (show hd = (decide (e.kind < 1) || (decide (14 < e.kind) || (sn || (kn && !kd)))) by
    have e2 : (!kd) = (decide (e.kind ≠ 2) && decide (e.kind ≠ 9)) := by
      rw [← hkd]; by_cases a : e.kind = 2 <;> by_cases b : e.kind = 9 <;> simp [a, b]
    rw [← hhd]; unfold headB
    have e3 : (e.state != st) = sn := by rw [← hsn]; cases e.state <;> cases st <;> rfl
    rw [hst, e3, ← str_b, hkn, e2])
  have HE := hide (show evE e = if hd = true then 1 else if nm = false then 3 else if e.time < 0 ∨ 1000000000 < e.time ∨ e.depth < 1 ∨ 100000 < e.depth then 2 else if 10 < e.prev.length ∨ 8 < e.auth.length then 7 else if o8 = false ∨ o9 = false then 8 else if e.prev.length = 0 ∧ e.kind ≠ 1 then 9 else if e.kind = 1 ∧ 0 < e.prev.length + e.auth.length then 6 else ck by
    unfold evE; rw [hhd, hnm, ho8, ho9, hck])
  simp only [hst] at CS; simp only [hnm] at CN; simp only [ho8] at CO8; simp only [ho9] at CO9; simp only [hck] at CC
  have HB := hide B
  clear hr hm h1 h2 h3 B hv8 hv9 hst hhd hnm ho8 ho9 hck s0 s1 s2 s26 s27 s28
  generalize hE : evE e = E at HE ⊢
  clear hE
  go_enter Tryz.func57, Tryz.ntmps57
  go_upto_region 1 with fail
  generalize w.alloc (.cells cs.toArray 35) = W0 at HB hb ⊢
  have KB := ext_refl W0
  have r3 := box_at (box_below HB.out KB) s3
  have r4 := box_at (box_below HB.out KB) s4
  have r5 := box_at (box_below HB.out KB) s5
  obtain ⟨k2, hk2⟩ : ∃ b, (e.kind == 2) = b := ⟨_, rfl⟩
  obtain ⟨k9, hk9⟩ : ∃ b, (e.kind == 9) = b := ⟨_, rfl⟩
  rw [hk2, hk9] at hkd
  have HKD := hide hkd
  clear hkd
  have hkk : (k2 = true) ∨ (k2 = false ∧ k9 = true) ∨ (k2 = false ∧ k9 = false) := by cases k2 <;> cases k9 <;> simp
  go_cut [3] (fun c wx => c = .bool kd ∧ Below W0.heap.size W0 wx)
  case first =>
    rcases hkk with rfl | ⟨rfl, rfl⟩ | ⟨rfl, rfl⟩
    all_goals
      have HK := hide (HKD.out.symm)
      go_wp2_with fail
      go_meet
      exact ⟨by rw [HK.out]; rfl, ext_refl _⟩
  case rest =>
  obtain ⟨rfl, hbc⟩ := hcut
  clear hkk hk2 hk9 HKD r3 r4 r5 KB
  have KB := hbc
  clear hbc
  have r3 := box_at (box_below HB.out KB) s3
  have r4 := box_at (box_below HB.out KB) s4
  have r5 := box_at (box_below HB.out KB) s5
  have H1 : Hid (hd = true → E = 1) := fun h => by rw [HE.out, if_pos h]
  have HE3 : Hid (hd = false → E = if nm = false then 3 else if e.time < 0 ∨ 1000000000 < e.time ∨ e.depth < 1 ∨ 100000 < e.depth then 2 else if 10 < e.prev.length ∨ 8 < e.auth.length then 7 else if o8 = false ∨ o9 = false then 8 else if e.prev.length = 0 ∧ e.kind ≠ 1 then 9 else if e.kind = 1 ∧ 0 < e.prev.length + e.auth.length then 6 else ck) := fun h => by rw [HE.out, if_neg (by rw [h]; simp)]
  clear HE
  go_upto_region 2 with fail
  go_cut [12] (fun c wx => c = .bool hd ∧ Below W0.heap.size W0 wx)
  case first =>
    have hcase : (e.kind < 1) ∨ (¬ e.kind < 1 ∧ 14 < e.kind) ∨ (¬ e.kind < 1 ∧ ¬ 14 < e.kind) := by omega
    rcases hcase with q | ⟨q, q2⟩ | ⟨q, q2⟩
    · have HF := hide (show hd = true by rw [HH.out]; simp [q])
      clear HH H1 HE3
      go_quiet (fail)
      go_wp2_with fail
      go_meet
      exact ⟨by rw [HF.out], ext_trans KB (below_drewN (ext_refl _) _)⟩
    · have HF := hide (show hd = true by rw [HH.out]; simp [q2])
      clear HH H1 HE3
      go_quiet (fail)
      go_wp2_with fail
      go_meet
      exact ⟨by rw [HF.out], ext_trans KB (below_drewN (ext_refl _) _)⟩
    · have HH2 := hide (show hd = (sn || (kn && !kd)) by rw [HH.out]; simp [q, q2])
      clear HH H1 HE3
      have hall : (sn = true) ∨ (sn = false ∧ kn = false) ∨ (sn = false ∧ kn = true) := by cases sn <;> cases kn <;> simp
      rcases hall with rfl | ⟨rfl, rfl⟩ | ⟨rfl, rfl⟩
      · have HF := hide (show hd = true by rw [HH2.out]; rfl)
        go_quiet ((go_at_call 73; refine Calls.quiet_of_same (CS _)))
        go_wp2_with fail
        go_meet
        exact ⟨by rw [HF.out], ext_trans KB (below_drewN (ext_refl _) _)⟩
      · have HF := hide (show hd = false by rw [HH2.out]; rfl)
        go_quiet ((go_at_call 73; refine Calls.quiet_of_same (CS _)))
        go_wp2_with fail
        go_meet
        exact ⟨by rw [HF.out], ext_trans KB (below_drewN (ext_refl _) _)⟩
      · have HF := hide (show hd = !kd by rw [HH2.out]; rfl)
        go_quiet ((go_at_call 73; refine Calls.quiet_of_same (CS _)))
        go_wp2_with fail
        go_meet
        exact ⟨by rw [HF.out], ext_trans KB (below_drewN (ext_refl _) _)⟩
  case rest =>
  obtain ⟨rfl, hbd⟩ := hcut
  clear HH r3 r4 r5 KB
  have hT : (e.time < 0) ∨ (¬ e.time < 0 ∧ 1000000000 < e.time) ∨ (¬ e.time < 0 ∧ ¬ 1000000000 < e.time ∧ e.depth < 1) ∨ (¬ e.time < 0 ∧ ¬ 1000000000 < e.time ∧ ¬ e.depth < 1 ∧ 100000 < e.depth) ∨ (¬ e.time < 0 ∧ ¬ 1000000000 < e.time ∧ ¬ e.depth < 1 ∧ ¬ 100000 < e.depth) := by omega
  have HTT := hide hT
  clear hT
  cases hd
  case true =>
    have HF := hide (H1.out rfl)
    go_wp2_with fail
    go_ret
    exact ⟨by rw [HF.out]; rfl, ext_trans hb hbd⟩
  case false =>
    replace HE3 := hide (HE3.out rfl)
    clear H1
    go_wp2_with (refine wpList_loadS rfl (.tmp 1) rfl strcE ⟨w.heap.size, 0, none⟩ rfl cs HL.out (box_all (box_below HB.out hbd)) ?_)
    refine (CN _ (ext_trans hb hbd)).mono ?_
    rintro x w3 ⟨rfl, k3⟩
    have KB := ext_trans hbd k3
    have HB3 := hide (box_below HB.out KB)
    have hb3 := ext_trans hb KB
    clear k3 KB hbd
    cases nm
    case false =>
      have HF := hide (show E = 3 by rw [HE3.out]; exact if_pos rfl)
      go_wp2_with fail
      go_ret
      exact ⟨by rw [HF.out]; rfl, hb3⟩
    have r6 := box_at HB3.out s6
    have r7 := box_at HB3.out s7
    rcases HTT.out with t1 | ⟨t1, t2⟩ | ⟨t1, t2, t3⟩ | ⟨t1, t2, t3, t4⟩ | ⟨t1, t2, t3, t4⟩
    case inr.inr.inr.inr =>
      have HE4 := hide (show E = if 10 < e.prev.length ∨ 8 < e.auth.length then 7 else if o8 = false ∨ o9 = false then 8 else if e.prev.length = 0 ∧ e.kind ≠ 1 then 9 else if e.kind = 1 ∧ 0 < e.prev.length + e.auth.length then 6 else ck by rw [HE3.out, if_neg (by simp), if_neg (by omega)])
      go_upto_region 8 with fail
      clear r6 r7 t1 t2 t3 t4
      have r8 := box_at HB3.out s8
      have r9 := box_at HB3.out s9
      have hLn : (10 < e.prev.length) ∨ (¬ 10 < e.prev.length ∧ 8 < e.auth.length) ∨ (¬ 10 < e.prev.length ∧ ¬ 8 < e.auth.length) := by omega
      rcases hLn with t1 | ⟨t1, t2⟩ | ⟨t1, t2⟩
      case inr.inr =>
        have HE5 := hide (show E = if o8 = false ∨ o9 = false then 8 else if e.prev.length = 0 ∧ e.kind ≠ 1 then 9 else if e.kind = 1 ∧ 0 < e.prev.length + e.auth.length then 6 else ck by rw [HE4.out, if_neg (by omega)])
        go_upto_region 10 with fail
        cases o8
        case false =>
          have HF := hide (show E = 8 by rw [HE5.out]; exact if_pos (.inl rfl))
          go_wp2_with (go_at_call 75; refine (CO8 _ hb3).mono ?_; rintro x w4 ⟨rfl, k4⟩)
          go_ret
          exact ⟨by rw [HF.out]; rfl, ext_trans hb3 k4⟩
        cases o9
        case false =>
          have HF := hide (show E = 8 by rw [HE5.out]; exact if_pos (.inr rfl))
          go_wp2_with (go_at_call 75; first
            | ((with_reducible refine (CO8 _ hb3).mono ?_); rintro x w4 ⟨rfl, k4⟩; have r9 := box_at (box_below HB3.out k4) s9; have hb4 := ext_trans hb3 k4)
            | ((with_reducible refine (CO9 _ hb4).mono ?_); rintro x w5 ⟨rfl, k5⟩))
          go_ret
          exact ⟨by rw [HF.out]; rfl, ext_trans hb4 k5⟩
        have HE6 := hide (show E = if e.prev.length = 0 ∧ e.kind ≠ 1 then 9 else if e.kind = 1 ∧ 0 < e.prev.length + e.auth.length then 6 else ck by rw [HE5.out, if_neg (by simp)])
        go_upto_region 12 with (go_at_call 75; first
            | ((with_reducible refine (CO8 _ hb3).mono ?_); rintro x w4 ⟨rfl, k4⟩; have r9 := box_at (box_below HB3.out k4) s9; have hb4 := ext_trans hb3 k4)
            | ((with_reducible refine (CO9 _ hb4).mono ?_); rintro x w5 ⟨rfl, k5⟩))
        have HB5 := hide (box_below (box_below HB3.out k4) k5)
        have hb5 := ext_trans hb4 k5
        clear r8 r9 t1 t2
        have r3 := box_at HB5.out s3
        have r8 := box_at HB5.out s8
        have r9 := box_at HB5.out s9
        by_cases z : e.prev.length = 0
        · have z1 : ((e.prev.length : Int) == 0) = true := by simp [z]
          by_cases y : e.kind = 1
          · have y1 : (e.kind == 1) = true := by simpa using y
            have y2 : (e.kind != 1) = false := by simpa using y
            by_cases x0 : 0 < e.auth.length
            · have HF := hide (show E = 6 by rw [HE6.out, if_neg (by simp [y]), if_pos ⟨y, by omega⟩])
              have x1 : (0 : Int) < (e.prev.length : Int) + (e.auth.length : Int) := by omega
              clear z y
              go_wp2_with fail
              go_ret
              exact ⟨by rw [HF.out]; rfl, hb5⟩
            · have HF := hide (show E = ck by rw [HE6.out, if_neg (by simp [y]), if_neg (by omega)])
              have x1 : ¬ (0 : Int) < (e.prev.length : Int) + (e.auth.length : Int) := by omega
              clear z y
              go_wp2_with (first | refine wpList_loadS rfl (.tmp 109) rfl strcC ⟨w.heap.size, 10, none⟩ rfl ((cs.drop 10).take 16) HLC.out (box_cells HB5.out 10 16) ?_ | (go_at_call 76; refine (CC _ hb5).mono ?_; rintro x w6 ⟨rfl, k6⟩))
              go_ret
              exact ⟨by rw [HF.out]; rfl, ext_trans hb5 k6⟩
          · have y1 : (e.kind != 1) = true := by simpa using y
            have HF := hide (show E = 9 by rw [HE6.out]; exact if_pos ⟨z, y⟩)
            clear z y
            go_wp2_with fail
            go_ret
            exact ⟨by rw [HF.out]; rfl, hb5⟩
        · have z1 : ((e.prev.length : Int) == 0) = false := by simpa using z
          by_cases y : e.kind = 1
          · have y1 : (e.kind == 1) = true := by simpa using y
            have HF := hide (show E = 6 by rw [HE6.out, if_neg (by simp [y]), if_pos ⟨y, by omega⟩])
            have x1 : (0 : Int) < (e.prev.length : Int) + (e.auth.length : Int) := by omega
            clear z y
            go_wp2_with fail
            go_ret
            exact ⟨by rw [HF.out]; rfl, hb5⟩
          · have y1 : (e.kind == 1) = false := by simpa using y
            have HF := hide (show E = ck by rw [HE6.out, if_neg (by simp [z]), if_neg (by simp [y])])
            clear z y
            go_upto_region 14 with fail
            go_upto_region 16 with fail
            go_wp2_with (first | refine wpList_loadS rfl (.tmp 109) rfl strcC ⟨w.heap.size, 10, none⟩ rfl ((cs.drop 10).take 16) HLC.out (box_cells HB5.out 10 16) ?_ | (go_at_call 76; refine (CC _ hb5).mono ?_; rintro x w6 ⟨rfl, k6⟩))
            go_ret
            exact ⟨by rw [HF.out]; rfl, ext_trans hb5 k6⟩
      all_goals
        have HF := hide (show E = 7 by rw [HE4.out]; exact if_pos (by omega))
        go_wp2_with fail
        go_ret
        exact ⟨by rw [HF.out]; rfl, hb3⟩
    all_goals
      have HF := hide (show E = 2 by rw [HE3.out, if_neg (by simp)]; exact if_pos (by omega))
      go_wp2_with fail
      go_ret
      exact ⟨by rw [HF.out]; rfl, hb3⟩
end Go.Proofs.YtmlnmcoophnlaaaGreat

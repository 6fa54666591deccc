/-
  fedchatref06: users, kinds.
  fedchatref06: Levels, patterns.
  Guarded operations whose guard is a Bool that is not known: what they yield is known if the guard holds. No function of the program; no condition.
  fedchatref06: the parts of Check.
  fedchatref06: only.
  fedchatref06: Check.
-/
import Derived.Test.YtmlnmcoophnlaaaGreatCkB
import Derived.BigQuiet
import Derived.Deep.DeepCutAuto
import Derived.Test.YtmlnmcoophnlaaaGreatCkC
import Derived.Test.YtmlnmcoophnlaaaGreatPhases
import Derived.Test.YtmlnmcoophnlaaaGreatUs
import Derived.Test.YtmlnmcoophnlaaaGreatDecC
set_option linter.unusedVariables false
set_option linter.unusedSimpArgs false
namespace Go.Proofs.YtmlnmcoophnlaaaGreat
section
open Go.RowKit
section
attribute [local go_sem] Addr.add_mid
set_option maxRecDepth 100000 in
set_option maxHeartbeats 1600000 in
theorem R6users_any (A : Option Addr) (c : Nat) (l : List (ByteArray × Int)) (w : World) (hr : Row w w.heap.size A (ucs l)) (hl : l.length ≤ 1073741824) (hs : ∀ x ∈ l, x.1.size ≤ 1073741824) :
    Calls Tryz.prog 182 #[.slice A l.length c] w (Errs (usersE l) w) := by
  by_cases h100 : 100 < l.length
  · have HV := hide (show usersE l = 7 from if_pos h100)
    go_enter Tryz.func182, Tryz.ntmps182
    go_wp2_with fail
    go_ret
    exact ⟨by rw [HV.out]; rfl, ext_refl _⟩
  have HV := hide (show usersE l = firstE userF none l from if_neg h100)
  have HS := hide hs
  clear hs
  go_enter Tryz.func182, Tryz.ntmps182
  go_wp2_with fail
  go_loopw [3] (fun i wr => ∃ k : Nat, k ≤ l.length ∧ i = .int .i64 (k : Int) ∧ Hid (FE userF l k) ∧ Below w.heap.size w wr) (fun i _ => l.length - (intOf i).toNat)
  case atStart => exact ⟨0, Nat.zero_le _, rfl, FE.start, ext_refl w⟩
  case round =>
  obtain ⟨k, hk, rfl, HK, hbel⟩ := hrel
  by_cases hlt : k < l.length
  · obtain ⟨b, o, rfl, hb, hc⟩ := hr.fix (ucs_get l k hlt).1
    have hcr : CellsAt wr ⟨b, o + k * 2, none⟩ [.string l[k].1, .int .i64 l[k].2] := two_at hbel hb (hc _ _ (ucs_get l k hlt).1) (cell_assoc (hc _ _ (ucs_get l k hlt).2))
    obtain ⟨x, hx⟩ : ∃ x, x = l[k] := ⟨_, rfl⟩
    have HX := hide hx
    rw [← hx] at hcr
    have hsu : x.1.size ≤ 1073741824 := by rw [hx]; exact HS.out _ (List.getElem_mem hlt)
    have HCS := hide hc
    clear hc hx
    obtain ⟨x1, x2⟩ := x
    dsimp only at hcr hsu
    have hbX := hbel
    have r0 : wr.cell? ⟨b, o + k * 2, none⟩ = some (.string x1) := by have := hcr 0 _ rfl; rwa [Addr.add_mid] at this
    have r1 : wr.cell? ⟨b, o + k * 2 + 1, none⟩ = some (.int .i64 x2) := by have := hcr 1 _ rfl; rwa [Addr.add_mid] at this
    clear hcr hbel
    have CU := fun W => r2_User x1 W (by have : x1.size ≤ 1073741824 := hsu; omega)
    obtain ⟨ub, hub⟩ : ∃ ub, userB x1 = ub := ⟨_, rfl⟩
    have hub2 : (splitL [64] x1.data.toList).isSome = ub := hub
    simp only [hub2] at CU
    clear hub2
    cases ub with
    | false =>
      simp only [errN, Bool.false_eq_true, if_false] at CU
      have HE := hide (HK.out.err (e := 3) hlt (by rw [← HX.out]; exact userF_no hub) (by decide))
      clear hub
      try simp only [Nat.zero_mul, Nat.add_zero] at r0 r1
      go_wp2_with (go_at_call 128; refine (CU _).mono ?_; rintro e w2 ⟨rfl, hw2⟩; rw [hw2]; clear hw2 w2)
      go_ret
      exact ⟨by rw [HV.out, HE.out]; rfl, hbX⟩
    | true =>
      simp only [errN, if_true] at CU
      have CH := fun W => wide_any x2 W
      obtain ⟨hb3, hh⟩ : ∃ hb3, highB x2 = hb3 := ⟨_, rfl⟩
      simp only [hh] at CH
      rcases Nat.eq_zero_or_pos k with rfl | hpos
      · have HF := hide (userF_end (p := prevA l 0) (x := (x1, x2)) hub (by rfl))
        try simp only [Nat.zero_mul, Nat.add_zero] at r0 r1
        clear hub
        go_wp2_with (go_at_call 128; refine (CU _).mono ?_; rintro e w2 ⟨rfl, hw2⟩; rw [hw2]; clear hw2 w2)
        go_quiet (fail)
        cases hb3 with
        | false =>
          have HN := hide (HK.out.next hlt (by rw [← HX.out, HF.out]; show (if highB x2 = true then (2 : Int) else 0) = 0; rw [hh]; rfl))
          clear hh
          go_wp2_with (go_at_call 184; refine (CH _).mono ?_; rintro e w3 ⟨rfl, hw3⟩; rw [hw3]; clear hw3 w3)
          go_roundw
          case rel => exact ⟨0 + 1, by omega, by go_num, HN.out, below_drewN hbX _⟩
          case measure => (simp [intOf]; try omega)
        | true =>
          have HE := hide (HK.out.err (e := 2) hlt (by rw [← HX.out, HF.out]; show (if highB x2 = true then (2 : Int) else 0) = 2; rw [hh]; rfl) (by decide))
          clear hh
          go_wp2_with (go_at_call 184; refine (CH _).mono ?_; rintro e w3 ⟨rfl, hw3⟩; rw [hw3]; clear hw3 w3)
          go_ret
          exact ⟨by rw [HV.out, HE.out]; rfl, below_drewN hbX _⟩
      · obtain ⟨j, rfl⟩ : ∃ j, k = j + 1 := ⟨k - 1, by omega⟩
        have hj : j < l.length := by omega
        have hprev := prev_succ hj
        obtain ⟨y, hy⟩ : ∃ y, y = l[j] := ⟨_, rfl⟩
        have hq := HCS.out _ _ (ucs_get l j hj).1
        rw [← hy] at hprev hq
        clear hy
        obtain ⟨y1, y2⟩ := y
        have HPREV := hide hprev
        have HQ := hide hq
        have hwr := wrap_k j (by omega)
        clear hprev hq
        go_wp2_with (go_at_call 128; refine (CU _).mono ?_; rintro e w2 ⟨rfl, hw2⟩; rw [hw2]; clear hw2 w2; have q0 : wr.cell? ⟨b, o + j * 2, none⟩ = some (.string y1) := (Below.cell hbX hb).trans HQ.out)
        obtain ⟨s1, h1⟩ : ∃ s, Op.bytesLess x1.toList y1.toList = s := ⟨_, rfl⟩
        obtain ⟨s2, h2⟩ : ∃ s, (x1.toList == y1.toList) = s := ⟨_, rfl⟩
        have ho : outB ((prevA l (j + 1)).map (·.1)) x1 = (s1 || s2) := by rw [HPREV.out, ← h1, ← h2]; rfl
        have HO := hide ho
        clear ho
        cases s1 with
        | true =>
          have HE := hide (HK.out.err (e := 8) hlt (by rw [← HX.out]; exact userF_out hub (HO.out.trans rfl)) (by decide))
          clear hub hh
          go_quiet (fail)
          go_wp2_with fail
          go_ret
          exact ⟨by rw [HV.out, HE.out]; rfl, below_drewN hbX _⟩
        | false =>
          cases s2 with
          | true =>
            have HE := hide (HK.out.err (e := 8) hlt (by rw [← HX.out]; exact userF_out hub (HO.out.trans rfl)) (by decide))
            clear hub hh
            go_quiet (fail)
            go_wp2_with fail
            go_ret
            exact ⟨by rw [HV.out, HE.out]; rfl, below_drewN hbX _⟩
          | false =>
            have HF := hide (userF_end (p := prevA l (j + 1)) (x := (x1, x2)) hub (HO.out.trans rfl))
            clear hub
            go_quiet (fail)
            cases hb3 with
            | false =>
              have HN := hide (HK.out.next hlt (by rw [← HX.out, HF.out]; show (if highB x2 = true then (2 : Int) else 0) = 0; rw [hh]; rfl))
              clear hh
              go_wp2_with (go_at_call 184; refine (CH _).mono ?_; rintro e w3 ⟨rfl, hw3⟩; rw [hw3]; clear hw3 w3)
              go_roundw
              case rel => exact ⟨j + 1 + 1, by omega, by go_num, HN.out, below_drewN hbX _⟩
              case measure => (simp [intOf]; try omega)
            | true =>
              have HE := hide (HK.out.err (e := 2) hlt (by rw [← HX.out, HF.out]; show (if highB x2 = true then (2 : Int) else 0) = 2; rw [hh]; rfl) (by decide))
              clear hh
              go_wp2_with (go_at_call 184; refine (CH _).mono ?_; rintro e w3 ⟨rfl, hw3⟩; rw [hw3]; clear hw3 w3)
              go_ret
              exact ⟨by rw [HV.out, HE.out]; rfl, below_drewN hbX _⟩
  · obtain rfl : k = l.length := by omega
    have HF := hide HK.out.fin
    go_wp2_with fail
    go_ret
    exact ⟨by rw [HV.out, HF.out]; rfl, hbel⟩
set_option maxRecDepth 100000 in
set_option maxHeartbeats 1600000 in
theorem R6kinds_any (A : Option Addr) (c : Nat) (l : List (Int × Int)) (w : World) (hr : Row w w.heap.size A (kcs l)) (hl : l.length ≤ 1073741824) :
    Calls Tryz.prog 183 #[.slice A l.length c] w (Errs (kindsE l) w) := by
  by_cases h100 : 100 < l.length
  · have HV := hide (show kindsE l = 7 from if_pos h100)
    go_enter Tryz.func183, Tryz.ntmps183
    go_wp2_with fail
    go_ret
    exact ⟨by rw [HV.out]; rfl, ext_refl _⟩
  have HV := hide (show kindsE l = firstE kindF none l from if_neg h100)
  go_enter Tryz.func183, Tryz.ntmps183
  go_wp2_with fail
  go_loopw [3] (fun i wr => ∃ k : Nat, k ≤ l.length ∧ i = .int .i64 (k : Int) ∧ Hid (FE kindF l k) ∧ Below w.heap.size w wr) (fun i _ => l.length - (intOf i).toNat)
  case atStart => exact ⟨0, Nat.zero_le _, rfl, FE.start, ext_refl w⟩
  case round =>
  obtain ⟨k, hk, rfl, HK, hbel⟩ := hrel
  by_cases hlt : k < l.length
  · obtain ⟨b, o, rfl, hb, hc⟩ := hr.fix (kcs_get l k hlt).1
    have hcr : CellsAt wr ⟨b, o + k * 2, none⟩ [.int .i64 l[k].1, .int .i64 l[k].2] := two_at hbel hb (hc _ _ (kcs_get l k hlt).1) (cell_assoc (hc _ _ (kcs_get l k hlt).2))
    obtain ⟨x, hx⟩ : ∃ x, x = l[k] := ⟨_, rfl⟩
    have HX := hide hx
    rw [← hx] at hcr
    have HCS := hide hc
    clear hc hx
    obtain ⟨x1, x2⟩ := x
    dsimp only at hcr
    have hbX := hbel
    have r0 : wr.cell? ⟨b, o + k * 2, none⟩ = some (.int .i64 x1) := by have := hcr 0 _ rfl; rwa [Addr.add_mid] at this
    have r1 : wr.cell? ⟨b, o + k * 2 + 1, none⟩ = some (.int .i64 x2) := by have := hcr 1 _ rfl; rwa [Addr.add_mid] at this
    clear hcr hbel
    have CU := fun W => r6_known x1 W
    obtain ⟨ub, hub⟩ : ∃ ub, knownB x1 = ub := ⟨_, rfl⟩
    simp only [hub] at CU
    cases ub with
    | false =>
      have HE := hide (HK.out.err (e := 1) hlt (by rw [← HX.out]; exact kindF_no hub) (by decide))
      clear hub
      try simp only [Nat.zero_mul, Nat.add_zero] at r0 r1
      go_wp2_with (go_at_call 131; refine (CU _).mono ?_; rintro e w2 ⟨rfl, hw2⟩; rw [hw2]; clear hw2 w2)
      go_ret
      exact ⟨by rw [HV.out, HE.out]; rfl, hbX⟩
    | true =>
      have CH := fun W => wide_any x2 W
      obtain ⟨hb3, hh⟩ : ∃ hb3, highB x2 = hb3 := ⟨_, rfl⟩
      simp only [hh] at CH
      rcases Nat.eq_zero_or_pos k with rfl | hpos
      · have HF := hide (kindF_end (p := prevA l 0) (x := (x1, x2)) hub (by rfl))
        try simp only [Nat.zero_mul, Nat.add_zero] at r0 r1
        clear hub
        go_wp2_with (go_at_call 131; refine (CU _).mono ?_; rintro e w2 ⟨rfl, hw2⟩; rw [hw2]; clear hw2 w2)
        go_quiet (fail)
        cases hb3 with
        | false =>
          have HN := hide (HK.out.next hlt (by rw [← HX.out, HF.out]; show (if highB x2 = true then (2 : Int) else 0) = 0; rw [hh]; rfl))
          clear hh
          go_wp2_with (go_at_call 184; refine (CH _).mono ?_; rintro e w3 ⟨rfl, hw3⟩; rw [hw3]; clear hw3 w3)
          go_roundw
          case rel => exact ⟨0 + 1, by omega, by go_num, HN.out, below_drewN hbX _⟩
          case measure => (simp [intOf]; try omega)
        | true =>
          have HE := hide (HK.out.err (e := 2) hlt (by rw [← HX.out, HF.out]; show (if highB x2 = true then (2 : Int) else 0) = 2; rw [hh]; rfl) (by decide))
          clear hh
          go_wp2_with (go_at_call 184; refine (CH _).mono ?_; rintro e w3 ⟨rfl, hw3⟩; rw [hw3]; clear hw3 w3)
          go_ret
          exact ⟨by rw [HV.out, HE.out]; rfl, below_drewN hbX _⟩
      · obtain ⟨j, rfl⟩ : ∃ j, k = j + 1 := ⟨k - 1, by omega⟩
        have hj : j < l.length := by omega
        have hprev := prev_succ hj
        obtain ⟨y, hy⟩ : ∃ y, y = l[j] := ⟨_, rfl⟩
        have hq := HCS.out _ _ (kcs_get l j hj).1
        rw [← hy] at hprev hq
        clear hy
        obtain ⟨y1, y2⟩ := y
        have HPREV := hide hprev
        have HQ := hide hq
        have hwr := wrap_k j (by omega)
        clear hprev hq
        go_wp2_with (go_at_call 131; refine (CU _).mono ?_; rintro e w2 ⟨rfl, hw2⟩; rw [hw2]; clear hw2 w2; have q0 : wr.cell? ⟨b, o + j * 2, none⟩ = some (.int .i64 y1) := (Below.cell hbX hb).trans HQ.out)
        obtain ⟨s1, h1⟩ : ∃ s, decide (x1 ≤ y1) = s := ⟨_, rfl⟩
        have ho : outI ((prevA l (j + 1)).map (·.1)) x1 = s1 := by rw [HPREV.out, ← h1]; rfl
        have HO := hide ho
        clear ho
        cases s1 with
        | true =>
          have HE := hide (HK.out.err (e := 8) hlt (by rw [← HX.out]; exact kindF_out hub (HO.out.trans rfl)) (by decide))
          clear hub hh
          go_quiet (fail)
          go_wp2_with fail
          go_ret
          exact ⟨by rw [HV.out, HE.out]; rfl, below_drewN hbX _⟩
        | false =>
          have HF := hide (kindF_end (p := prevA l (j + 1)) (x := (x1, x2)) hub (HO.out.trans rfl))
          clear hub
          go_quiet (fail)
          cases hb3 with
          | false =>
            have HN := hide (HK.out.next hlt (by rw [← HX.out, HF.out]; show (if highB x2 = true then (2 : Int) else 0) = 0; rw [hh]; rfl))
            clear hh
            go_wp2_with (go_at_call 184; refine (CH _).mono ?_; rintro e w3 ⟨rfl, hw3⟩; rw [hw3]; clear hw3 w3)
            go_roundw
            case rel => exact ⟨j + 1 + 1, by omega, by go_num, HN.out, below_drewN hbX _⟩
            case measure => (simp [intOf]; try omega)
          | true =>
            have HE := hide (HK.out.err (e := 2) hlt (by rw [← HX.out, HF.out]; show (if highB x2 = true then (2 : Int) else 0) = 2; rw [hh]; rfl) (by decide))
            clear hh
            go_wp2_with (go_at_call 184; refine (CH _).mono ?_; rintro e w3 ⟨rfl, hw3⟩; rw [hw3]; clear hw3 w3)
            go_ret
            exact ⟨by rw [HV.out, HE.out]; rfl, below_drewN hbX _⟩
  · obtain rfl : k = l.length := by omega
    have HF := hide HK.out.fin
    go_wp2_with fail
    go_ret
    exact ⟨by rw [HV.out, HF.out]; rfl, hbel⟩
end
end

section
open Go.RowKit
section
attribute [local go_sem] Addr.add_mid
set_option maxRecDepth 100000 in
set_option maxHeartbeats 3000000 in
theorem R6LevelsE_any {S : Nat → Prop} {cs : List Value} {v : Lev} {w : World} (hr : LevR w S cs v) (hl : v.users.length ≤ 1073741824 ∧ v.kinds.length ≤ 1073741824) (hs : ∀ x ∈ v.users, x.1.size ≤ 1073741824) :
    Calls Tryz.prog 140 #[.agg cs.toArray] w (Errs (levelsE v) w) := by
  obtain ⟨vu, vk, rfl, hu, hk⟩ := hr
  obtain ⟨A1, c1, rfl, _, _, _, hu, _⟩ := hu.form
  obtain ⟨A2, c2, rfl, _, _, _, hk, _⟩ := hk.form
  rw [levCells_get]
  have CU := fun W (hb : Below w.heap.size w W) => R6users_any A1 c1 v.users W (hu.ext hb) hl.1 hs
  have CK := fun W (hb : Below w.heap.size w W) => R6kinds_any A2 c2 v.kinds W (hk.ext hb) hl.2
  have B0 := heap_alloc_new w (.cells #[.slice A1 v.users.length c1, .slice A2 v.kinds.length c2, .int .i64 v.user, .int .i64 v.message, .int .i64 v.state, .int .i64 v.invite, .int .i64 v.kick, .int .i64 v.ban, .int .i64 v.redact] 29)
  have hb0 := ext_alloc (ext_refl w) (.cells #[.slice A1 v.users.length c1, .slice A2 v.kinds.length c2, .int .i64 v.user, .int .i64 v.message, .int .i64 v.state, .int .i64 v.invite, .int .i64 v.kick, .int .i64 v.ban, .int .i64 v.redact] 29)
  obtain ⟨e1, he1⟩ : ∃ e1, usersE v.users = e1 := ⟨_, rfl⟩
  obtain ⟨e2, he2⟩ : ∃ e2, kindsE v.kinds = e2 := ⟨_, rfl⟩
  simp only [he1] at CU
  simp only [he2] at CK
  have HV : Hid (levelsE v = if e1 ≠ 0 then e1 else if e2 ≠ 0 then e2 else if highs v = true then 2 else 0) := by unfold levelsE; rw [he1, he2]; rfl
  clear he1 he2 hu hk
  by_cases h1 : e1 = 0
  rotate_left
  · have HF := hide (show levelsE v = e1 by rw [HV.out, if_pos h1])
    have h1' : (e1 != 0) = true := by simpa using h1
    clear h1
    go_enter Tryz.func140, Tryz.ntmps140
    go_wp2_with (go_at_call 182; refine (CU _ hb0).mono ?_; rintro e w2 ⟨rfl, hb2⟩)
    go_ret
    exact ⟨by rw [HF.out]; rfl, ext_trans hb0 hb2⟩
  subst h1
  by_cases h2 : e2 = 0
  rotate_left
  · have HF := hide (show levelsE v = e2 by rw [HV.out, if_neg (by simp), if_pos h2])
    have h2' : (e2 != 0) = true := by simpa using h2
    clear h2
    go_enter Tryz.func140, Tryz.ntmps140
    go_wp2_with (first | (go_at_call 182; refine (CU _ hb0).mono ?_; rintro e w2 ⟨rfl, hb2⟩; have B2 := box_below B0 hb2; have hb3 := ext_trans hb0 hb2; have q1 : w2.cell? ⟨w.heap.size, 1, none⟩ = some (.slice A2 v.kinds.length c2) := box_at B2 rfl) | (go_at_call 183; refine (CK _ hb3).mono ?_; rintro e w3 ⟨rfl, hb4⟩))
    go_ret
    exact ⟨by rw [HF.out]; rfl, ext_trans hb3 hb4⟩
  subst h2
  have HR := hide (show levelsE v = if highs v = true then 2 else 0 by rw [HV.out, if_neg (by simp), if_neg (by simp)])
  go_enter Tryz.func140, Tryz.ntmps140
  obtain ⟨huser, heuser⟩ : ∃ b, highB v.user = b := ⟨_, rfl⟩
  obtain ⟨hmessage, hemessage⟩ : ∃ b, highB v.message = b := ⟨_, rfl⟩
  obtain ⟨hstate, hestate⟩ : ∃ b, highB v.state = b := ⟨_, rfl⟩
  obtain ⟨hinvite, heinvite⟩ : ∃ b, highB v.invite = b := ⟨_, rfl⟩
  obtain ⟨hkick, hekick⟩ : ∃ b, highB v.kick = b := ⟨_, rfl⟩
  obtain ⟨hban, heban⟩ : ∃ b, highB v.ban = b := ⟨_, rfl⟩
  obtain ⟨hredact, heredact⟩ : ∃ b, highB v.redact = b := ⟨_, rfl⟩
  have HA := hide (highs_eq v heuser hemessage hestate heinvite hekick heban heredact)
  go_upto_region 7 with (first | (go_at_call 182; refine (CU _ hb0).mono ?_; rintro e w2 ⟨rfl, hb2⟩; have B2 := box_below B0 hb2; have hb3 := ext_trans hb0 hb2; have q1 : w2.cell? ⟨w.heap.size, 1, none⟩ = some (.slice A2 v.kinds.length c2) := box_at B2 rfl) | (go_at_call 183; refine (CK _ hb3).mono ?_; rintro e w3 ⟨rfl, hb4⟩; have B3 := box_below B2 hb4; have q2 : w3.cell? ⟨w.heap.size, 2, none⟩ = some (.int .i64 v.user) := box_at B3 rfl; have q3 : w3.cell? ⟨w.heap.size, 3, none⟩ = some (.int .i64 v.message) := box_at B3 rfl; have q4 : w3.cell? ⟨w.heap.size, 4, none⟩ = some (.int .i64 v.state) := box_at B3 rfl; have q5 : w3.cell? ⟨w.heap.size, 5, none⟩ = some (.int .i64 v.invite) := box_at B3 rfl; have q6 : w3.cell? ⟨w.heap.size, 6, none⟩ = some (.int .i64 v.kick) := box_at B3 rfl; have q7 : w3.cell? ⟨w.heap.size, 7, none⟩ = some (.int .i64 v.ban) := box_at B3 rfl; have q8 : w3.cell? ⟨w.heap.size, 8, none⟩ = some (.int .i64 v.redact) := box_at B3 rfl))
  have hb5 := ext_trans hb3 hb4
  clear hb2 hb3 hb4 B0 B2 q1 hb0 CU CK
  cases huser with
  | true =>
    go_wp2_with (go_at_call 184; refine (wide_any _ _).mono ?_; rintro e w5 ⟨rfl, hw5⟩; rw [hw5]; clear hw5 w5; try simp only [heuser])
    go_ret
    exact ⟨by rw [HR.out, HA.out]; rfl, hb5⟩
  | false =>
    cases hmessage with
    | true =>
      go_wp2_with (go_at_call 184; refine (wide_any _ _).mono ?_; rintro e w5 ⟨rfl, hw5⟩; rw [hw5]; clear hw5 w5; try simp only [heuser, hemessage])
      go_ret
      exact ⟨by rw [HR.out, HA.out]; rfl, hb5⟩
    | false =>
      cases hstate with
      | true =>
        go_wp2_with (go_at_call 184; refine (wide_any _ _).mono ?_; rintro e w5 ⟨rfl, hw5⟩; rw [hw5]; clear hw5 w5; try simp only [heuser, hemessage, hestate])
        go_ret
        exact ⟨by rw [HR.out, HA.out]; rfl, hb5⟩
      | false =>
        cases hinvite with
        | true =>
          go_wp2_with (go_at_call 184; refine (wide_any _ _).mono ?_; rintro e w5 ⟨rfl, hw5⟩; rw [hw5]; clear hw5 w5; try simp only [heuser, hemessage, hestate, heinvite])
          go_ret
          exact ⟨by rw [HR.out, HA.out]; rfl, hb5⟩
        | false =>
          cases hkick with
          | true =>
            go_wp2_with (go_at_call 184; refine (wide_any _ _).mono ?_; rintro e w5 ⟨rfl, hw5⟩; rw [hw5]; clear hw5 w5; try simp only [heuser, hemessage, hestate, heinvite, hekick])
            go_ret
            exact ⟨by rw [HR.out, HA.out]; rfl, hb5⟩
          | false =>
            cases hban with
            | true =>
              go_wp2_with (go_at_call 184; refine (wide_any _ _).mono ?_; rintro e w5 ⟨rfl, hw5⟩; rw [hw5]; clear hw5 w5; try simp only [heuser, hemessage, hestate, heinvite, hekick, heban])
              go_ret
              exact ⟨by rw [HR.out, HA.out]; rfl, hb5⟩
            | false =>
              cases hredact with
              | true =>
                go_wp2_with (go_at_call 184; refine (wide_any _ _).mono ?_; rintro e w5 ⟨rfl, hw5⟩; rw [hw5]; clear hw5 w5; try simp only [heuser, hemessage, hestate, heinvite, hekick, heban, heredact])
                go_ret
                exact ⟨by rw [HR.out, HA.out]; rfl, hb5⟩
              | false =>
                go_wp2_with (go_at_call 184; refine (wide_any _ _).mono ?_; rintro e w5 ⟨rfl, hw5⟩; rw [hw5]; clear hw5 w5; try simp only [heuser, hemessage, hestate, heinvite, hekick, heban, heredact])
                go_ret
                exact ⟨by rw [HR.out, HA.out]; rfl, hb5⟩
end
end

section
open Go.RowKit
section
variable {P : Program} {ops : Array Oper} {Q : Exit → Act → World → Prop} {a : Act} {w : World} {rest : List Oper} {o : Oper} {t : TypeId} {z : Array Value} {n : Nat}
theorem wpList_gval {b : Bool} (v : Value) (hw : Region.wanted o (yielded ops a.tmps) = b) (hr : b = true → (execOp a.eval o).run P w = .ok (.value v) w)
    (h : ∀ X, (b = true → X = v) → wpList P ops Q rest (a.put o.dst X) w) : wpList P ops Q (o :: rest) a w := by
  cases b with
  | false =>
    unfold wpList
    rw [if_neg (by rw [hw]; decide)]
    exact h undef (fun h => by cases h)
  | true =>
    unfold wpList
    rw [if_pos hw]
    left
    unfold Oper.wp
    rw [hr rfl, Oper.upon_value]
    exact h v (fun _ => rfl)
theorem wpList_val (v : Value) (hw : Region.wanted o (yielded ops a.tmps) = true) (hr : (execOp a.eval o).run P w = .ok (.value v) w)
    (h : wpList P ops Q rest (a.put o.dst v) w) : wpList P ops Q (o :: rest) a w := by
  unfold wpList
  rw [if_pos hw]
  left
  unfold Oper.wp
  rw [hr, Oper.upon_value]
  exact h
theorem wpList_gcall {b : Bool} (f : FuncId) (args : Array Value) (R : Value → World → Prop) (hw : Region.wanted o (yielded ops a.tmps) = b) (hrun : b = true → (execOp a.eval o).run P w = .ok (.enter f args) w)
    (hc : b = true → Calls P f args w (fun e w' => ∃ v, e = .returned v ∧ R v w'))
    (h : ∀ X w', (b = true → R X w') → (b = false → w' = w) → wpList P ops Q rest (a.put o.dst X) w') : wpList P ops Q (o :: rest) a w := by
  cases b with
  | false =>
    unfold wpList
    rw [if_neg (by rw [hw]; decide)]
    exact h undef w (fun h => by cases h) (fun _ => rfl)
  | true =>
    unfold wpList
    rw [if_pos hw]
    left
    unfold Oper.wp
    rw [hrun rfl, Oper.upon_enter]
    refine (hc rfl).mono fun e w'' hh => ?_
    obtain ⟨v, rfl, hR⟩ := hh
    exact h v w'' (fun _ => hR) (fun h => by cases h)
theorem run_load_op (x : Operand) (ho : o.op = .load t x) (G : Strc P t z n) (ad : Addr) (hx : a.eval x = .pointer (some ad)) (cs : List Value) (hn : cs.length = n) (hc : CellsAt w ad cs) :
    (execOp a.eval o).run P w = .ok (.value (.agg cs.toArray)) w := by
  unfold execOp
  simp only [ho, hx, Sem.run_bind, Sem.run_pure, Result.andThen_ok, run_loadS G ad cs hn hc]
end
end

section
open Go.RowKit
attribute [local go_sem] Addr.add_mid
set_option maxRecDepth 100000 in
set_option maxHeartbeats 1600000 in
theorem r3_glob (s : ByteArray) (w : World) : Calls Tryz.prog 181 #[.string s] w (fun e w' => e = .returned (.int .i64 (globE s)) ∧ w' = w) := by
  by_cases h1 : s.size = 0
  · have HF := hide (show globE s = 9 from if_pos h1)
    have hem : s.toList.isEmpty = true := by rw [size_zero_nil h1]; decide +kernel
    have hsz0 : ((s.size : Int) == 0) = true := by simp [h1]
    clear h1
    go_enter Tryz.func181, Tryz.ntmps181
    go_wp2_with fail
    go_ret
    exact ⟨by rw [HF.out]; rfl, rfl⟩
  have hne : s.toList.isEmpty = false := by
    rw [bt]
    cases h : s.data.toList with
    | nil => have := Enc.size_toList s; rw [h] at this; exact absurd this.symm h1
    | cons _ _ => rfl
  have hsz1 : ((s.size : Int) == 0) = false := by simpa using h1
  by_cases h2 : 64 < s.size
  · have HF := hide (show globE s = 7 by unfold globE; rw [if_neg h1, if_pos h2])
    clear h1
    go_enter Tryz.func181, Tryz.ntmps181
    go_wp2_with fail
    go_ret
    exact ⟨by rw [HF.out]; rfl, rfl⟩
  have HB := hide (fun k (hk : k < s.size) hb => globE_bad (k := k) h1 h2 hk hb)
  have HO := hide (globE_ok h1 h2)
  have hsz := hide (Enc.size_toList s)
  clear h1
  go_enter Tryz.func181, Tryz.ntmps181
  go_wp2_with fail
  go_loop [3] (fun i => ∃ k : Nat, k ≤ s.size ∧ i = .int .i64 (k : Int) ∧ Hid (∀ c ∈ s.data.toList.take k, badB c = false)) (fun i => s.size - (intOf i).toNat)
  case atStart => exact ⟨0, Nat.zero_le _, rfl, by simp [Hid]⟩
  case round =>
  obtain ⟨k, hk, rfl, HT⟩ := hrel
  by_cases hlt : k < s.size
  · have hi := bad_int s[k]
    cases hb : badB s[k]
    · have h3 : ¬ ((s[k].toNat : Int) < 33) := fun h => by rw [hi.2 (.inl h)] at hb; cases hb
      have h4 : ¬ (126 < (s[k].toNat : Int)) := fun h => by rw [hi.2 (.inr h)] at hb; cases hb
      have HN := hide (all_next HT.out hlt hb)
      clear hi hb
      go_wp2_with fail
      go_round
      case rel => exact ⟨k + 1, by omega, by go_num, HN.out⟩
      case measure => simp [intOf]; omega
    · have HF := hide (HB.out k hlt hb)
      by_cases h3 : (s[k].toNat : Int) < 33
      · clear hi hb
        go_wp2_with fail
        go_ret
        exact ⟨by rw [HF.out]; rfl, rfl⟩
      · have h4 : 126 < (s[k].toNat : Int) := (hi.1 hb).resolve_left h3
        clear hi hb
        go_wp2_with fail
        go_ret
        exact ⟨by rw [HF.out]; rfl, rfl⟩
  · obtain rfl : k = s.size := by omega
    have HF := hide (HO.out (by have := HT.out; rwa [← hsz.out, List.take_length] at this))
    clear HT
    go_wp2_with fail
    go_ret
    exact ⟨by rw [HF.out]; rfl, rfl⟩
def inL (l : List ByteArray) (s : ByteArray) : Bool := l.any fun x => x.toList == s.toList
theorem uses_step {l : List ByteArray} {s : ByteArray} {k : Nat} (h : ∀ x ∈ l.take k, x ≠ s) (hk : k < l.length) (hp : l[k] ≠ s) : ∀ x ∈ l.take (k + 1), x ≠ s := by
  intro x hx
  rw [List.take_succ_eq_append_getElem hk] at hx
  rcases List.mem_append.1 hx with h1 | h1
  · exact h x h1
  · simp only [List.mem_cons, List.not_mem_nil, or_false] at h1; subst h1; exact hp
set_option maxRecDepth 100000 in
set_option maxHeartbeats 1600000 in
theorem r6_uses (k : Int) (s : ByteArray) (w : World) : Calls Tryz.prog 179 #[.int .i64 k, .string s] w (Says (inL (usesL k) s) w) := by
  have CU := R6Uses_any k w
  obtain ⟨us, hus⟩ : ∃ us, usesL k = us := ⟨_, rfl⟩
  have hul : us.length ≤ 8 := by rw [← hus]; exact namesL_len (usesN k) 8
  rw [hus] at CU ⊢
  clear hus
  go_enter Tryz.func179, Tryz.ntmps179
  go_upto_region 2 with (go_at_call 196; refine CU.mono ?_; rintro e w1 ⟨A, c, rfl, S, hb1⟩)
  obtain ⟨A', c', hv, _, _, _, hr, _⟩ := S.form
  injection hv with e1 e2 e3
  subst e1
  clear S CU
  go_wp2_with fail
  go_loop [6] (fun i => ∃ j : Nat, j ≤ us.length ∧ i = .int .i64 (j : Int) ∧ Hid (∀ x ∈ us.take j, x ≠ s)) (fun i => us.length - (intOf i).toNat)
  case atStart => exact ⟨0, Nat.zero_le _, rfl, by simp [Hid]⟩
  case round =>
  obtain ⟨j, hj, rfl, HK⟩ := hrel
  by_cases hlt : j < us.length
  · obtain ⟨b, o, rfl, hb, hc⟩ := hr.fix (svs_get us j hlt)
    have r0 := hc _ _ (svs_get us j hlt)
    clear hc
    by_cases he : us[j] = s
    · have HC := hide (show inL us s = true from List.any_eq_true.2 ⟨us[j], List.getElem_mem hlt, str_yes he⟩)
      have hq := str_yes he
      clear he
      go_wp2_with fail
      go_ret
      exact ⟨by rw [HC.out]; rfl, hb1⟩
    · have HN := hide (uses_step HK.out hlt he)
      have hq := str_ne he
      clear he
      go_wp2_with fail
      go_round
      case rel => exact ⟨j + 1, by omega, by go_num, HN.out⟩
      case measure => (simp [intOf]; try omega)
  · obtain rfl : j = us.length := by omega
    have HC := hide (show inL us s = false by
      rw [← Bool.not_eq_true]
      intro h
      obtain ⟨x, hx, he⟩ := List.any_eq_true.1 h
      have := HK.out
      rw [List.take_length] at this
      exact this x hx (str_eq_of (eq_of_beq he)))
    go_wp2_with fail
    go_ret
    exact ⟨by rw [HC.out]; rfl, hb1⟩
theorem namesR_dec : ∀ m ∈ maskL, ∀ i < 8, inL (namesL m 8) (nameB i) = hasB m i := by decide +kernel
theorem namesR_mem (k : Int) {i : Nat} (h : i < 8) : inL (usesL k) (nameB i) = hasB (usesN k) i := namesR_dec _ (mask_mem k) i h
theorem r6_usesN (k : Int) (i : Nat) (hi : i < 8) (w : World) : Calls Tryz.prog 179 #[.int .i64 k, .string (nameB i)] w (Says (hasB (usesN k) i) w) := by
  have h := r6_uses k (nameB i) w
  rwa [namesR_mem k hi] at h
theorem bare_dec (l : Lev) : decide (l = Lev.zero) = bareB l := by
  cases h : bareB l
  · apply decide_eq_false
    rintro rfl
    exact absurd h (by decide)
  · exact decide_eq_true (bare_zero h)
set_option maxRecDepth 100000 in
set_option maxHeartbeats 1600000 in
theorem r6_plain {S : Nat → Prop} {cs : List Value} {l : Lev} {w : World} (hr : LevR w S cs l) (hl : l.users.length ≤ 1073741824 ∧ l.kinds.length ≤ 1073741824) :
    Calls Tryz.prog 180 #[.agg cs.toArray] w (Says (bareB l) w) := by
  have HR := hide hr
  have HL := hide hr.length
  have B := heap_alloc_new w (.cells cs.toArray 29)
  have hb := ext_alloc (ext_refl w) (.cells cs.toArray 29)
  have CS := fun W (h : Below w.heap.size w W) => R6Levels_any (S2 := Any) (cs2 := [.slice none 0 0, .slice none 0 0, .int .i64 0, .int .i64 0, .int .i64 0, .int .i64 0, .int .i64 0, .int .i64 0, .int .i64 0]) (m := Lev.zero) (HR.out.ext h) ⟨_, _, rfl, Slc.nil _ _ _, Slc.nil _ _ _⟩ hl ⟨Nat.zero_le _, Nat.zero_le _⟩
  simp only [bare_dec] at CS
  have HB := hide B
  clear hr B hl
  go_enter Tryz.func180, Tryz.ntmps180
  go_wp2_with (first
    | refine wpList_loadS rfl (.tmp 1) rfl strcL ⟨w.heap.size, 0, none⟩ rfl cs HL.out (box_all HB.out) ?_
    | (go_at_call 56; refine (CS _ hb).mono ?_; rintro e w2 ⟨rfl, hb2⟩))
  go_ret
  exact ⟨rfl, ext_trans hb hb2⟩
set_option maxRecDepth 100000 in
set_option maxHeartbeats 1600000 in
theorem r6_text {S : Nat → Prop} {cs : List Value} {c : Con} {k : Int} {w : World} (hr : ConR w S cs c) :
    Calls Tryz.prog 134 #[.int .i64 k, .agg cs.toArray] w (Errs (textE k c) w) := by
  obtain ⟨s0, s1, s2, s3, s4⟩ := hr.gets
  have hb := ext_alloc (ext_refl w) (.cells cs.toArray 31)
  have CG := fun W => r3_glob c.text W
  clear s1 s2 s3 s4 hr
  go_enter Tryz.func134, Tryz.ntmps134
  go_wp2_with (go_at_call 181; refine (CG _).mono ?_; rintro e w2 ⟨rfl, hw2⟩; rw [hw2]; clear hw2 w2)
  all_goals (go_ret; refine errs_mk ?_ hb)
  all_goals (try simp only [str_e, Bool.not_eq_true', Bool.not_eq_false', decide_eq_true_eq, decide_eq_false_iff_not, beq_iff_eq, beq_eq_false_iff_ne, ne_eq, bne_iff_ne] at *)
  all_goals (unfold textE; (repeat' split) <;> first | rfl | omega | simp_all)
set_option maxRecDepth 100000 in
set_option maxHeartbeats 1600000 in
theorem r6_number (k n : Int) (w : World) : Calls Tryz.prog 135 #[.int .i64 k, .int .i64 n] w (fun e w' => e = .returned (.int .i64 (numR k n)) ∧ w' = w) := by
  go_enter Tryz.func135, Tryz.ntmps135
  go_wp2_with fail
  all_goals (go_ret; refine ⟨?_, rfl⟩; refine congrArg (fun x => Ending.returned (.int .i64 x)) ?_)
  all_goals (try simp only [str_e, Bool.not_eq_true', Bool.not_eq_false', decide_eq_true_eq, decide_eq_false_iff_not, beq_iff_eq, beq_eq_false_iff_ne, ne_eq, bne_iff_ne] at *)
  all_goals (unfold numR; (repeat' split) <;> first | rfl | omega | simp_all)
set_option maxRecDepth 100000 in
set_option maxHeartbeats 1600000 in
theorem r6_target {S : Nat → Prop} {cs : List Value} {c : Con} {k : Int} {w : World} (hr : ConR w S cs c) :
    Calls Tryz.prog 136 #[.int .i64 k, .agg cs.toArray] w (Errs (targetR k c) w) := by
  obtain ⟨s0, s1, s2, s3, s4⟩ := hr.gets
  have B := heap_alloc_new w (.cells cs.toArray 31)
  have hb := ext_alloc (ext_refl w) (.cells cs.toArray 31)
  have CU : ∀ W, Calls Tryz.prog 179 #[.int .i64 k, .string ⟨#[84, 97, 114, 103, 101, 116]⟩] W (Says (hasB (usesN k) 2) W) := fun W => r6_usesN k 2 (by decide) W
  obtain ⟨u, hu⟩ : ∃ u, hasB (usesN k) 2 = u := ⟨_, rfl⟩
  simp only [hu] at CU
  have HU := hide hu
  clear s0 s1 s4 hr hu
  cases u
  all_goals
    go_enter Tryz.func136, Tryz.ntmps136
    go_wp2_with (go_at_call 179; refine (CU _).mono ?_; rintro e w2 ⟨rfl, hb2⟩; have B2 := box_below B hb2; have r2 := box_at B2 s2; have r3 := box_at B2 s3; have hb3 := ext_trans hb hb2; clear B2 hb2)
    all_goals (go_ret; refine errs_mk ?_ hb3)
    all_goals (try simp only [str_e, Bool.not_eq_true', Bool.not_eq_false', decide_eq_true_eq, decide_eq_false_iff_not, beq_iff_eq, beq_eq_false_iff_ne, ne_eq, bne_iff_ne] at *)
    all_goals (have hU := HU.out; unfold targetR; (repeat' split) <;> first | rfl | omega | simp_all)
set_option maxRecDepth 100000 in
set_option maxHeartbeats 1600000 in
theorem r6_via {S : Nat → Prop} {cs : List Value} {c : Con} {w : World} (hr : ConR w S cs c) (hv : c.via.size ≤ 1073741824) :
    Calls Tryz.prog 137 #[.agg cs.toArray] w (Errs (viaE c) w) := by
  obtain ⟨s0, s1, s2, s3, s4⟩ := hr.gets
  have hb := ext_alloc (ext_refl w) (.cells cs.toArray 31)
  have CU := fun W => r2_User c.via W (by omega)
  obtain ⟨ub, hub⟩ : ∃ ub, userB c.via = ub := ⟨_, rfl⟩
  have hub2 : (splitL [64] c.via.data.toList).isSome = ub := hub
  simp only [hub2] at CU
  have HU := hide hub
  clear hub hub2 s0 s2 s3 hr hv
  cases ub
  all_goals
    simp only [errN, if_true, if_false, Bool.false_eq_true] at CU
    go_enter Tryz.func137, Tryz.ntmps137
    go_wp2_with (go_at_call 128; refine (CU _).mono ?_; rintro e w2 ⟨rfl, hw2⟩; rw [hw2]; clear hw2 w2)
    all_goals (go_ret; refine errs_mk ?_ hb)
    all_goals (try simp only [str_e, Bool.not_eq_true', Bool.not_eq_false', decide_eq_true_eq, decide_eq_false_iff_not, beq_iff_eq, beq_eq_false_iff_ne, ne_eq, bne_iff_ne] at *)
    all_goals (have hu := HU.out; unfold viaE; (repeat' split) <;> first | rfl | omega | simp_all)
set_option maxRecDepth 100000 in
set_option maxHeartbeats 1600000 in
theorem r6_patterns (A : Option Addr) (c : Nat) (l : List ByteArray) (w : World) (hr : Row w w.heap.size A (svs l)) (hl : l.length ≤ 1073741824) :
    Calls Tryz.prog 139 #[.slice A l.length c] w (Errs (patternsE l) w) := by
  by_cases h100 : 100 < l.length
  · have HV := hide (show patternsE l = 7 from if_pos h100)
    go_enter Tryz.func139, Tryz.ntmps139
    go_wp2_with fail
    go_ret
    exact ⟨by rw [HV.out]; rfl, ext_refl _⟩
  have HV := hide (show patternsE l = firstE globF none l from if_neg h100)
  go_enter Tryz.func139, Tryz.ntmps139
  go_wp2_with fail
  go_loop [3] (fun i => ∃ k : Nat, k ≤ l.length ∧ i = .int .i64 (k : Int) ∧ Hid (FE globF l k)) (fun i => l.length - (intOf i).toNat)
  case atStart => exact ⟨0, Nat.zero_le _, rfl, FE.start⟩
  case round =>
  obtain ⟨k, hk, rfl, HK⟩ := hrel
  by_cases hlt : k < l.length
  · obtain ⟨b, o, rfl, hb, hc⟩ := hr.fix (svs_get l k hlt)
    have r0 := hc _ _ (svs_get l k hlt)
    have CG := fun W => r3_glob l[k] W
    obtain ⟨s, hs⟩ : ∃ s, s = l[k] := ⟨_, rfl⟩
    obtain ⟨g, hg⟩ : ∃ g, globE l[k] = g := ⟨_, rfl⟩
    have HE := hide (fun h0 : g ≠ 0 => HK.out.err (e := g) hlt hg h0)
    have HN := hide (fun h0 : g = 0 => HK.out.next hlt (hg.trans h0))
    simp only [hg] at CG
    rw [← hs] at r0 CG
    clear hs hg hc
    by_cases h0 : g = 0
    · have HN' := hide (HN.out h0)
      subst h0
      go_wp2_with (go_at_call 181; refine (CG _).mono ?_; rintro e w2 ⟨rfl, hw2⟩; rw [hw2]; clear hw2 w2)
      go_round
      case rel => exact ⟨k + 1, by omega, by go_num, HN'.out⟩
      case measure => (simp [intOf]; try omega)
    · have HE' := hide (HE.out h0)
      have h1 : (g != 0) = true := by simpa using h0
      clear h0
      go_wp2_with (go_at_call 181; refine (CG _).mono ?_; rintro e w2 ⟨rfl, hw2⟩; rw [hw2]; clear hw2 w2)
      go_ret
      exact ⟨by rw [HV.out, HE'.out]; rfl, ext_refl _⟩
  · obtain rfl : k = l.length := by omega
    have HF := hide HK.out.fin
    go_wp2_with fail
    go_ret
    exact ⟨by rw [HV.out, HF.out]; rfl, ext_refl _⟩
set_option maxRecDepth 100000 in
set_option maxHeartbeats 1600000 in
theorem r6_bare (k : Int) (w : World) : Calls Tryz.prog 133 #[.int .i64 k] w (fun e w' => e = .returned (.bool (bareK k)) ∧ w' = w) := by
  have HP := hide (show bareK k = true ↔ (7 ≤ k ∧ k ≤ 13) by simp [bareK]; omega)
  go_enter Tryz.func133, Tryz.ntmps133
  go_wp2_with fail
  all_goals (go_ret; refine ⟨ret_b ?_, rfl⟩)
  all_goals (try simp only [beq_iff_eq, beq_eq_false_iff_ne, ne_eq] at *)
  all_goals (rw [HP.out]; simp; try omega)

set_option maxRecDepth 100000 in
set_option maxHeartbeats 1600000 in
theorem r6_rooms {S : Nat → Prop} {cs : List Value} {c : Con} {w : World} (hr : ConR w S cs c) (hl : c.allow.length ≤ 1073741824) (hs : ∀ x ∈ c.allow, x.size ≤ 1073741824) :
    Calls Tryz.prog 138 #[.agg cs.toArray] w (Errs (rulesE c) w) := by
  obtain ⟨_, s1, _⟩ := hr.gets
  obtain ⟨A1, c1, A2, c2, s5, s6, h5, h6⟩ := hr.lists
  have hb := ext_alloc (ext_refl w) (.cells cs.toArray 31)
  have hr5 := h5.ext hb
  have B := heap_alloc_new w (.cells cs.toArray 31)
  clear hr h5 h6 s6
  have HS := hide hs; clear hs
  generalize hL : c.allow = l at *
  have HL := hide hL; clear hL
  by_cases h0 : 0 < l.length ∧ c.n ≠ 3
  · have HE := hide (show rulesE c = 1 by unfold rulesE; rw [HL.out, if_pos h0])
    obtain ⟨h1, h2⟩ := h0
    have t2 : (c.n != 3) = true := by simpa using h2
    clear h2 B hr5
    go_enter Tryz.func138, Tryz.ntmps138
    go_wp2_with fail
    go_ret
    exact ⟨by rw [HE.out]; rfl, hb⟩
  have HE := hide (show rulesE c = roomsE l by unfold rulesE; rw [HL.out, if_neg h0])
  have hx : l.length = 0 ∨ (c.n != 3) = false := by
    by_cases e : l.length = 0
    · exact .inl e
    · exact .inr (by have : c.n = 3 := by { by_cases e' : c.n = 3; exact e'; exact absurd ⟨by omega, e'⟩ h0 }
                     simp [this])
  clear h0
  by_cases h100 : 100 < l.length
  · have HV := hide (show roomsE l = 7 from if_pos h100)
    have t2 : (c.n != 3) = false := hx.resolve_left (by omega)
    clear hx B hr5
    go_enter Tryz.func138, Tryz.ntmps138
    go_wp2_with fail
    go_ret
    exact ⟨by rw [HE.out, HV.out]; rfl, hb⟩
  have HV := hide (show roomsE l = firstE roomF none l from if_neg h100)
  go_enter Tryz.func138, Tryz.ntmps138
  have hcase : (l.length = 0) ∨ (0 < l.length ∧ (c.n != 3) = false) := by
    rcases hx with h | h
    · exact .inl h
    · rcases Nat.eq_zero_or_pos l.length with h' | h'
      · exact .inl h'
      · exact .inr ⟨h', h⟩
  clear hx
  rcases hcase with hz | ⟨hpos, t2⟩
  · have HF := hide (show firstE roomF none l = 0 by rw [List.eq_nil_of_length_eq_zero hz]; rfl)
    rw [hz] at s5
    have r5 := box_at B s5
    clear hr5 B hl h100
    have HZ := hide hz; clear hz
    go_wp2_with fail
    go_loop [3] (fun i => i = .int .i64 0) (fun i => 1)
    case atStart => rfl
    case round =>
    obtain rfl := hrel
    go_wp2_with fail
    go_ret
    exact ⟨by rw [HE.out, HV.out, HF.out]; rfl, hb⟩
  go_upto_region 5 with fail
  generalize w.alloc (.cells cs.toArray 31) = W0 at B hb hr5 ⊢
  have hwl : w.heap.size < W0.heap.size := (Array.getElem?_eq_some_iff.1 B).1
  have r5 := box_at B s5
  clear s1 s5 B
  go_wp2_with fail
  go_loopw [3] (fun i wr => ∃ j : Nat, j ≤ l.length ∧ i = .int .i64 (j : Int) ∧ Hid (FE roomF l j) ∧ Below W0.heap.size W0 wr) (fun i _ => l.length - (intOf i).toNat)
  case atStart => exact ⟨0, Nat.zero_le _, rfl, FE.start, ext_refl W0⟩
  case round =>
  obtain ⟨j, hj, rfl, HK, hbel⟩ := hrel
  have p5 : wr.cell? ⟨w.heap.size, 5, none⟩ = some (.slice A1 l.length c1) := (Below.cell hbel hwl).trans r5
  by_cases hlt : j < l.length
  rotate_left
  · obtain rfl : j = l.length := by omega
    have HF := hide HK.out.fin
    go_wp2_with fail
    go_ret
    exact ⟨by rw [HE.out, HV.out, HF.out]; rfl, ext_trans hb hbel⟩
  obtain ⟨b, o, rfl, hbl, hc⟩ := hr5.fix (svs_get l j hlt)
  have q0 : wr.cell? ⟨b, o + j, none⟩ = some (.string l[j]) := (hbel.cell hbl).trans (hc _ _ (svs_get l j hlt))
  have CR := fun W => r2_Room l[j] W (by have := HS.out l[j] (List.getElem_mem hlt); omega)
  obtain ⟨x, hx⟩ : ∃ x, x = l[j] := ⟨_, rfl⟩
  have HX := hide hx
  rw [← hx] at q0 CR
  have HC := hide hc
  clear hx hc r5
  obtain ⟨rb, hrb⟩ : ∃ rb, roomB x = rb := ⟨_, rfl⟩
  simp only [hrb] at CR
  cases rb with
  | false =>
    simp only [errN, Bool.false_eq_true, if_false] at CR
    have HF := hide (HK.out.err (e := 3) hlt (by rw [← HX.out]; exact roomF_no hrb) (by decide))
    clear hrb
    go_wp2_with (go_at_call 127; refine (CR _).mono ?_; rintro e w2 ⟨rfl, hw2⟩; rw [hw2]; clear hw2 w2)
    go_ret
    exact ⟨by rw [HE.out, HV.out, HF.out]; rfl, ext_trans hb hbel⟩
  | true =>
    simp only [errN, if_true] at CR
    rcases Nat.eq_zero_or_pos j with rfl | hjp
    · have HN := hide (HK.out.next hlt (by rw [← HX.out]; exact roomF_ok hrb rfl))
      try simp only [Nat.add_zero] at q0
      clear hrb
      go_wp2_with (go_at_call 127; refine (CR _).mono ?_; rintro e w2 ⟨rfl, hw2⟩; rw [hw2]; clear hw2 w2)
      go_quiet (fail)
      go_wp2_with fail
      go_roundw
      case rel => exact ⟨1, by omega, rfl, HN.out, below_drewN hbel _⟩
      case measure => (simp [intOf]; try omega)
    · obtain ⟨i, rfl⟩ : ∃ i, j = i + 1 := ⟨j - 1, by omega⟩
      have hi : i < l.length := by omega
      have hprev := prev_succ hi
      obtain ⟨y, hy⟩ : ∃ y, y = l[i] := ⟨_, rfl⟩
      have hq := HC.out _ _ (svs_get l i hi)
      rw [← hy] at hprev hq
      clear hy
      have p0 : wr.cell? ⟨b, o + i, none⟩ = some (.string y) := (hbel.cell hbl).trans hq
      have HPREV := hide hprev
      have hwr := wrap_k i (by omega)
      clear hprev hq
      obtain ⟨s1, h1⟩ : ∃ s, Op.bytesLess x.toList y.toList = s := ⟨_, rfl⟩
      obtain ⟨s2, h2⟩ : ∃ s, (x.toList == y.toList) = s := ⟨_, rfl⟩
      have ho : outB (prevA l (i + 1)) x = (s1 || s2) := by rw [HPREV.out, ← h1, ← h2]; rfl
      have HO := hide ho
      clear ho
      cases s1 with
      | true =>
        have HF := hide (HK.out.err (e := 8) hlt (by rw [← HX.out]; exact roomF_out hrb (HO.out.trans rfl)) (by decide))
        clear hrb
        go_wp2_with (go_at_call 127; refine (CR _).mono ?_; rintro e w2 ⟨rfl, hw2⟩; rw [hw2]; clear hw2 w2)
        go_quiet (fail)
        go_wp2_with fail
        go_ret
        exact ⟨by rw [HE.out, HV.out, HF.out]; rfl, ext_trans hb (below_drewN hbel _)⟩
      | false =>
        cases s2 with
        | true =>
          have HF := hide (HK.out.err (e := 8) hlt (by rw [← HX.out]; exact roomF_out hrb (HO.out.trans rfl)) (by decide))
          clear hrb
          go_wp2_with (go_at_call 127; refine (CR _).mono ?_; rintro e w2 ⟨rfl, hw2⟩; rw [hw2]; clear hw2 w2)
          go_quiet (fail)
          go_wp2_with fail
          go_ret
          exact ⟨by rw [HE.out, HV.out, HF.out]; rfl, ext_trans hb (below_drewN hbel _)⟩
        | false =>
          have HN := hide (HK.out.next hlt (by rw [← HX.out]; exact roomF_ok hrb (HO.out.trans rfl)))
          clear hrb
          go_wp2_with (go_at_call 127; refine (CR _).mono ?_; rintro e w2 ⟨rfl, hw2⟩; rw [hw2]; clear hw2 w2)
          go_quiet (fail)
          go_wp2_with fail
          go_roundw
          case rel => exact ⟨i + 1 + 1, by omega, by go_num, HN.out, below_drewN hbel _⟩
          case measure => (simp [intOf]; try omega)
end

section
open Go.RowKit
attribute [local go_sem] Addr.add_mid
set_option maxRecDepth 100000 in
set_option maxHeartbeats 8000000 in
theorem r6_only {S : Nat → Prop} {cs : List Value} {c : Con} {k : Int} {w : World} (hr : ConR w S cs c) (hl : c.lv.users.length ≤ 1073741824 ∧ c.lv.kinds.length ≤ 1073741824) :
    Calls Tryz.prog 132 #[.int .i64 k, .agg cs.toArray] w (Says (onlyB k c) w) := by
  obtain ⟨s0, s1, s2, s3, s4⟩ := hr.gets
  obtain ⟨A1, c1, A2, c2, s5, s6, _, _⟩ := hr.lists
  have HR := hide hr
  have HLL := hide hl
  have HN := hide (show (cs.drop 7).length = 9 by rw [List.length_drop, hr.length])
  have B := heap_alloc_new w (.cells cs.toArray 31)
  have hb := ext_alloc (ext_refl w) (.cells cs.toArray 31)
  clear hr hl
  go_enter Tryz.func132, Tryz.ntmps132
  go_upto_region 1 with fail
  generalize w.alloc (.cells cs.toArray 31) = W0 at B hb ⊢
  have HB := hide B
  clear B
  obtain ⟨a0, ha0⟩ : ∃ b, c.text.toList.isEmpty = b := ⟨_, rfl⟩
  obtain ⟨a1, ha1⟩ : ∃ b, (c.n == 0) = b := ⟨_, rfl⟩
  obtain ⟨a2, ha2⟩ : ∃ b, (c.target == 0) = b := ⟨_, rfl⟩
  obtain ⟨a3, ha3⟩ : ∃ b, (!c.thread) = b := ⟨_, rfl⟩
  obtain ⟨a4, ha4⟩ : ∃ b, c.via.toList.isEmpty = b := ⟨_, rfl⟩
  obtain ⟨a5, ha5⟩ : ∃ b, ((c.allow.length : Int) == 0) = b := ⟨_, rfl⟩
  obtain ⟨a6, ha6⟩ : ∃ b, ((c.deny.length : Int) == 0) = b := ⟨_, rfl⟩
  obtain ⟨a7, ha7⟩ : ∃ b, bareB c.lv = b := ⟨_, rfl⟩
  obtain ⟨u0, hu0⟩ : ∃ u, hasB (usesN k) 0 = u := ⟨_, rfl⟩
  have CH0 : ∀ W, Calls Tryz.prog 179 #[.int .i64 k, .string ⟨#[84, 101, 120, 116]⟩] W (Says u0 W) := fun W => by
    have h := r6_usesN k 0 (by decide) W
    rw [hu0] at h
    exact h
  obtain ⟨b0, hb0⟩ : ∃ b, (a0 || u0) = b := ⟨_, rfl⟩
  obtain ⟨u1, hu1⟩ : ∃ u, hasB (usesN k) 1 = u := ⟨_, rfl⟩
  have CH1 : ∀ W, Calls Tryz.prog 179 #[.int .i64 k, .string ⟨#[78]⟩] W (Says u1 W) := fun W => by
    have h := r6_usesN k 1 (by decide) W
    rw [hu1] at h
    exact h
  obtain ⟨b1, hb1⟩ : ∃ b, (a1 || u1) = b := ⟨_, rfl⟩
  obtain ⟨u2, hu2⟩ : ∃ u, hasB (usesN k) 2 = u := ⟨_, rfl⟩
  have CH2 : ∀ W, Calls Tryz.prog 179 #[.int .i64 k, .string ⟨#[84, 97, 114, 103, 101, 116]⟩] W (Says u2 W) := fun W => by
    have h := r6_usesN k 2 (by decide) W
    rw [hu2] at h
    exact h
  obtain ⟨b2, hb2⟩ : ∃ b, (a2 || u2) = b := ⟨_, rfl⟩
  obtain ⟨u3, hu3⟩ : ∃ u, hasB (usesN k) 3 = u := ⟨_, rfl⟩
  have CH3 : ∀ W, Calls Tryz.prog 179 #[.int .i64 k, .string ⟨#[84, 104, 114, 101, 97, 100]⟩] W (Says u3 W) := fun W => by
    have h := r6_usesN k 3 (by decide) W
    rw [hu3] at h
    exact h
  obtain ⟨b3, hb3⟩ : ∃ b, (a3 || u3) = b := ⟨_, rfl⟩
  obtain ⟨u4, hu4⟩ : ∃ u, hasB (usesN k) 4 = u := ⟨_, rfl⟩
  have CH4 : ∀ W, Calls Tryz.prog 179 #[.int .i64 k, .string ⟨#[86, 105, 97]⟩] W (Says u4 W) := fun W => by
    have h := r6_usesN k 4 (by decide) W
    rw [hu4] at h
    exact h
  obtain ⟨b4, hb4⟩ : ∃ b, (a4 || u4) = b := ⟨_, rfl⟩
  obtain ⟨u5, hu5⟩ : ∃ u, hasB (usesN k) 5 = u := ⟨_, rfl⟩
  have CH5 : ∀ W, Calls Tryz.prog 179 #[.int .i64 k, .string ⟨#[65, 108, 108, 111, 119]⟩] W (Says u5 W) := fun W => by
    have h := r6_usesN k 5 (by decide) W
    rw [hu5] at h
    exact h
  obtain ⟨b5, hb5⟩ : ∃ b, (a5 || u5) = b := ⟨_, rfl⟩
  obtain ⟨u6, hu6⟩ : ∃ u, hasB (usesN k) 6 = u := ⟨_, rfl⟩
  have CH6 : ∀ W, Calls Tryz.prog 179 #[.int .i64 k, .string ⟨#[68, 101, 110, 121]⟩] W (Says u6 W) := fun W => by
    have h := r6_usesN k 6 (by decide) W
    rw [hu6] at h
    exact h
  obtain ⟨b6, hb6⟩ : ∃ b, (a6 || u6) = b := ⟨_, rfl⟩
  obtain ⟨u7, hu7⟩ : ∃ u, hasB (usesN k) 7 = u := ⟨_, rfl⟩
  have CH7 : ∀ W, Calls Tryz.prog 179 #[.int .i64 k, .string ⟨#[76, 101, 118, 101, 108, 115]⟩] W (Says u7 W) := fun W => by
    have h := r6_usesN k 7 (by decide) W
    rw [hu7] at h
    exact h
  obtain ⟨b7, hb7⟩ : ∃ b, (a7 || u7) = b := ⟨_, rfl⟩
  have e1 : decide (c.n = 0) = a1 := by rw [← ha1]; rfl
  have e2 : decide (c.target = 0) = a2 := by rw [← ha2]; rfl
  have e5 : decide (c.allow.length = 0) = a5 := by rw [← ha5, Bool.eq_iff_iff, decide_eq_true_iff, beq_iff_eq]; omega
  have e6 : decide (c.deny.length = 0) = a6 := by rw [← ha6, Bool.eq_iff_iff, decide_eq_true_iff, beq_iff_eq]; omega
  have HO := hide (show onlyB k c = (b0 && b1 && b2 && b3 && b4 && b5 && b6 && b7) by
    unfold onlyB
    rw [← str_e, ← str_e, ha0, e1, e2, ha3, ha4, e5, e6, ha7, hu0, hu1, hu2, hu3, hu4, hu5, hu6, hu7, hb0, hb1, hb2, hb3, hb4, hb5, hb6, hb7])
  have HA0 := hide ha0; have HA1 := hide ha1; have HA2 := hide ha2; have HA3 := hide ha3; have HA4 := hide ha4; have HA5 := hide ha5; have HA6 := hide ha6; have HA7 := hide ha7
  clear ha0 ha1 ha2 ha3 ha4 ha5 ha6 ha7 e1 e2 e5 e6 hu0 hu1 hu2 hu3 hu4 hu5 hu6 hu7
  have KZ := ext_refl W0
  refine wp_region_list ?_
  try simp only [List.append]
  have r0 := box_at (box_below HB.out KZ) s0
  have hA := HA0.out
  refine wpList_val (.pointer (some ⟨w.heap.size, 0, none⟩)) rfl (by unfold execOp; go_simp) ?_
  go_simp
  refine wpList_val (.string c.text) rfl (by unfold execOp; go_simp) ?_
  go_simp
  refine wpList_val (.bool a0) rfl (by unfold execOp; go_simp) ?_
  go_simp
  refine wpList_val (.bool a0) rfl (by rfl) ?_
  clear r0 hA
  refine wpList_gval (b := !a0) (.int .i64 k) (by cases a0 <;> rfl) (fun _ => by rfl) ?_
  intro X1 hX1
  go_simp
  refine wpList_gcall (b := !a0) 179 #[X1, .string ⟨#[84, 101, 120, 116]⟩] (fun v w' => v = .bool u0 ∧ Below W0.heap.size W0 w') (by cases a0 <;> rfl) (fun _ => by unfold execOp; go_simp) (fun hb => by
    rw [hX1 hb]
    exact (CH0 W0).mono fun e w' hh => ⟨_, hh.1, rfl, hh.2⟩) ?_
  intro X3 wb0 hX3 hW
  have hbq : Below W0.heap.size W0 wb0 := by
    cases hu : a0
    · exact (hX3 (by rw [hu]; rfl)).2
    · rw [hW (by rw [hu]; rfl)]; exact ext_refl _
  have KZ := ext_trans KZ hbq
  refine wpList_val (.bool b0) rfl (by
    rw [← hb0]
    cases a0 with
    | false => obtain ⟨rfl, _⟩ := hX3 rfl; rfl
    | true => rfl) ?_
  clear hX1 hX3 hW hbq
  go_simp
  refine wpList_val (.bool b0) rfl (by rfl) ?_
  go_simp
  cases b0
  case false =>
    have HF := hide (show onlyB k c = false by rw [HO.out]; simp)
    clear HO
    go_wp2_with fail
    go_ret
    exact ⟨by rw [HF.out]; rfl, ext_trans hb KZ⟩
  have r0 := box_at (box_below HB.out KZ) s1
  have hA := HA1.out
  refine wpList_val (.pointer (some ⟨w.heap.size, 1, none⟩)) rfl (by unfold execOp; go_simp) ?_
  go_simp
  refine wpList_val (.int .i64 c.n) rfl (by unfold execOp; go_simp) ?_
  go_simp
  refine wpList_val (.bool a1) rfl (by unfold execOp; go_simp) ?_
  go_simp
  refine wpList_val (.bool a1) rfl (by rfl) ?_
  clear r0 hA
  refine wpList_gval (b := !a1) (.int .i64 k) (by cases a1 <;> rfl) (fun _ => by rfl) ?_
  intro X1 hX1
  go_simp
  refine wpList_gcall (b := !a1) 179 #[X1, .string ⟨#[78]⟩] (fun v w' => v = .bool u1 ∧ Below wb0.heap.size wb0 w') (by cases a1 <;> rfl) (fun _ => by unfold execOp; go_simp) (fun hb => by
    rw [hX1 hb]
    exact (CH1 wb0).mono fun e w' hh => ⟨_, hh.1, rfl, hh.2⟩) ?_
  intro X3 wb1 hX3 hW
  have hbq : Below wb0.heap.size wb0 wb1 := by
    cases hu : a1
    · exact (hX3 (by rw [hu]; rfl)).2
    · rw [hW (by rw [hu]; rfl)]; exact ext_refl _
  have KZ := ext_trans KZ hbq
  refine wpList_val (.bool b1) rfl (by
    rw [← hb1]
    cases a1 with
    | false => obtain ⟨rfl, _⟩ := hX3 rfl; rfl
    | true => rfl) ?_
  clear hX1 hX3 hW hbq
  go_simp
  refine wpList_val (.bool b1) rfl (by rfl) ?_
  go_simp
  refine wpList_val (.bool b1) rfl (by rfl) ?_
  go_simp
  cases b1
  case false =>
    have HF := hide (show onlyB k c = false by rw [HO.out]; simp)
    clear HO
    go_wp2_with fail
    go_ret
    exact ⟨by rw [HF.out]; rfl, ext_trans hb KZ⟩
  have r0 := box_at (box_below HB.out KZ) s2
  have hA := HA2.out
  refine wpList_val (.pointer (some ⟨w.heap.size, 2, none⟩)) rfl (by unfold execOp; go_simp) ?_
  go_simp
  refine wpList_val (.int .i64 c.target) rfl (by unfold execOp; go_simp) ?_
  go_simp
  refine wpList_val (.bool a2) rfl (by unfold execOp; go_simp) ?_
  go_simp
  refine wpList_val (.bool a2) rfl (by rfl) ?_
  clear r0 hA
  refine wpList_gval (b := !a2) (.int .i64 k) (by cases a2 <;> rfl) (fun _ => by rfl) ?_
  intro X1 hX1
  go_simp
  refine wpList_gcall (b := !a2) 179 #[X1, .string ⟨#[84, 97, 114, 103, 101, 116]⟩] (fun v w' => v = .bool u2 ∧ Below wb1.heap.size wb1 w') (by cases a2 <;> rfl) (fun _ => by unfold execOp; go_simp) (fun hb => by
    rw [hX1 hb]
    exact (CH2 wb1).mono fun e w' hh => ⟨_, hh.1, rfl, hh.2⟩) ?_
  intro X3 wb2 hX3 hW
  have hbq : Below wb1.heap.size wb1 wb2 := by
    cases hu : a2
    · exact (hX3 (by rw [hu]; rfl)).2
    · rw [hW (by rw [hu]; rfl)]; exact ext_refl _
  have KZ := ext_trans KZ hbq
  refine wpList_val (.bool b2) rfl (by
    rw [← hb2]
    cases a2 with
    | false => obtain ⟨rfl, _⟩ := hX3 rfl; rfl
    | true => rfl) ?_
  clear hX1 hX3 hW hbq
  go_simp
  refine wpList_val (.bool b2) rfl (by rfl) ?_
  go_simp
  refine wpList_val (.bool b2) rfl (by rfl) ?_
  go_simp
  cases b2
  case false =>
    have HF := hide (show onlyB k c = false by rw [HO.out]; simp)
    clear HO
    go_wp2_with fail
    go_ret
    exact ⟨by rw [HF.out]; rfl, ext_trans hb KZ⟩
  have r0 := box_at (box_below HB.out KZ) s3
  have hA := HA3.out
  refine wpList_val (.pointer (some ⟨w.heap.size, 3, none⟩)) rfl (by unfold execOp; go_simp) ?_
  go_simp
  refine wpList_val (.bool c.thread) rfl (by unfold execOp; go_simp) ?_
  go_simp
  refine wpList_val (.bool a3) rfl (by unfold execOp; go_simp) ?_
  go_simp
  refine wpList_val (.bool a3) rfl (by rfl) ?_
  clear r0 hA
  refine wpList_gval (b := !a3) (.int .i64 k) (by cases a3 <;> rfl) (fun _ => by rfl) ?_
  intro X1 hX1
  go_simp
  refine wpList_gcall (b := !a3) 179 #[X1, .string ⟨#[84, 104, 114, 101, 97, 100]⟩] (fun v w' => v = .bool u3 ∧ Below wb2.heap.size wb2 w') (by cases a3 <;> rfl) (fun _ => by unfold execOp; go_simp) (fun hb => by
    rw [hX1 hb]
    exact (CH3 wb2).mono fun e w' hh => ⟨_, hh.1, rfl, hh.2⟩) ?_
  intro X3 wb3 hX3 hW
  have hbq : Below wb2.heap.size wb2 wb3 := by
    cases hu : a3
    · exact (hX3 (by rw [hu]; rfl)).2
    · rw [hW (by rw [hu]; rfl)]; exact ext_refl _
  have KZ := ext_trans KZ hbq
  refine wpList_val (.bool b3) rfl (by
    rw [← hb3]
    cases a3 with
    | false => obtain ⟨rfl, _⟩ := hX3 rfl; rfl
    | true => rfl) ?_
  clear hX1 hX3 hW hbq
  go_simp
  refine wpList_val (.bool b3) rfl (by rfl) ?_
  go_simp
  refine wpList_val (.bool b3) rfl (by rfl) ?_
  go_simp
  cases b3
  case false =>
    have HF := hide (show onlyB k c = false by rw [HO.out]; simp)
    clear HO
    go_wp2_with fail
    go_ret
    exact ⟨by rw [HF.out]; rfl, ext_trans hb KZ⟩
  have r0 := box_at (box_below HB.out KZ) s4
  have hA := HA4.out
  refine wpList_val (.pointer (some ⟨w.heap.size, 4, none⟩)) rfl (by unfold execOp; go_simp) ?_
  go_simp
  refine wpList_val (.string c.via) rfl (by unfold execOp; go_simp) ?_
  go_simp
  refine wpList_val (.bool a4) rfl (by unfold execOp; go_simp) ?_
  go_simp
  refine wpList_val (.bool a4) rfl (by rfl) ?_
  clear r0 hA
  refine wpList_gval (b := !a4) (.int .i64 k) (by cases a4 <;> rfl) (fun _ => by rfl) ?_
  intro X1 hX1
  go_simp
  refine wpList_gcall (b := !a4) 179 #[X1, .string ⟨#[86, 105, 97]⟩] (fun v w' => v = .bool u4 ∧ Below wb3.heap.size wb3 w') (by cases a4 <;> rfl) (fun _ => by unfold execOp; go_simp) (fun hb => by
    rw [hX1 hb]
    exact (CH4 wb3).mono fun e w' hh => ⟨_, hh.1, rfl, hh.2⟩) ?_
  intro X3 wb4 hX3 hW
  have hbq : Below wb3.heap.size wb3 wb4 := by
    cases hu : a4
    · exact (hX3 (by rw [hu]; rfl)).2
    · rw [hW (by rw [hu]; rfl)]; exact ext_refl _
  have KZ := ext_trans KZ hbq
  refine wpList_val (.bool b4) rfl (by
    rw [← hb4]
    cases a4 with
    | false => obtain ⟨rfl, _⟩ := hX3 rfl; rfl
    | true => rfl) ?_
  clear hX1 hX3 hW hbq
  go_simp
  refine wpList_val (.bool b4) rfl (by rfl) ?_
  go_simp
  refine wpList_val (.bool b4) rfl (by rfl) ?_
  go_simp
  cases b4
  case false =>
    have HF := hide (show onlyB k c = false by rw [HO.out]; simp)
    clear HO
    go_wp2_with fail
    go_ret
    exact ⟨by rw [HF.out]; rfl, ext_trans hb KZ⟩
  have r0 := box_at (box_below HB.out KZ) s5
  have hA := HA5.out
  refine wpList_val (.pointer (some ⟨w.heap.size, 5, none⟩)) rfl (by unfold execOp; go_simp) ?_
  go_simp
  refine wpList_val (.slice A1 c.allow.length c1) rfl (by unfold execOp; go_simp) ?_
  go_simp
  refine wpList_val (.int .i64 (c.allow.length : Int)) rfl (by unfold execOp; go_simp) ?_
  go_simp
  refine wpList_val (.bool a5) rfl (by unfold execOp; go_simp) ?_
  go_simp
  refine wpList_val (.bool a5) rfl (by rfl) ?_
  clear r0 hA
  refine wpList_gval (b := !a5) (.int .i64 k) (by cases a5 <;> rfl) (fun _ => by rfl) ?_
  intro X1 hX1
  go_simp
  refine wpList_gcall (b := !a5) 179 #[X1, .string ⟨#[65, 108, 108, 111, 119]⟩] (fun v w' => v = .bool u5 ∧ Below wb4.heap.size wb4 w') (by cases a5 <;> rfl) (fun _ => by unfold execOp; go_simp) (fun hb => by
    rw [hX1 hb]
    exact (CH5 wb4).mono fun e w' hh => ⟨_, hh.1, rfl, hh.2⟩) ?_
  intro X3 wb5 hX3 hW
  have hbq : Below wb4.heap.size wb4 wb5 := by
    cases hu : a5
    · exact (hX3 (by rw [hu]; rfl)).2
    · rw [hW (by rw [hu]; rfl)]; exact ext_refl _
  have KZ := ext_trans KZ hbq
  refine wpList_val (.bool b5) rfl (by
    rw [← hb5]
    cases a5 with
    | false => obtain ⟨rfl, _⟩ := hX3 rfl; rfl
    | true => rfl) ?_
  clear hX1 hX3 hW hbq
  go_simp
  refine wpList_val (.bool b5) rfl (by rfl) ?_
  go_simp
  refine wpList_val (.bool b5) rfl (by rfl) ?_
  go_simp
  cases b5
  case false =>
    have HF := hide (show onlyB k c = false by rw [HO.out]; simp)
    clear HO
    go_wp2_with fail
    go_ret
    exact ⟨by rw [HF.out]; rfl, ext_trans hb KZ⟩
  have r0 := box_at (box_below HB.out KZ) s6
  have hA := HA6.out
  refine wpList_val (.pointer (some ⟨w.heap.size, 6, none⟩)) rfl (by unfold execOp; go_simp) ?_
  go_simp
  refine wpList_val (.slice A2 c.deny.length c2) rfl (by unfold execOp; go_simp) ?_
  go_simp
  refine wpList_val (.int .i64 (c.deny.length : Int)) rfl (by unfold execOp; go_simp) ?_
  go_simp
  refine wpList_val (.bool a6) rfl (by unfold execOp; go_simp) ?_
  go_simp
  refine wpList_val (.bool a6) rfl (by rfl) ?_
  clear r0 hA
  refine wpList_gval (b := !a6) (.int .i64 k) (by cases a6 <;> rfl) (fun _ => by rfl) ?_
  intro X1 hX1
  go_simp
  refine wpList_gcall (b := !a6) 179 #[X1, .string ⟨#[68, 101, 110, 121]⟩] (fun v w' => v = .bool u6 ∧ Below wb5.heap.size wb5 w') (by cases a6 <;> rfl) (fun _ => by unfold execOp; go_simp) (fun hb => by
    rw [hX1 hb]
    exact (CH6 wb5).mono fun e w' hh => ⟨_, hh.1, rfl, hh.2⟩) ?_
  intro X3 wb6 hX3 hW
  have hbq : Below wb5.heap.size wb5 wb6 := by
    cases hu : a6
    · exact (hX3 (by rw [hu]; rfl)).2
    · rw [hW (by rw [hu]; rfl)]; exact ext_refl _
  have KZ := ext_trans KZ hbq
  refine wpList_val (.bool b6) rfl (by
    rw [← hb6]
    cases a6 with
    | false => obtain ⟨rfl, _⟩ := hX3 rfl; rfl
    | true => rfl) ?_
  clear hX1 hX3 hW hbq
  go_simp
  refine wpList_val (.bool b6) rfl (by rfl) ?_
  go_simp
  refine wpList_val (.bool b6) rfl (by rfl) ?_
  go_simp
  cases b6
  case false =>
    have HF := hide (show onlyB k c = false by rw [HO.out]; simp)
    clear HO
    go_wp2_with fail
    go_ret
    exact ⟨by rw [HF.out]; rfl, ext_trans hb KZ⟩
  refine wpList_val (.pointer (some ⟨w.heap.size, 7, none⟩)) rfl (by unfold execOp; go_simp) ?_
  go_simp
  refine wpList_val (.agg (cs.drop 7).toArray) rfl (run_load_op (.tmp 69) rfl strcL ⟨w.heap.size, 7, none⟩ rfl (cs.drop 7) HN.out (box_from (box_below HB.out KZ))) ?_
  go_simp
  refine wpList_gcall (b := true) 180 #[.agg (cs.drop 7).toArray] (fun v w' => v = .bool a7 ∧ Below wb6.heap.size wb6 w') rfl (fun _ => by unfold execOp; go_simp) (fun _ => (r6_plain (HR.out.lev.ext (ext_trans hb KZ)) HLL.out).mono fun e w' hh => ⟨_, hh.1, by rw [HA7.out], hh.2⟩) ?_
  intro X wp hX _
  obtain ⟨rfl, hbp⟩ := hX rfl
  have KZ := ext_trans KZ hbp
  refine wpList_val (.bool a7) rfl (by rfl) ?_
  go_simp
  refine wpList_gval (b := !a7) (.int .i64 k) (by cases a7 <;> rfl) (fun _ => by rfl) ?_
  intro X1 hX1
  go_simp
  refine wpList_gcall (b := !a7) 179 #[X1, .string ⟨#[76, 101, 118, 101, 108, 115]⟩] (fun v w' => v = .bool u7 ∧ Below wp.heap.size wp w') (by cases a7 <;> rfl) (fun _ => by unfold execOp; go_simp) (fun hb => by
    rw [hX1 hb]
    exact (CH7 wp).mono fun e w' hh => ⟨_, hh.1, rfl, hh.2⟩) ?_
  intro X3 wb7 hX3 hW
  have hbq : Below wp.heap.size wp wb7 := by
    cases hu : a7
    · exact (hX3 (by rw [hu]; rfl)).2
    · rw [hW (by rw [hu]; rfl)]; exact ext_refl _
  have KZ := ext_trans KZ hbq
  refine wpList_val (.bool b7) rfl (by
    rw [← hb7]
    cases a7 with
    | false => obtain ⟨rfl, _⟩ := hX3 rfl; rfl
    | true => rfl) ?_
  clear hX1 hX3 hW hbq
  go_simp
  refine wpList_val (.bool b7) rfl (by rfl) ?_
  go_simp
  have HF := hide (show onlyB k c = b7 by rw [HO.out]; simp)
  clear HO
  go_wp2_with fail
  go_ret
  exact ⟨by rw [HF.out]; rfl, ext_trans hb KZ⟩
end

section
open Go.RowKit
attribute [local go_sem] Addr.add_mid
set_option maxRecDepth 100000 in
set_option maxHeartbeats 8000000 in
theorem r6_Check {S : Nat → Prop} {cs : List Value} {c : Con} {k : Int} {w : World} (hr : ConR w S cs c) (hm : c.mild) :
    Calls Tryz.prog 84 #[.int .i64 k, .agg cs.toArray] w (Errs (ckE k c) w) := by
  rw [← ckE_R]
  obtain ⟨s0, s1, s2, s3, s4⟩ := hr.gets
  obtain ⟨A1, c1, A2, c2, s5, s6, h5, h6⟩ := hr.lists
  have HR := hide hr
  have HL := hide hr.length
  have HM := hide hm
  have HN := hide (show (cs.drop 7).length = 9 by rw [List.length_drop, hr.length])
  have B := heap_alloc_new w (.cells cs.toArray 31)
  have hb := ext_alloc (ext_refl w) (.cells cs.toArray 31)
  have CKN := fun W => r6_known k W
  have CO := fun W (h : Below w.heap.size w W) => r6_only (k := k) (hr.ext h) ⟨hm.usersL, hm.kindsL⟩
  have CB := fun W => r6_bare k W
  have CS := fun W (h : Below w.heap.size w W) => R6Same_any (S2 := Any) (cs2 := conZero.toList) (b := Con.zero) (hr.ext h) (conZero_R W Any) ⟨hm.allowL, hm.denyL, hm.usersL, hm.kindsL⟩ ⟨Nat.zero_le _, Nat.zero_le _, Nat.zero_le _, Nat.zero_le _⟩
  have CT := fun W (h : Below w.heap.size w W) => r6_text (k := k) (hr.ext h)
  have CNu := fun W => r6_number k c.n W
  have CTa := fun W (h : Below w.heap.size w W) => r6_target (k := k) (hr.ext h)
  have CV := fun W (h : Below w.heap.size w W) => r6_via (hr.ext h) hm.via
  have CR := fun W (h : Below w.heap.size w W) => r6_rooms (hr.ext h) hm.allowL hm.allow
  have CP := fun W (h : Below w.heap.size w W) => r6_patterns A1 c1 c.allow W (h5.ext h) hm.allowL
  have CD := fun W (h : Below w.heap.size w W) => r6_patterns A2 c2 c.deny W (h6.ext h) hm.denyL
  have CL := fun W (h : Below w.heap.size w W) => R6LevelsE_any (hr.lev.ext h) ⟨hm.usersL, hm.kindsL⟩ hm.users
  have hz : decide (c = Con.zero) = decide (setN c = 0) := decide_eq_decide.2 setN_Con.symm
  simp only [hz] at CS
  obtain ⟨kn, hkn⟩ : ∃ b, knownB k = b := ⟨_, rfl⟩
  obtain ⟨on, hon⟩ : ∃ b, onlyB k c = b := ⟨_, rfl⟩
  obtain ⟨ba, hba⟩ : ∃ b, bareK k = b := ⟨_, rfl⟩
  obtain ⟨sz, hsz⟩ : ∃ b, decide (setN c = 0) = b := ⟨_, rfl⟩
  obtain ⟨e1, he1⟩ : ∃ b, textE k c = b := ⟨_, rfl⟩
  obtain ⟨e2, he2⟩ : ∃ b, numR k c.n = b := ⟨_, rfl⟩
  obtain ⟨e3, he3⟩ : ∃ b, targetR k c = b := ⟨_, rfl⟩
  obtain ⟨e4, he4⟩ : ∃ b, viaE c = b := ⟨_, rfl⟩
  obtain ⟨e5, he5⟩ : ∃ b, rulesE c = b := ⟨_, rfl⟩
  obtain ⟨e6, he6⟩ : ∃ b, patternsE c.allow = b := ⟨_, rfl⟩
  obtain ⟨e7, he7⟩ : ∃ b, patternsE c.deny = b := ⟨_, rfl⟩
  obtain ⟨e8, he8⟩ : ∃ b, levelsE c.lv = b := ⟨_, rfl⟩
  have HE := hide (show ckR k c = if kn = false ∨ on = false then 1 else if ba = true ∧ sz = true then 0 else thenE e1 (thenE e2 (thenE e3 (thenE e4 (if k = 4 then e5 else thenE e6 (thenE e7 e8))))) by
    unfold ckR
    rw [hkn, hon, hba, he1, he2, he3, he4, he5, he6, he7, he8]
    by_cases q : setN c = 0
    · have hs : sz = true := by rw [← hsz]; exact decide_eq_true q
      rw [hs]; simp [q]
    · have hs : sz = false := by rw [← hsz]; exact decide_eq_false q
      rw [hs]; simp [q])
  simp only [hkn] at CKN; simp only [hon] at CO; simp only [hba] at CB; simp only [hsz] at CS; simp only [he1] at CT; simp only [he2] at CNu; simp only [he3] at CTa; simp only [he4] at CV; simp only [he5] at CR; simp only [he6] at CP; simp only [he7] at CD; simp only [he8] at CL
  have HB := hide B
  have t1 := s1
  clear hr hm h5 h6 B hz hkn hon hba hsz he1 he2 he3 he4 he5 he6 he7 he8 s0 s1 s2 s3 s4
  generalize hE : ckR k c = E at HE ⊢
  clear hE
  cases kn
  case false =>
    have HV := hide (show E = 1 by rw [HE.out, if_pos (.inl rfl)])
    go_enter Tryz.func84, Tryz.ntmps84
    go_wp2_with (go_at_call 131; refine (CKN _).mono ?_; rintro e w2 ⟨rfl, hw2⟩; rw [hw2]; clear hw2 w2)
    go_ret
    exact ⟨by rw [HV.out]; rfl, hb⟩
  cases on
  case false =>
    have HV := hide (show E = 1 by rw [HE.out, if_pos (.inr rfl)])
    go_enter Tryz.func84, Tryz.ntmps84
    go_wp2_with (first | (go_at_call 131; refine (CKN _).mono ?_; rintro e w2 ⟨rfl, hw2⟩; rw [hw2]; clear hw2 w2) | refine wpList_loadS rfl (.tmp 3) rfl strcC ⟨w.heap.size, 0, none⟩ rfl cs HL.out (box_all HB.out) ?_ | (go_at_call 132; refine (CO _ hb).mono ?_; rintro e w3 ⟨rfl, k3⟩; have HB3 := hide (box_below HB.out k3); have hb3 := ext_trans hb k3))
    go_ret
    exact ⟨by rw [HV.out]; rfl, hb3⟩
  have HE2 := hide (show E = if ba = true ∧ sz = true then 0 else thenE e1 (thenE e2 (thenE e3 (thenE e4 (if k = 4 then e5 else thenE e6 (thenE e7 e8))))) by rw [HE.out, if_neg (by simp)])
  clear HE
  have hx : (ba = true ∧ sz = true) ∨ (ba = false) ∨ (ba = true ∧ sz = false) := by cases ba <;> cases sz <;> simp
  rcases hx with ⟨rfl, rfl⟩ | hx
  · have HV := hide (show E = 0 by rw [HE2.out]; rfl)
    go_enter Tryz.func84, Tryz.ntmps84
    go_wp2_with (first | (go_at_call 131; refine (CKN _).mono ?_; rintro e w2 ⟨rfl, hw2⟩; rw [hw2]; clear hw2 w2) | refine wpList_loadS rfl (.tmp 3) rfl strcC ⟨w.heap.size, 0, none⟩ rfl cs HL.out (box_all HB.out) ?_ | (go_at_call 132; refine (CO _ hb).mono ?_; rintro e w3 ⟨rfl, k3⟩; have HB3 := hide (box_below HB.out k3); have hb3 := ext_trans hb k3) | (go_at_call 133; refine (CB _).mono ?_; rintro e w2 ⟨rfl, hw2⟩; rw [hw2]; clear hw2 w2) | refine wpList_loadS rfl (.tmp 3) rfl strcC ⟨w.heap.size, 0, none⟩ rfl cs HL.out (box_all HB3.out) ?_ | (go_at_call 42; refine (CS _ hb3).mono ?_; rintro e w4 ⟨rfl, k4⟩; have HB4 := hide (box_below HB3.out k4); have hb4 := ext_trans hb3 k4))
    go_ret
    exact ⟨by rw [HV.out]; rfl, hb4⟩
  have HE3 := hide (show E = thenE e1 (thenE e2 (thenE e3 (thenE e4 (if k = 4 then e5 else thenE e6 (thenE e7 e8))))) by
    rw [HE2.out, if_neg (by rcases hx with rfl | ⟨rfl, rfl⟩ <;> simp)])
  clear HE2
  rcases hx with rfl | ⟨rfl, rfl⟩
  · go_enter Tryz.func84, Tryz.ntmps84
    go_upto_region 5 with (first | (go_at_call 131; refine (CKN _).mono ?_; rintro e w2 ⟨rfl, hw2⟩; rw [hw2]; clear hw2 w2) | refine wpList_loadS rfl (.tmp 3) rfl strcC ⟨w.heap.size, 0, none⟩ rfl cs HL.out (box_all HB.out) ?_ | (go_at_call 132; refine (CO _ hb).mono ?_; rintro e w3 ⟨rfl, k3⟩; have HB3 := hide (box_below HB.out k3); have hb3 := ext_trans hb k3) | (go_at_call 133; refine (CB _).mono ?_; rintro e w2 ⟨rfl, hw2⟩; rw [hw2]; clear hw2 w2) | refine wpList_loadS rfl (.tmp 3) rfl strcC ⟨w.heap.size, 0, none⟩ rfl cs HL.out (box_all HB3.out) ?_ | (go_at_call 42; refine (CS _ hb3).mono ?_; rintro e w4 ⟨rfl, k4⟩; have HB4 := hide (box_below HB3.out k4); have hb4 := ext_trans hb3 k4))
    have hbx := hb3
    have HBx := HB3
    clear hb3 HB3
    go_upto_region 6 with (first | refine wpList_loadS rfl (.tmp 3) rfl strcC ⟨w.heap.size, 0, none⟩ rfl cs HL.out (box_all HBx.out) ?_ | (go_at_call 134; refine (CT _ hbx).mono ?_; rintro e wy1 ⟨rfl, kx1⟩))
    have hbx := ext_trans hbx kx1
    have HBx := hide (box_below HBx.out kx1)
    clear kx1
    by_cases h1 : e1 = 0
    case neg =>
      have HV := hide (show E = e1 by rw [HE3.out]; exact if_pos h1)
      have h' : (e1 != 0) = true := by simpa using h1
      clear h1
      go_wp2_with fail
      go_ret
      exact ⟨by rw [HV.out]; rfl, hbx⟩
    subst h1
    have HE3 := hide (show E = thenE e2 (thenE e3 (thenE e4 (if k = 4 then e5 else thenE e6 (thenE e7 e8)))) by rw [HE3.out]; exact thenE_z)
    have q1 := box_at HBx.out t1
    go_upto_region 9 with ((go_at_call 135; refine (CNu _).mono ?_; rintro e wy2 ⟨rfl, hw2⟩; rw [hw2]; clear hw2 wy2))
    clear q1
    by_cases h2 : e2 = 0
    case neg =>
      have HV := hide (show E = e2 by rw [HE3.out]; exact if_pos h2)
      have h' : (e2 != 0) = true := by simpa using h2
      clear h2
      go_wp2_with fail
      go_ret
      exact ⟨by rw [HV.out]; rfl, hbx⟩
    subst h2
    have HE3 := hide (show E = thenE e3 (thenE e4 (if k = 4 then e5 else thenE e6 (thenE e7 e8))) by rw [HE3.out]; exact thenE_z)
    go_upto_region 12 with (first | refine wpList_loadS rfl (.tmp 3) rfl strcC ⟨w.heap.size, 0, none⟩ rfl cs HL.out (box_all HBx.out) ?_ | (go_at_call 136; refine (CTa _ hbx).mono ?_; rintro e wy3 ⟨rfl, kx3⟩))
    have hbx := ext_trans hbx kx3
    have HBx := hide (box_below HBx.out kx3)
    clear kx3
    by_cases h3 : e3 = 0
    case neg =>
      have HV := hide (show E = e3 by rw [HE3.out]; exact if_pos h3)
      have h' : (e3 != 0) = true := by simpa using h3
      clear h3
      go_wp2_with fail
      go_ret
      exact ⟨by rw [HV.out]; rfl, hbx⟩
    subst h3
    have HE3 := hide (show E = thenE e4 (if k = 4 then e5 else thenE e6 (thenE e7 e8)) by rw [HE3.out]; exact thenE_z)
    go_upto_region 15 with (first | refine wpList_loadS rfl (.tmp 3) rfl strcC ⟨w.heap.size, 0, none⟩ rfl cs HL.out (box_all HBx.out) ?_ | (go_at_call 137; refine (CV _ hbx).mono ?_; rintro e wy4 ⟨rfl, kx4⟩))
    have hbx := ext_trans hbx kx4
    have HBx := hide (box_below HBx.out kx4)
    clear kx4
    by_cases h4 : e4 = 0
    case neg =>
      have HV := hide (show E = e4 by rw [HE3.out]; exact if_pos h4)
      have h' : (e4 != 0) = true := by simpa using h4
      clear h4
      go_wp2_with fail
      go_ret
      exact ⟨by rw [HV.out]; rfl, hbx⟩
    subst h4
    have HE3 := hide (show E = if k = 4 then e5 else thenE e6 (thenE e7 e8) by rw [HE3.out]; exact thenE_z)
    by_cases hk : k = 4
    · have HV := hide (show E = e5 by rw [HE3.out, if_pos hk])
      have hk' : (k == 4) = true := by simpa using hk
      clear hk
      go_wp2_with (first | refine wpList_loadS rfl (.tmp 3) rfl strcC ⟨w.heap.size, 0, none⟩ rfl cs HL.out (box_all HBx.out) ?_ | (go_at_call 138; refine (CR _ hbx).mono ?_; rintro e wy5 ⟨rfl, kx5⟩))
      go_ret
      exact ⟨by rw [HV.out]; rfl, ext_trans hbx kx5⟩
    have HE3 := hide (show E = thenE e6 (thenE e7 e8) by rw [HE3.out, if_neg hk])
    have hk' : (k == 4) = false := by simpa using hk
    clear hk
    have q5 := box_at HBx.out s5
    go_upto_region 20 with ((go_at_call 139; refine (CP _ hbx).mono ?_; rintro e wy6 ⟨rfl, kx6⟩))
    have hbx := ext_trans hbx kx6
    have HBx := hide (box_below HBx.out kx6)
    clear q5
    clear kx6
    by_cases h6 : e6 = 0
    case neg =>
      have HV := hide (show E = e6 by rw [HE3.out]; exact if_pos h6)
      have h' : (e6 != 0) = true := by simpa using h6
      clear h6
      go_wp2_with fail
      go_ret
      exact ⟨by rw [HV.out]; rfl, hbx⟩
    subst h6
    have HE3 := hide (show E = thenE e7 e8 by rw [HE3.out]; exact thenE_z)
    have q6 := box_at HBx.out s6
    go_upto_region 23 with ((go_at_call 139; refine (CD _ hbx).mono ?_; rintro e wy7 ⟨rfl, kx7⟩))
    have hbx := ext_trans hbx kx7
    have HBx := hide (box_below HBx.out kx7)
    clear q6
    clear kx7
    by_cases h7 : e7 = 0
    case neg =>
      have HV := hide (show E = e7 by rw [HE3.out]; exact if_pos h7)
      have h' : (e7 != 0) = true := by simpa using h7
      clear h7
      go_wp2_with fail
      go_ret
      exact ⟨by rw [HV.out]; rfl, hbx⟩
    subst h7
    have HE3 := hide (show E = e8 by rw [HE3.out]; exact thenE_z)
    go_wp2_with (first | refine wpList_loadS rfl (.tmp 67) rfl strcL ⟨w.heap.size, 7, none⟩ rfl (cs.drop 7) HN.out (box_from HBx.out) ?_ | (go_at_call 140; refine (CL _ hbx).mono ?_; rintro e wy8 ⟨rfl, kx8⟩))
    go_ret
    exact ⟨by rw [HE3.out]; rfl, ext_trans hbx kx8⟩
  · go_enter Tryz.func84, Tryz.ntmps84
    go_upto_region 5 with (first | (go_at_call 131; refine (CKN _).mono ?_; rintro e w2 ⟨rfl, hw2⟩; rw [hw2]; clear hw2 w2) | refine wpList_loadS rfl (.tmp 3) rfl strcC ⟨w.heap.size, 0, none⟩ rfl cs HL.out (box_all HB.out) ?_ | (go_at_call 132; refine (CO _ hb).mono ?_; rintro e w3 ⟨rfl, k3⟩; have HB3 := hide (box_below HB.out k3); have hb3 := ext_trans hb k3) | (go_at_call 133; refine (CB _).mono ?_; rintro e w2 ⟨rfl, hw2⟩; rw [hw2]; clear hw2 w2) | refine wpList_loadS rfl (.tmp 3) rfl strcC ⟨w.heap.size, 0, none⟩ rfl cs HL.out (box_all HB3.out) ?_ | (go_at_call 42; refine (CS _ hb3).mono ?_; rintro e w4 ⟨rfl, k4⟩; have HB4 := hide (box_below HB3.out k4); have hb4 := ext_trans hb3 k4))
    have hbx := hb4
    have HBx := HB4
    clear hb4 HB4
    go_upto_region 6 with (first | refine wpList_loadS rfl (.tmp 3) rfl strcC ⟨w.heap.size, 0, none⟩ rfl cs HL.out (box_all HBx.out) ?_ | (go_at_call 134; refine (CT _ hbx).mono ?_; rintro e wy1 ⟨rfl, kx1⟩))
    have hbx := ext_trans hbx kx1
    have HBx := hide (box_below HBx.out kx1)
    clear kx1
    by_cases h1 : e1 = 0
    case neg =>
      have HV := hide (show E = e1 by rw [HE3.out]; exact if_pos h1)
      have h' : (e1 != 0) = true := by simpa using h1
      clear h1
      go_wp2_with fail
      go_ret
      exact ⟨by rw [HV.out]; rfl, hbx⟩
    subst h1
    have HE3 := hide (show E = thenE e2 (thenE e3 (thenE e4 (if k = 4 then e5 else thenE e6 (thenE e7 e8)))) by rw [HE3.out]; exact thenE_z)
    have q1 := box_at HBx.out t1
    go_upto_region 9 with ((go_at_call 135; refine (CNu _).mono ?_; rintro e wy2 ⟨rfl, hw2⟩; rw [hw2]; clear hw2 wy2))
    clear q1
    by_cases h2 : e2 = 0
    case neg =>
      have HV := hide (show E = e2 by rw [HE3.out]; exact if_pos h2)
      have h' : (e2 != 0) = true := by simpa using h2
      clear h2
      go_wp2_with fail
      go_ret
      exact ⟨by rw [HV.out]; rfl, hbx⟩
    subst h2
    have HE3 := hide (show E = thenE e3 (thenE e4 (if k = 4 then e5 else thenE e6 (thenE e7 e8))) by rw [HE3.out]; exact thenE_z)
    go_upto_region 12 with (first | refine wpList_loadS rfl (.tmp 3) rfl strcC ⟨w.heap.size, 0, none⟩ rfl cs HL.out (box_all HBx.out) ?_ | (go_at_call 136; refine (CTa _ hbx).mono ?_; rintro e wy3 ⟨rfl, kx3⟩))
    have hbx := ext_trans hbx kx3
    have HBx := hide (box_below HBx.out kx3)
    clear kx3
    by_cases h3 : e3 = 0
    case neg =>
      have HV := hide (show E = e3 by rw [HE3.out]; exact if_pos h3)
      have h' : (e3 != 0) = true := by simpa using h3
      clear h3
      go_wp2_with fail
      go_ret
      exact ⟨by rw [HV.out]; rfl, hbx⟩
    subst h3
    have HE3 := hide (show E = thenE e4 (if k = 4 then e5 else thenE e6 (thenE e7 e8)) by rw [HE3.out]; exact thenE_z)
    go_upto_region 15 with (first | refine wpList_loadS rfl (.tmp 3) rfl strcC ⟨w.heap.size, 0, none⟩ rfl cs HL.out (box_all HBx.out) ?_ | (go_at_call 137; refine (CV _ hbx).mono ?_; rintro e wy4 ⟨rfl, kx4⟩))
    have hbx := ext_trans hbx kx4
    have HBx := hide (box_below HBx.out kx4)
    clear kx4
    by_cases h4 : e4 = 0
    case neg =>
      have HV := hide (show E = e4 by rw [HE3.out]; exact if_pos h4)
      have h' : (e4 != 0) = true := by simpa using h4
      clear h4
      go_wp2_with fail
      go_ret
      exact ⟨by rw [HV.out]; rfl, hbx⟩
    subst h4
    have HE3 := hide (show E = if k = 4 then e5 else thenE e6 (thenE e7 e8) by rw [HE3.out]; exact thenE_z)
    by_cases hk : k = 4
    · have HV := hide (show E = e5 by rw [HE3.out, if_pos hk])
      have hk' : (k == 4) = true := by simpa using hk
      clear hk
      go_wp2_with (first | refine wpList_loadS rfl (.tmp 3) rfl strcC ⟨w.heap.size, 0, none⟩ rfl cs HL.out (box_all HBx.out) ?_ | (go_at_call 138; refine (CR _ hbx).mono ?_; rintro e wy5 ⟨rfl, kx5⟩))
      go_ret
      exact ⟨by rw [HV.out]; rfl, ext_trans hbx kx5⟩
    have HE3 := hide (show E = thenE e6 (thenE e7 e8) by rw [HE3.out, if_neg hk])
    have hk' : (k == 4) = false := by simpa using hk
    clear hk
    have q5 := box_at HBx.out s5
    go_upto_region 20 with ((go_at_call 139; refine (CP _ hbx).mono ?_; rintro e wy6 ⟨rfl, kx6⟩))
    have hbx := ext_trans hbx kx6
    have HBx := hide (box_below HBx.out kx6)
    clear q5
    clear kx6
    by_cases h6 : e6 = 0
    case neg =>
      have HV := hide (show E = e6 by rw [HE3.out]; exact if_pos h6)
      have h' : (e6 != 0) = true := by simpa using h6
      clear h6
      go_wp2_with fail
      go_ret
      exact ⟨by rw [HV.out]; rfl, hbx⟩
    subst h6
    have HE3 := hide (show E = thenE e7 e8 by rw [HE3.out]; exact thenE_z)
    have q6 := box_at HBx.out s6
    go_upto_region 23 with ((go_at_call 139; refine (CD _ hbx).mono ?_; rintro e wy7 ⟨rfl, kx7⟩))
    have hbx := ext_trans hbx kx7
    have HBx := hide (box_below HBx.out kx7)
    clear q6
    clear kx7
    by_cases h7 : e7 = 0
    case neg =>
      have HV := hide (show E = e7 by rw [HE3.out]; exact if_pos h7)
      have h' : (e7 != 0) = true := by simpa using h7
      clear h7
      go_wp2_with fail
      go_ret
      exact ⟨by rw [HV.out]; rfl, hbx⟩
    subst h7
    have HE3 := hide (show E = e8 by rw [HE3.out]; exact thenE_z)
    go_wp2_with (first | refine wpList_loadS rfl (.tmp 67) rfl strcL ⟨w.heap.size, 7, none⟩ rfl (cs.drop 7) HN.out (box_from HBx.out) ?_ | (go_at_call 140; refine (CL _ hbx).mono ?_; rintro e wy8 ⟨rfl, kx8⟩))
    go_ret
    exact ⟨by rw [HE3.out]; rfl, ext_trans hbx kx8⟩
end
end Go.Proofs.YtmlnmcoophnlaaaGreat

/-
  content: patterns, Levels.
-/
import Derived.Test.YtmlnmcoophnlaaaGreatCkB
import Derived.Test.YtmlnmcoophnlaaaGreatSames6
set_option linter.unusedVariables false
set_option linter.unusedSimpArgs false
namespace Go.Proofs.YtmlnmcoophnlaaaGreat
open Go.RowKit
section
attribute [local go_sem] Addr.add_mid
theorem highs_next {v : Lev} {k : Nat} {n : Int} (h : ∀ n ∈ (restL v).take k, highB n = false) (hg : (restL v)[k]? = some n) (hn : highB n = false) : ∀ n ∈ (restL v).take (k + 1), highB n = false := by
  intro m hm
  rw [List.take_add_one, hg] at hm
  rcases List.mem_append.1 hm with h1 | h1
  · exact h m h1
  · simp at h1; rw [h1]; exact hn
theorem highs_yes {v : Lev} {n : Int} (hm : n ∈ restL v) (hn : highB n = true) : highs v = true := List.any_eq_true.2 ⟨n, hm, hn⟩
theorem highs_no {v : Lev} (h : ∀ n ∈ (restL v).take 7, highB n = false) : highs v = false := by
  unfold highs
  rw [Bool.eq_false_iff]
  intro h1
  obtain ⟨n, hn, hh⟩ := List.any_eq_true.1 h1
  rw [h n hn] at hh; cases hh
theorem highs_eq (v : Lev) {b1 b2 b3 b4 b5 b6 b7 : Bool} (h1 : highB v.user = b1) (h2 : highB v.message = b2) (h3 : highB v.state = b3) (h4 : highB v.invite = b4) (h5 : highB v.kick = b5) (h6 : highB v.ban = b6) (h7 : highB v.redact = b7) :
    highs v = (b1 || (b2 || (b3 || (b4 || (b5 || (b6 || (b7 || false))))))) := by
  subst h1 h2 h3 h4 h5 h6 h7; rfl
set_option maxRecDepth 100000 in
set_option maxHeartbeats 1600000 in
theorem patterns_any (A : Option Addr) (c : Nat) (l : List ByteArray) (w : World) (hr : Row w w.heap.size A (svs l)) (hl : l.length ≤ 1073741824) :
    Calls Tryz.prog 112 #[.slice A l.length c] w (Errs (patternsE l) w) := by
  by_cases h100 : 100 < l.length
  · have HV := hide (show patternsE l = 7 from if_pos h100)
    go_enter Tryz.func112, Tryz.ntmps112
    go_wp2_with fail
    go_ret
    exact ⟨by rw [HV.out]; rfl, ext_refl _⟩
  have HV := hide (show patternsE l = firstE globF none l from if_neg h100)
  go_enter Tryz.func112, Tryz.ntmps112
  go_wp2_with fail
  go_loop [11] (fun i => ∃ k : Nat, k ≤ l.length ∧ i = .int .i64 (k : Int) ∧ Hid (FE globF l k)) (fun i => l.length - (intOf i).toNat)
  case atStart => exact ⟨0, Nat.zero_le _, rfl, FE.start⟩
  case round =>
  obtain ⟨k, hk, rfl, HK⟩ := hrel
  by_cases hlt : k < l.length
  · obtain ⟨b, o, rfl, hb, hc⟩ := hr.fix (svs_get l k hlt)
    have r0 := hc _ _ (svs_get l k hlt)
    have CG := fun W => glob_any l[k] W
    obtain ⟨s, hs⟩ : ∃ s, s = l[k] := ⟨_, rfl⟩
    obtain ⟨g, hg⟩ : ∃ g, globE l[k] = g := ⟨_, rfl⟩
    have HE := hide (fun h0 : g ≠ 0 => HK.out.err (e := g) hlt hg h0)
    have HN := hide (fun h0 : g = 0 => HK.out.next hlt (hg.trans h0))
    simp only [hg] at CG
    rw [← hs] at r0 CG
    clear hs hg hc
    by_cases h0 : g = 0
    · have HN' := hide (HN.out h0)
      subst h0
      go_wp2_with (go_at_call 168; refine (CG _).mono ?_; rintro e w2 ⟨rfl, hw2⟩; rw [hw2]; clear hw2 w2)
      go_round
      case rel => exact ⟨k + 1, by omega, by go_num, HN'.out⟩
      case measure => (simp [intOf]; try omega)
    · have HE' := hide (HE.out h0)
      have h1 : (g != 0) = true := by simpa using h0
      clear h0
      go_wp2_with (go_at_call 168; refine (CG _).mono ?_; rintro e w2 ⟨rfl, hw2⟩; rw [hw2]; clear hw2 w2)
      go_ret
      exact ⟨by rw [HV.out, HE'.out]; rfl, ext_refl _⟩
  · obtain rfl : k = l.length := by omega
    have HF := hide HK.out.fin
    go_wp2_with fail
    go_ret
    exact ⟨by rw [HV.out, HF.out]; rfl, ext_refl _⟩
set_option maxRecDepth 100000 in
set_option maxHeartbeats 3000000 in
theorem Levels_any {S : Nat → Prop} {cs : List Value} {v : Lev} {w : World} (hr : LevR w S cs v) (hl : v.users.length ≤ 1073741824 ∧ v.kinds.length ≤ 1073741824) (hs : ∀ x ∈ v.users, x.1.size ≤ 1073741824) :
    Calls Tryz.prog 113 #[.agg cs.toArray] w (Errs (levelsE v) w) := by
  obtain ⟨vu, vk, rfl, hu, hk⟩ := hr
  obtain ⟨A1, c1, rfl, _, _, _, hu, _⟩ := hu.form
  obtain ⟨A2, c2, rfl, _, _, _, hk, _⟩ := hk.form
  rw [levCells_get]
  have CU := fun W (hb : Below w.heap.size w W) => Cusers_any A1 c1 v.users W (hu.ext hb) hl.1 hs
  have CK := fun W (hb : Below w.heap.size w W) => Ckinds_any A2 c2 v.kinds W (hk.ext hb) hl.2
  have B0 := heap_alloc_new w (.cells #[.slice A1 v.users.length c1, .slice A2 v.kinds.length c2, .int .i64 v.user, .int .i64 v.message, .int .i64 v.state, .int .i64 v.invite, .int .i64 v.kick, .int .i64 v.ban, .int .i64 v.redact] 29)
  have hb0 := ext_alloc (ext_refl w) (.cells #[.slice A1 v.users.length c1, .slice A2 v.kinds.length c2, .int .i64 v.user, .int .i64 v.message, .int .i64 v.state, .int .i64 v.invite, .int .i64 v.kick, .int .i64 v.ban, .int .i64 v.redact] 29)
  obtain ⟨e1, he1⟩ : ∃ e1, usersE v.users = e1 := ⟨_, rfl⟩
  obtain ⟨e2, he2⟩ : ∃ e2, kindsE v.kinds = e2 := ⟨_, rfl⟩
  simp only [he1] at CU
  simp only [he2] at CK
  have HV : Hid (levelsE v = if e1 ≠ 0 then e1 else if e2 ≠ 0 then e2 else if highs v = true then 2 else 0) := by unfold levelsE; rw [he1, he2]; rfl
  clear he1 he2 hu hk
  by_cases h1 : e1 = 0
  rotate_left
  · have HF := hide (show levelsE v = e1 by rw [HV.out, if_pos h1])
    have h1' : (e1 != 0) = true := by simpa using h1
    clear h1
    go_enter Tryz.func113, Tryz.ntmps113
    go_wp2_with (go_at_call 169; refine (CU _ hb0).mono ?_; rintro e w2 ⟨rfl, hb2⟩)
    go_ret
    exact ⟨by rw [HF.out]; rfl, ext_trans hb0 hb2⟩
  subst h1
  by_cases h2 : e2 = 0
  rotate_left
  · have HF := hide (show levelsE v = e2 by rw [HV.out, if_neg (by simp), if_pos h2])
    have h2' : (e2 != 0) = true := by simpa using h2
    clear h2
    go_enter Tryz.func113, Tryz.ntmps113
    go_wp2_with (first | (go_at_call 169; refine (CU _ hb0).mono ?_; rintro e w2 ⟨rfl, hb2⟩; have B2 := box_below B0 hb2; have hb3 := ext_trans hb0 hb2; have q1 : w2.cell? ⟨w.heap.size, 1, none⟩ = some (.slice A2 v.kinds.length c2) := box_at B2 rfl) | (go_at_call 170; refine (CK _ hb3).mono ?_; rintro e w3 ⟨rfl, hb4⟩))
    go_ret
    exact ⟨by rw [HF.out]; rfl, ext_trans hb3 hb4⟩
  subst h2
  have HR := hide (show levelsE v = if highs v = true then 2 else 0 by rw [HV.out, if_neg (by simp), if_neg (by simp)])
  go_enter Tryz.func113, Tryz.ntmps113
  go_wp2_with (first | (go_at_call 169; refine (CU _ hb0).mono ?_; rintro e w2 ⟨rfl, hb2⟩; have B2 := box_below B0 hb2; have hb3 := ext_trans hb0 hb2; have q1 : w2.cell? ⟨w.heap.size, 1, none⟩ = some (.slice A2 v.kinds.length c2) := box_at B2 rfl) | (go_at_call 170; refine (CK _ hb3).mono ?_; rintro e w3 ⟨rfl, hb4⟩; have B3 := box_below B2 hb4; have q2 : w3.cell? ⟨w.heap.size, 2, none⟩ = some (.int .i64 v.user) := box_at B3 rfl; have q3 : w3.cell? ⟨w.heap.size, 3, none⟩ = some (.int .i64 v.message) := box_at B3 rfl; have q4 : w3.cell? ⟨w.heap.size, 4, none⟩ = some (.int .i64 v.state) := box_at B3 rfl; have q5 : w3.cell? ⟨w.heap.size, 5, none⟩ = some (.int .i64 v.invite) := box_at B3 rfl; have q6 : w3.cell? ⟨w.heap.size, 6, none⟩ = some (.int .i64 v.kick) := box_at B3 rfl; have q7 : w3.cell? ⟨w.heap.size, 7, none⟩ = some (.int .i64 v.ban) := box_at B3 rfl; have q8 : w3.cell? ⟨w.heap.size, 8, none⟩ = some (.int .i64 v.redact) := box_at B3 rfl))
  have hb5 := ext_trans hb3 hb4
  clear hb2 hb3 hb4 B0 B2 B3 q1 q2 q3 q4 q5 q6 q7 q8 hb0 CU CK
  go_loop [34] (fun i => ∃ k : Nat, k ≤ 7 ∧ i = .int .i64 (k : Int) ∧ Hid (∀ n ∈ (restL v).take k, highB n = false)) (fun i => 7 - (intOf i).toNat)
  case atStart => exact ⟨0, Nat.zero_le _, rfl, by simp [Hid]⟩
  case round =>
  obtain ⟨k, hk, rfl, HT⟩ := hrel
  have hcase : k = 0 ∨ k = 1 ∨ k = 2 ∨ k = 3 ∨ k = 4 ∨ k = 5 ∨ k = 6 ∨ k = 7 := by omega
  clear hk
  rcases hcase with rfl | rfl | rfl | rfl | rfl | rfl | rfl | rfl
  · have CH := fun W => high_any v.user W
    obtain ⟨hh, hhe⟩ : ∃ hh, highB v.user = hh := ⟨_, rfl⟩
    simp only [hhe] at CH
    have hc : ((0 : Nat) : Int) = 0 := rfl
    have hix : ∀ W, (Instr.index 103 (.agg #[.int .i64 v.user, .int .i64 v.message, .int .i64 v.state, .int .i64 v.invite, .int .i64 v.kick, .int .i64 v.ban, .int .i64 v.redact]) (.int .i64 0)).run Tryz.prog W = .ok (.int .i64 v.user) W := fun W => by kernel_rfl
    cases hh
    · have HN := hide (highs_next (v := v) (k := 0) (n := v.user) HT.out rfl hhe)
      clear hhe HT
      go_wp2_with (go_at_call 171; refine (CH _).mono ?_; rintro e w2 ⟨rfl, hw2⟩; rw [hw2]; clear hw2 w2)
      go_round
      case rel => exact ⟨1, by omega, rfl, HN.out⟩
      case measure => (simp [intOf]; try omega)
    · have HF := hide (highs_yes (v := v) (n := v.user) (by simp [restL]) hhe)
      clear hhe HT
      go_wp2_with (go_at_call 171; refine (CH _).mono ?_; rintro e w2 ⟨rfl, hw2⟩; rw [hw2]; clear hw2 w2)
      go_ret
      exact ⟨by rw [HR.out, HF.out]; rfl, hb5⟩
  · have CH := fun W => high_any v.message W
    obtain ⟨hh, hhe⟩ : ∃ hh, highB v.message = hh := ⟨_, rfl⟩
    simp only [hhe] at CH
    have hc : ((1 : Nat) : Int) = 1 := rfl
    have hix : ∀ W, (Instr.index 103 (.agg #[.int .i64 v.user, .int .i64 v.message, .int .i64 v.state, .int .i64 v.invite, .int .i64 v.kick, .int .i64 v.ban, .int .i64 v.redact]) (.int .i64 1)).run Tryz.prog W = .ok (.int .i64 v.message) W := fun W => by kernel_rfl
    cases hh
    · have HN := hide (highs_next (v := v) (k := 1) (n := v.message) HT.out rfl hhe)
      clear hhe HT
      go_wp2_with (go_at_call 171; refine (CH _).mono ?_; rintro e w2 ⟨rfl, hw2⟩; rw [hw2]; clear hw2 w2)
      go_round
      case rel => exact ⟨2, by omega, rfl, HN.out⟩
      case measure => (simp [intOf]; try omega)
    · have HF := hide (highs_yes (v := v) (n := v.message) (by simp [restL]) hhe)
      clear hhe HT
      go_wp2_with (go_at_call 171; refine (CH _).mono ?_; rintro e w2 ⟨rfl, hw2⟩; rw [hw2]; clear hw2 w2)
      go_ret
      exact ⟨by rw [HR.out, HF.out]; rfl, hb5⟩
  · have CH := fun W => high_any v.state W
    obtain ⟨hh, hhe⟩ : ∃ hh, highB v.state = hh := ⟨_, rfl⟩
    simp only [hhe] at CH
    have hc : ((2 : Nat) : Int) = 2 := rfl
    have hix : ∀ W, (Instr.index 103 (.agg #[.int .i64 v.user, .int .i64 v.message, .int .i64 v.state, .int .i64 v.invite, .int .i64 v.kick, .int .i64 v.ban, .int .i64 v.redact]) (.int .i64 2)).run Tryz.prog W = .ok (.int .i64 v.state) W := fun W => by kernel_rfl
    cases hh
    · have HN := hide (highs_next (v := v) (k := 2) (n := v.state) HT.out rfl hhe)
      clear hhe HT
      go_wp2_with (go_at_call 171; refine (CH _).mono ?_; rintro e w2 ⟨rfl, hw2⟩; rw [hw2]; clear hw2 w2)
      go_round
      case rel => exact ⟨3, by omega, rfl, HN.out⟩
      case measure => (simp [intOf]; try omega)
    · have HF := hide (highs_yes (v := v) (n := v.state) (by simp [restL]) hhe)
      clear hhe HT
      go_wp2_with (go_at_call 171; refine (CH _).mono ?_; rintro e w2 ⟨rfl, hw2⟩; rw [hw2]; clear hw2 w2)
      go_ret
      exact ⟨by rw [HR.out, HF.out]; rfl, hb5⟩
  · have CH := fun W => high_any v.invite W
    obtain ⟨hh, hhe⟩ : ∃ hh, highB v.invite = hh := ⟨_, rfl⟩
    simp only [hhe] at CH
    have hc : ((3 : Nat) : Int) = 3 := rfl
    have hix : ∀ W, (Instr.index 103 (.agg #[.int .i64 v.user, .int .i64 v.message, .int .i64 v.state, .int .i64 v.invite, .int .i64 v.kick, .int .i64 v.ban, .int .i64 v.redact]) (.int .i64 3)).run Tryz.prog W = .ok (.int .i64 v.invite) W := fun W => by kernel_rfl
    cases hh
    · have HN := hide (highs_next (v := v) (k := 3) (n := v.invite) HT.out rfl hhe)
      clear hhe HT
      go_wp2_with (go_at_call 171; refine (CH _).mono ?_; rintro e w2 ⟨rfl, hw2⟩; rw [hw2]; clear hw2 w2)
      go_round
      case rel => exact ⟨4, by omega, rfl, HN.out⟩
      case measure => (simp [intOf]; try omega)
    · have HF := hide (highs_yes (v := v) (n := v.invite) (by simp [restL]) hhe)
      clear hhe HT
      go_wp2_with (go_at_call 171; refine (CH _).mono ?_; rintro e w2 ⟨rfl, hw2⟩; rw [hw2]; clear hw2 w2)
      go_ret
      exact ⟨by rw [HR.out, HF.out]; rfl, hb5⟩
  · have CH := fun W => high_any v.kick W
    obtain ⟨hh, hhe⟩ : ∃ hh, highB v.kick = hh := ⟨_, rfl⟩
    simp only [hhe] at CH
    have hc : ((4 : Nat) : Int) = 4 := rfl
    have hix : ∀ W, (Instr.index 103 (.agg #[.int .i64 v.user, .int .i64 v.message, .int .i64 v.state, .int .i64 v.invite, .int .i64 v.kick, .int .i64 v.ban, .int .i64 v.redact]) (.int .i64 4)).run Tryz.prog W = .ok (.int .i64 v.kick) W := fun W => by kernel_rfl
    cases hh
    · have HN := hide (highs_next (v := v) (k := 4) (n := v.kick) HT.out rfl hhe)
      clear hhe HT
      go_wp2_with (go_at_call 171; refine (CH _).mono ?_; rintro e w2 ⟨rfl, hw2⟩; rw [hw2]; clear hw2 w2)
      go_round
      case rel => exact ⟨5, by omega, rfl, HN.out⟩
      case measure => (simp [intOf]; try omega)
    · have HF := hide (highs_yes (v := v) (n := v.kick) (by simp [restL]) hhe)
      clear hhe HT
      go_wp2_with (go_at_call 171; refine (CH _).mono ?_; rintro e w2 ⟨rfl, hw2⟩; rw [hw2]; clear hw2 w2)
      go_ret
      exact ⟨by rw [HR.out, HF.out]; rfl, hb5⟩
  · have CH := fun W => high_any v.ban W
    obtain ⟨hh, hhe⟩ : ∃ hh, highB v.ban = hh := ⟨_, rfl⟩
    simp only [hhe] at CH
    have hc : ((5 : Nat) : Int) = 5 := rfl
    have hix : ∀ W, (Instr.index 103 (.agg #[.int .i64 v.user, .int .i64 v.message, .int .i64 v.state, .int .i64 v.invite, .int .i64 v.kick, .int .i64 v.ban, .int .i64 v.redact]) (.int .i64 5)).run Tryz.prog W = .ok (.int .i64 v.ban) W := fun W => by kernel_rfl
    cases hh
    · have HN := hide (highs_next (v := v) (k := 5) (n := v.ban) HT.out rfl hhe)
      clear hhe HT
      go_wp2_with (go_at_call 171; refine (CH _).mono ?_; rintro e w2 ⟨rfl, hw2⟩; rw [hw2]; clear hw2 w2)
      go_round
      case rel => exact ⟨6, by omega, rfl, HN.out⟩
      case measure => (simp [intOf]; try omega)
    · have HF := hide (highs_yes (v := v) (n := v.ban) (by simp [restL]) hhe)
      clear hhe HT
      go_wp2_with (go_at_call 171; refine (CH _).mono ?_; rintro e w2 ⟨rfl, hw2⟩; rw [hw2]; clear hw2 w2)
      go_ret
      exact ⟨by rw [HR.out, HF.out]; rfl, hb5⟩
  · have CH := fun W => high_any v.redact W
    obtain ⟨hh, hhe⟩ : ∃ hh, highB v.redact = hh := ⟨_, rfl⟩
    simp only [hhe] at CH
    have hc : ((6 : Nat) : Int) = 6 := rfl
    have hix : ∀ W, (Instr.index 103 (.agg #[.int .i64 v.user, .int .i64 v.message, .int .i64 v.state, .int .i64 v.invite, .int .i64 v.kick, .int .i64 v.ban, .int .i64 v.redact]) (.int .i64 6)).run Tryz.prog W = .ok (.int .i64 v.redact) W := fun W => by kernel_rfl
    cases hh
    · have HN := hide (highs_next (v := v) (k := 6) (n := v.redact) HT.out rfl hhe)
      clear hhe HT
      go_wp2_with (go_at_call 171; refine (CH _).mono ?_; rintro e w2 ⟨rfl, hw2⟩; rw [hw2]; clear hw2 w2)
      go_round
      case rel => exact ⟨7, by omega, rfl, HN.out⟩
      case measure => (simp [intOf]; try omega)
    · have HF := hide (highs_yes (v := v) (n := v.redact) (by simp [restL]) hhe)
      clear hhe HT
      go_wp2_with (go_at_call 171; refine (CH _).mono ?_; rintro e w2 ⟨rfl, hw2⟩; rw [hw2]; clear hw2 w2)
      go_ret
      exact ⟨by rw [HR.out, HF.out]; rfl, hb5⟩
  · have HF := hide (highs_no (v := v) HT.out)
    have hc : ((7 : Nat) : Int) = 7 := rfl
    clear HT
    go_wp2_with fail
    go_ret
    exact ⟨by rw [HR.out, HF.out]; rfl, hb5⟩
end
end Go.Proofs.YtmlnmcoophnlaaaGreat

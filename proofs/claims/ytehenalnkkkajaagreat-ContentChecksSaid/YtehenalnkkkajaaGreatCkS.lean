/-
  fedchatref06: Levels, patterns.
-/
import Derived.Test.YtehenalnkkkajaaGreatCkC
import Derived.Test.YtehenalnkkkajaaGreatCkR
set_option linter.unusedVariables false
set_option linter.unusedSimpArgs false
namespace Go.Proofs.YtehenalnkkkajaaGreat
open Go.RowKit
section
attribute [local go_sem] Addr.add_mid
set_option maxRecDepth 100000 in
set_option maxHeartbeats 3000000 in
theorem R6LevelsE_any {S : Nat → Prop} {cs : List Value} {v : Lev} {w : World} (hr : LevR w S cs v) (hl : v.users.length ≤ 1073741824 ∧ v.kinds.length ≤ 1073741824) (hs : ∀ x ∈ v.users, x.1.size ≤ 1073741824) :
    Calls Tryz.prog 32 #[.agg cs.toArray] w (Errs (levelsE v) w) := by
  obtain ⟨vu, vk, rfl, hu, hk⟩ := hr
  obtain ⟨A1, c1, rfl, _, _, _, hu, _⟩ := hu.form
  obtain ⟨A2, c2, rfl, _, _, _, hk, _⟩ := hk.form
  rw [levCells_get]
  have CU := fun W (hb : Below w.heap.size w W) => R6users_any A1 c1 v.users W (hu.ext hb) hl.1 hs
  have CK := fun W (hb : Below w.heap.size w W) => R6kinds_any A2 c2 v.kinds W (hk.ext hb) hl.2
  have B0 := heap_alloc_new w (.cells #[.slice A1 v.users.length c1, .slice A2 v.kinds.length c2, .int .i64 v.user, .int .i64 v.message, .int .i64 v.state, .int .i64 v.invite, .int .i64 v.kick, .int .i64 v.ban, .int .i64 v.redact] 27)
  have hb0 := ext_alloc (ext_refl w) (.cells #[.slice A1 v.users.length c1, .slice A2 v.kinds.length c2, .int .i64 v.user, .int .i64 v.message, .int .i64 v.state, .int .i64 v.invite, .int .i64 v.kick, .int .i64 v.ban, .int .i64 v.redact] 27)
  obtain ⟨e1, he1⟩ : ∃ e1, usersE v.users = e1 := ⟨_, rfl⟩
  obtain ⟨e2, he2⟩ : ∃ e2, kindsE v.kinds = e2 := ⟨_, rfl⟩
  simp only [he1] at CU
  simp only [he2] at CK
  have HV : Hid (levelsE v = if e1 ≠ 0 then e1 else if e2 ≠ 0 then e2 else if highs v = true then 2 else 0) := by unfold levelsE; rw [he1, he2]; rfl
  clear he1 he2 hu hk
  by_cases h1 : e1 = 0
  rotate_left
  · have HF := hide (show levelsE v = e1 by rw [HV.out, if_pos h1])
    have h1' : (e1 != 0) = true := by simpa using h1
    clear h1
    go_enter Tryz.func32, Tryz.ntmps32
    go_wp2_with (go_at_call 53; refine (CU _ hb0).mono ?_; rintro e w2 ⟨rfl, hb2⟩)
    go_ret
    exact ⟨by rw [HF.out]; rfl, ext_trans hb0 hb2⟩
  subst h1
  by_cases h2 : e2 = 0
  rotate_left
  · have HF := hide (show levelsE v = e2 by rw [HV.out, if_neg (by simp), if_pos h2])
    have h2' : (e2 != 0) = true := by simpa using h2
    clear h2
    go_enter Tryz.func32, Tryz.ntmps32
    go_wp2_with (first | (go_at_call 53; refine (CU _ hb0).mono ?_; rintro e w2 ⟨rfl, hb2⟩; have B2 := box_below B0 hb2; have hb3 := ext_trans hb0 hb2; have q1 : w2.cell? ⟨w.heap.size, 1, none⟩ = some (.slice A2 v.kinds.length c2) := box_at B2 rfl) | (go_at_call 54; refine (CK _ hb3).mono ?_; rintro e w3 ⟨rfl, hb4⟩))
    go_ret
    exact ⟨by rw [HF.out]; rfl, ext_trans hb3 hb4⟩
  subst h2
  have HR := hide (show levelsE v = if highs v = true then 2 else 0 by rw [HV.out, if_neg (by simp), if_neg (by simp)])
  go_enter Tryz.func32, Tryz.ntmps32
  obtain ⟨huser, heuser⟩ : ∃ b, highB v.user = b := ⟨_, rfl⟩
  obtain ⟨hmessage, hemessage⟩ : ∃ b, highB v.message = b := ⟨_, rfl⟩
  obtain ⟨hstate, hestate⟩ : ∃ b, highB v.state = b := ⟨_, rfl⟩
  obtain ⟨hinvite, heinvite⟩ : ∃ b, highB v.invite = b := ⟨_, rfl⟩
  obtain ⟨hkick, hekick⟩ : ∃ b, highB v.kick = b := ⟨_, rfl⟩
  obtain ⟨hban, heban⟩ : ∃ b, highB v.ban = b := ⟨_, rfl⟩
  obtain ⟨hredact, heredact⟩ : ∃ b, highB v.redact = b := ⟨_, rfl⟩
  have HA := hide (highs_eq v heuser hemessage hestate heinvite hekick heban heredact)
  go_upto_region 7 with (first | (go_at_call 53; refine (CU _ hb0).mono ?_; rintro e w2 ⟨rfl, hb2⟩; have B2 := box_below B0 hb2; have hb3 := ext_trans hb0 hb2; have q1 : w2.cell? ⟨w.heap.size, 1, none⟩ = some (.slice A2 v.kinds.length c2) := box_at B2 rfl) | (go_at_call 54; refine (CK _ hb3).mono ?_; rintro e w3 ⟨rfl, hb4⟩; have B3 := box_below B2 hb4; have q2 : w3.cell? ⟨w.heap.size, 2, none⟩ = some (.int .i64 v.user) := box_at B3 rfl; have q3 : w3.cell? ⟨w.heap.size, 3, none⟩ = some (.int .i64 v.message) := box_at B3 rfl; have q4 : w3.cell? ⟨w.heap.size, 4, none⟩ = some (.int .i64 v.state) := box_at B3 rfl; have q5 : w3.cell? ⟨w.heap.size, 5, none⟩ = some (.int .i64 v.invite) := box_at B3 rfl; have q6 : w3.cell? ⟨w.heap.size, 6, none⟩ = some (.int .i64 v.kick) := box_at B3 rfl; have q7 : w3.cell? ⟨w.heap.size, 7, none⟩ = some (.int .i64 v.ban) := box_at B3 rfl; have q8 : w3.cell? ⟨w.heap.size, 8, none⟩ = some (.int .i64 v.redact) := box_at B3 rfl))
  have hb5 := ext_trans hb3 hb4
  clear hb2 hb3 hb4 B0 B2 q1 hb0 CU CK
  cases huser with
  | true =>
    go_wp2_with (go_at_call 55; refine (wide_any _ _).mono ?_; rintro e w5 ⟨rfl, hw5⟩; rw [hw5]; clear hw5 w5; try simp only [heuser])
    go_ret
    exact ⟨by rw [HR.out, HA.out]; rfl, hb5⟩
  | false =>
    cases hmessage with
    | true =>
      go_wp2_with (go_at_call 55; refine (wide_any _ _).mono ?_; rintro e w5 ⟨rfl, hw5⟩; rw [hw5]; clear hw5 w5; try simp only [heuser, hemessage])
      go_ret
      exact ⟨by rw [HR.out, HA.out]; rfl, hb5⟩
    | false =>
      cases hstate with
      | true =>
        go_wp2_with (go_at_call 55; refine (wide_any _ _).mono ?_; rintro e w5 ⟨rfl, hw5⟩; rw [hw5]; clear hw5 w5; try simp only [heuser, hemessage, hestate])
        go_ret
        exact ⟨by rw [HR.out, HA.out]; rfl, hb5⟩
      | false =>
        cases hinvite with
        | true =>
          go_wp2_with (go_at_call 55; refine (wide_any _ _).mono ?_; rintro e w5 ⟨rfl, hw5⟩; rw [hw5]; clear hw5 w5; try simp only [heuser, hemessage, hestate, heinvite])
          go_ret
          exact ⟨by rw [HR.out, HA.out]; rfl, hb5⟩
        | false =>
          cases hkick with
          | true =>
            go_wp2_with (go_at_call 55; refine (wide_any _ _).mono ?_; rintro e w5 ⟨rfl, hw5⟩; rw [hw5]; clear hw5 w5; try simp only [heuser, hemessage, hestate, heinvite, hekick])
            go_ret
            exact ⟨by rw [HR.out, HA.out]; rfl, hb5⟩
          | false =>
            cases hban with
            | true =>
              go_wp2_with (go_at_call 55; refine (wide_any _ _).mono ?_; rintro e w5 ⟨rfl, hw5⟩; rw [hw5]; clear hw5 w5; try simp only [heuser, hemessage, hestate, heinvite, hekick, heban])
              go_ret
              exact ⟨by rw [HR.out, HA.out]; rfl, hb5⟩
            | false =>
              cases hredact with
              | true =>
                go_wp2_with (go_at_call 55; refine (wide_any _ _).mono ?_; rintro e w5 ⟨rfl, hw5⟩; rw [hw5]; clear hw5 w5; try simp only [heuser, hemessage, hestate, heinvite, hekick, heban, heredact])
                go_ret
                exact ⟨by rw [HR.out, HA.out]; rfl, hb5⟩
              | false =>
                go_wp2_with (go_at_call 55; refine (wide_any _ _).mono ?_; rintro e w5 ⟨rfl, hw5⟩; rw [hw5]; clear hw5 w5; try simp only [heuser, hemessage, hestate, heinvite, hekick, heban, heredact])
                go_ret
                exact ⟨by rw [HR.out, HA.out]; rfl, hb5⟩
end
end Go.Proofs.YtehenalnkkkajaaGreat

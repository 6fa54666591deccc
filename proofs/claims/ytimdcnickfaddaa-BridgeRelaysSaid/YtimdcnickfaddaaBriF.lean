/-
  The identity of a ghost: bridge.Back.
-/
import Derived.Test.YtimdcnickfaddaaBriE
set_option linter.unusedVariables false
set_option linter.unusedSimpArgs false
namespace Go.Proofs.Ytimdcnickfaddaa
open Go.RowKit
open Classical

/-- what Back hands back -/
noncomputable def backV (u : ByteArray) : Value :=
  if h : ∃ p : List UInt8 × List UInt8, Back u.data.toList p.1 p.2 then .tuple #[.string (str h.choose.1), .string (str h.choose.2), .int .i64 0]
  else .tuple #[.string ⟨#[]⟩, .string ⟨#[]⟩, .int .i64 (backE u.data.toList)]
theorem backV_ok {u : ByteArray} {a b : List UInt8} (h : Back u.data.toList a b) : backV u = .tuple #[.string (str a), .string (str b), .int .i64 0] := by
  have he : ∃ p : List UInt8 × List UInt8, Back u.data.toList p.1 p.2 := ⟨(a, b), h⟩
  unfold backV
  rw [dif_pos he]
  obtain ⟨h1, h2⟩ := he.choose_spec.unique h
  rw [h1, h2]
theorem backV_no {u : ByteArray} (hp : ∃ a b, Parts 64 u.data.toList a b) (h : ∀ a b, ¬ Back u.data.toList a b) : backV u = .tuple #[.string ⟨#[]⟩, .string ⟨#[]⟩, .int .i64 6] := by
  unfold backV
  rw [dif_neg (fun ⟨p, hb⟩ => h _ _ hb)]
  unfold backE
  rw [if_pos hp, if_neg (fun ⟨a, b, hb⟩ => h a b hb)]
theorem backV_bad {u : ByteArray} (hp : ∀ a b, ¬ Parts 64 u.data.toList a b) : backV u = .tuple #[.string ⟨#[]⟩, .string ⟨#[]⟩, .int .i64 3] := by
  unfold backV
  rw [dif_neg (fun ⟨p, hb⟩ => by obtain ⟨a, b, h⟩ := hb.parts; exact hp a b h)]
  unfold backE
  rw [if_neg (fun ⟨a, b, h⟩ => hp a b h)]
theorem user_parts {u a b : List UInt8} : splitL [64] u = some (a, b) ↔ Parts 64 u a b := by
  rw [split_parts]
  constructor
  · rintro ⟨x, hx, h⟩
    rw [List.mem_singleton] at hx
    rw [← hx]; exact h
  · intro h; exact ⟨64, by simp, h⟩
theorem user_partA {s : ByteArray} {a b : List UInt8} (h : Parts 64 s.data.toList a b) : partA s = str a ∧ partB s = str b := by
  have : splitL [64, 33] s.data.toList = some (a, b) := split_parts.2 ⟨64, by simp, h⟩
  unfold partA partB
  rw [this]
  exact ⟨rfl, rfl⟩
/-- User's answer, taken apart -/
theorem userV_form (net name srv : ByteArray) : ∃ g e, userV net name srv = .tuple #[.string g, .int .i64 e] ∧ (e = 0 ↔ Has net.data.toList name.data.toList srv.data.toList) ∧ (e = 0 → g = str (ghostL net.data.toList name.data.toList srv.data.toList)) := by
  refine ⟨_, _, rfl, userE_zero, fun h => ?_⟩
  unfold userS
  rw [if_pos h]
theorem unescL_length : ∀ l : List UInt8, (unescL l).length ≤ l.length
  | [] => Nat.le_refl _
  | [c] => Nat.le_refl _
  | [c, d] => Nat.le_refl _
  | c :: a :: b :: r => by
    unfold unescL
    split
    · have := unescL_length r
      simp; omega
    · have := unescL_length (a :: b :: r)
      simp at this ⊢; omega
theorem ne_lists {g u : ByteArray} (h : ¬ g = u) : (g.toList == u.toList) = false := by
  rw [bt, bt, beq_eq_false_iff_ne]
  intro e
  exact h (by rw [← str_toList g, e]; rfl)
theorem cutV_none {c : UInt8} {s : ByteArray} (h : cutL c s.data.toList = none) : cutV c s = .tuple #[.string s, .string ⟨#[]⟩, .bool false] := by unfold cutV; rw [h]
theorem cutV_some {c : UInt8} {s : ByteArray} {a b : List UInt8} (h : cutL c s.data.toList = some (a, b)) : cutV c s = .tuple #[.string (str a), .string (str b), .bool true] := by unfold cutV; rw [h]
theorem cutV_form (c : UInt8) (s : ByteArray) : ∃ x y z, cutV c s = .tuple #[.string x, .string y, .bool z] := by
  unfold cutV; split <;> exact ⟨_, _, _, rfl⟩
theorem prefix_yes (rest : List UInt8) : Lib.hasPrefix (95 :: rest) [95] = true ∧ Lib.trimPrefix (95 :: rest) [95] = rest := by
  have h : Lib.hasPrefix (95 :: rest) [95] = true := by simp [Lib.hasPrefix]
  exact ⟨h, by unfold Lib.trimPrefix; rw [if_pos h]; rfl⟩
theorem prefix_no {l : List UInt8} (hl : ∀ rest, l ≠ 95 :: rest) : Lib.hasPrefix l [95] = false ∧ Lib.trimPrefix l [95] = l := by
  have h : Lib.hasPrefix l [95] = false := by
    cases l with
    | nil => rfl
    | cons x r =>
      have : x ≠ 95 := fun e => hl r (by rw [e])
      simp [Lib.hasPrefix, List.isPrefixOf]
      exact fun e => this e.symm
  exact ⟨h, by unfold Lib.trimPrefix; rw [h]; rfl⟩

set_option maxRecDepth 100000 in
set_option maxHeartbeats 4000000 in
theorem br_Back (u : ByteArray) (w : World) (hs : u.size ≤ 1000) : Calls Try.prog 14 #[.string u] w (fun e w' => e = .returned (backV u) ∧ Below w.heap.size w w') := by
  have hz := Enc.size_toList u
  have CU := fun w => ids_User u w (by omega)
  cases hsp : splitL [64] u.data.toList with
  | none =>
    have HV := hide (backV_bad (u := u) fun a b h => by rw [user_parts.2 h] at hsp; cases hsp)
    simp only [hsp] at CU
    clear hsp hz
    go_enter Try.func14, Try.ntmps14
    go_wp2_with (go_at_call 35; refine (CU _).mono ?_; rintro e w2 ⟨rfl, hb2⟩; simp only [errN, Option.isSome_none, Bool.false_eq_true, if_false])
    go_ret3
    exact ⟨by rw [HV.out]; rfl, hb2⟩
  | some p =>
    obtain ⟨a, b⟩ := p
    have hP := user_parts.1 hsp
    obtain ⟨eA, eB⟩ := user_partA hP
    have CA := fun w => ids_LocalOf u w (by omega)
    have CB := fun w => ids_ServerOf u w (by omega)
    simp only [hsp, errN, Option.isSome_some, if_true] at CU
    rw [eA] at CA
    rw [eB] at CB
    have ha : a.length ≤ 32 := hP.2.1.2.1
    have hb : b.length ≤ 32 := hP.2.2.2.1
    have CP := fun w => Try.strings_CutPrefix (str a) ⟨#[95]⟩ w
    rw [str_data] at CP
    have hp95 : (⟨#[95]⟩ : ByteArray).data.toList = [95] := rfl
    rw [hp95] at CP
    by_cases hx : ∃ rest, a = 95 :: rest
    · obtain ⟨rest, hx⟩ := hx
      obtain ⟨g1, g2⟩ := prefix_yes rest
      rw [hx, g1, g2] at CP
      have CC := fun w => str_cut (str rest) 95 w (by rw [str_size]; rw [hx] at ha; simp at ha; omega)
      have CP' : ∀ w, Calls Try.prog 36 #[.string (str a), .string ⟨#[95]⟩] w (fun e w' => e = .returned (.tuple #[.string (str rest), .bool true]) ∧ w' = w) := by rw [hx]; exact CP
      clear CP g1 g2
      cases hc : cutL 95 rest with
      | none =>
        have HV := hide (backV_no ⟨a, b, hP⟩ (fun a' b' => back_none hP (fun r n f h1 h2 => by rw [hx] at h1; injection h1 with _ h1; rw [← h1, hc] at h2; cases h2) a' b'))
        rw [cutV_none (by rw [str_data]; exact hc)] at CC
        clear hsp hz hP eA eB hx hc
        go_enter Try.func14, Try.ntmps14
        go_wp2_with (first | (go_at_call 35; refine (CU _).mono ?_; rintro e w2 ⟨rfl, hb2⟩) | (go_at_call 37; refine (CA _).mono ?_; rintro e w3 ⟨rfl, hb3⟩) | (go_at_call 36; refine (CP' _).mono ?_; rintro e w3' ⟨rfl, rfl⟩) | (go_at_call 38; refine (CC _).mono ?_; rintro e w4 ⟨rfl, hb4⟩))
        go_ret3
        exact ⟨by rw [HV.out]; rfl, ext_trans (ext_trans hb2 hb3) hb4⟩
      | some q =>
        obtain ⟨net, form⟩ := q
        have hcut := (cutL_some hc).1
        have hlen : net.length + 1 + form.length ≤ 31 := by rw [hx, hcut] at ha; simp at ha; omega
        have hul := unescL_length form
        rw [cutV_some (by rw [str_data]; exact hc)] at CC
        have CE := fun w => br_unescaped (str form) w (by rw [str_size]; omega)
        rw [str_data] at CE
        have CG := fun w => br_User (str net) (str (unescL form)) (str b) w (by rw [str_size]; omega) (by rw [str_size]; omega) (by rw [str_size]; omega)
        obtain ⟨g, e, h1, h2, h3⟩ := userV_form (str net) (str (unescL form)) (str b)
        simp only [h1] at CG
        rw [str_data, str_data, str_data] at h2 h3
        have hbk := back_code hP hx hc
        by_cases he : e = 0
        · have hg := h3 he
          subst he
          by_cases hgu : g = u
          · have HV := hide (backV_ok (u := u) ((hbk net (unescL form)).2 ⟨rfl, rfl, h2.1 rfl, by rw [← str_data (ghostL _ _ _), ← hg, hgu]⟩))
            subst hgu
            clear hsp hz hP eA eB hx hc hcut hlen hul h1 h2 h3 hbk hg ha hb
            go_enter Try.func14, Try.ntmps14
            go_wp2_with (first | (go_at_call 35; refine (CU _).mono ?_; rintro e w2 ⟨rfl, hb2⟩) | (go_at_call 37; refine (CA _).mono ?_; rintro e w3 ⟨rfl, hb3⟩) | (go_at_call 36; refine (CP' _).mono ?_; rintro e w3' ⟨rfl, rfl⟩) | (go_at_call 38; refine (CC _).mono ?_; rintro e w4 ⟨rfl, hb4⟩) | (go_at_call 39; refine (CE _).mono ?_; rintro e w5 ⟨rfl, hb5⟩) | (go_at_call 40; refine (CB _).mono ?_; rintro e w6 ⟨rfl, hb6⟩) | (go_at_call 11; refine (CG _).mono ?_; rintro e w7 ⟨rfl, hb7⟩))
            go_ret3
            exact ⟨by rw [HV.out]; rfl, ext_trans (ext_trans (ext_trans (ext_trans (ext_trans hb2 hb3) hb4) hb5) hb6) hb7⟩
          · have HV := hide (backV_no ⟨a, b, hP⟩ (fun a' b' h => by
              obtain ⟨rfl, rfl, _, h4⟩ := (hbk a' b').1 h
              exact hgu (by rw [hg, h4]; rfl)))
            have hgu' := ne_lists hgu
            clear hsp hz hP eA eB hx hc hcut hlen hul h1 h2 h3 hbk hg ha hb
            go_enter Try.func14, Try.ntmps14
            go_wp2_with (first | (go_at_call 35; refine (CU _).mono ?_; rintro e w2 ⟨rfl, hb2⟩) | (go_at_call 37; refine (CA _).mono ?_; rintro e w3 ⟨rfl, hb3⟩) | (go_at_call 36; refine (CP' _).mono ?_; rintro e w3' ⟨rfl, rfl⟩) | (go_at_call 38; refine (CC _).mono ?_; rintro e w4 ⟨rfl, hb4⟩) | (go_at_call 39; refine (CE _).mono ?_; rintro e w5 ⟨rfl, hb5⟩) | (go_at_call 40; refine (CB _).mono ?_; rintro e w6 ⟨rfl, hb6⟩) | (go_at_call 11; refine (CG _).mono ?_; rintro e w7 ⟨rfl, hb7⟩))
            go_ret3
            exact ⟨by rw [HV.out]; rfl, ext_trans (ext_trans (ext_trans (ext_trans (ext_trans hb2 hb3) hb4) hb5) hb6) hb7⟩
        · have HV := hide (backV_no ⟨a, b, hP⟩ (fun a' b' h => by
            obtain ⟨rfl, rfl, h4, _⟩ := (hbk a' b').1 h
            exact he (h2.2 h4)))
          have he' : (e != 0) = true := by simpa using he
          clear hsp hz hP eA eB hx hc hcut hlen hul h1 h2 h3 hbk ha hb
          go_enter Try.func14, Try.ntmps14
          go_wp2_with (first | (go_at_call 35; refine (CU _).mono ?_; rintro e w2 ⟨rfl, hb2⟩) | (go_at_call 37; refine (CA _).mono ?_; rintro e w3 ⟨rfl, hb3⟩) | (go_at_call 36; refine (CP' _).mono ?_; rintro e w3' ⟨rfl, rfl⟩) | (go_at_call 38; refine (CC _).mono ?_; rintro e w4 ⟨rfl, hb4⟩) | (go_at_call 39; refine (CE _).mono ?_; rintro e w5 ⟨rfl, hb5⟩) | (go_at_call 40; refine (CB _).mono ?_; rintro e w6 ⟨rfl, hb6⟩) | (go_at_call 11; refine (CG _).mono ?_; rintro e w7 ⟨rfl, hb7⟩))
          go_ret3
          exact ⟨by rw [HV.out]; rfl, ext_trans (ext_trans (ext_trans (ext_trans (ext_trans hb2 hb3) hb4) hb5) hb6) hb7⟩
    · obtain ⟨g1, g2⟩ := prefix_no (l := a) (fun rest h => hx ⟨rest, h⟩)
      rw [g1, g2] at CP
      have HV := hide (backV_no ⟨a, b, hP⟩ (fun a' b' => back_none hP (fun r n f h1 h2 => hx ⟨r, h1⟩) a' b'))
      have CC := fun w => str_cut (str a) 95 w (by rw [str_size]; omega)
      obtain ⟨x, y, z, hv⟩ := cutV_form 95 (str a)
      simp only [hv] at CC
      have CP' : ∀ w, Calls Try.prog 36 #[.string (str a), .string ⟨#[95]⟩] w (fun e w' => e = .returned (.tuple #[.string (str a), .bool false]) ∧ w' = w) := CP
      clear hsp hz hP eA eB hx g1 g2 hv CP
      go_enter Try.func14, Try.ntmps14
      go_wp2_with (first | (go_at_call 35; refine (CU _).mono ?_; rintro e w2 ⟨rfl, hb2⟩) | (go_at_call 37; refine (CA _).mono ?_; rintro e w3 ⟨rfl, hb3⟩) | (go_at_call 36; refine (CP' _).mono ?_; rintro e w3' ⟨rfl, rfl⟩) | (go_at_call 38; refine (CC _).mono ?_; rintro e w4 ⟨rfl, hb4⟩))
      go_ret3
      exact ⟨by rw [HV.out]; rfl, ext_trans (ext_trans hb2 hb3) hb4⟩
end Go.Proofs.Ytimdcnickfaddaa

/-
  The identity of a ghost: the reference's Back.
-/
import Derived.Test.YtimdcnickfaddaaBriF
set_option linter.unusedVariables false
set_option linter.unusedSimpArgs false
namespace Go.Proofs.Ytimdcnickfaddaa
open Go.RowKit
open Classical

theorem unV_form (l : List UInt8) : ∃ nm ok, unV l = .tuple #[.string nm, .bool ok] ∧ nm.size ≤ l.length ∧ (ok = false → refUnesc l = none) ∧ (ok = true → nm = str (unescL l)) := by
  unfold unV
  cases h : refUnesc l with
  | none => exact ⟨_, _, rfl, Nat.zero_le _, fun _ => rfl, fun h => by cases h⟩
  | some n =>
    have hn := refUnesc_some h
    refine ⟨str n, true, rfl, ?_, nofun, fun _ => by rw [hn]⟩
    rw [str_size, ← hn]
    exact unescL_length l
/-- where the reference looks for the second underscore -/
def Seek (s : ByteArray) (k : Nat) : Prop := ∀ c ∈ (s.data.toList.drop 1).take (k - 1), c ≠ 95
theorem Seek.next {s : ByteArray} {k : Nat} (h : Seek s k) (h1 : 1 ≤ k) (hk : k < s.size) (hx : s[k] ≠ 95) : Seek s (k + 1) := by
  obtain ⟨hl, hg⟩ := list_at s hk
  unfold Seek at h ⊢
  have e : k + 1 - 1 = (k - 1) + 1 := by omega
  have hd : k - 1 < (s.data.toList.drop 1).length := by rw [List.length_drop]; omega
  rw [e, List.take_succ_eq_append_getElem hd]
  intro c hc
  rcases List.mem_append.1 hc with hc | hc
  · exact h c hc
  · rw [List.mem_singleton, List.getElem_drop] at hc
    have e2 : 1 + (k - 1) = k := by omega
    simp only [e2] at hc
    rw [hc, hg]; exact hx
theorem Seek.found {s : ByteArray} {k : Nat} (h : Seek s k) (h1 : 1 ≤ k) (hk : k < s.size) (hx : s[k] = 95) : cutL 95 (s.data.toList.drop 1) = some ((s.extract 1 k).data.toList, (s.extract (k + 1) s.size).data.toList) := by
  obtain ⟨hl, hg⟩ := list_at s hk
  have hd : k - 1 < (s.data.toList.drop 1).length := by rw [List.length_drop]; omega
  have hz := Enc.size_toList s
  have := cutL_at h (k := k - 1) (by
    rw [List.getElem?_eq_getElem hd, List.getElem_drop]
    have e2 : 1 + (k - 1) = k := by omega
    simp only [e2]
    rw [hg, hx])
  rw [this, Lib.extract_data, Lib.extract_data, List.drop_drop]
  have e3 : 1 + (k - 1 + 1) = k + 1 := by omega
  rw [e3, List.take_of_length_le (l := List.drop (k + 1) s.data.toList)]
  rw [List.length_drop]; omega
theorem Seek.none {s : ByteArray} (h : Seek s s.size) : cutL 95 (s.data.toList.drop 1) = none := by
  refine cutL_none fun c hc => h c ?_
  rw [List.take_of_length_le]
  · exact hc
  · rw [List.length_drop, Enc.size_toList]; exact Nat.le_refl _

set_option maxRecDepth 100000 in
set_option maxHeartbeats 4000000 in
theorem r51_Back (u : ByteArray) (w : World) (hs : u.size ≤ 1000) : Calls Try.prog 15 #[.string u] w (fun e w' => e = .returned (backV u) ∧ Below w.heap.size w w') := by
  have hz := Enc.size_toList u
  have CU := fun w => r2_User u w (by omega)
  cases hsp : splitL [64] u.data.toList with
  | none =>
    have HV := hide (backV_bad (u := u) fun a b h => by rw [user_parts.2 h] at hsp; cases hsp)
    simp only [hsp, errN, Option.isSome_none, Bool.false_eq_true, if_false] at CU
    clear hsp hz
    go_enter Try.func15, Try.ntmps15
    go_wp2_with (first | (go_at_call 22; refine (CU _).mono ?_; rintro e w2 ⟨rfl, rfl⟩) | (go_at_call 41; refine (CA _).mono ?_; rintro e w3 ⟨rfl, rfl⟩))
    go_ret3
    exact ⟨by rw [HV.out]; rfl, ext_refl _⟩
  | some p =>
    obtain ⟨a, b⟩ := p
    have hP := user_parts.1 hsp
    obtain ⟨eA, eB⟩ := user_partA hP
    have CA := fun w => r2_LocalOf u w (by omega)
    have CB := fun w => r2_ServerOf u w (by omega)
    simp only [hsp, errN, Option.isSome_some, if_true] at CU
    obtain ⟨la, hla⟩ : ∃ la, partA u = la := ⟨_, rfl⟩
    have hall : la.data.toList = a := by rw [← hla, eA, str_data]
    rw [hla] at CA
    rw [eB] at CB
    have ha1 : 1 ≤ la.size := by rw [← Enc.size_toList, hall]; exact hP.2.1.1
    have ha : la.size ≤ 32 := by rw [← Enc.size_toList, hall]; exact hP.2.1.2.1
    have hb : b.length ≤ 32 := hP.2.2.2.1
    have hhead : la.data.toList = la[0] :: la.data.toList.drop 1 := by
      have := list_cons la (by omega)
      conv => rhs; rw [this]
      exact this
    have HP := hide hP
    have HH := hide hhead
    have HA := hide hall
    clear hsp hz hP eA eB hla hall hhead
    go_enter Try.func15, Try.ntmps15
    go_wp2_with (first | (go_at_call 22; refine (CU _).mono ?_; rintro e w2 ⟨rfl, rfl⟩) | (go_at_call 41; refine (CA _).mono ?_; rintro e w3 ⟨rfl, rfl⟩))
    go_loop [6] (fun i => ∃ k : Nat, 1 ≤ k ∧ k ≤ la.size ∧ i = .int .i64 (k : Int) ∧ Hid (Seek la k)) (fun i => la.size - (intOf i).toNat)
    case atStart => exact ⟨1, Nat.le_refl _, ha1, rfl, by simp [Hid, Seek]⟩
    case round =>
    obtain ⟨k, hk1, hk, rfl, HT⟩ := hrel
    by_cases hlt : k < la.size
    · have hbi := byte_int la[k] 95 (by decide)
      by_cases hx : la[k] = 95
      · have hxi := hbi.1 hx
        have hcut := HT.out.found hk1 hlt hx
        clear hx hbi
        have hbj := byte_int la[0] 95 (by decide)
        by_cases h0 : la[0] = 95
        · have h0i := hbj.1 h0
          have hx0 : a = 95 :: la.data.toList.drop 1 := by rw [← HA.out]; have := HH.out; rw [h0] at this; exact this
          have hbk := fun a' b' => back_code HP.out hx0 hcut a' b'
          have hbn := fun h => back_ref HP.out hx0 hcut h
          have hsz1 : (la.extract 1 k).size ≤ 40 := by rw [ByteArray.size_extract]; omega
          have hsz2 : (la.extract (k + 1) la.size).size ≤ 40 := by rw [ByteArray.size_extract]; omega
          have CE := fun w => r51_unescape (la.extract (k + 1) la.size) w (by omega)
          have hfl := Enc.size_toList (la.extract (k + 1) la.size)
          obtain ⟨nm, ok, f1, f2, f3, f4⟩ := unV_form (la.extract (k + 1) la.size).data.toList
          simp only [f1] at CE
          have hnm : nm.size ≤ 40 := by omega
          have CG := fun w => r51_User (la.extract 1 k) nm (str b) w (by omega) (by omega) (by rw [str_size]; omega)
          obtain ⟨g, e0, h1, h2, h3⟩ := userV_form (la.extract 1 k) nm (str b)
          simp only [h1] at CG
          rw [str_data] at h2 h3
          have HBK := hide hbk
          have HBN := hide hbn
          have HF3 := hide f3
          have HF4 := hide f4
          have H2 := hide h2
          have H3 := hide h3
          clear hbk hbn f1 f2 f3 f4 h1 h2 h3 hcut hx0 hbj h0 hfl
          go_wp2_with (go_at_call 42; refine (CE _).mono ?_; rintro e w3 ⟨rfl, hb3⟩)
          · refine wp_region_phase (fun _ => True) [] (by kernel_rfl) ?_
            have hb4 : Below _ _ { w3 with drawn := w3.drawn + 1 } := ext_drew hb3
            generalize ({ w3 with drawn := w3.drawn + 1 } : World) = wd at hb4 ⊢
            clear hb3
            refine wpAnyP_take (i := 0) rfl (by kernel_rfl) (by kernel_rfl) (by kernel_rfl) (by kernel_rfl) (fun _ _ _ h => h) (yieldsIf_run (.string la) rfl (fun w' => by go_simp)) trivial ?_
            refine wpAnyP_take (i := 1) rfl (by kernel_rfl) (by kernel_rfl) (by kernel_rfl) (by kernel_rfl) (fun _ _ _ h => h) (yieldsIf_run (.int .i64 (k : Int)) rfl (fun w' => by go_simp)) trivial ?_
            refine wpAnyP_take (i := 3) rfl (by kernel_rfl) (by kernel_rfl) (by kernel_rfl) (by kernel_rfl) (fun _ _ _ h => h) (yieldsIf_run (.string nm) rfl (fun w' => by go_simp)) trivial ?_
            refine wpAnyP_take (i := 4) rfl (by kernel_rfl) (by kernel_rfl) (by kernel_rfl) (by kernel_rfl) (fun _ _ _ h => h) (yieldsIf_run (.string u) rfl (fun w' => by go_simp)) trivial ?_
            go_simp
            refine wpAnyP_take (i := 2) rfl (by kernel_rfl) (by kernel_rfl) (by kernel_rfl) (by kernel_rfl) (fun _ _ _ h => h) (yieldsIf_run (.string (la.extract 1 k)) rfl (fun w' => by go_simp; intro h; exfalso; omega)) trivial ?_
            go_simp
            refine wpAnyP_oneQ (i := 5) (by kernel_rfl) rfl ?_
            go_wp2_with fail
            refine (CB _).mono ?_
            rintro e w5 ⟨rfl, rfl⟩
            go_wp2_with fail
            refine nextQ trivial ?_
            go_simp
            refine wpAnyP_oneQ (i := 6) (by kernel_rfl) rfl ?_
            go_wp2_with fail
            refine (CG _).mono ?_
            rintro e w6 ⟨rfl, hb6⟩
            have hb7 := hb4.trans (hb6.mono hb4.size)
            clear hb6 hb4
            go_wp2_with fail
            refine nextQ trivial ?_
            go_simp
            refine wpAnyP_oneQ (i := 7) (by kernel_rfl) rfl ?_
            go_wp2_with fail
            refine nextQ trivial ?_
            go_simp
            refine wpAnyP_take (i := 8) rfl (by kernel_rfl) (by kernel_rfl) (by kernel_rfl) (by kernel_rfl) (fun _ _ _ h => h) (yieldsIf_run (.string g) rfl (fun w' => by go_simp)) trivial ?_
            refine wpAnyP_take (i := 9) rfl (by kernel_rfl) (by kernel_rfl) (by kernel_rfl) (by kernel_rfl) (fun _ _ _ h => h) (yieldsIf_run (.int .i64 e0) rfl (fun w' => by go_simp)) trivial ?_
            go_simp
            refine wpAnyP_oneQ (i := 10) (by kernel_rfl) rfl ?_
            go_wp2_with fail
            refine nextQ trivial ?_
            go_simp
            refine wpAnyP_oneQ (i := 11) (by kernel_rfl) rfl ?_
            go_wp2_with fail
            refine nextQ trivial ?_
            go_simp
            refine wpAnyP_done (by kernel_rfl) ?_
            go_simp
            cases ok
            · have HV := hide (backV_no (u := u) ⟨a, b, HP.out⟩ (HBN.out (HF3.out rfl)))
              go_wp2_with fail
              go_ret3
              exact ⟨by rw [HV.out]; rfl, hb7⟩
            · have hnl : nm.data.toList = unescL (la.extract (k + 1) la.size).data.toList := by rw [HF4.out rfl, str_data]
              by_cases he : e0 = 0
              · have hg := H3.out he
                by_cases hgu : g = u
                · have HV := hide ((backV_ok (u := u) ((HBK.out (la.extract 1 k).data.toList nm.data.toList).2 ⟨rfl, hnl, H2.out.1 he, by rw [← str_data (ghostL _ _ _), ← hg, hgu]⟩)))
                  subst he
                  subst hgu
                  clear hg hnl
                  go_wp2_with fail
                  go_ret3
                  exact ⟨by rw [HV.out]; rfl, hb7⟩
                · have HV := hide (backV_no (u := u) ⟨a, b, HP.out⟩ (fun a' b' h => by
                    obtain ⟨rfl, h5, _, h4⟩ := (HBK.out a' b').1 h
                    rw [h5, ← hnl] at h4
                    exact hgu (by rw [hg, h4]; rfl)))
                  have hgu' := ne_lists hgu
                  subst he
                  clear hg hnl hgu
                  go_wp2_with fail
                  go_ret3
                  exact ⟨by rw [HV.out]; rfl, hb7⟩
              · have HV := hide (backV_no (u := u) ⟨a, b, HP.out⟩ (fun a' b' h => by
                  obtain ⟨rfl, h5, h4, _⟩ := (HBK.out a' b').1 h
                  rw [h5, ← hnl] at h4
                  exact he (H2.out.2 h4)))
                have he' : (e0 != 0) = true := by simpa using he
                clear hnl he
                go_wp2_with fail
                go_ret3
                exact ⟨by rw [HV.out]; rfl, hb7⟩
        · have HV := hide (backV_no (u := u) ⟨a, b, HP.out⟩ (fun a' b' => back_none HP.out (fun r n f h1 h2 => by
            rw [← HA.out, HH.out] at h1
            injection h1 with h1 _
            exact h0 h1) a' b'))
          have h0i : ((la[0].toNat : Int) != 95) = true := by
            have : ¬ (la[0].toNat : Int) = 95 := fun h => h0 (hbj.2 h)
            simpa using this
          clear hbj h0 hcut
          go_wp2_with fail
          go_ret3
          exact ⟨by rw [HV.out]; rfl, ext_refl _⟩
      · have HN := hide (HT.out.next hk1 hlt hx)
        have hxi : ((la[k].toNat : Int) != 95) = true := by
          have : ¬ (la[k].toNat : Int) = 95 := fun h => hx (hbi.2 h)
          simpa using this
        clear hx hbi
        go_wp2_with fail
        go_round
        case rel => exact ⟨k + 1, by omega, by omega, by go_num, HN.out⟩
        case measure => simp [intOf]; omega
    · obtain rfl : k = la.size := by omega
      have hcut := HT.out.none
      have HV := hide (backV_no (u := u) ⟨a, b, HP.out⟩ (fun a' b' => back_none HP.out (fun r n f h1 h2 => by
        rw [← HA.out, HH.out] at h1
        injection h1 with _ h1
        rw [← h1, hcut] at h2
        cases h2) a' b'))
      have hbj := byte_int la[0] 95 (by decide)
      clear hcut HT
      by_cases h0 : (la[0].toNat : Int) = 95
      · clear hbj
        go_wp2_with fail
        go_ret3
        exact ⟨by rw [HV.out]; rfl, ext_refl _⟩
      · have h0i : ((la[0].toNat : Int) != 95) = true := by simpa using h0
        clear hbj h0
        go_wp2_with fail
        go_ret3
        exact ⟨by rw [HV.out]; rfl, ext_refl _⟩
end Go.Proofs.Ytimdcnickfaddaa

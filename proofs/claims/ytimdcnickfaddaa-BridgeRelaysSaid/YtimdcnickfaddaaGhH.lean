/-
  The reference's Check.
-/
import Derived.Test.YtimdcnickfaddaaGhG
set_option linter.unusedVariables false
set_option linter.unusedSimpArgs false
namespace Go.Proofs.Ytimdcnickfaddaa
open Go.RowKit Go.Maps
open Classical
section
attribute [local go_sem] Addr.add_mid
theorem less_flip (a b : List UInt8) : Op.bytesLess a b = !(Op.bytesLess b a || (b == a)) := by
  by_cases he : a = b
  · rw [he, bless_irr]; simp
  · have h2 : (b == a) = false := by simpa using fun e => he e.symm
    rw [h2]
    cases hl : Op.bytesLess a b with
    | false => rw [bless_tri _ _ hl he]; rfl
    | true =>
      cases hr : Op.bytesLess b a with
      | false => rfl
      | true =>
        have := bless_trans _ _ _ hl hr
        rw [bless_irr] at this; cases this
/-- how the reference asks for the order -/
theorem ahead_ref (p g : Gh) : idLt p.id g.id = !(Op.bytesLess g.net.toList p.net.toList || (g.net.toList == p.net.toList && (Op.bytesLess g.name.toList p.name.toList || (g.name.toList == p.name.toList)))) := by
  unfold idLt Gh.id
  show (Op.bytesLess p.net.toList g.net.toList || (p.net.toList == g.net.toList && Op.bytesLess p.name.toList g.name.toList)) = _
  rw [less_flip p.name.toList, less_flip p.net.toList]
  by_cases he : p.net.toList = g.net.toList
  · rw [he, bless_irr]; simp
  · have h1 : (p.net.toList == g.net.toList) = false := by simpa using he
    have h2 : (g.net.toList == p.net.toList) = false := by simpa using fun e => he e.symm
    rw [h1, h2]; simp
set_option maxRecDepth 100000 in
set_option maxHeartbeats 3000000 in
theorem r51_Check (A : Option Addr) (c : Nat) (l : List Gh) (w : World) (hr : Row w w.heap.size A (ghs l)) (hl : l.length ≤ 1000) (hs : SmallG 1000 l) :
    Calls Try.prog 21 #[.slice A l.length c] w (fun e w' => e = .returned (.int .i64 (gCheck l)) ∧ Below w.heap.size w w') := by
  by_cases h200 : 200 < l.length
  · have HV := hide (show gCheck l = 29 from if_pos h200)
    go_enter Try.func21, Try.ntmps21
    go_wp2_with fail
    go_ret
    exact ⟨by rw [HV.out]; rfl, ext_refl _⟩
  have HV := hide (show gCheck l = checkE none l from if_neg h200)
  have HS := hide hs
  clear hs
  go_enter Try.func21, Try.ntmps21
  go_wp2_with fail
  go_loopw [3] (fun i wr => ∃ k : Nat, k ≤ l.length ∧ i = .int .i64 (k : Int) ∧ Hid (CK l k) ∧ Below w.heap.size w wr) (fun i _ => l.length - (intOf i).toNat)
  case atStart => exact ⟨0, Nat.zero_le _, rfl, CK.start l, ext_refl w⟩
  case round =>
  obtain ⟨k, hk, rfl, HK, hbel⟩ := hrel
  by_cases hlt : k < l.length
  · obtain ⟨b, o, rfl, hb, hc⟩ := gh_cells hr hlt
    obtain ⟨c0, c1, c2⟩ := gh_three (hc.ext hbel hb)
    obtain ⟨g, hg⟩ : ∃ g, g = l[k] := ⟨_, rfl⟩
    have HG := hide hg
    rw [← hg] at c0 c1 c2 hc
    have hsu : g.user.size ≤ 1000 := by rw [hg]; exact (HS.out _ (List.getElem_mem hlt)).2.2
    have HC := hide hc
    clear hg hc
    have CB := fun W => r51_Back g.user W hsu
    by_cases hbk : ∃ a b, Back g.user.data.toList a b
    · obtain ⟨na, nb, hbk⟩ := hbk
      simp only [backV_ok hbk] at CB
      have hz : backE l[k].user.data.toList = 0 := by rw [← HG.out]; exact back_zero hbk
      have hti : l[k].true ↔ (str na = g.net ∧ str nb = g.name) := by rw [← HG.out]; exact true_iff hbk
      have HZ := hide hz
      have HTI := hide hti
      clear hbk hz hti
      by_cases e1 : str na = g.net
      · by_cases e2 : str nb = g.name
        · have HTR := hide (HTI.out.2 ⟨e1, e2⟩)
          rw [e1, e2] at CB
          clear e1 e2
          rcases Nat.eq_zero_or_pos k with rfl | hpos
          · have HN := hide (HK.out.first hlt HZ.out HTR.out)
            simp only [Nat.zero_mul, Nat.add_zero] at c0 c1 c2
            go_wp2_with (go_at_call 15; refine (CB _).mono ?_; rintro e w3 ⟨rfl, hb3⟩; have p := gh_three (HC.out.ext (ext_trans hbel hb3) hb); obtain ⟨p0, p1, p2⟩ := p; simp only [Nat.zero_mul, Nat.add_zero] at p0 p1 p2)
            go_quiet (fail)
            go_wp2_with fail
            go_roundw
            case rel => exact ⟨0 + 1, by omega, by go_num, HN.out, below_drewN (ext_trans hbel hb3) _⟩
            case measure => (simp [intOf]; try omega)
          · obtain ⟨j, rfl⟩ : ∃ j, k = j + 1 := ⟨k - 1, by omega⟩
            have hj : j < l.length := by omega
            obtain ⟨b', o', hA, hb', hc'⟩ := gh_cells hr hj
            injection hA with hA
            injection hA with hA1 hA2
            subst hA1 hA2
            have HC' := hide hc'
            have hah : idLt l[j].id l[j + 1].id = !(Op.bytesLess g.net.toList l[j].net.toList || (g.net.toList == l[j].net.toList && (Op.bytesLess g.name.toList l[j].name.toList || (g.name.toList == l[j].name.toList)))) := by rw [← HG.out]; exact ahead_ref _ _
            obtain ⟨x, hx⟩ : ∃ x, Op.bytesLess g.net.toList l[j].net.toList = x := ⟨_, rfl⟩
            obtain ⟨y, hy⟩ : ∃ y, (g.net.toList == l[j].net.toList) = y := ⟨_, rfl⟩
            obtain ⟨z, hz⟩ : ∃ z, Op.bytesLess g.name.toList l[j].name.toList = z := ⟨_, rfl⟩
            obtain ⟨z2, hz2⟩ : ∃ z, (g.name.toList == l[j].name.toList) = z := ⟨_, rfl⟩
            rw [hx, hy, hz, hz2] at hah
            have HAH := hide hah
            have hwr := wrap_j j (by omega)
            clear hah hc'
            go_wp2_with (go_at_call 15; refine (CB _).mono ?_; rintro e w3 ⟨rfl, hb3⟩; have p := gh_three (HC.out.ext (ext_trans hbel hb3) hb); obtain ⟨p0, p1, p2⟩ := p; have q := gh_three (HC'.out.ext (ext_trans hbel hb3) hb); obtain ⟨q0, q1, q2⟩ := q)
            cases x
            · cases y
              · have HN := hide (HK.out.next hlt HZ.out HTR.out (by rw [HAH.out]; rfl))
                go_quiet (fail)
                go_wp2_with fail
                go_roundw
                case rel => exact ⟨j + 1 + 1, by omega, by go_num, HN.out, below_drewN (ext_trans hbel hb3) _⟩
                case measure => (simp [intOf]; try omega)
              · cases z
                · cases z2
                  · have HN := hide (HK.out.next hlt HZ.out HTR.out (by rw [HAH.out]; rfl))
                    go_quiet (fail)
                    go_wp2_with fail
                    go_roundw
                    case rel => exact ⟨j + 1 + 1, by omega, by go_num, HN.out, below_drewN (ext_trans hbel hb3) _⟩
                    case measure => (simp [intOf]; try omega)
                  · have HE := hide (HK.out.order hlt HZ.out HTR.out (by rw [HAH.out]; rfl))
                    go_quiet (fail)
                    go_wp2_with fail
                    go_ret
                    exact ⟨by rw [HV.out, HE.out]; rfl, below_drewN (ext_trans hbel hb3) _⟩
                · have HE := hide (HK.out.order hlt HZ.out HTR.out (by rw [HAH.out]; rfl))
                  go_quiet (fail)
                  go_wp2_with fail
                  go_ret
                  exact ⟨by rw [HV.out, HE.out]; rfl, below_drewN (ext_trans hbel hb3) _⟩
            · have HE := hide (HK.out.order hlt HZ.out HTR.out (by rw [HAH.out]; rfl))
              go_quiet (fail)
              go_wp2_with fail
              go_ret
              exact ⟨by rw [HV.out, HE.out]; rfl, below_drewN (ext_trans hbel hb3) _⟩
        · have HE := hide (HK.out.wrong hlt HZ.out (fun h => e2 (HTI.out.1 h).2))
          have e2' := ne_lists e2
          rw [e1] at CB
          clear e1 e2
          go_wp2_with (go_at_call 15; refine (CB _).mono ?_; rintro e w3 ⟨rfl, hb3⟩; have p := gh_three (HC.out.ext (ext_trans hbel hb3) hb); obtain ⟨p0, p1, p2⟩ := p)
          go_ret
          exact ⟨by rw [HV.out, HE.out]; rfl, ext_trans hbel hb3⟩
      · have HE := hide (HK.out.wrong hlt HZ.out (fun h => e1 (HTI.out.1 h).1))
        have e1' := ne_lists e1
        clear e1
        go_wp2_with (go_at_call 15; refine (CB _).mono ?_; rintro e w3 ⟨rfl, hb3⟩; have p := gh_three (HC.out.ext (ext_trans hbel hb3) hb); obtain ⟨p0, p1, p2⟩ := p)
        go_ret
        exact ⟨by rw [HV.out, HE.out]; rfl, ext_trans hbel hb3⟩
    · cases hsp : splitL [64] g.user.data.toList with
      | none =>
        have HE := hide (HK.out.err (e := 3) hlt (by rw [← HG.out]; exact backE_none hsp) (by decide))
        simp only [backV_bad (u := g.user) (fun a b h => by rw [user_parts.2 h] at hsp; cases hsp)] at CB
        clear hsp hbk
        go_wp2_with (go_at_call 15; refine (CB _).mono ?_; rintro e w3 ⟨rfl, hb3⟩)
        go_ret
        exact ⟨by rw [HV.out, HE.out]; rfl, ext_trans hbel hb3⟩
      | some p =>
        have HE := hide (HK.out.err (e := 6) hlt (by rw [← HG.out]; exact backE_six hsp hbk) (by decide))
        simp only [backV_no ⟨_, _, user_parts.1 hsp⟩ (fun a b h => hbk ⟨a, b, h⟩)] at CB
        clear hsp hbk
        go_wp2_with (go_at_call 15; refine (CB _).mono ?_; rintro e w3 ⟨rfl, hb3⟩)
        go_ret
        exact ⟨by rw [HV.out, HE.out]; rfl, ext_trans hbel hb3⟩
  · obtain rfl : k = l.length := by omega
    have HE := hide HK.out.fin
    clear HK
    go_wp2_with fail
    go_ret
    exact ⟨by rw [HV.out, HE.out]; rfl, hbel⟩
end
end Go.Proofs.Ytimdcnickfaddaa

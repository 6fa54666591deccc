/-
  The reference's Same on equal views.
-/
import Derived.Test.YtbehflldghhopaaSmalls
set_option linter.unusedVariables false
set_option linter.unusedSimpArgs false
namespace Go.Proofs.Ytbehflldghhopaa
open Go.RowKit
attribute [local go_sem] Addr.add_mid

theorem Con.fit_of_short {e : Ev} (h : e.short) : e.fit := by
  have h1 := h.prev; have h2 := h.auth; have h3 := h.allow; have h4 := h.deny; have h5 := h.users; have h6 := h.kinds
  exact ⟨by omega, by omega, by omega, by omega, by omega, by omega⟩
def Vw.can (V : Vw) : Prop := V.events.length ≤ 1048576 ∧ V.state.length ≤ 1048576 ∧ V.gaps.length ≤ 1048576 ∧ (∀ e ∈ V.events, e.fit) ∧ (∀ e ∈ V.state, e.fit)

set_option maxRecDepth 100000 in
set_option maxHeartbeats 2000000 in
theorem VSame_yes {S S2 : Nat → Prop} {cs cs2 : List Value} {V : Vw} {w : World} (hv : VwR w S cs V) (hv2 : VwR w S2 cs2 V) (hc : V.can) :
    Calls Try.prog 17 #[.agg cs.toArray, .agg cs2.toArray] w (Says true w) := by
  obtain ⟨A, c, A2, c2, A3, c3, rfl, h1, hg, h3⟩ := hv.form
  obtain ⟨A', c', A2', c2', A3', c3', rfl, h1', hg', h3'⟩ := hv2.form
  obtain ⟨m1, m2, m3, m4, m5⟩ := hc
  obtain ⟨cs, hcs⟩ : ∃ cs, cs = vwCells V (.slice A V.events.length c) (.slice A2 V.gaps.length c2) (.slice A3 V.state.length c3) := ⟨_, rfl⟩
  obtain ⟨cs2, hcs2⟩ : ∃ cs, cs = vwCells V (.slice A' V.events.length c') (.slice A2' V.gaps.length c2') (.slice A3' V.state.length c3') := ⟨_, rfl⟩
  rw [← hcs, ← hcs2]
  have s0 : cs[0]? = some (.string V.room) := by rw [hcs]; rfl
  have s1 : cs[1]? = some (.int .i64 V.member) := by rw [hcs]; rfl
  have s2 : cs[2]? = some (.slice A V.events.length c) := by rw [hcs]; rfl
  have s3 : cs[3]? = some (.slice A2 V.gaps.length c2) := by rw [hcs]; rfl
  have s4 : cs[4]? = some (.slice A3 V.state.length c3) := by rw [hcs]; rfl
  have t0 : cs2[0]? = some (.string V.room) := by rw [hcs2]; rfl
  have t1 : cs2[1]? = some (.int .i64 V.member) := by rw [hcs2]; rfl
  have t2 : cs2[2]? = some (.slice A' V.events.length c') := by rw [hcs2]; rfl
  have t3 : cs2[3]? = some (.slice A2' V.gaps.length c2') := by rw [hcs2]; rfl
  have t4 : cs2[4]? = some (.slice A3' V.state.length c3') := by rw [hcs2]; rfl
  have B0 := heap_alloc2_old w (.cells cs.toArray 25) (.cells cs2.toArray 25)
  have B1 := heap_alloc2_new w (.cells cs.toArray 25) (.cells cs2.toArray 25)
  have hbW := below_two w (.cells cs.toArray 25) (.cells cs2.toArray 25)
  have H1 := hide h1; have H1' := hide h1'; have H3 := hide h3; have H3' := hide h3'
  obtain ⟨_, _, eg, _, _, _, hg, _⟩ := hg.form
  injection eg with eg1 _ eg2
  subst eg1 eg2
  obtain ⟨_, _, eg, _, _, _, hg', _⟩ := hg'.form
  injection eg with eg1 _ eg2
  subst eg1 eg2
  clear hcs hcs2 hv hv2 h1 h1' h3 h3'
  go_enter Try.func17, Try.ntmps17
  go_wp2_with fail
  refine (R7All_any (H1.out.ext hbW) (H1'.out.ext hbW) (by omega) (by omega) m4 m4).mono ?_
  rintro x w1 ⟨rfl, hb1⟩
  have C0 := box_below B0 hb1
  have C1 := box_below B1 hb1
  have hb0 := hbW.trans (hb1.mono hbW.size)
  have q3 := box_at C0 s3; have q4 := box_at C0 s4; have q3' := box_at C1 t3; have q4' := box_at C1 t4
  have d1 : decide (V.events = V.events) = true := decide_eq_true rfl
  clear B0 B1 hb1
  go_wp2_with fail
  refine (R7All_any (H3.out.ext hb0) (H3'.out.ext hb0) (by omega) (by omega) m5 m5).mono ?_
  rintro x w2 ⟨rfl, hb2⟩
  have D0 := box_below C0 hb2
  have D1 := box_below C1 hb2
  have hb3 := hb0.trans (hb2.mono hb0.size)
  have d2 : decide (V.state = V.state) = true := decide_eq_true rfl
  have r3 := box_at D0 s3; have r3' := box_at D1 t3
  clear C0 C1 hb2 q3 q4 q3' q4' d1 s0 s1 s2 s4 t0 t1 t2 t4
  go_wp2_with fail
  go_loopw [5] (fun i wr => ∃ k n : Nat, k ≤ V.gaps.length ∧ i = .int .i64 (k : Int) ∧ wr = w2.drewN n) (fun i _ => V.gaps.length - (intOf i).toNat)
  case atStart => exact ⟨0, 0, Nat.zero_le _, rfl, rfl⟩
  case round =>
    obtain ⟨k, n, hk, rfl, rfl⟩ := hrel
    by_cases hlt : k < V.gaps.length
    · obtain ⟨b1, o1, rfl, hq1, hc1⟩ := (hg.ext hb3).fix (kcs_get V.gaps k hlt).1
      have k1 := hc1 _ _ (kcs_get V.gaps k hlt).1
      have k2 := cell_assoc (hc1 _ _ (kcs_get V.gaps k hlt).2)
      obtain ⟨b2, o2, rfl, hq2, hc2⟩ := (hg'.ext hb3).fix (kcs_get V.gaps k hlt).1
      have k3 := hc2 _ _ (kcs_get V.gaps k hlt).1
      have k4 := cell_assoc (hc2 _ _ (kcs_get V.gaps k hlt).2)
      have i0 : (0 : Int) ≤ (k : Int) := by omega
      have i1 : (k : Int) < (V.gaps.length : Int) := by omega
      clear hc1 hc2 hg hg'
      go_wp2_with fail
      go_quiet (fail)
      go_wp2_with fail
      go_roundw
      case rel => exact ⟨k + 1, _, by omega, by go_num, rfl⟩
      case measure => simp [intOf]; omega
    · obtain rfl : k = V.gaps.length := by omega
      go_wp2_with fail
      go_ret
      exact ⟨rfl, below_drewN hb3 _⟩
end Go.Proofs.Ytbehflldghhopaa

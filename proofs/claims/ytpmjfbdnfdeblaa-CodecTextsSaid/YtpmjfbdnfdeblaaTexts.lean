/-
  fedchatlaw05: CodecTexts, the walk.
-/
import Derived.Test.YtpmjfbdnfdeblaaRefAny
import Derived.Test.YtpmjfbdnfdeblaaAwake
set_option linter.unusedVariables false
set_option linter.unusedSimpArgs false
namespace Go.Proofs.Ytpmjfbdnfdeblaa
open Go.RowKit

set_option maxRecDepth 100000 in
set_option maxHeartbeats 600000 in
theorem texts_small (A : Option Addr) (c : Nat) (l : List UInt8) (w : World) (hr : Row w w.heap.size A (bvs l)) (hc : l.length ≤ c) (hl : l.length ≤ 4000) :
    Calls Try.prog 5 #[.slice A l.length c] w (fun e w' => e = .returned (.bool true) ∧ Below w.heap.size w w') := by
  go_enter Try.func5, Try.ntmps5
  go_wp2_with fail
  refine (GetText_any hr hc (by omega)).mono ?_
  rintro e w1 ⟨x, r, ok, ⟨v, rfl, hown, hb1⟩, hres⟩
  have hx1 := ext_trans (ext_refl w) hb1
  obtain ⟨A1, c1, rfl, hc1, _⟩ := own_form hown
  have hr1 := Row.own hown
  have HRES := hide hres
  clear hown hb1 hres
  go_wp2_with fail
  refine (RGetText_res (hr.ext hx1) hc (by omega)).mono ?_
  rintro e w2 ⟨x', r', ok', ⟨A2, c2, rfl, hr2, hc2, hb2⟩, hres'⟩
  obtain ⟨rfl, rfl, rfl⟩ := HRES.out.unique hres'
  have hx2 := ext_trans hx1 hb2
  replace hr1 := hr1.ext hb2
  clear hb2 hres' HRES
  go_wp2_with fail
  refine (SameBytes_yes _ _ _ _ _ _ _ _ _ _ hr1 hr2 rfl rfl).mono ?_
  rintro e wz ⟨rfl, rfl⟩
  clear hr1 hr2
  go_wp2_with fail
  refine (GetTexts_any (hr.ext hx2) hc (by omega)).mono ?_
  rintro e w3 ⟨ys, r3, ok3, ⟨vx, v, rfl, hownx, hown, hb1⟩, hres⟩
  have hx3 := ext_trans hx2 hb1
  rw [sls_svs, svs_length] at hownx
  obtain ⟨A3, c3, rfl, hc3, _⟩ := own_form hown
  have HRES := hide hres
  have hlen : ys.length ≤ 1073741824 := by
    rcases hres with ⟨_, h⟩ | ⟨_, h, _⟩
    · have hcn := getTexts_canon h
      have h1 := flatMap_ge (fun s => encI s.length ++ s) (fun s => by have := encI_pos s.length; simp only [List.length_append]; omega) ys
      have h2 := congrArg List.length hcn
      simp only [encL, List.length_append] at h2
      omega
    · rw [h]; simp
  obtain ⟨xs, hxs, HXS⟩ := named (ys.map str)
  have hlen' : xs.length ≤ 1073741824 := by rw [hxs, List.length_map]; exact hlen
  rw [← hxs] at hownx
  clear hxs hlen
  obtain ⟨A4, c4, rfl, hc4, _⟩ := own_form hownx
  have hr3 := Row.own hown
  have hr4 := Row.own hownx
  clear hown hownx hb1 hres
  go_wp2_with fail
  refine (RGetTexts_res (hr.ext hx3) hc (by omega)).mono ?_
  rintro e w4 ⟨ys', r', ok', ⟨vy, A5, c5, rfl, howny, hr5, hc5, hb2⟩, hres'⟩
  obtain ⟨rfl, rfl, rfl⟩ := HRES.out.unique hres'
  have hx4 := ext_trans hx3 hb2
  rw [sls_svs, svs_length, ← HXS.out] at howny
  obtain ⟨A6, c6, rfl, hc6, _⟩ := own_form howny
  have hr6 := Row.own howny
  have h34 := hb2.size
  replace hr3 := hr3.ext hb2
  replace hr4 := hr4.ext hb2
  clear hb2 hres' HRES howny HXS
  go_wp2_with fail
  refine (SameTexts_yes _ _ _ _ _ _ _ _ xs _ hr4 hr6 rfl rfl hlen').mono ?_
  rintro e w5 ⟨rfl, hb5⟩
  have hx5 := ext_trans hx4 hb5
  replace hr3 := hr3.ext hb5
  replace hr5 := hr5.upto hb5 h34
  clear hb5 hr4 hr6
  go_wp2_with fail
  refine (SameBytes_yes _ _ _ _ _ _ _ _ _ _ hr3 hr5 rfl rfl).mono ?_
  rintro e wz ⟨rfl, rfl⟩
  clear hr3 hr5
  go_wp2_with fail
  refine (awake_any _).mono ?_
  rintro e wq ⟨rfl, hbq⟩
  go_wp2_with fail
  go_ret
  exact ⟨rfl, ext_trans hx5 hbq⟩

set_option maxRecDepth 100000 in
set_option maxHeartbeats 1600000 in
theorem texts_big (A : Option Addr) (k c : Nat) (w : World) (hl : 4000 < k) :
    Calls Try.prog 5 #[.slice A k c] w (fun e w' => e = .returned (.bool true) ∧ Below w.heap.size w w') := by
  have hl' : (4000 : Int) < (k : Int) := by omega
  go_enter Try.func5, Try.ntmps5
  go_wp2_with fail
  refine (awake_any w).mono ?_
  rintro e w8 ⟨rfl, hb8⟩
  go_wp2_with fail
  go_ret
  exact ⟨rfl, hb8⟩
end Go.Proofs.Ytpmjfbdnfdeblaa

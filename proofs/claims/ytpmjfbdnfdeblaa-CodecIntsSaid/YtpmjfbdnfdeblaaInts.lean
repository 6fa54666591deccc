/-
  fedchatlaw05: CodecInts, the walk.
-/
import Derived.Test.YtpmjfbdnfdeblaaRefAny
import Derived.Test.YtpmjfbdnfdeblaaAwake
set_option linter.unusedVariables false
set_option linter.unusedSimpArgs false
namespace Go.Proofs.Ytpmjfbdnfdeblaa
open Go.RowKit

set_option maxRecDepth 100000 in
set_option maxHeartbeats 600000 in
theorem ints_small (A : Option Addr) (c : Nat) (l : List UInt8) (w : World) (hr : Row w w.heap.size A (bvs l)) (hc : l.length ≤ c) (hl : l.length ≤ 4000) :
    Calls Try.prog 6 #[.slice A l.length c] w (fun e w' => e = .returned (.bool true) ∧ Below w.heap.size w w') := by
  go_enter Try.func6, Try.ntmps6
  go_wp2_with fail
  refine (GetInt_any hr hc (by omega)).mono ?_
  rintro e w1 ⟨x, r, ok, ⟨v, rfl, hown, hb1⟩, hres⟩
  have hx1 := ext_trans (ext_refl w) hb1
  obtain ⟨A1, c1, rfl, hc1, _⟩ := own_form hown
  have hr1 := Row.own hown
  have HRES := hide hres
  clear hown hb1 hres
  go_wp2_with fail
  refine (RGetInt_res (hr.ext hx1) hc (by omega)).mono ?_
  rintro e w2 ⟨x', r', ok', ⟨A2, c2, rfl, hr2, hc2, hb2⟩, hres'⟩
  obtain ⟨rfl, rfl, rfl⟩ := HRES.out.unique hres'
  have hx2 := ext_trans hx1 hb2
  replace hr1 := hr1.ext hb2
  clear hb2 hres' HRES
  go_wp2_with fail
  refine (SameBytes_yes _ _ _ _ _ _ _ _ _ _ hr1 hr2 rfl rfl).mono ?_
  rintro e wz ⟨rfl, rfl⟩
  clear hr1 hr2
  go_wp2_with fail
  refine (GetInts_any (hr.ext hx2) hc (by omega)).mono ?_
  rintro e w3 ⟨xs, r3, ok3, ⟨vx, v, rfl, hownx, hown, hb1⟩, hres⟩
  have hx3 := ext_trans hx2 hb1
  rw [ivs_length] at hownx
  obtain ⟨A3, c3, rfl, hc3, _⟩ := own_form hown
  obtain ⟨A4, c4, rfl, hc4, _⟩ := own_form hownx
  have hr3 := Row.own hown
  have hr4 := Row.own hownx
  have HRES := hide hres
  clear hown hownx hb1 hres
  go_wp2_with fail
  refine (RGetInts_res (hr.ext hx3) hc (by omega)).mono ?_
  rintro e w4 ⟨xs', r', ok', ⟨vy, A5, c5, rfl, howny, hr5, hc5, hb2⟩, hres'⟩
  obtain ⟨rfl, rfl, rfl⟩ := HRES.out.unique hres'
  have hx4 := ext_trans hx3 hb2
  rw [ivs_length] at howny
  obtain ⟨A6, c6, rfl, hc6, _⟩ := own_form howny
  have hr6 := Row.own howny
  have h34 := hb2.size
  replace hr3 := hr3.ext hb2
  replace hr4 := hr4.ext hb2
  have hlen : xs'.length ≤ 1073741824 := by
    rcases HRES.out with ⟨_, h⟩ | ⟨_, h, _⟩
    · have hcn := (getInts_canon h).1
      have h1 := flatMap_ge encI encI_pos xs'
      have h2 := congrArg List.length hcn
      simp only [encL, List.length_append] at h2
      omega
    · rw [h]; simp
  clear hb2 hres' HRES howny
  go_wp2_with fail
  refine (SameInts_yes _ _ _ _ _ _ _ _ xs' _ hr4 hr6 rfl rfl hlen).mono ?_
  rintro e w5 ⟨rfl, hb5⟩
  have hx5 := ext_trans hx4 hb5
  replace hr3 := hr3.ext hb5
  replace hr5 := hr5.upto hb5 h34
  clear hb5 hr4 hr6
  go_wp2_with fail
  refine (SameBytes_yes _ _ _ _ _ _ _ _ _ _ hr3 hr5 rfl rfl).mono ?_
  rintro e wz ⟨rfl, rfl⟩
  clear hr3 hr5
  go_wp2_with fail
  refine (GetBool_any (hr.ext hx5) hc (by omega)).mono ?_
  rintro e w6 ⟨x6, r6, ok6, ⟨v, rfl, hown, hb1⟩, hres⟩
  have hx6 := ext_trans hx5 hb1
  obtain ⟨A7, c7, rfl, hc7, _⟩ := own_form hown
  have hr7 := Row.own hown
  have HRES := hide hres
  clear hown hb1 hres
  go_wp2_with fail
  refine (RGetBool_res (hr.ext hx6) hc (by omega)).mono ?_
  rintro e w7 ⟨x', r', ok', ⟨A8, c8, rfl, hr8, hc8, hb2⟩, hres'⟩
  obtain ⟨rfl, rfl, rfl⟩ := HRES.out.unique hres'
  have hx7 := ext_trans hx6 hb2
  replace hr7 := hr7.ext hb2
  clear hb2 hres' HRES
  go_wp2_with fail
  refine (SameBytes_yes _ _ _ _ _ _ _ _ _ _ hr7 hr8 rfl rfl).mono ?_
  rintro e wz ⟨rfl, rfl⟩
  go_wp2_with fail
  refine (awake_any _).mono ?_
  rintro e wq ⟨rfl, hbq⟩
  go_wp2_with fail
  go_ret
  exact ⟨rfl, ext_trans hx7 hbq⟩

set_option maxRecDepth 100000 in
set_option maxHeartbeats 1600000 in
theorem ints_big (A : Option Addr) (k c : Nat) (w : World) (hl : 4000 < k) :
    Calls Try.prog 6 #[.slice A k c] w (fun e w' => e = .returned (.bool true) ∧ Below w.heap.size w w') := by
  have hl' : (4000 : Int) < (k : Int) := by omega
  go_enter Try.func6, Try.ntmps6
  go_wp2_with fail
  refine (awake_any w).mono ?_
  rintro e w8 ⟨rfl, hb8⟩
  go_wp2_with fail
  go_ret
  exact ⟨rfl, hb8⟩

end Go.Proofs.Ytpmjfbdnfdeblaa

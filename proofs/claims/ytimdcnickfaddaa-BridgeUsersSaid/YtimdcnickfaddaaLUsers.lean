/-
  BridgeUsers: the walk.
-/
import Derived.Test.YtimdcnickfaddaaReadG
set_option linter.unusedVariables false
set_option linter.unusedSimpArgs false
namespace Go.Proofs.Ytimdcnickfaddaa
open Go.RowKit Go.Maps
open Classical
section
attribute [local go_sem] Addr.add_mid
set_option maxRecDepth 100000 in
set_option maxHeartbeats 2000000 in
theorem users_any (x y z : ByteArray) (w : World) : Calls Try.prog 3 #[.agg #[.string x, .string y, .string z]] w (Says true w) := by
  have B0 := heap_alloc_new w (.cells #[.string x, .string y, .string z] 23)
  have hb0 := ext_alloc (ext_refl w) (.cells #[.string x, .string y, .string z] 23)
  go_enter Try.func3, Try.ntmps3
  go_wp2_with fail
  refine (law_great x y z _).mono ?_
  rintro e w1 ⟨b, rfl, hsm, hb1⟩
  have B1 := box_below B0 hb1
  have hb2 := ext_trans hb0 hb1
  have r0 : w1.cell? ⟨w.heap.size, 0, none⟩ = some (.string x) := box_at B1 rfl
  have r1 : w1.cell? ⟨w.heap.size, 1, none⟩ = some (.string y) := box_at B1 rfl
  have r2 : w1.cell? ⟨w.heap.size, 2, none⟩ = some (.string z) := box_at B1 rfl
  cases b
  · obtain ⟨s1, s2, s3⟩ := hsm rfl
    obtain ⟨g, e0, hV, _, _⟩ := userV_form x y z
    have CU := fun W => br_User x y z W (by omega) (by omega) (by omega)
    have CR := fun W => r51_User x y z W (by omega) (by omega) (by omega)
    simp only [hV] at CU CR
    clear hV hsm B0 hb0
    go_wp2_with (first | (go_at_call 11; refine (CU _).mono ?_; rintro e w3 ⟨rfl, hb3⟩; have B3 := box_below B1 hb3; have q0 : w3.cell? ⟨w.heap.size, 0, none⟩ = some (.string x) := box_at B3 rfl; have q1 : w3.cell? ⟨w.heap.size, 1, none⟩ = some (.string y) := box_at B3 rfl; have q2 : w3.cell? ⟨w.heap.size, 2, none⟩ = some (.string z) := box_at B3 rfl) | (go_at_call 12; refine (CR _).mono ?_; rintro e w4 ⟨rfl, hb4⟩) | (go_at_call 13; refine (live_any _).mono ?_; rintro e wl ⟨rfl, hbl⟩))
    go_ret
    exact ⟨rfl, ext_trans (ext_trans (ext_trans hb2 hb3) hb4) hbl⟩
  · go_wp2_with fail
    go_ret
    exact ⟨rfl, hb2⟩
end
end Go.Proofs.Ytimdcnickfaddaa

/-
  BridgeBacks: the walk.
-/
import Derived.Test.YtimdcnickfaddaaReadG
set_option linter.unusedVariables false
set_option linter.unusedSimpArgs false
namespace Go.Proofs.Ytimdcnickfaddaa
open Go.RowKit Go.Maps
open Classical
section
attribute [local go_sem] Addr.add_mid
theorem backV_form (u : ByteArray) : ∃ a b e, backV u = .tuple #[.string a, .string b, .int .i64 e] := by
  unfold backV
  split <;> exact ⟨_, _, _, rfl⟩
set_option maxRecDepth 100000 in
set_option maxHeartbeats 2000000 in
theorem backs_any (u : ByteArray) (w : World) : Calls Try.prog 4 #[.string u] w (Says true w) := by
  by_cases h : 200 < u.size
  · go_enter Try.func4, Try.ntmps4
    go_wp2_with fail
    go_ret
    exact ⟨rfl, ext_refl _⟩
  · obtain ⟨a, b, e0, hV⟩ := backV_form u
    have CB := fun W => br_Back u W (by omega)
    have CR := fun W => r51_Back u W (by omega)
    simp only [hV] at CB CR
    clear hV
    go_enter Try.func4, Try.ntmps4
    go_wp2_with (first | (go_at_call 14; refine (CB _).mono ?_; rintro e w3 ⟨rfl, hb3⟩) | (go_at_call 15; refine (CR _).mono ?_; rintro e w4 ⟨rfl, hb4⟩) | (go_at_call 13; refine (live_any _).mono ?_; rintro e wl ⟨rfl, hbl⟩))
    go_ret
    exact ⟨rfl, ext_trans (ext_trans hb3 hb4) hbl⟩
end
end Go.Proofs.Ytimdcnickfaddaa

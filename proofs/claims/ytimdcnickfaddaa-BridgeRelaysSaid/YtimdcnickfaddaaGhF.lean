/-
  Great of a list of ghosts, great of an identity, Same of two lists.
-/
import Derived.Test.YtimdcnickfaddaaGhD
set_option linter.unusedVariables false
set_option linter.unusedSimpArgs false
namespace Go.Proofs.Ytimdcnickfaddaa
open Go.RowKit Go.Maps
section
attribute [local go_sem] Addr.add_mid
def GreatV (p : Prop) (w : World) (x : Ending) (w' : World) : Prop := ∃ b, x = .returned (.bool b) ∧ (b = false → p) ∧ Below w.heap.size w w'
def Small1 (g : Gh) : Prop := g.net.size ≤ 100 ∧ g.name.size ≤ 100 ∧ g.user.size ≤ 100
set_option maxRecDepth 100000 in
set_option maxHeartbeats 1600000 in
theorem r51_Great (A : Option Addr) (c n : Nat) (l : List Gh) (w : World) (hr : Row w w.heap.size A (ghs l)) (hn : n ≤ 1000) :
    Calls Try.prog 16 #[.slice A l.length c, .int .i64 (n : Int)] w (GreatV (l.length ≤ n ∧ SmallG 100 l) w) := by
  by_cases hl : n < l.length
  · go_enter Try.func16, Try.ntmps16
    go_wp2_with fail
    go_ret
    exact ⟨true, rfl, nofun, ext_refl _⟩
  have hl' : l.length ≤ n := by omega
  clear hl
  go_enter Try.func16, Try.ntmps16
  go_wp2_with fail
  go_loop [5] (fun i => ∃ k : Nat, k ≤ l.length ∧ i = .int .i64 (k : Int) ∧ Hid (∀ g ∈ l.take k, Small1 g)) (fun i => l.length - (intOf i).toNat)
  case atStart => exact ⟨0, Nat.zero_le _, rfl, by simp [Hid]⟩
  case round =>
  obtain ⟨k, hk, rfl, HT⟩ := hrel
  by_cases hlt : k < l.length
  · obtain ⟨b, o, rfl, hb, hc⟩ := gh_cells hr hlt
    obtain ⟨c0, c1, c2⟩ := gh_three hc
    clear hc
    by_cases h1 : l[k].net.size ≤ 100
    · by_cases h2 : l[k].name.size ≤ 100
      · by_cases h3 : l[k].user.size ≤ 100
        · have HN := hide (take_next HT.out hlt ⟨h1, h2, h3⟩)
          go_wp2_with fail
          go_round
          case rel => exact ⟨k + 1, by omega, by go_num, HN.out⟩
          case measure => (simp [intOf]; try omega)
        · have h3' : 100 < l[k].user.size := by omega
          go_wp2_with fail
          go_ret
          exact ⟨true, rfl, nofun, ext_refl _⟩
      · have h2' : 100 < l[k].name.size := by omega
        go_wp2_with fail
        go_ret
        exact ⟨true, rfl, nofun, ext_refl _⟩
    · have h1' : 100 < l[k].net.size := by omega
      go_wp2_with fail
      go_ret
      exact ⟨true, rfl, nofun, ext_refl _⟩
  · obtain rfl : k = l.length := by omega
    have HF := hide (show SmallG 100 l from by have := HT.out; rwa [List.take_length] at this)
    clear HT
    go_wp2_with fail
    go_ret
    exact ⟨false, rfl, fun _ => by first | exact ⟨hl', HF.out⟩ | exact HF.out, ext_refl _⟩
set_option maxRecDepth 100000 in
set_option maxHeartbeats 1600000 in
theorem law_great (x y z : ByteArray) (w : World) : Calls Try.prog 10 #[.agg #[.string x, .string y, .string z]] w (GreatV (x.size ≤ 100 ∧ y.size ≤ 100 ∧ z.size ≤ 100) w) := by
  by_cases h1 : x.size ≤ 100
  · by_cases h2 : y.size ≤ 100
    · by_cases h3 : z.size ≤ 100
      · go_enter Try.func10, Try.ntmps10
        go_wp2_with fail
        go_ret
        exact ⟨_, rfl, fun _ => ⟨h1, h2, h3⟩, ext_alloc (ext_refl w) _⟩
      · have h3' : 100 < z.size := by omega
        go_enter Try.func10, Try.ntmps10
        go_wp2_with fail
        go_ret
        refine ⟨_, rfl, fun h => ?_, ext_alloc (ext_refl w) _⟩
        exfalso
        first | (simp at h; done) | (simp at h; omega)
    · have h2' : 100 < y.size := by omega
      go_enter Try.func10, Try.ntmps10
      go_wp2_with fail
      go_ret
      refine ⟨_, rfl, fun h => ?_, ext_alloc (ext_refl w) _⟩
      exfalso
      first | (simp at h; done) | (simp at h; omega)
  · have h1' : 100 < x.size := by omega
    go_enter Try.func10, Try.ntmps10
    go_wp2_with fail
    go_ret
    refine ⟨_, rfl, fun h => ?_, ext_alloc (ext_refl w) _⟩
    exfalso
    first | (simp at h; done) | (simp at h; omega)
set_option maxRecDepth 100000 in
set_option maxHeartbeats 3000000 in
theorem r51_Same (A A2 : Option Addr) (c c2 : Nat) (l : List Gh) (w : World) (hr : Row w w.heap.size A (ghs l)) (hr2 : Row w w.heap.size A2 (ghs l)) (hl : l.length ≤ 1000) :
    Calls Try.prog 19 #[.slice A l.length c, .slice A2 l.length c2] w (fun e w' => e = .returned (.bool true) ∧ ∃ n, w' = w.drewN n) := by
  go_enter Try.func19, Try.ntmps19
  go_wp2_with fail
  go_loopw [5] (fun i wr => ∃ k : Nat, k ≤ l.length ∧ i = .int .i64 (k : Int) ∧ ∃ n, wr = w.drewN n) (fun i _ => l.length - (intOf i).toNat)
  case atStart => exact ⟨0, Nat.zero_le _, rfl, 0, rfl⟩
  case round =>
  obtain ⟨k, hk, rfl, n, hw⟩ := hrel
  subst hw
  by_cases hlt : k < l.length
  · obtain ⟨b, o, rfl, hb, hc⟩ := gh_cells hr hlt
    obtain ⟨b2, o2, rfl, hb2, hc2⟩ := gh_cells hr2 hlt
    obtain ⟨c0, c1, c2⟩ := gh_three hc
    obtain ⟨d0, d1, d2⟩ := gh_three hc2
    clear hc hc2
    go_wp2_with fail
    go_quiet (fail)
    go_wp2_with fail
    go_roundw
    case rel => exact ⟨k + 1, by omega, by go_num, _, rfl⟩
    case measure => (simp [intOf]; try omega)
  · obtain rfl : k = l.length := by omega
    go_wp2_with fail
    go_ret
    exact ⟨rfl, n, rfl⟩
end
end Go.Proofs.Ytimdcnickfaddaa

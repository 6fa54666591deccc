/-
  BridgeBinds: the walk.
-/
import Derived.Test.YtimdcnickfaddaaLCom
set_option linter.unusedVariables false
set_option linter.unusedSimpArgs false
namespace Go.Proofs.Ytimdcnickfaddaa
open Go.RowKit Go.Maps
open Classical
section
attribute [local go_sem] Addr.add_mid
set_option maxRecDepth 100000 in
set_option maxHeartbeats 3000000 in
theorem binds_any (A : Option Addr) (c : Nat) (l : List Gh) (x y z : ByteArray) (w : World) (hr : Row w w.heap.size A (ghs l)) (hcap : l.length ≤ c) (hcm : c ≤ maxLen) : Calls Try.prog 5 #[.slice A l.length c, .agg #[.string x, .string y, .string z]] w (Says true w) := by
  have B0 := heap_alloc_new w (.cells #[.string x, .string y, .string z] 23)
  have hb0 := ext_alloc (ext_refl w) (.cells #[.string x, .string y, .string z] 23)
  go_enter Try.func5, Try.ntmps5
  go_wp2_with fail
  refine (r51_Great A c 210 l _ (hr.ext hb0) (by omega)).mono ?_
  rintro e w1 ⟨b, rfl, hsm, hb1⟩
  have B1 := box_below B0 hb1
  have hb2 := ext_trans hb0 hb1
  cases b
  case true =>
    go_wp2_with fail
    go_ret
    exact ⟨rfl, hb2⟩
  obtain ⟨hl, hs⟩ := hsm rfl
  have hl1 : l.length ≤ 1000 := by omega
  have hs1 := small_more hs
  clear B0 hb0 hb1 hsm
  go_wp2_with (refine wpList_loadS rfl (.tmp 3) rfl strcId ⟨w.heap.size, 0, none⟩ rfl [.string x, .string y, .string z] rfl (box_all B1) ?_)
  refine (law_great x y z _).mono ?_
  rintro e w2 ⟨b, rfl, hsm, hb3⟩
  have B2 := box_below B1 hb3
  have hb4 := ext_trans hb2 hb3
  cases b
  case true =>
    go_wp2_with fail
    go_ret
    exact ⟨rfl, hb4⟩
  obtain ⟨s1, s2, s3⟩ := hsm rfl
  clear B1 hb2 hb3 hsm hs
  have r0 : w2.cell? ⟨w.heap.size, 0, none⟩ = some (.string x) := box_at B2 rfl
  have r1 : w2.cell? ⟨w.heap.size, 1, none⟩ = some (.string y) := box_at B2 rfl
  have r2 : w2.cell? ⟨w.heap.size, 2, none⟩ = some (.string z) := box_at B2 rfl
  go_wp2_with fail
  refine (br_Bind A c l x y z _ (hr.ext hb4) hl1 hs1 hcap hcm (by omega) (by omega) (by omega)).mono ?_
  rintro e w3 ⟨v, u, rfl, hb5, k1, k2⟩
  have B3 := box_below B2 hb5
  have hb6 := ext_trans hb4 hb5
  clear r0 r1 r2 B2 hb4
  have r0 : w3.cell? ⟨w.heap.size, 0, none⟩ = some (.string x) := box_at B3 rfl
  have r1 : w3.cell? ⟨w.heap.size, 1, none⟩ = some (.string y) := box_at B3 rfl
  have r2 : w3.cell? ⟨w.heap.size, 2, none⟩ = some (.string z) := box_at B3 rfl
  obtain ⟨er, her⟩ : ∃ er, bindE l (newG x y z) z.data.toList = er := ⟨_, rfl⟩
  rw [her] at k1 k2 ⊢
  have CR := fun W (hb : Below w.heap.size w W) => r51_Bind A c l x y z W (hr.ext hb) hl1 hs1 hcap hcm (by omega) (by omega) (by omega)
  have CC := fun W (hb : Below w.heap.size w W) => br_Check A c l W (hr.ext hb) hl1 hs1
  have CD := fun W (hb : Below w.heap.size w W) => r51_Check A c l W (hr.ext hb) hl1 hs1
  obtain ⟨ck, hck⟩ : ∃ ck, gCheck l = ck := ⟨_, rfl⟩
  simp only [hck] at CC CD
  have K1 := hide k1
  have K2 := hide k2
  have HER := hide her
  clear k1 k2 her hck
  go_wp2_with fail
  refine (CR _ hb6).mono ?_
  rintro e w4 ⟨v2, u2, rfl, hb7, m1, m2⟩
  rw [HER.out] at m1 m2 ⊢
  have hb8 := ext_trans hb6 hb7
  have hst : ∃ A1 c1 A2 c2 l2, v = .slice A1 (List.length l2) c1 ∧ v2 = .slice A2 (List.length l2) c2 ∧ Row w4 w4.heap.size A1 (ghs l2) ∧ Row w4 w4.heap.size A2 (ghs l2) ∧ List.length l2 ≤ 1000 ∧ u = u2 := by
    by_cases h0 : er = 0
    · obtain ⟨⟨A1, c1, e1, q1, _⟩, p1⟩ := K1.out h0
      obtain ⟨⟨A2, c2, e2, q2, _⟩, p2⟩ := m1 h0
      exact ⟨A1, c1, A2, c2, _, e1, e2, q1.ext hb7, q2, by have := putG_len2 l (newG x y z); omega, by rw [p1, p2]⟩
    · obtain ⟨e1, p1⟩ := K2.out h0
      obtain ⟨e2, p2⟩ := m2 h0
      exact ⟨none, 0, none, 0, [], e1, e2, Row.nil, Row.nil, by simp, by rw [p1, p2]⟩
  obtain ⟨A1, c1, A2, c2, l2, rfl, rfl, q1, q2, hl2, rfl⟩ := hst
  clear m1 m2 r0 r1 r2 K1 K2 HER B3 hb6 hb7 CR
  have CS := r51_Same A1 A2 c1 c2 l2 w4 q1 q2 hl2
  go_wp2_with (first | (go_at_call 19; refine CS.mono ?_; rintro e w5 ⟨rfl, n5, hw5⟩; have hb9 := below_drewN hb8 n5; rw [← hw5] at hb9; clear hw5) | (go_at_call 20; refine (CC _ hb9).mono ?_; rintro e w6 ⟨rfl, hb10⟩) | (go_at_call 21; refine (CD _ (ext_trans hb9 hb10)).mono ?_; rintro e w7 ⟨rfl, hb11⟩) | (go_at_call 13; refine (live_any _).mono ?_; rintro e wl ⟨rfl, hbl⟩))
  go_ret
  exact ⟨rfl, ext_trans (ext_trans (ext_trans hb9 hb10) hb11) hbl⟩
end
end Go.Proofs.Ytimdcnickfaddaa

/-
  BridgeAgain: the walk.
-/
import Derived.Test.YtimdcnickfaddaaLCom
set_option linter.unusedVariables false
set_option linter.unusedSimpArgs false
namespace Go.Proofs.Ytimdcnickfaddaa
open Go.RowKit Go.Maps
open Classical
section
attribute [local go_sem] Addr.add_mid
theorem again_plain {l : List Gh} {x y z s : ByteArray} (h : bindE l (newG x y z) z.data.toList = 0) (hs : serverOk s.data.toList) :
    bindE (bindG l (newG x y z)) (newG x y s) s.data.toList = 0 ∧ bindG (bindG l (newG x y z)) (newG x y s) = bindG l (newG x y z) ∧ bindU (bindG l (newG x y z)) (newG x y s) = bindU l (newG x y z) := by
  have he := (bind_zero h).1
  have he2 : userE x.data.toList y.data.toList s.data.toList = 0 := userE_zero.2 ((new_has he).server hs)
  obtain ⟨h1, h2, g, h3⟩ := bind_again (l := l) (x := newG x y z) (y := newG x y s) rfl
  refine ⟨?_, h1, h2⟩
  rw [bindE_ok he2]
  rw [newG_id] at h3
  rw [h3]
set_option maxRecDepth 100000 in
set_option maxHeartbeats 3000000 in
theorem again_any (A : Option Addr) (c : Nat) (l : List Gh) (x y z s : ByteArray) (w : World) (hr : Row w w.heap.size A (ghs l)) (hcap : l.length ≤ c) (hcm : c ≤ maxLen) : Calls Try.prog 8 #[.slice A l.length c, .agg #[.string x, .string y, .string z], .string s] w (Says true w) := by
  have B0 := heap_alloc_new w (.cells #[.string x, .string y, .string z] 23)
  have hb0 := ext_alloc (ext_refl w) (.cells #[.string x, .string y, .string z] 23)
  go_enter Try.func8, Try.ntmps8
  go_wp2_with fail
  refine (r51_Great A c 60 l _ (hr.ext hb0) (by omega)).mono ?_
  rintro e w1 ⟨b, rfl, hsm, hb1⟩
  have B1 := box_below B0 hb1
  have hb2 := ext_trans hb0 hb1
  cases b
  case true =>
    go_wp2_with (go_at_call 13; refine (live_any _).mono ?_; rintro e wl ⟨rfl, hbl⟩)
    go_ret
    exact ⟨rfl, ext_trans hb2 hbl⟩
  obtain ⟨hl, hs⟩ := hsm rfl
  have hl1 : l.length ≤ 1000 := by omega
  have hs1 := small_more hs
  clear B0 hb0 hb1 hsm
  go_wp2_with (refine wpList_loadS rfl (.tmp 4) rfl strcId ⟨w.heap.size, 0, none⟩ rfl [.string x, .string y, .string z] rfl (box_all B1) ?_)
  refine (law_great x y z _).mono ?_
  rintro e w2 ⟨b, rfl, hsm, hb3⟩
  have B2 := box_below B1 hb3
  have hb4 := ext_trans hb2 hb3
  cases b
  case true =>
    go_wp2_with (go_at_call 13; refine (live_any _).mono ?_; rintro e wl ⟨rfl, hbl⟩)
    go_ret
    exact ⟨rfl, ext_trans hb4 hbl⟩
  obtain ⟨s1, s2, s3⟩ := hsm rfl
  clear B1 hb2 hb3 hsm
  by_cases hsz : 100 < s.size
  case pos =>
    go_wp2_with (go_at_call 13; refine (live_any _).mono ?_; rintro e wl ⟨rfl, hbl⟩)
    go_ret
    exact ⟨rfl, ext_trans hb4 hbl⟩
  go_wp2_with fail
  refine (br_Check A c l _ (hr.ext hb4) hl1 hs1).mono ?_
  rintro e w3 ⟨rfl, hb5⟩
  have B3 := box_below B2 hb5
  have hb6 := ext_trans hb4 hb5
  clear B2 hb4 hb5
  by_cases hck : gCheck l = 0
  case neg =>
    obtain ⟨ck, hck'⟩ : ∃ ck, gCheck l = ck := ⟨_, rfl⟩
    rw [hck'] at hck ⊢
    have hn : (ck != 0) = true := by simpa using hck
    clear hck hck'
    go_wp2_with (go_at_call 13; refine (live_any _).mono ?_; rintro e wl ⟨rfl, hbl⟩)
    go_ret
    exact ⟨rfl, ext_trans hb6 hbl⟩
  rw [hck]
  have HR := hide (right_iff.1 hck)
  clear hck
  have r0 : w3.cell? ⟨w.heap.size, 0, none⟩ = some (.string x) := box_at B3 rfl
  have r1 : w3.cell? ⟨w.heap.size, 1, none⟩ = some (.string y) := box_at B3 rfl
  have r2 : w3.cell? ⟨w.heap.size, 2, none⟩ = some (.string z) := box_at B3 rfl
  go_wp2_with fail
  refine (br_Bind A c l x y z _ (hr.ext hb6) hl1 hs1 hcap hcm (by omega) (by omega) (by omega)).mono ?_
  rintro e w4 ⟨v, u, rfl, hb7, k1, k2⟩
  have B4 := box_below B3 hb7
  have hb8 := ext_trans hb6 hb7
  clear r0 r1 r2 B3 hb6 hb7 k2
  have r0 : w4.cell? ⟨w.heap.size, 0, none⟩ = some (.string x) := box_at B4 rfl
  have r1 : w4.cell? ⟨w.heap.size, 1, none⟩ = some (.string y) := box_at B4 rfl
  have r2 : w4.cell? ⟨w.heap.size, 2, none⟩ = some (.string z) := box_at B4 rfl
  by_cases hbe : bindE l (newG x y z) z.data.toList = 0
  case neg =>
    obtain ⟨er, her⟩ : ∃ er, bindE l (newG x y z) z.data.toList = er := ⟨_, rfl⟩
    rw [her] at hbe ⊢
    have hn : (er != 0) = true := by simpa using hbe
    clear hbe her k1
    go_wp2_with (go_at_call 13; refine (live_any _).mono ?_; rintro e wl ⟨rfl, hbl⟩)
    go_ret
    exact ⟨rfl, ext_trans hb8 hbl⟩
  rw [hbe]
  obtain ⟨⟨A1, c1, rfl, q1, q2, q3⟩, rfl⟩ := k1 hbe
  have CS := fun W => r2_Server s W (by omega)
  cases hso : serverB s.data.toList with
  | false =>
    simp only [hso, errN, Bool.false_eq_true, if_false] at CS
    clear hso k1
    go_wp2_with (first | (go_at_call 24; refine (CS _).mono ?_; rintro e w5 ⟨rfl, hw5⟩; rw [hw5]; clear hw5 w5) | (go_at_call 13; refine (live_any _).mono ?_; rintro e wl ⟨rfl, hbl⟩))
    go_ret
    exact ⟨rfl, ext_trans hb8 hbl⟩
  | true =>
    simp only [hso, errN, if_true] at CS
    obtain ⟨p1, p2, p3⟩ := again_plain (s := s) hbe ((server_iff _).1 hso)
    have he := bind_zero hbe
    have hsb := small_bind hs he.1 s1 s2
    have hgl : (bindG l (newG x y z)).length ≤ 1000 := by have := putG_len2 l (newG x y z); omega
    have hck2 : gCheck (bindG l (newG x y z)) = 0 := right_iff.2 (right_bind HR.out (new_true he.1) he.2)
    obtain ⟨l2, hl2⟩ : ∃ l2, bindG l (newG x y z) = l2 := ⟨_, rfl⟩
    obtain ⟨u2, hu2⟩ : ∃ u2, bindU l (newG x y z) = u2 := ⟨_, rfl⟩
    rw [hl2] at p1 p2 p3 hsb hgl hck2 q1 q2 ⊢
    rw [hu2] at p3 ⊢
    have CB := fun W (hb : Below w4.heap.size w4 W) => br_Bind A1 c1 l2 x y s W (q1.ext hb) hgl hsb q2 q3 (by omega) (by omega) (by omega)
    have CC := fun W (hb : Below w4.heap.size w4 W) => br_Check A1 c1 l2 W (q1.ext hb) hgl hsb
    simp only [hck2] at CC
    have P1 := hide p1
    have P2 := hide p2
    have P3 := hide p3
    have HHR := hide hr
    clear hso k1 hl2 hu2 he hck2 HR hbe p1 p2 p3 hs hs1 hr
    go_wp2_with (go_at_call 24; refine (CS _).mono ?_; rintro e w5 ⟨rfl, hw5⟩; rw [hw5]; clear hw5 w5)
    refine (CB _ (ext_refl _)).mono ?_
    rintro e w6 ⟨v3, u3, rfl, hb9, m1, _⟩
    obtain ⟨⟨A3, c3, rfl, t1, _, _⟩, rfl⟩ := m1 P1.out
    rw [P1.out]
    rw [P2.out] at t1 ⊢
    rw [P3.out]
    have hb10 := ext_trans hb8 hb9
    have q4 := q1.ext hb9
    clear r0 r1 r2 B4 m1 hb8
    go_wp2_with (first | (go_at_call 20; refine (CC _ hb9).mono ?_; rintro e w7 ⟨rfl, hb11⟩) | (go_at_call 19; refine (r51_Same A1 A3 c1 c3 l2 _ (q4.ext hb11) (t1.ext hb11) hgl).mono ?_; rintro e w8 ⟨rfl, n8, hw8⟩; have hb12 := below_drewN (ext_trans hb10 hb11) n8; rw [← hw8] at hb12; clear hw8) | (go_at_call 13; refine (live_any _).mono ?_; rintro e wl ⟨rfl, hbl⟩))
    go_ret
    exact ⟨rfl, ext_trans hb12 hbl⟩
end
end Go.Proofs.Ytimdcnickfaddaa

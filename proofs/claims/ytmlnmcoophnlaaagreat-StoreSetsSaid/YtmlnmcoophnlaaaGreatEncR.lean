/-
  The reference's Encode.
-/
import Derived.Test.YtmlnmcoophnlaaaGreatBuf
import Derived.Test.YtmlnmcoophnlaaaGreatPhases
import Derived.Deep.DeepCutAuto
set_option linter.unusedVariables false
set_option linter.unusedSimpArgs false
namespace Go.Proofs.YtmlnmcoophnlaaaGreat
open Go.RowKit
attribute [local go_sem] Addr.add_mid
theorem r6rest_any {S : Nat → Prop} {cs : List Value} {v : Lev} {w : World} (hr : LevR w S cs v) :
    Calls Tryz.prog 150 #[.agg cs.toArray] w (fun e w' => ∃ g, e = .returned (.slice (some ⟨g, 0, none⟩) 7 7) ∧ (∀ k n, (restL v)[k]? = some n → w'.cell? ⟨g, k, none⟩ = some (.int .i64 n)) ∧ g < w'.heap.size ∧ Below w.heap.size w w') := by
  obtain ⟨A1, c1, A2, c2, l0, l1, _, _, l2, l3, l4, l5, l6, l7, l8⟩ := hr.parts
  clear hr
  go_enter Tryz.func150, Tryz.ntmps150
  go_wp2_with fail
  go_ret
  refine ⟨w.heap.size + 1, rfl, fun k n hk => ?_, by simp, below_two w _ _⟩
  refine box_at (C := [.int .i64 v.user, .int .i64 v.message, .int .i64 v.state, .int .i64 v.invite, .int .i64 v.kick, .int .i64 v.ban, .int .i64 v.redact]) (heap_alloc2_new w _ _) ?_
  rw [show ([.int .i64 v.user, .int .i64 v.message, .int .i64 v.state, .int .i64 v.invite, .int .i64 v.kick, .int .i64 v.ban, .int .i64 v.redact] : List Value) = (restL v).map (Value.int .i64) from rfl, List.getElem?_map, hk]
  rfl
set_option maxRecDepth 100000 in
set_option maxHeartbeats 8000000 in
theorem R6Encode_any {S : Nat → Prop} {cs : List Value} {c : Con} {w : World} (hr : ConR w S cs c) (hp : c.puts) :
    Calls Tryz.prog 90 #[.agg cs.toArray] w (GivesB (encCon c) w) := by
  obtain ⟨s0, s1, s2, s3, s4⟩ := hr.gets
  obtain ⟨A1, c1, A2, c2, s5, s6, h5, h6⟩ := hr.lists
  obtain ⟨A5, c5, A6, c6, l0, l1, hu, hk, l2, l3, l4, l5, l6, l7, l8⟩ := hr.lev.parts
  have HP := hide hp
  have HLR := hide hr.lev
  have HLEN := hide (show (cs.drop 7).length = 9 by rw [List.length_drop, hr.length])
  have HONE := hide (fun u (hu : u ∈ cs.drop 7) => hr.one u (List.mem_of_mem_drop hu))
  have B := heap_alloc_new w (.cells cs.toArray 31)
  have hb0 := ext_alloc (ext_refl w) (.cells cs.toArray 31)
  have HS := hide (And.intro s0 (And.intro s1 (And.intro s2 (And.intro s3 (And.intro s4 (And.intro s5 s6))))))
  have HL := hide (And.intro l0 (And.intro l1 (And.intro l2 (And.intro l3 (And.intro l4 (And.intro l5 (And.intro l6 (And.intro l7 l8))))))))
  have bU := hp.usersL
  have bK := hp.kindsL
  obtain ⟨D, hD⟩ : ∃ D, D = cs.drop 7 := ⟨_, rfl⟩
  rw [← hD] at HLEN HONE HL HLR
  have HD := hide hD
  clear hr hp s0 s1 s2 s3 s4 s5 s6 l0 l1 l2 l3 l4 l5 l6 l7 l8 hD
  go_enter Tryz.func90, Tryz.ntmps90
  go_upto_region 1 with fail
  generalize w.alloc (.cells cs.toArray 31) = W0 at B hb0 ⊢
  have HB0 := hide B; clear B
  have n1 : (pieceL c 1).length ≤ 1073741824 := Nat.le_trans (piece_le c 1) HP.out.all
  have n2 : (pieceL c 2).length ≤ 1073741824 := Nat.le_trans (piece_le c 2) HP.out.all
  have n3 : (pieceL c 3).length ≤ 1073741824 := Nat.le_trans (piece_le c 3) HP.out.all
  have n4 : (pieceL c 4).length ≤ 1073741824 := Nat.le_trans (piece_le c 4) HP.out.all
  have n5 : (pieceL c 5).length ≤ 1073741824 := Nat.le_trans (piece_le c 5) HP.out.all
  have n6 : (pieceL c 6).length ≤ 1073741824 := Nat.le_trans (piece_le c 6) HP.out.all
  have n7 : (pieceL c 7).length ≤ 1073741824 := Nat.le_trans (piece_le c 7) HP.out.all
  have n8 : (pieceL c 8).length ≤ 1073741824 := Nat.le_trans (piece_le c 8) HP.out.all
  have r : W0.cell? ⟨w.heap.size, 0, none⟩ = some (.string c.text) := box_at HB0.out HS.out.1
  have CT := RputS_b (L := pieceL c 1) _ (Bf.nil W0) HP.out.text (by simp) rfl
  go_upto_region 2 with (go_at_call 144; refine CT.mono ?_; rintro e W1 ⟨v1, rfl, h1, hx⟩; have HB1 := hide (box_below HB0.out hx); have hb1 := ext_trans hb0 hx; clear hx r HB0)
  clear CT
  have r : W1.cell? ⟨w.heap.size, 1, none⟩ = some (.int .i64 c.n) := box_at HB1.out HS.out.2.1
  have CT := RputI_b (L := pieceL c 2) _ h1 HP.out.n n1 rfl
  go_upto_region 3 with (go_at_call 143; refine CT.mono ?_; rintro e W2 ⟨v2, rfl, h2, hx⟩; have HB2 := hide (box_below HB1.out hx); have hb2 := ext_trans hb1 hx; clear hx r HB1)
  clear CT
  have r : W2.cell? ⟨w.heap.size, 2, none⟩ = some (.int .i64 c.target) := box_at HB2.out HS.out.2.2.1
  have CT := RputI_b (L := pieceL c 3) _ h2 HP.out.target n2 rfl
  go_upto_region 4 with (go_at_call 143; refine CT.mono ?_; rintro e W3 ⟨v3, rfl, h3, hx⟩; have HB3 := hide (box_below HB2.out hx); have hb3 := ext_trans hb2 hx; clear hx r HB2)
  clear CT
  have r : W3.cell? ⟨w.heap.size, 3, none⟩ = some (.bool c.thread) := box_at HB3.out HS.out.2.2.2.1
  have CT := RputT_b (L := pieceL c 4) _ h3 n3 rfl
  go_upto_region 5 with (go_at_call 145; refine CT.mono ?_; rintro e W4 ⟨v4, rfl, h4, hx⟩; have HB4 := hide (box_below HB3.out hx); have hb4 := ext_trans hb3 hx; clear hx r HB3)
  clear CT
  have r : W4.cell? ⟨w.heap.size, 4, none⟩ = some (.string c.via) := box_at HB4.out HS.out.2.2.2.2.1
  have CT := RputS_b (L := pieceL c 5) _ h4 HP.out.via n4 rfl
  go_upto_region 6 with (go_at_call 144; refine CT.mono ?_; rintro e W5 ⟨v5, rfl, h5b, hx⟩; have HB5 := hide (box_below HB4.out hx); have hb5 := ext_trans hb4 hx; clear hx r HB4)
  clear CT
  have r : W5.cell? ⟨w.heap.size, 5, none⟩ = some (.slice A1 c.allow.length c1) := box_at HB5.out HS.out.2.2.2.2.2.1
  have CT := RputL_b (c2 := c1) (L := pieceL c 6) h5b (h5.ext hb5) HP.out.allowL n6 rfl
  go_upto_region 7 with (go_at_call 149; refine CT.mono ?_; rintro e W6 ⟨v6, rfl, h6b, hx⟩; have HB6 := hide (box_below HB5.out hx); have hb6 := ext_trans hb5 hx; clear hx r HB5)
  clear CT
  have r : W6.cell? ⟨w.heap.size, 6, none⟩ = some (.slice A2 c.deny.length c2) := box_at HB6.out HS.out.2.2.2.2.2.2
  have CT := RputL_b (c2 := c2) (L := pieceL c 7) h6b (h6.ext hb6) HP.out.denyL n7 rfl
  go_upto_region 8 with (go_at_call 149; refine CT.mono ?_; rintro e W7 ⟨v7, rfl, h7, hx⟩; have HB7 := hide (box_below HB6.out hx); have hb7 := ext_trans hb6 hx; clear hx r HB6)
  clear CT
  go_upto_region 9 with (first
    | refine wpList_loadS rfl (.tmp 36) rfl strcL ⟨w.heap.size, 7, none⟩ rfl D HLEN.out (by rw [HD.out]; exact box_from HB7.out) ?_
    | refine wpList_newS rfl rfl strcL rfl (.tmp 4) (.tmp 37) rfl rfl rfl D.toArray rfl (by simpa using HLEN.out) (by simpa using HONE.out) ?_)
  have BD := heap_alloc_new W7 (.cells D.toArray 29)
  have hx := ext_alloc (ext_refl W7) (.cells D.toArray 29)
  have hb8 := ext_trans hb7 hx
  replace h7 := h7.ext hx
  generalize W7.alloc (.cells D.toArray 29) = W8 at BD hx hb8 h7 ⊢
  generalize W7.heap.size = g at BD ⊢
  have HB8 := hide BD
  clear BD hx HB7
  have r : W8.cell? ⟨g, 0, none⟩ = some (.slice A5 c.lv.users.length c5) := box_at HB8.out HL.out.1
  have hul : I64 (c.lv.users.length : Int) := by have := HP.out.usersL; exact ⟨by omega, by omega⟩
  have CT := RputI_b (L := pieceL c 8) _ h7 hul n7 rfl
  clear hul
  go_upto_region 10 with (go_at_call 143; refine CT.mono ?_; rintro e W9 ⟨v9, rfl, h9, hx⟩; have HB9 := hide (box_below HB8.out hx); have hb9 := ext_trans hb8 hx; clear hx r HB8)
  clear CT n1 n2 n3 n4 n5 n6 n7
  rw [← usersP_zero] at h9
  have r0 : W9.cell? ⟨g, 0, none⟩ = some (.slice A5 c.lv.users.length c5) := box_at HB9.out HL.out.1
  have r1 : W9.cell? ⟨g, 1, none⟩ = some (.slice A6 c.lv.kinds.length c6) := box_at HB9.out HL.out.2.1
  have hgl : g < W9.heap.size := (Array.getElem?_eq_some_iff.1 HB9.out).1
  go_upto_region 11 with fail
  have SLI := hu.ext hb9
  go_loopw [3, 5] (fun v i wr => ∃ k : Nat, k ≤ c.lv.users.length ∧ i = .int .i64 (k : Int) ∧ Bf wr v (usersP c k) ∧ Below W9.heap.size W9 wr) (fun _ i _ => c.lv.users.length - (intOf i).toNat)
  case atStart => exact ⟨0, Nat.zero_le _, rfl, h9, ext_refl _⟩
  case round =>
  obtain ⟨k, hkl, rfl, hbf, hnx⟩ := hrel
  by_cases hlt : k < c.lv.users.length
  · obtain ⟨bk, ok, hA, hbl, hcl⟩ := SLI.fix (ucs_get c.lv.users k hlt).1
    have q0 := (hnx.cell hbl).trans (hcl _ _ (ucs_get c.lv.users k hlt).1)
    have q1 := (hnx.cell hbl).trans (cell_assoc (hcl _ _ (ucs_get c.lv.users k hlt).2))
    have hI := HP.out.users _ (List.getElem_mem hlt)
    have HH := hide (usersP_half c hlt)
    have nH := Nat.le_trans (users_half_le c hlt) HP.out.all
    have nK := Nat.le_trans (usersP_le c k (by omega)) HP.out.all
    obtain ⟨x, hx⟩ : ∃ x, x = c.lv.users[k] := ⟨_, rfl⟩
    rw [← hx] at q0 q1 hI nH HH
    clear hx hcl
    obtain ⟨x1, x2⟩ := x
    dsimp only at q0 q1 hI nH HH
    obtain ⟨Lh, hLh, HLh⟩ := named (usersP c k ++ encS x1)
    rw [← hLh] at nH
    clear hLh
    obtain ⟨i1, i2⟩ := hI
    subst hA
    have p0 : wr.cell? ⟨g, 0, none⟩ = some (.slice (some ⟨bk, ok, none⟩) c.lv.users.length c5) := box_at (box_below HB9.out hnx) HL.out.1
    have hgr : g < wr.heap.size := Nat.lt_of_lt_of_le hgl hnx.size
    have hbr : bk < wr.heap.size := Nat.lt_of_lt_of_le hbl hnx.size
    have CT := RputS_b (L := Lh) _ hbf i1 nK HLh.out.symm
    go_upto_region 14 with (go_at_call 144; refine CT.mono ?_; rintro e w2 ⟨v2, rfl, b2, hx2⟩)
    have p2 := (hx2.cell hgr).trans p0
    have q2 := (hx2.cell hbr).trans q1
    have hb2 := ext_trans hnx hx2
    have CT2 := RputI_b (L := usersP c (k + 1)) _ b2 i2 nH (by rw [HLh.out, HH.out])
    clear p0 q0 q1 CT hnx hx2 hbf
    go_wp2_with (go_at_call 143; refine CT2.mono ?_; rintro e w3 ⟨v3, rfl, b3, hx3⟩)
    go_roundw
    case rel => exact ⟨k + 1, by omega, by go_num, b3, ext_trans hb2 hx3⟩
    case measure => (simp [intOf]; try omega)
  obtain rfl : k = c.lv.users.length := by omega
  have hbW := ext_trans hb9 hnx
  have HB10 := hide (box_below HB9.out hnx)
  have p0 : wr.cell? ⟨g, 0, none⟩ = some (.slice A5 c.lv.users.length c5) := box_at HB10.out HL.out.1
  have r : wr.cell? ⟨g, 1, none⟩ = some (.slice A6 c.lv.kinds.length c6) := box_at HB10.out HL.out.2.1
  have hkl : I64 (c.lv.kinds.length : Int) := by have := HP.out.kindsL; exact ⟨by omega, by omega⟩
  have nU := Nat.le_trans (usersP_le c c.lv.users.length (Nat.le_refl _)) HP.out.all
  have CT := RputI_b (L := kindsP c 0) _ hbf hkl nU (kindsP_zero c).symm
  clear hkl nU r0 r1 SLI
  go_upto_region 16 with (go_at_call 143; refine CT.mono ?_; rintro e W12 ⟨v12, rfl, h12, hx⟩; have HB12 := hide (box_below HB10.out hx); have hb12 := ext_trans hbW hx; clear hx r HB10 p0)
  clear CT hbf hbW hnx HB9 hb9 h9 hgl
  have r0 : W12.cell? ⟨g, 0, none⟩ = some (.slice A5 c.lv.users.length c5) := box_at HB12.out HL.out.1
  have r1 : W12.cell? ⟨g, 1, none⟩ = some (.slice A6 c.lv.kinds.length c6) := box_at HB12.out HL.out.2.1
  have hgl : g < W12.heap.size := (Array.getElem?_eq_some_iff.1 HB12.out).1
  go_upto_region 17 with fail
  have SLI := hk.ext hb12
  go_loopw [3, 6] (fun v i wr => ∃ k : Nat, k ≤ c.lv.kinds.length ∧ i = .int .i64 (k : Int) ∧ Bf wr v (kindsP c k) ∧ Below W12.heap.size W12 wr) (fun _ i _ => c.lv.kinds.length - (intOf i).toNat)
  case atStart => exact ⟨0, Nat.zero_le _, rfl, h12, ext_refl _⟩
  case round =>
  obtain ⟨k, hkl, rfl, hbf, hnx⟩ := hrel
  by_cases hlt : k < c.lv.kinds.length
  · obtain ⟨bk, ok, hA, hbl, hcl⟩ := SLI.fix (kcs_get c.lv.kinds k hlt).1
    have q0 := (hnx.cell hbl).trans (hcl _ _ (kcs_get c.lv.kinds k hlt).1)
    have q1 := (hnx.cell hbl).trans (cell_assoc (hcl _ _ (kcs_get c.lv.kinds k hlt).2))
    have hI := HP.out.kinds _ (List.getElem_mem hlt)
    have HH := hide (kindsP_half c hlt)
    have nH := Nat.le_trans (kinds_half_le c hlt) HP.out.all
    have nK := Nat.le_trans (kindsP_le c k (by omega)) HP.out.all
    obtain ⟨x, hx⟩ : ∃ x, x = c.lv.kinds[k] := ⟨_, rfl⟩
    rw [← hx] at q0 q1 hI nH HH
    clear hx hcl
    obtain ⟨x1, x2⟩ := x
    dsimp only at q0 q1 hI nH HH
    obtain ⟨Lh, hLh, HLh⟩ := named (kindsP c k ++ encI x1)
    rw [← hLh] at nH
    clear hLh
    obtain ⟨i1, i2⟩ := hI
    subst hA
    have p0 : wr.cell? ⟨g, 1, none⟩ = some (.slice (some ⟨bk, ok, none⟩) c.lv.kinds.length c6) := box_at (box_below HB12.out hnx) HL.out.2.1
    have hgr : g < wr.heap.size := Nat.lt_of_lt_of_le hgl hnx.size
    have hbr : bk < wr.heap.size := Nat.lt_of_lt_of_le hbl hnx.size
    have CT := RputI_b (L := Lh) _ hbf i1 nK HLh.out.symm
    go_upto_region 20 with (go_at_call 143; refine CT.mono ?_; rintro e w2 ⟨v2, rfl, b2, hx2⟩)
    have p2 := (hx2.cell hgr).trans p0
    have q2 := (hx2.cell hbr).trans q1
    have hb2 := ext_trans hnx hx2
    have CT2 := RputI_b (L := kindsP c (k + 1)) _ b2 i2 nH (by rw [HLh.out, HH.out])
    clear p0 q0 q1 CT hnx hx2 hbf
    go_wp2_with (go_at_call 143; refine CT2.mono ?_; rintro e w3 ⟨v3, rfl, b3, hx3⟩)
    go_roundw
    case rel => exact ⟨k + 1, by omega, by go_num, b3, ext_trans hb2 hx3⟩
    case measure => (simp [intOf]; try omega)
  obtain rfl : k = c.lv.kinds.length := by omega
  have hbW := ext_trans hb12 hnx
  have HB13 := hide (box_below HB12.out hnx)
  rw [← restP_zero] at hbf
  clear r0 r1 SLI HB12 hb12 h12 hnx hgl
  have e2 : wr.cell? ⟨g, 2, none⟩ = some (.int .i64 c.lv.user) := box_at HB13.out HL.out.2.2.1
  have e3 : wr.cell? ⟨g, 3, none⟩ = some (.int .i64 c.lv.message) := box_at HB13.out HL.out.2.2.2.1
  have e4 : wr.cell? ⟨g, 4, none⟩ = some (.int .i64 c.lv.state) := box_at HB13.out HL.out.2.2.2.2.1
  have e5 : wr.cell? ⟨g, 5, none⟩ = some (.int .i64 c.lv.invite) := box_at HB13.out HL.out.2.2.2.2.2.1
  have e6 : wr.cell? ⟨g, 6, none⟩ = some (.int .i64 c.lv.kick) := box_at HB13.out HL.out.2.2.2.2.2.2.1
  have e7 : wr.cell? ⟨g, 7, none⟩ = some (.int .i64 c.lv.ban) := box_at HB13.out HL.out.2.2.2.2.2.2.2.1
  have e8 : wr.cell? ⟨g, 8, none⟩ = some (.int .i64 c.lv.redact) := box_at HB13.out HL.out.2.2.2.2.2.2.2.2
  have p0 : wr.cell? ⟨g, 0, none⟩ = some (.slice A5 c.lv.users.length c5) := box_at HB13.out HL.out.1
  have p1 : wr.cell? ⟨g, 1, none⟩ = some (.slice A6 c.lv.kinds.length c6) := box_at HB13.out HL.out.2.1
  have HLW := hide (HLR.out.ext hbW)
  go_upto_region 22 with (first
    | refine wpList_loadS rfl (.tmp 4) rfl strcL ⟨g, 0, none⟩ rfl D HLEN.out (box_all HB13.out) ?_
    | (go_at_call 150; refine (r6rest_any HLW.out).mono ?_; rintro e W14 ⟨gr, rfl, hcr, hgr, hx14⟩))
  have HCR := hide hcr
  have hb14 := ext_trans hbW hx14
  replace hbf := hbf.ext hx14
  clear p0 p1 e2 e3 e4 e5 e6 e7 e8 hcr hx14 hbW
  go_upto_region 23 with fail
  go_loopw [3, 8] (fun v i wx => ∃ j : Nat, j ≤ 7 ∧ i = .int .i64 (j : Int) ∧ Bf wx v (restP c j) ∧ Below W14.heap.size W14 wx) (fun _ i _ => 7 - (intOf i).toNat)
  case atStart => exact ⟨0, by omega, rfl, hbf, ext_refl _⟩
  case round =>
  obtain ⟨j, hj, rfl, hbx, hnx⟩ := hrel
  have hj : j = 0 ∨ j = 1 ∨ j = 2 ∨ j = 3 ∨ j = 4 ∨ j = 5 ∨ j = 6 ∨ j = 7 := by omega
  rcases hj with rfl | rfl | rfl | rfl | rfl | rfl | rfl | rfl
  · have hc : ((0 : Nat) : Int) = 0 := rfl
    have q : wr.cell? ⟨gr, 0, none⟩ = some (.int .i64 c.lv.user) := (hnx.cell hgr).trans (HCR.out 0 _ rfl)
    have nK := Nat.le_trans (restP_le c 0 (by omega)) HP.out.all
    have hi := HP.out.rest c.lv.user (by simp [restL])
    have CT := RputI_b (L := restP c 1) _ hbx hi nK (restP_step c rfl).symm
    clear hi nK
    go_wp2_with (go_at_call 143; refine CT.mono ?_; rintro e w3 ⟨v3, rfl, b3, hx3⟩)
    go_roundw
    case rel => exact ⟨1, by omega, rfl, b3, ext_trans hnx hx3⟩
    case measure => (simp [intOf]; try omega)
  · have hc : ((1 : Nat) : Int) = 1 := rfl
    have q : wr.cell? ⟨gr, 1, none⟩ = some (.int .i64 c.lv.message) := (hnx.cell hgr).trans (HCR.out 1 _ rfl)
    have nK := Nat.le_trans (restP_le c 1 (by omega)) HP.out.all
    have hi := HP.out.rest c.lv.message (by simp [restL])
    have CT := RputI_b (L := restP c 2) _ hbx hi nK (restP_step c rfl).symm
    clear hi nK
    go_wp2_with (go_at_call 143; refine CT.mono ?_; rintro e w3 ⟨v3, rfl, b3, hx3⟩)
    go_roundw
    case rel => exact ⟨2, by omega, rfl, b3, ext_trans hnx hx3⟩
    case measure => (simp [intOf]; try omega)
  · have hc : ((2 : Nat) : Int) = 2 := rfl
    have q : wr.cell? ⟨gr, 2, none⟩ = some (.int .i64 c.lv.state) := (hnx.cell hgr).trans (HCR.out 2 _ rfl)
    have nK := Nat.le_trans (restP_le c 2 (by omega)) HP.out.all
    have hi := HP.out.rest c.lv.state (by simp [restL])
    have CT := RputI_b (L := restP c 3) _ hbx hi nK (restP_step c rfl).symm
    clear hi nK
    go_wp2_with (go_at_call 143; refine CT.mono ?_; rintro e w3 ⟨v3, rfl, b3, hx3⟩)
    go_roundw
    case rel => exact ⟨3, by omega, rfl, b3, ext_trans hnx hx3⟩
    case measure => (simp [intOf]; try omega)
  · have hc : ((3 : Nat) : Int) = 3 := rfl
    have q : wr.cell? ⟨gr, 3, none⟩ = some (.int .i64 c.lv.invite) := (hnx.cell hgr).trans (HCR.out 3 _ rfl)
    have nK := Nat.le_trans (restP_le c 3 (by omega)) HP.out.all
    have hi := HP.out.rest c.lv.invite (by simp [restL])
    have CT := RputI_b (L := restP c 4) _ hbx hi nK (restP_step c rfl).symm
    clear hi nK
    go_wp2_with (go_at_call 143; refine CT.mono ?_; rintro e w3 ⟨v3, rfl, b3, hx3⟩)
    go_roundw
    case rel => exact ⟨4, by omega, rfl, b3, ext_trans hnx hx3⟩
    case measure => (simp [intOf]; try omega)
  · have hc : ((4 : Nat) : Int) = 4 := rfl
    have q : wr.cell? ⟨gr, 4, none⟩ = some (.int .i64 c.lv.kick) := (hnx.cell hgr).trans (HCR.out 4 _ rfl)
    have nK := Nat.le_trans (restP_le c 4 (by omega)) HP.out.all
    have hi := HP.out.rest c.lv.kick (by simp [restL])
    have CT := RputI_b (L := restP c 5) _ hbx hi nK (restP_step c rfl).symm
    clear hi nK
    go_wp2_with (go_at_call 143; refine CT.mono ?_; rintro e w3 ⟨v3, rfl, b3, hx3⟩)
    go_roundw
    case rel => exact ⟨5, by omega, rfl, b3, ext_trans hnx hx3⟩
    case measure => (simp [intOf]; try omega)
  · have hc : ((5 : Nat) : Int) = 5 := rfl
    have q : wr.cell? ⟨gr, 5, none⟩ = some (.int .i64 c.lv.ban) := (hnx.cell hgr).trans (HCR.out 5 _ rfl)
    have nK := Nat.le_trans (restP_le c 5 (by omega)) HP.out.all
    have hi := HP.out.rest c.lv.ban (by simp [restL])
    have CT := RputI_b (L := restP c 6) _ hbx hi nK (restP_step c rfl).symm
    clear hi nK
    go_wp2_with (go_at_call 143; refine CT.mono ?_; rintro e w3 ⟨v3, rfl, b3, hx3⟩)
    go_roundw
    case rel => exact ⟨6, by omega, rfl, b3, ext_trans hnx hx3⟩
    case measure => (simp [intOf]; try omega)
  · have hc : ((6 : Nat) : Int) = 6 := rfl
    have q : wr.cell? ⟨gr, 6, none⟩ = some (.int .i64 c.lv.redact) := (hnx.cell hgr).trans (HCR.out 6 _ rfl)
    have nK := Nat.le_trans (restP_le c 6 (by omega)) HP.out.all
    have hi := HP.out.rest c.lv.redact (by simp [restL])
    have CT := RputI_b (L := restP c 7) _ hbx hi nK (restP_step c rfl).symm
    clear hi nK
    go_wp2_with (go_at_call 143; refine CT.mono ?_; rintro e w3 ⟨v3, rfl, b3, hx3⟩)
    go_roundw
    case rel => exact ⟨7, by omega, rfl, b3, ext_trans hnx hx3⟩
    case measure => (simp [intOf]; try omega)
  · have hc : ((7 : Nat) : Int) = 7 := rfl
    have HA := hide (restP_all c)
    go_wp2_with fail
    go_ret
    rw [HA.out] at hbx
    exact ⟨_, rfl, hbx, ext_trans hb14 hnx⟩
end Go.Proofs.YtmlnmcoophnlaaaGreat

/-
  fedchatlaw05: CodecCopies, the walk.
-/
import Derived.Test.YtpmjfbdnfdeblaaAwake
import Derived.Test.YtpmjfbdnfdeblaaDecLaws
set_option linter.unusedVariables false
set_option linter.unusedSimpArgs false
namespace Go.Proofs.Ytpmjfbdnfdeblaa
open Go.RowKit

set_option maxRecDepth 100000 in
set_option maxHeartbeats 1600000 in
theorem copies_small (A : Option Addr) (c : Nat) (l : List UInt8) (n m : Int) (w : World) (hr : Row w w.heap.size A (bvs l)) (hc : l.length ≤ c) (hn : I64 n) (hm : I64 m) (hl : l.length ≤ 2000) :
    Calls Try.prog 3 #[.slice A l.length c, .int .i64 n, .int .i64 m] w (fun e w' => e = .returned (.bool true) ∧ Below w.heap.size w w') := by
  go_enter Try.func3, Try.ntmps3
  go_wp2_with (first | (at_builtin; go_must (refine wpList_append_row rfl (.tmp 22) (.tmp 23) rfl elemB w.heap.size _ 0 [] rfl (own_empty w _ _) w.heap.size l.length c A (bvs l) (by simp [bvs]) rfl (hr.below (Below.alloc (Below.refl _ _) (Nat.le_refl _) _)) (row_none hr) (bvs_one l) (by unfold maxLen; omega) (by omega) (by simp) ?_)))
  intro v1 w1 hown1 hg1
  try simp only [Nat.zero_add, List.nil_append] at hown1
  have hb1 := below_of_own (Below.alloc (Below.refl w.heap.size w) (Nat.le_refl _) (.cells #[] 5)) (own_empty w _ 1) hg1 (by simp) (Nat.le_refl _)
  go_wp2_with (first | (at_builtin; go_must (refine wpList_append_new rfl (.tmp 24) (.tmp 25) rfl elemB w.heap.size _ _ _ rfl hown1 4 _ rfl rfl (by simp [Value.oneCell']) (by decide) (by unfold maxLen; omega) (by omega) hb1.size ?_)))
  intro v2 w2 hown2 hg2
  have hb2 := below_of_own hb1 hown1 hg2 hb1.size (Nat.le_refl _)
  clear hown1 hg1 hg2 hb1
  have e2 : bvs l ++ #[Value.int .u8 7, .int .u8 7, .int .u8 7, .int .u8 7].toList = bvs (l ++ [7, 7, 7, 7]) := by simp [bvs, bv]
  rw [e2] at hown2
  clear e2
  obtain ⟨A2, c2, rfl, hc2, _⟩ := own_form hown2
  have hrow2 := Row.own hown2
  have hrun := run_head elemB A2 (l.length + 4) c2 l.length (by omega)
  have hcells : ∀ k : Nat, k < 4 → (bvs (l ++ [7, 7, 7, 7]))[l.length + k]? = some (.int .u8 7) := by
    intro k hk
    match k, hk with
    | 0, _ => simp [bvs, bv]
    | 1, _ => simp [bvs, bv]
    | 2, _ => simp [bvs, bv]
    | 3, _ => simp [bvs, bv]
  have hhead : Row w2 w2.heap.size A2 (bvs l) := by
    have h := hrow2.take l.length
    have e : (bvs (l ++ [7, 7, 7, 7])).take l.length = bvs l := by simp [bvs]
    rwa [e] at h
  have HC := hide hcells
  clear hcells hown2
  have hle1 := Enc.enc_len (zig n) (zig_lt hn.1 hn.2)
  have hle2 := Enc.enc_len (zig m) (zig_lt hm.1 hm.2)
  go_wp2_with fail
  refine (PutInt_any A2 c2 l n w2 hhead hn.1 hn.2 (by omega)).mono ?_
  rintro e w3 ⟨v3, rfl, hown3, hb3⟩
  go_wp2_with fail
  refine (PutInt_any A2 c2 l m w3 (hhead.ext hb3) hm.1 hm.2 (by omega)).mono ?_
  rintro e w4 ⟨v4, rfl, hown4, hb4⟩
  go_wp2_with fail
  refine (PutBool_any A2 c2 l _ w4 (hhead.ext (ext_trans hb3 hb4)) (by omega)).mono ?_
  rintro e w5 ⟨v5, rfl, hown5, hb5⟩
  replace hown3 := own_below (own_below hown3 hb4) hb5
  replace hown4 := own_below hown4 hb5
  have hb := hb2.trans ((ext_trans (ext_trans hb3 hb4) hb5).mono hb2.size)
  replace hrow2 := hrow2.ext (ext_trans (ext_trans hb3 hb4) hb5)
  clear hb2 hb3 hb4 hb5 hhead
  go_wp2_with fail
  obtain ⟨A3, c3, rfl, hc3, _⟩ := own_form hown3
  obtain ⟨A4, c4, rfl, hc4, _⟩ := own_form hown4
  generalize (if decide (n < m) = true then (1 : UInt8) else 0) = q at hown5
  obtain ⟨A5, c5, rfl, hc5, _⟩ := own_form hown5
  have hr3 := (Row.own hown3).cutA (size := 1) (k := l.length) (c := c3) (by simp [bvs]) hc3
  have hr4 := (Row.own hown4).cutA (size := 1) (k := l.length) (c := c4) (by simp [bvs]) hc4
  have ed : ∀ x : List UInt8, (bvs (l ++ x)).drop (l.length * 1) = bvs x := fun x => by simp [bvs]
  rw [ed] at hr3 hr4
  clear hown3 hown4 hown5 hrun ed
  simp only [List.length_append] at hc3 hc4 hc5
  have hrun3 := run_cut elemB A3 (l.length + (Enc.enc (zig n)).length) c3 l.length (by omega)
  have hrun4 := run_cut elemB A4 (l.length + (Enc.enc (zig m)).length) c4 l.length (by omega)
  rw [Nat.add_sub_cancel_left] at hrun3 hrun4
  have G3 := hide (GetInt_some (l := Enc.enc (zig n)) (c := c3 - l.length) hr3 (by omega) (by omega) (r := []) (n := n) (by have := getI_enc n hn []; rwa [List.append_nil] at this))
  have hg4 : ∀ W : World, Below w5.heap.size w5 W → _ := fun W hW => GetInt_some (w := W) (l := Enc.enc (zig m)) (c := c4 - l.length) (hr4.ext hW) (by omega) (by omega) (r := []) (n := m) (by have := getI_enc m hm []; rwa [List.append_nil] at this)
  have G4 := hide hg4
  clear hr3 hr4 hg4
  go_wp2_with fail
  go_loop [11] (fun i => ∃ k : Nat, k ≤ 4 ∧ i = .int .i64 (k : Int)) (fun i => 4 - (intOf i).toNat)
  case atStart => exact ⟨0, by decide, rfl⟩
  case round =>
    obtain ⟨k, hk, rfl⟩ := hrel
    by_cases hlt : k < 4
    · obtain ⟨ad, rfl, _, hcell⟩ := hrow2.at (HC.out k hlt)
      go_wp2_with fail
      go_round
      case rel => exact ⟨k + 1, by omega, by go_num⟩
      case measure => simp [intOf]; omega
    · obtain rfl : k = 4 := by omega
      go_wp2_with fail
      refine G3.out.mono ?_
      rintro e w6 ⟨v6, rfl, hown6, hb6⟩
      go_wp2_with fail
      refine (G4.out w6 hb6).mono ?_
      rintro e w7 ⟨v7, rfl, hown7, hb7⟩
      have hb' := hb.trans ((ext_trans hb6 hb7).mono hb.size)
      obtain ⟨A6, c6, rfl, _, _⟩ := own_form hown6
      obtain ⟨A7, c7, rfl, _, _⟩ := own_form hown7
      clear hown6 hown7 hb6 hb7 hb
      go_wp2_with fail
      refine (awake_any w7).mono ?_
      rintro e w8 ⟨rfl, hb8⟩
      go_wp2_with fail
      go_ret
      exact ⟨rfl, hb'.trans (hb8.mono hb'.size)⟩

set_option maxRecDepth 100000 in
set_option maxHeartbeats 1600000 in
theorem copies_big (A : Option Addr) (k c : Nat) (n m : Int) (w : World) (hl : 2000 < k) :
    Calls Try.prog 3 #[.slice A k c, .int .i64 n, .int .i64 m] w (fun e w' => e = .returned (.bool true) ∧ Below w.heap.size w w') := by
  have hl' : (2000 : Int) < (k : Int) := by omega
  go_enter Try.func3, Try.ntmps3
  go_wp2_with fail
  refine (awake_any w).mono ?_
  rintro e w8 ⟨rfl, hb8⟩
  go_wp2_with fail
  go_ret
  exact ⟨rfl, hb8⟩
end Go.Proofs.Ytpmjfbdnfdeblaa

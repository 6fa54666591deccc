/-
  live: the chapter's examples.
-/
import Derived.Test.YtimdcnickfaddaaGhF
import Derived.Test.YtimdcnickfaddaaGhJ
set_option linter.unusedVariables false
set_option linter.unusedSimpArgs false
namespace Go.Proofs.Ytimdcnickfaddaa
open Go.RowKit Go.Maps
open Classical
section
abbrev sIrc : ByteArray := ⟨#[105, 114, 99]⟩
abbrev sBob : ByteArray := ⟨#[66, 111, 98, 33]⟩
abbrev sBo : ByteArray := ⟨#[66, 111, 98]⟩
abbrev sAb : ByteArray := ⟨#[97, 46, 98]⟩
abbrev sU : ByteArray := ⟨#[64, 95, 105, 114, 99, 95, 61, 52, 50, 111, 98, 61, 50, 49, 58, 97, 46, 98]⟩
abbrev sV : ByteArray := ⟨#[64, 95, 105, 114, 99, 95, 61, 54, 50, 111, 98, 58, 97, 46, 98]⟩
abbrev sW : ByteArray := ⟨#[64, 98, 111, 98, 58, 97, 46, 98]⟩
theorem live_ghost : str (ghostL sIrc.data.toList sBob.data.toList sAb.data.toList) = sU := by decide +kernel
theorem live_has : Has sIrc.data.toList sBob.data.toList sAb.data.toList := ⟨(net_iff _).1 (by decide +kernel), by decide, (server_iff _).1 (by decide +kernel), by decide +kernel⟩
theorem live_userE : userE sIrc.data.toList sBob.data.toList sAb.data.toList = 0 := userE_zero.2 live_has
theorem live_userV : userV sIrc sBob sAb = .tuple #[.string sU, .int .i64 0] := by
  unfold userV userS
  rw [live_userE, if_pos rfl, live_ghost]
theorem live_user (w : World) : Calls Try.prog 11 #[.string sIrc, .string sBob, .string sAb] w (fun e w' => e = .returned (.tuple #[.string sU, .int .i64 0]) ∧ Below w.heap.size w w') := by
  have := br_User sIrc sBob sAb w (by decide) (by decide) (by decide)
  rwa [live_userV] at this
theorem live_Back : Back sU.data.toList sIrc.data.toList sBob.data.toList := ⟨sAb.data.toList, live_has, by rw [← live_ghost, str_data]⟩
theorem live_back1 (w : World) : Calls Try.prog 14 #[.string sU] w (fun e w' => e = .returned (.tuple #[.string sIrc, .string sBob, .int .i64 0]) ∧ Below w.heap.size w w') := by
  have := br_Back sU w (by decide)
  rwa [backV_ok live_Back] at this
theorem live_parts2 : Parts 64 sV.data.toList [95, 105, 114, 99, 95, 61, 54, 50, 111, 98] [97, 46, 98] := user_parts.1 (by decide +kernel)
theorem live_no2 (a b : List UInt8) : ¬ Back sV.data.toList a b := by
  intro h
  obtain ⟨rfl, rfl, _, h4⟩ := (back_code live_parts2 (rest := [105, 114, 99, 95, 61, 54, 50, 111, 98]) (net := [105, 114, 99]) (form := [61, 54, 50, 111, 98]) rfl (by decide) a b).1 h
  revert h4
  decide +kernel
theorem live_back2 (w : World) : Calls Try.prog 14 #[.string sV] w (fun e w' => e = .returned (.tuple #[.string ⟨#[]⟩, .string ⟨#[]⟩, .int .i64 6]) ∧ Below w.heap.size w w') := by
  have := br_Back sV w (by decide)
  rwa [backV_no ⟨_, _, live_parts2⟩ live_no2] at this
theorem live_parts3 : Parts 64 sW.data.toList [98, 111, 98] [97, 46, 98] := user_parts.1 (by decide +kernel)
theorem live_back3 (w : World) : Calls Try.prog 14 #[.string sW] w (fun e w' => e = .returned (.tuple #[.string ⟨#[]⟩, .string ⟨#[]⟩, .int .i64 6]) ∧ Below w.heap.size w w') := by
  have := br_Back sW w (by decide)
  rwa [backV_no ⟨_, _, live_parts3⟩ (back_none live_parts3 (fun r n f h _ => by injection h with h _; revert h; decide))] at this
def gX : Gh := ⟨sIrc, sBob, sU⟩
theorem live_new : newG sIrc sBob sAb = gX := by unfold newG gX; rw [live_ghost]
theorem live_bindE : bindE [] (newG sIrc sBob sAb) sAb.data.toList = 0 := by rw [bindE_ok live_userE]; rfl
theorem live_bindG : bindG [] gX = [gX] := rfl
theorem live_bindU : bindU [] gX = sU := rfl
def LiveB (w : World) (e : Ending) (w' : World) : Prop := ∃ A c, e = .returned (.tuple #[.slice A 1 c, .string sU, .int .i64 0]) ∧ Row w' w'.heap.size A (ghs [gX]) ∧ 1 ≤ c ∧ c ≤ maxLen ∧ Below w.heap.size w w'
theorem live_bind (w : World) : Calls Try.prog 17 #[.slice none 0 0, .string sIrc, .string sBob, .string sAb] w (LiveB w) := by
  refine (br_Bind none 0 [] sIrc sBob sAb w Row.nil (by simp) (fun g hg => by cases hg) (Nat.le_refl _) (Nat.zero_le _) (by decide) (by decide) (by decide)).mono ?_
  rintro e w' ⟨v, u, rfl, hb, h0, _⟩
  obtain ⟨⟨A, c, rfl, h1, h2, h3⟩, rfl⟩ := h0 live_bindE
  rw [live_bindE]
  simp only [live_new, live_bindG] at h1 h2 ⊢
  exact ⟨A, c, rfl, h1, h2, h3, hb⟩
theorem small_x : SmallG 1000 [gX] := by
  intro g hg
  rw [List.mem_singleton] at hg
  subst hg
  decide
def hi7 : Con := ⟨⟨#[104, 105]⟩, 7, 0, false, ⟨#[]⟩, [], [], levNil⟩
def hiC : Con := ⟨⟨#[104, 105]⟩, 0, 0, false, ⟨#[]⟩, [], [], levNil⟩
theorem live_find1 : findG (idOf sIrc sBob) [gX] = some gX := by
  unfold findG
  rw [List.find?_cons_of_pos]
  simp [Gh.id, idOf, gX]
theorem live_find2 : findG (idOf sIrc sBo) [gX] = none := by
  apply findG_no
  intro g hg
  rw [List.mem_singleton] at hg
  subst hg
  unfold Gh.id idOf gX
  rw [bt, bt, bt]
  decide
theorem live_relay1 (A : Option Addr) (c : Nat) (w : World) (hr : Row w w.heap.size A (ghs [gX])) : Calls Try.prog 26 #[.slice A 1 c, .agg #[.string ⟨#[104, 105]⟩, .int .i64 7, .int .i64 0, .bool false, .string ⟨#[]⟩, .slice none 0 0, .slice none 0 0, .slice none 0 0, .slice none 0 0, .int .i64 0, .int .i64 0, .int .i64 0, .int .i64 0, .int .i64 0, .int .i64 0, .int .i64 0], .string sIrc, .string sBob] w
    (fun e w' => e = .returned (.tuple #[.string sU, .agg #[.string ⟨#[104, 105]⟩, .int .i64 0, .int .i64 0, .bool false, .string ⟨#[]⟩, .slice none 0 0, .slice none 0 0, .slice none 0 0, .slice none 0 0, .int .i64 0, .int .i64 0, .int .i64 0, .int .i64 0, .int .i64 0, .int .i64 0, .int .i64 0], .int .i64 0]) ∧ Below w.heap.size w w') := by
  have := br_Relay A c [gX] hi7 nilS nilS nilS nilS sIrc sBob w hr (by simp) small_x (by decide) (by decide)
  rw [live_find1] at this
  exact this
theorem live_relay2 (A : Option Addr) (c : Nat) (w : World) (hr : Row w w.heap.size A (ghs [gX])) : Calls Try.prog 26 #[.slice A 1 c, .agg #[.string ⟨#[]⟩, .int .i64 0, .int .i64 0, .bool false, .string ⟨#[]⟩, .slice none 0 0, .slice none 0 0, .slice none 0 0, .slice none 0 0, .int .i64 0, .int .i64 0, .int .i64 0, .int .i64 0, .int .i64 0, .int .i64 0, .int .i64 0], .string sIrc, .string sBo] w
    (fun e w' => e = .returned (.tuple #[.string ⟨#[]⟩, .agg #[.string ⟨#[]⟩, .int .i64 0, .int .i64 0, .bool false, .string ⟨#[]⟩, .slice none 0 0, .slice none 0 0, .slice none 0 0, .slice none 0 0, .int .i64 0, .int .i64 0, .int .i64 0, .int .i64 0, .int .i64 0, .int .i64 0, .int .i64 0], .int .i64 5]) ∧ Below w.heap.size w w') := by
  have := br_Relay A c [gX] conNil nilS nilS nilS nilS sIrc sBo w hr (by simp) small_x (by decide) (by decide)
  rw [live_find2] at this
  exact this
theorem live_gcheck : gCheck [gX] = 0 := by
  unfold gCheck
  rw [if_neg (by simp)]
  refine checkE_zero.2 ⟨fun g hg => ?_, by simp [Inc], fun p g h => by cases h⟩
  rw [List.mem_singleton] at hg
  subst hg
  show Back sU.toList sIrc.toList sBob.toList
  rw [bt, bt, bt]
  exact live_Back
theorem live_check (A : Option Addr) (c : Nat) (w : World) (hr : Row w w.heap.size A (ghs [gX])) : Calls Try.prog 20 #[.slice A 1 c] w (fun e w' => e = .returned (.int .i64 0) ∧ Below w.heap.size w w') := by
  have := br_Check A c [gX] w hr (by simp) small_x
  rwa [live_gcheck] at this
theorem live_same (w : World) : Calls Try.prog 28 #[.agg #[.string ⟨#[104, 105]⟩, .int .i64 0, .int .i64 0, .bool false, .string ⟨#[]⟩, .slice none 0 0, .slice none 0 0, .slice none 0 0, .slice none 0 0, .int .i64 0, .int .i64 0, .int .i64 0, .int .i64 0, .int .i64 0, .int .i64 0, .int .i64 0], .agg #[.string ⟨#[104, 105]⟩, .int .i64 0, .int .i64 0, .bool false, .string ⟨#[]⟩, .slice none 0 0, .slice none 0 0, .slice none 0 0, .slice none 0 0, .int .i64 0, .int .i64 0, .int .i64 0, .int .i64 0, .int .i64 0, .int .i64 0, .int .i64 0]] w (fun e w' => e = .returned (.bool true) ∧ Below w.heap.size w w') := by
  have hc : ConR w Any (conCells hiC nilS nilS nilS nilS) hiC := ⟨nilS, nilS, nilS, nilS, rfl, Slc.nil _ _ _, Slc.nil _ _ _, Slc.nil _ _ _, Slc.nil _ _ _⟩
  have := R6Same_any hc hc ⟨by simp [hiC], by simp [hiC], by simp [hiC, levNil], by simp [hiC, levNil]⟩ ⟨by simp [hiC], by simp [hiC], by simp [hiC, levNil], by simp [hiC, levNil]⟩
  rw [decide_eq_true rfl] at this
  exact this
set_option maxRecDepth 100000 in
set_option maxHeartbeats 4000000 in
theorem live_any (w : World) : Calls Try.prog 13 #[] w (fun e w' => e = .returned (.bool true) ∧ Below w.heap.size w w') := by
  go_enter Try.func13, Try.ntmps13
  go_upto_region 2 with (go_at_call 11; refine (live_user _).mono ?_; rintro e w1 ⟨rfl, hb1⟩)
  go_upto_region 3 with (go_at_call 14; refine (live_back1 _).mono ?_; rintro e w2 ⟨rfl, hb2⟩)
  go_upto_region 4 with (go_at_call 14; refine (live_back2 _).mono ?_; rintro e w3 ⟨rfl, hb3⟩)
  go_upto_region 5 with (go_at_call 14; refine (live_back3 _).mono ?_; rintro e w4 ⟨rfl, hb4⟩)
  go_upto_region 6 with (go_at_call 17; refine (live_bind _).mono ?_; rintro e w5 ⟨A, c, rfl, hr, hc1, hc2, hb5⟩)
  go_upto_region 7 with (go_at_call 26; refine (live_relay1 _ _ _ hr).mono ?_; rintro e w6 ⟨rfl, hb6⟩; have hr6 := row_alloc (hr.ext hb6) (.cells #[.string ⟨#[104, 105]⟩, .int .i64 0, .int .i64 0, .bool false, .string ⟨#[]⟩, .slice none 0 0, .slice none 0 0, .slice none 0 0, .slice none 0 0, .int .i64 0, .int .i64 0, .int .i64 0, .int .i64 0, .int .i64 0, .int .i64 0, .int .i64 0] 49))
  go_upto_region 8 with (go_at_call 26; refine (live_relay2 _ _ _ hr6).mono ?_; rintro e w7 ⟨rfl, hb7⟩)
  have B6 := box_below (box_below (heap_alloc_new w6 (.cells #[.string ⟨#[104, 105]⟩, .int .i64 0, .int .i64 0, .bool false, .string ⟨#[]⟩, .slice none 0 0, .slice none 0 0, .slice none 0 0, .slice none 0 0, .int .i64 0, .int .i64 0, .int .i64 0, .int .i64 0, .int .i64 0, .int .i64 0, .int .i64 0] 49)) hb7) (ext_alloc (ext_refl w7) (.cells #[.string ⟨#[]⟩, .int .i64 0, .int .i64 0, .bool false, .string ⟨#[]⟩, .slice none 0 0, .slice none 0 0, .slice none 0 0, .slice none 0 0, .int .i64 0, .int .i64 0, .int .i64 0, .int .i64 0, .int .i64 0, .int .i64 0, .int .i64 0] 49))
  have hr8 := row_alloc (hr6.ext hb7) (.cells #[.string ⟨#[]⟩, .int .i64 0, .int .i64 0, .bool false, .string ⟨#[]⟩, .slice none 0 0, .slice none 0 0, .slice none 0 0, .slice none 0 0, .int .i64 0, .int .i64 0, .int .i64 0, .int .i64 0, .int .i64 0, .int .i64 0, .int .i64 0] 49)
  have hbX := ext_alloc (ext_trans (ext_alloc (ext_trans (ext_trans (ext_trans (ext_trans (ext_trans hb1 hb2) hb3) hb4) hb5) hb6) (.cells #[.string ⟨#[104, 105]⟩, .int .i64 0, .int .i64 0, .bool false, .string ⟨#[]⟩, .slice none 0 0, .slice none 0 0, .slice none 0 0, .slice none 0 0, .int .i64 0, .int .i64 0, .int .i64 0, .int .i64 0, .int .i64 0, .int .i64 0, .int .i64 0] 49)) hb7) (.cells #[.string ⟨#[]⟩, .int .i64 0, .int .i64 0, .bool false, .string ⟨#[]⟩, .slice none 0 0, .slice none 0 0, .slice none 0 0, .slice none 0 0, .int .i64 0, .int .i64 0, .int .i64 0, .int .i64 0, .int .i64 0, .int .i64 0, .int .i64 0] 49)
  generalize (w7.alloc (.cells #[.string ⟨#[]⟩, .int .i64 0, .int .i64 0, .bool false, .string ⟨#[]⟩, .slice none 0 0, .slice none 0 0, .slice none 0 0, .slice none 0 0, .int .i64 0, .int .i64 0, .int .i64 0, .int .i64 0, .int .i64 0, .int .i64 0, .int .i64 0] 49)) = X at B6 hr8 hbX ⊢
  obtain ⟨g6, hg6⟩ : ∃ g6, w6.heap.size = g6 := ⟨_, rfl⟩
  rw [hg6] at B6 ⊢
  clear hg6 hr hr6 hb1 hb2 hb3 hb4 hb5 hb6 hb7
  have hcl : CellsAt X ⟨g6, 0, none⟩ #[.string ⟨#[104, 105]⟩, .int .i64 0, .int .i64 0, .bool false, .string ⟨#[]⟩, .slice none 0 0, .slice none 0 0, .slice none 0 0, .slice none 0 0, .int .i64 0, .int .i64 0, .int .i64 0, .int .i64 0, .int .i64 0, .int .i64 0, .int .i64 0].toList := box_all B6
  go_wp2_with (first | (refine wpList_loadS rfl (.tmp 16) rfl strcN ⟨g6, 0, none⟩ rfl _ rfl hcl ?_) | (go_at_call 28; refine (live_same _).mono ?_; rintro e w8 ⟨rfl, hb8⟩) | (go_at_call 20; refine (live_check _ _ _ (hr8.ext hb8)).mono ?_; rintro e w9 ⟨rfl, hb9⟩))
  go_ret
  exact ⟨rfl, ext_trans (ext_trans hbX hb8) hb9⟩
end
end Go.Proofs.Ytimdcnickfaddaa

/-
  BridgeRelays: the walk.
-/
import Derived.Test.YtimdcnickfaddaaLCom
import Derived.Test.YtimdcnickfaddaaRelOk
import Derived.Test.YtimdcnickfaddaaLong8
set_option linter.unusedVariables false
set_option linter.unusedSimpArgs false
namespace Go.Proofs.Ytimdcnickfaddaa
open Go.RowKit Go.Maps
open Classical
section
open Go.ChangeShapes Go.WideShapes Go.ChangeAt Go.RowKit Go.Deep
variable {H : Type} {enc : TypeId × Value → H} {W : World} {base : Nat} {spare : Nat → Bool} {held : Bool}
set_option maxRecDepth 100000 in
theorem read_content51 {r : Reach} {b0 : Nat} {v : Value} {d : DataW H} {p : List MemPlace} (hv : Value.okWide Try.prog W r b0 49 v) (h : DataW.Trod enc Try.prog W base spare held 49 v d p) :
    ∃ cs c, v = .agg cs.toArray ∧ ConR W Any cs c ∧ c.ok := by
  obtain ⟨cs, rfl, hsz⟩ := okWide_struct Try.underlying49 hv
  obtain ⟨fuel, hf⟩ := h
  have hcl : (Value.agg cs).cells.toList = cs.toList := by simp [Value.cells]
  rw [hcl] at hf
  obtain ⟨c, hc, hok⟩ := read_con (by rw [Array.length_toList, hsz]; exact cC) hf
  exact ⟨cs.toList, c, rfl, hc, hok⟩
end
section
attribute [local go_sem] Addr.add_mid
theorem relayV_form (o : Option Gh) (m : Con) : ∃ u C er, relayV o m = .tuple #[.string u, .agg (nilCells C), .int .i64 er] ∧ (C = conNil ∨ C = relC m) ∧ (er = 0 → C = relC m ∧ m.text.size ≤ 400) := by
  cases o with
  | none => exact ⟨⟨#[]⟩, conNil, 5, rfl, .inl rfl, fun h => by cases h⟩
  | some g =>
    by_cases h : 400 < m.text.size
    · exact ⟨⟨#[]⟩, conNil, 7, by show (if 400 < m.text.size then _ else _) = _; rw [if_pos h], .inl rfl, fun h => by cases h⟩
    · exact ⟨g.user, relC m, 0, by show (if 400 < m.text.size then _ else _) = _; rw [if_neg h], .inr rfl, fun _ => ⟨rfl, by omega⟩⟩
theorem nil_R (w : World) {C : Con} {m : Con} (h : C = conNil ∨ C = relC m) : ConR w Any (nilCells C).toList C := by
  rcases h with rfl | rfl
  · exact ⟨_, _, _, _, rfl, Slc.nil _ _ _, Slc.nil _ _ _, Slc.nil _ _ _, Slc.nil _ _ _⟩
  · exact ⟨_, _, _, _, rfl, Slc.nil _ _ _, Slc.nil _ _ _, Slc.nil _ _ _, Slc.nil _ _ _⟩
theorem nil_fit {C : Con} {m : Con} (h : C = conNil ∨ C = relC m) : C.fit := by
  rcases h with rfl | rfl
  · exact ⟨Nat.zero_le _, Nat.zero_le _, Nat.zero_le _, Nat.zero_le _⟩
  · exact ⟨Nat.zero_le _, Nat.zero_le _, Nat.zero_le _, Nat.zero_le _⟩
theorem small_more51 {l : List Gh} (h : SmallG 100 l) : SmallG 1000 l := fun g hg => by
  have := h g hg; omega
/-- an event that is nothing but a content -/
def conEv (m : Con) : Ev := ⟨0, ⟨#[]⟩, ⟨#[]⟩, 0, false, ⟨#[]⟩, 0, 0, [], [], m, 0, ⟨#[]⟩, 0⟩
set_option maxRecDepth 100000 in
set_option maxHeartbeats 8000000 in
theorem relays_any (A : Option Addr) (c : Nat) (l : List Gh) (m : Con) (va vd vu vk : Value) (x y z : ByteArray) (w : World) (hr : Row w w.heap.size A (ghs l)) (hm : ConR w Any [.string m.text, .int .i64 m.n, .int .i64 m.target, .bool m.thread, .string m.via, va, vd, vu, vk, .int .i64 m.lv.user, .int .i64 m.lv.message, .int .i64 m.lv.state, .int .i64 m.lv.invite, .int .i64 m.lv.kick, .int .i64 m.lv.ban, .int .i64 m.lv.redact] m) :
    Calls Try.prog 9 #[.slice A l.length c, .agg #[.string m.text, .int .i64 m.n, .int .i64 m.target, .bool m.thread, .string m.via, va, vd, vu, vk, .int .i64 m.lv.user, .int .i64 m.lv.message, .int .i64 m.lv.state, .int .i64 m.lv.invite, .int .i64 m.lv.kick, .int .i64 m.lv.ban, .int .i64 m.lv.redact], .agg #[.string x, .string y, .string z]] w (Says true w) := by
  have BA := heap_alloc2_old w (.cells #[.string m.text, .int .i64 m.n, .int .i64 m.target, .bool m.thread, .string m.via, va, vd, vu, vk, .int .i64 m.lv.user, .int .i64 m.lv.message, .int .i64 m.lv.state, .int .i64 m.lv.invite, .int .i64 m.lv.kick, .int .i64 m.lv.ban, .int .i64 m.lv.redact] 49) (.cells #[.string x, .string y, .string z] 23)
  have BB := heap_alloc2_new w (.cells #[.string m.text, .int .i64 m.n, .int .i64 m.target, .bool m.thread, .string m.via, va, vd, vu, vk, .int .i64 m.lv.user, .int .i64 m.lv.message, .int .i64 m.lv.state, .int .i64 m.lv.invite, .int .i64 m.lv.kick, .int .i64 m.lv.ban, .int .i64 m.lv.redact] 49) (.cells #[.string x, .string y, .string z] 23)
  have hb := below_two w (.cells #[.string m.text, .int .i64 m.n, .int .i64 m.target, .bool m.thread, .string m.via, va, vd, vu, vk, .int .i64 m.lv.user, .int .i64 m.lv.message, .int .i64 m.lv.state, .int .i64 m.lv.invite, .int .i64 m.lv.kick, .int .i64 m.lv.ban, .int .i64 m.lv.redact] 49) (.cells #[.string x, .string y, .string z] 23)
  have hge : w.heap.size + 2 ≤ ((w.alloc (.cells #[.string m.text, .int .i64 m.n, .int .i64 m.target, .bool m.thread, .string m.via, va, vd, vu, vk, .int .i64 m.lv.user, .int .i64 m.lv.message, .int .i64 m.lv.state, .int .i64 m.lv.invite, .int .i64 m.lv.kick, .int .i64 m.lv.ban, .int .i64 m.lv.redact] 49)).alloc (.cells #[.string x, .string y, .string z] 23)).heap.size := by simp
  have HEV := hide (fun W (h : Below w.heap.size w W) => (show EvR W Any (evCells (conEv m) (.slice none 0 0) (.slice none 0 0) va vd vu vk) (conEv m) from by
    obtain ⟨va', vd', vu', vk', he, k1, k2, k3, k4⟩ := hm.ext h
    injection he with _ he; injection he with _ he; injection he with _ he; injection he with _ he; injection he with _ he
    injection he with e5 he; injection he with e6 he; injection he with e7 he; injection he with e8 he
    subst e5 e6 e7 e8
    exact ⟨_, _, _, _, _, _, rfl, Slc.nil _ _ _, Slc.nil _ _ _, k1, k2, k3, k4⟩))
  have hone : ∀ u ∈ ([.string m.text, .int .i64 m.n, .int .i64 m.target, .bool m.thread, .string m.via, va, vd, vu, vk, .int .i64 m.lv.user, .int .i64 m.lv.message, .int .i64 m.lv.state, .int .i64 m.lv.invite, .int .i64 m.lv.kick, .int .i64 m.lv.ban, .int .i64 m.lv.redact] : List Value), u.oneCell' = true := hm.one
  clear hm
  go_enter Try.func9, Try.ntmps9
  go_upto_region 1 with fail
  generalize (w.alloc (.cells #[.string m.text, .int .i64 m.n, .int .i64 m.target, .bool m.thread, .string m.via, va, vd, vu, vk, .int .i64 m.lv.user, .int .i64 m.lv.message, .int .i64 m.lv.state, .int .i64 m.lv.invite, .int .i64 m.lv.kick, .int .i64 m.lv.ban, .int .i64 m.lv.redact] 49)).alloc (.cells #[.string x, .string y, .string z] 23) = W at BA BB hb hge ⊢
  have HA := hide BA; have HB := hide BB
  clear BA BB
  go_wp2_with fail
  refine (r51_Great A c 60 l _ (hr.ext hb) (by omega)).mono ?_
  rintro e w1 ⟨b, rfl, hsm, hb1⟩
  have KB := ext_trans hb hb1
  have HA := hide (box_below HA.out hb1); have HB := hide (box_below HB.out hb1)
  have hge := Nat.le_trans hge hb1.size
  cases b
  case true =>
    go_wp2_with fail
    go_ret
    exact ⟨rfl, KB⟩
  obtain ⟨hl, hs⟩ := hsm rfl
  have hl1 : l.length ≤ 1000 := by omega
  have hs1 := hide (small_more51 hs)
  clear hb hb1 hsm hs
  go_wp2_with (refine wpList_loadS rfl (.tmp 5) rfl strcId ⟨w.heap.size + 1, 0, none⟩ rfl [.string x, .string y, .string z] rfl (box_all HB.out) ?_)
  refine (law_great x y z _).mono ?_
  rintro e w2 ⟨b, rfl, hsm, hb2⟩
  have KB := ext_trans KB hb2
  have HA := hide (box_below HA.out hb2); have HB := hide (box_below HB.out hb2)
  have hge := Nat.le_trans hge hb2.size
  cases b
  case true =>
    go_wp2_with fail
    go_ret
    exact ⟨rfl, KB⟩
  obtain ⟨sx, sy, sz⟩ := hsm rfl
  clear hsm hb2
  have CL := R8Long_any (HEV.out _ KB)
  go_wp2_with (first
    | refine wpList_loadS rfl (.tmp 4) rfl strcN ⟨w.heap.size, 0, none⟩ rfl [.string m.text, .int .i64 m.n, .int .i64 m.target, .bool m.thread, .string m.via, va, vd, vu, vk, .int .i64 m.lv.user, .int .i64 m.lv.message, .int .i64 m.lv.state, .int .i64 m.lv.invite, .int .i64 m.lv.kick, .int .i64 m.lv.ban, .int .i64 m.lv.redact] rfl (box_all HA.out) ?_
    | (go_at_call 25; refine CL.mono ?_))
  rintro e w3 ⟨b, rfl, hsm, hb3⟩
  have KB := ext_trans KB hb3
  have HA := hide (box_below HA.out hb3); have HB := hide (box_below HB.out hb3)
  have hge := Nat.le_trans hge hb3.size
  cases b
  case true =>
    go_wp2_with fail
    go_ret
    exact ⟨rfl, KB⟩
  clear hsm hb3 CL HEV
  obtain ⟨u, C, er, hV, hC, hE⟩ := relayV_form (findG (idOf x y) l) m
  have HC := hide hC
  have HE := hide hE
  have CR := fun W (h : Below w.heap.size w W) => br_Relay A c l m va vd vu vk x y W (hr.ext h) hl1 hs1.out (by omega) (by omega)
  have CS := fun W (h : Below w.heap.size w W) => r51_Relay A c l m va vd vu vk x y W (hr.ext h) hl1 hs1.out (by omega) (by omega)
  simp only [hV] at CR CS
  clear hV hC hE
  have i0 := box_at (C := [.string x, .string y, .string z]) HB.out (j := 0) (u := .string x) rfl
  have i1 := box_at (C := [.string x, .string y, .string z]) HB.out (j := 1) (u := .string y) rfl
  go_wp2_with (first
    | refine wpList_loadS rfl (.tmp 4) rfl strcN ⟨w.heap.size, 0, none⟩ rfl [.string m.text, .int .i64 m.n, .int .i64 m.target, .bool m.thread, .string m.via, va, vd, vu, vk, .int .i64 m.lv.user, .int .i64 m.lv.message, .int .i64 m.lv.state, .int .i64 m.lv.invite, .int .i64 m.lv.kick, .int .i64 m.lv.ban, .int .i64 m.lv.redact] rfl (box_all HA.out) ?_
    | (go_at_call 26; refine (CR _ KB).mono ?_; rintro e w4 ⟨rfl, hbr⟩)
    | refine wpList_zeroS rfl rfl strcN ?_
    | refine wpList_storeB rfl (.tmp 8) (.tmp 33) rfl rfl strcN w4.heap.size 0 rfl (nilCells C).toList rfl rfl (nil_one C) (nilCells conNil).toList 49 (heap_alloc_new w4 _) (by decide) ?_)
  intro w5 B8 gr zr
  rw [patch_all (nilCells conNil).toList (nilCells C).toList rfl] at B8
  have kal := ext_alloc (ext_refl w4) (.cells (nilCells conNil) 49)
  have hsz : (w4.alloc (.cells (nilCells conNil) 49)).heap.size = w4.heap.size + 1 := by simp
  rw [hsz] at zr
  have hge : w.heap.size + 2 ≤ w4.heap.size := Nat.le_trans hge hbr.size
  have KB := (ext_trans (ext_trans KB hbr) kal).grown gr (by omega) (fun q hq => by injection hq with hq; omega)
  have HA := hide (box_grown (box_below (box_below HA.out hbr) kal) gr (by omega))
  have HB := hide (box_grown (box_below (box_below HB.out hbr) kal) gr (by omega))
  obtain ⟨g8, hg8⟩ : ∃ g, w4.heap.size = g := ⟨_, rfl⟩
  rw [hg8] at B8 gr hge zr
  try simp only [hg8]
  have hlt : g8 < w5.heap.size := by rw [zr]; omega
  clear hg8 gr zr kal hbr i0 i1 hsz CR
  have HB8 := hide B8
  have hge8 : w.heap.size + 2 ≤ g8 := hge
  have hge : w.heap.size + 2 ≤ w5.heap.size := by omega
  clear B8
  have i0 := box_at (C := [.string x, .string y, .string z]) HB.out (j := 0) (u := .string x) rfl
  have i1 := box_at (C := [.string x, .string y, .string z]) HB.out (j := 1) (u := .string y) rfl
  go_wp2_with (first
    | refine wpList_loadS rfl (.tmp 4) rfl strcN ⟨w.heap.size, 0, none⟩ rfl [.string m.text, .int .i64 m.n, .int .i64 m.target, .bool m.thread, .string m.via, va, vd, vu, vk, .int .i64 m.lv.user, .int .i64 m.lv.message, .int .i64 m.lv.state, .int .i64 m.lv.invite, .int .i64 m.lv.kick, .int .i64 m.lv.ban, .int .i64 m.lv.redact] rfl (box_all HA.out) ?_
    | (go_at_call 27; refine (CS _ KB).mono ?_; rintro e w6 ⟨rfl, hbr⟩)
    | refine wpList_zeroS rfl rfl strcN ?_
    | refine wpList_storeB rfl (.tmp 11) (.tmp 44) rfl rfl strcN w6.heap.size 0 rfl (nilCells C).toList rfl rfl (nil_one C) (nilCells conNil).toList 49 (heap_alloc_new w6 _) (by decide) ?_)
  intro w7 B11 gr zr
  rw [patch_all (nilCells conNil).toList (nilCells C).toList rfl] at B11
  have kal := ext_alloc (ext_refl w6) (.cells (nilCells conNil) 49)
  have hsz : (w6.alloc (.cells (nilCells conNil) 49)).heap.size = w6.heap.size + 1 := by simp
  rw [hsz] at zr
  have hge : w.heap.size + 2 ≤ w6.heap.size := Nat.le_trans hge hbr.size
  have KB := (ext_trans (ext_trans KB hbr) kal).grown gr (by omega) (fun q hq => by injection hq with hq; omega)
  have HA := hide (box_grown (box_below (box_below HA.out hbr) kal) gr (by omega))
  have HB := hide (box_grown (box_below (box_below HB.out hbr) kal) gr (by omega))
  have hlt6 : g8 < w6.heap.size := Nat.lt_of_lt_of_le hlt hbr.size
  have HB8 := hide (box_grown (box_below (box_below HB8.out hbr) kal) gr (by omega))
  obtain ⟨g11, hg11⟩ : ∃ g, w6.heap.size = g := ⟨_, rfl⟩
  rw [hg11] at B11
  try simp only [hg11]
  clear hg11 gr zr kal hbr i0 i1 hsz CS hlt6 hlt hge hge8 HA HB
  have HB11 := hide B11
  clear B11
  have CC := R6Same_any (nil_R w7 HC.out) (nil_R w7 HC.out) (nil_fit HC.out) (nil_fit HC.out)
  simp only [decide_true] at CC
  by_cases q : er = 0
  rotate_left
  · have q1 : (er != 0) = true := by simpa using q
    clear q HE
    go_wp2_with (first
      | refine wpList_loadS rfl (.tmp 8) rfl strcN ⟨g8, 0, none⟩ rfl (nilCells C).toList rfl (box_all HB8.out) ?_
      | refine wpList_loadS rfl (.tmp 11) rfl strcN ⟨g11, 0, none⟩ rfl (nilCells C).toList rfl (box_all HB11.out) ?_
      | (go_at_call 28; refine CC.mono ?_; rintro e w8 ⟨rfl, hb8⟩)
      | (go_at_call 13; refine (live_any _).mono ?_; rintro e wl ⟨rfl, hbl⟩))
    go_ret
    exact ⟨rfl, ext_trans KB (ext_trans hb8 hbl)⟩
  subst q
  obtain ⟨hc1, hc2⟩ := HE.out rfl
  have hck : ckE 11 C = 0 := by rw [hc1]; exact ck_rel hc2
  have hmild : C.mild := by rw [hc1]; exact rel_mild hc2
  have HCK := hide (fun W => Check_any (k := 11) (nil_R W HC.out) hmild)
  rw [hck] at HCK
  clear hc1 hc2 hck hmild HE
  go_wp2_with (first
    | refine wpList_loadS rfl (.tmp 8) rfl strcN ⟨g8, 0, none⟩ rfl (nilCells C).toList rfl (box_all HB8.out) ?_
    | refine wpList_loadS rfl (.tmp 11) rfl strcN ⟨g11, 0, none⟩ rfl (nilCells C).toList rfl (box_all HB11.out) ?_
    | (go_at_call 28; refine CC.mono ?_; rintro e w8 ⟨rfl, hb8⟩; have HB9 := hide (box_below HB8.out hb8))
    | refine wpList_loadS rfl (.tmp 8) rfl strcN ⟨g8, 0, none⟩ rfl (nilCells C).toList rfl (box_all HB9.out) ?_
    | (go_at_call 29; refine (HCK.out _).mono ?_; rintro e w9 ⟨rfl, hb9⟩)
    | (go_at_call 13; refine (live_any _).mono ?_; rintro e wl ⟨rfl, hbl⟩))
  go_ret
  exact ⟨rfl, ext_trans KB (ext_trans hb8 (ext_trans hb9 hbl))⟩
end
end Go.Proofs.Ytimdcnickfaddaa

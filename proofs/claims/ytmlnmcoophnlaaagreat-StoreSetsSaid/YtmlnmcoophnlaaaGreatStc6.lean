/-
  content.Strip.
  content.Strip at each kind but the first.
  event.Strip, view.stripped, and the reference's strip.
-/
import Derived.Test.YtmlnmcoophnlaaaGreatCop6
import Derived.Deep.RegionWith
set_option linter.unusedVariables false
set_option linter.unusedSimpArgs false
namespace Go.Proofs.YtmlnmcoophnlaaaGreat
section
open Go.RowKit
attribute [local go_sem] Addr.add_mid

set_option maxRecDepth 100000 in
set_option maxHeartbeats 16000000 in
theorem CStrip_1 {S : Nat → Prop} {cs : List Value} {c : Con} {w : World} (hr : ConR w S cs c) (hf : c.fit) :
    Calls Tryz.prog 58 #[.int .i64 1, .agg cs.toArray] w (GivesC S (stripC 1 c) w) := by
  obtain ⟨va, vd, vu, vk, rfl, h1, h2, h3, h4⟩ := hr
  obtain ⟨A1, c1, rfl, _⟩ := h1.form
  obtain ⟨A2, c2, rfl, _⟩ := h2.form
  obtain ⟨A3, c3, rfl, _⟩ := h3.form
  obtain ⟨A4, c4, rfl, _⟩ := h4.form
  have HL := hide (show LevR w S (levCells c.lv (.slice A3 c.lv.users.length c3) (.slice A4 c.lv.kinds.length c4)) c.lv from ⟨_, _, rfl, h3, h4⟩)
  obtain ⟨cs, hcs⟩ : ∃ cs, cs = conCells c (.slice A1 c.allow.length c1) (.slice A2 c.deny.length c2) (.slice A3 c.lv.users.length c3) (.slice A4 c.lv.kinds.length c4) := ⟨_, rfl⟩
  rw [← hcs]
  have HCS := hide hcs
  have W0 := heap_alloc2_old w (.cells cs.toArray 31) (.cells conZero 31)
  have W1 := heap_alloc2_new w (.cells cs.toArray 31) (.cells conZero 31)
  have hone := (show ∀ u ∈ cs.take 5, u.oneCell' = true by rw [hcs]; intro u hu; simp only [conCells, levCells, List.cons_append, List.nil_append, List.take_succ_cons, List.take_zero, List.mem_cons, List.not_mem_nil, or_false] at hu; rcases hu with rfl | rfl | rfl | rfl | rfl <;> rfl)
  have e5 := box_at W0 (j := 5) (u := .slice A1 c.allow.length c1) (by rw [hcs]; rfl)
  have e6 := box_at W0 (j := 6) (u := .slice A2 c.deny.length c2) (by rw [hcs]; rfl)
  have e7 := box_at W0 (j := 7) (u := .slice A3 c.lv.users.length c3) (by rw [hcs]; rfl)
  have e8 := box_at W0 (j := 8) (u := .slice A4 c.lv.kinds.length c4) (by rw [hcs]; rfl)
  have e9 := box_at W0 (j := 9) (u := .int .i64 c.lv.user) (by rw [hcs]; rfl)
  have e10 := box_at W0 (j := 10) (u := .int .i64 c.lv.message) (by rw [hcs]; rfl)
  have e11 := box_at W0 (j := 11) (u := .int .i64 c.lv.state) (by rw [hcs]; rfl)
  have e12 := box_at W0 (j := 12) (u := .int .i64 c.lv.invite) (by rw [hcs]; rfl)
  have e13 := box_at W0 (j := 13) (u := .int .i64 c.lv.kick) (by rw [hcs]; rfl)
  have e14 := box_at W0 (j := 14) (u := .int .i64 c.lv.ban) (by rw [hcs]; rfl)
  have e15 := box_at W0 (j := 15) (u := .int .i64 c.lv.redact) (by rw [hcs]; rfl)
  have hfW : ∀ o, ((w.alloc (.cells cs.toArray 31)).alloc (.cells conZero 31)).frozen? ⟨w.heap.size, o, none⟩ = false := fun o => frozen_of_row _ _ o _ _ W0
  have HN := hide (show cs.length = 16 by rw [hcs]; rfl)
  have HW0 := hide W0; have HW1 := hide W1; have HO := hide hone
  clear hcs h3 h4 W0 W1 hone
  go_enter Tryz.func58, Tryz.ntmps58
  go_wp2_with (refine wpList_zeroS rfl rfl strcC ?_)
  generalize hW : (w.alloc (.cells cs.toArray 31)).alloc (.cells conZero 31) = W at *
  have hz0 : W.heap.size = w.heap.size + 2 := by rw [← hW]; simp
  have hbW : Below w.heap.size w W := by rw [← hW]; exact below_two w _ _
  have hlt : w.heap.size < W.heap.size := by omega
  have hbD : Below w.heap.size w W.drew := ext_drew hbW
  obtain ⟨f1, f2, f3, f4⟩ := hf
  have HZ := hide hz0; have HW := hide hW
  clear hz0 hW
  go_region_with (first
    | (go_at_call 77; first
       | ((with_reducible refine (texts_lit (h1.ext hbD) f1).mono ?_); rintro e w1 ⟨V1, m1, rfl, hs1, hb1⟩; have hbw1 := hbD.trans (hb1.mono hbD.size); have hlt1 : w.heap.size < w1.heap.size := Nat.lt_of_lt_of_le hlt hb1.size; have hc1 : ∀ o, w1.cell? ⟨w.heap.size, o, none⟩ = W.cell? ⟨w.heap.size, o, none⟩ := fun o => hb1.cell (p := ⟨w.heap.size, o, none⟩) hlt; have hf1 : ∀ o, w1.frozen? ⟨w.heap.size, o, none⟩ = false := fun o => (hb1.frozen (p := ⟨w.heap.size, o, none⟩) hlt).trans (hfW o))
       | ((with_reducible refine (texts_lit (h2.ext hbw1) f2).mono ?_); rintro e w2 ⟨V2, m2, rfl, hs2, hb2⟩; have hbw2 := hbw1.trans (hb2.mono hbw1.size); have hlt2 : w.heap.size < w2.heap.size := Nat.lt_of_lt_of_le hlt1 hb2.size; have hc2 : ∀ o, w2.cell? ⟨w.heap.size, o, none⟩ = W.cell? ⟨w.heap.size, o, none⟩ := fun o => (hb2.cell (p := ⟨w.heap.size, o, none⟩) hlt1).trans (hc1 o); have hf2 : ∀ o, w2.frozen? ⟨w.heap.size, o, none⟩ = false := fun o => (hb2.frozen (p := ⟨w.heap.size, o, none⟩) hlt1).trans (hf1 o)))
    | (go_at_call 78; (with_reducible refine (copied_in hbw2 HL.out f3 f4).mono ?_); rintro e w3 ⟨V3, m3, V4, m4, rfl, hs3, hs4, hb3⟩; have hbw3 := hbw2.trans (hb3.mono hbw2.size); have hc3 : ∀ o, w3.cell? ⟨w.heap.size, o, none⟩ = W.cell? ⟨w.heap.size, o, none⟩ := fun o => (hb3.cell (p := ⟨w.heap.size, o, none⟩) hlt2).trans (hc2 o); have hf3 : ∀ o, w3.frozen? ⟨w.heap.size, o, none⟩ = false := fun o => (hb3.frozen (p := ⟨w.heap.size, o, none⟩) hlt2).trans (hf2 o)))
  all_goals
    obtain ⟨BX, GX⟩ := set_eleven (w := w3) (t := 31) (box_below (box_below (box_below (show W.drew.heap[w.heap.size]? = _ from HW0.out) hb1) hb2) hb3) HN.out (.slice V1 c.allow.length m1) (.slice V2 c.deny.length m2) (.slice V3 c.lv.users.length m3) (.slice V4 c.lv.kinds.length m4) (.int .i64 c.lv.user) (.int .i64 c.lv.message) (.int .i64 c.lv.state) (.int .i64 c.lv.invite) (.int .i64 c.lv.kick) (.int .i64 c.lv.ban) (.int .i64 c.lv.redact)
    have hz := HZ.out
    have hz1 := hb1.size; have hz2 := hb2.size; have hz3 := hb3.size
    have B2 := box_grown (box_below (box_below (box_below (show W.drew.heap[w.heap.size + 1]? = _ from HW1.out) hb1) hb2) hb3) GX (by omega)
    rw [show cs.take 5 ++ [.slice V1 c.allow.length m1, .slice V2 c.deny.length m2, .slice V3 c.lv.users.length m3, .slice V4 c.lv.kinds.length m4, .int .i64 c.lv.user, .int .i64 c.lv.message, .int .i64 c.lv.state, .int .i64 c.lv.invite, .int .i64 c.lv.kick, .int .i64 c.lv.ban, .int .i64 c.lv.redact] = conCells c (.slice V1 c.allow.length m1) (.slice V2 c.deny.length m2) (.slice V3 c.lv.users.length m3) (.slice V4 c.lv.kinds.length m4) by rw [HCS.out]; rfl] at BX
    have q1 := ((hs1.ext hb2).ext hb3).grown GX (fun b hb e => by injection e with e; simp at hb; omega)
    have q2 := (hs2.ext hb3).grown GX (fun b hb e => by injection e with e; omega)
    have q3 := hs3.grown GX (fun b hb e => by injection e with e; omega)
    have q4 := hs4.grown GX (fun b hb e => by injection e with e; omega)
    have hbX := hbw3.grown GX hbw3.size (fun k hk => by injection hk with hk; omega)
    have k0 : w.heap.size + 2 ≤ W.drew.heap.size := by show _ ≤ W.heap.size; omega
    have k1 := Nat.le_trans k0 hz1
    have k2 := Nat.le_trans k1 hz2
    obtain ⟨CC, hCC⟩ : ∃ CC, CC = conCells c (.slice V1 c.allow.length m1) (.slice V2 c.deny.length m2) (.slice V3 c.lv.users.length m3) (.slice V4 c.lv.kinds.length m4) := ⟨_, rfl⟩
    have hL : CC.length = 16 := by rw [hCC]; rfl
    have hO : ∀ u ∈ CC, u.oneCell' = true := by
      rw [hCC]; intro u hu
      simp only [conCells, levCells, List.cons_append, List.nil_append, List.mem_cons, List.not_mem_nil, or_false] at hu
      rcases hu with rfl | rfl | rfl | rfl | rfl | rfl | rfl | rfl | rfl | rfl | rfl | rfl | rfl | rfl | rfl | rfl <;> rfl
    rw [← hCC] at BX
    have HCC := hide hCC
    clear hCC hz hz1 hz2 hz3 hs1 hs2 hs3 hs4 hb1 hb2 hb3 hbw1 hbw2 hbw3 hc1 hc2 hc3 hf1 hf2 hf3 GX e5 e6 e7 e8 e9 e10 e11 e12 e13 e14 e15 hfW h1 h2 hbW hbD
    go_wp2_with (first
      | refine wpList_loadS rfl (.tmp 3) rfl strcC ⟨w.heap.size, 0, none⟩ rfl CC hL (box_all BX) ?_
      | refine wpList_storeB rfl (.tmp 4) (.tmp 21) rfl rfl strcC (w.heap.size + 1) 0 rfl CC rfl hL hO conZero.toList 31 B2 (by decide) ?_)
    intro w5 B5 g5 hz5
    rw [patch_all _ _ (by rw [hL]; rfl)] at B5
    have hb5 := hbX.grown g5 hbX.size (fun k hk => by injection hk with hk; omega)
    have hq : ∀ {v : Value} {size n B : Nat} {xs : List Value}, w.heap.size + 2 ≤ B → Slc _ (B ≤ ·) v size n xs → Slc w5 (fun b => S b ∨ w.heap.size ≤ b) v size n xs := fun hB h => (h.grown g5 (fun b hb e => by injection e with e; omega)).weak (fun b hb _ => .inr (by omega))
    have p1 := hq k0 q1
    have p2 := hq k1 q2
    have p3 := hq k2 q3
    have p4 := hq k2 q4
    go_wp2_with fail
    exact bodyPost_cell strcC rfl (w.heap.size + 1) rfl rfl B5 (by simpa using hL) ⟨_, rfl, ⟨_, _, _, _, HCC.out, p1, p2, p3, p4⟩, hb5⟩
end

section
section
open Go.RowKit
attribute [local go_sem] Addr.add_mid
theorem heap3 (w : World) (o1 o2 o3 : Obj) : (((w.alloc o1).alloc o2).alloc o3).heap[w.heap.size]? = some o1 ∧ (((w.alloc o1).alloc o2).alloc o3).heap[w.heap.size + 1]? = some o2 ∧ (((w.alloc o1).alloc o2).alloc o3).heap[w.heap.size + 1 + 1]? = some o3 ∧
    w.heap.size + 3 ≤ (((w.alloc o1).alloc o2).alloc o3).heap.size ∧ Below w.heap.size w (((w.alloc o1).alloc o2).alloc o3) := by
  refine ⟨?_, ?_, ?_, by simp, ext_alloc (below_two w o1 o2) o3⟩
  · rw [heap_alloc_old ((w.alloc o1).alloc o2) o3 (by simp; omega)]; exact heap_alloc2_old w o1 o2
  · rw [heap_alloc_old ((w.alloc o1).alloc o2) o3 (by simp)]; exact heap_alloc2_new w o1 o2
  · have := heap_alloc_new ((w.alloc o1).alloc o2) o3
    simpa using this

set_option maxRecDepth 100000 in
set_option maxHeartbeats 2000000 in
theorem CStrip_2 {S : Nat → Prop} {cs : List Value} {c : Con} {w : World} (hr : ConR w S cs c) (hf : c.fit) :
    Calls Tryz.prog 58 #[.int .i64 2, .agg cs.toArray] w (GivesC S (stripC 2 c) w) := by
  obtain ⟨va, vd, vu, vk, rfl, h1, h2, h3, h4⟩ := hr
  obtain ⟨A1, c1, rfl, _⟩ := h1.form
  obtain ⟨A2, c2, rfl, _⟩ := h2.form
  obtain ⟨A3, c3, rfl, _⟩ := h3.form
  obtain ⟨A4, c4, rfl, _⟩ := h4.form
  obtain ⟨f1, f2, f3, f4⟩ := hf
  have HL := hide (show LevR w S (levCells c.lv (.slice A3 c.lv.users.length c3) (.slice A4 c.lv.kinds.length c4)) c.lv from ⟨_, _, rfl, h3, h4⟩)
  obtain ⟨cs, hcs⟩ : ∃ cs, cs = conCells c (.slice A1 c.allow.length c1) (.slice A2 c.deny.length c2) (.slice A3 c.lv.users.length c3) (.slice A4 c.lv.kinds.length c4) := ⟨_, rfl⟩
  rw [← hcs]
  have HCS := hide hcs
  clear hcs h3 h4
  obtain ⟨B3, B4, B5, hz, hb⟩ := heap3 w (.cells cs.toArray 31) (.cells conZero 31) (.cells conZero 31)
  have HB3 := hide B3; have HB4 := hide B4; have HZ := hide hz; have HB := hide hb
  have m2 : bits BinOp.and IntKind.i64 18 2 = 2 := by decide
  have m4 : bits BinOp.and IntKind.i64 18 4 = 0 := by decide
  have m16 : bits BinOp.and IntKind.i64 18 16 = 16 := by decide
  have m32 : bits BinOp.and IntKind.i64 18 32 = 0 := by decide
  have m64 : bits BinOp.and IntKind.i64 18 64 = 0 := by decide
  have m128 : bits BinOp.and IntKind.i64 18 128 = 0 := by decide
  clear B3 B4 hz hb
  have e1 := box_at HB3.out (j := 1) (u := .int .i64 c.n) (by rw [HCS.out]; rfl)
  go_enter Tryz.func58, Tryz.ntmps58
  go_wp2_with (first
    | refine wpList_zeroS rfl rfl strcC ?_
    | (go_at_call 79; refine (keeps_any _ _).mono ?_; rintro e w' ⟨rfl, rfl⟩; simp only [keepsN]; go_simp)
    | refine wpList_store1 rfl (.tmp 29) (.tmp 28) rfl rfl sizeI (w.heap.size + 1 + 1) 1 rfl (.int .i64 c.n) rfl rfl (conZero.toList) 31 B5 (by simp [patch, conZero]) ?_)
  clear B5
  intro w1 B5 g1 hs1
  have B3' := box_grown HB3.out g1 (by omega); have B4' := box_grown HB4.out g1 (by omega)
  have hz' := Nat.le_trans HZ.out g1.size; have hb' := HB.out.grown g1 HB.out.size (fun k hk => by injection hk with hk; omega)
  clear HB3 HB4 HZ HB g1 hs1
  have HB3 := hide B3'; have HB4 := hide B4'; have HZ := hide hz'; have HB := hide hb'
  clear B3' B4' hz' hb'
  have e4 := box_at HB3.out (j := 4) (u := .string c.via) (by rw [HCS.out]; rfl)
  go_wp2_with (refine wpList_store1 rfl (.tmp 41) (.tmp 40) rfl rfl sizeS (w.heap.size + 1 + 1) 4 rfl (.string c.via) rfl rfl (patch (conZero.toList) 1 [.int .i64 c.n]) 31 B5 (by simp [patch, conZero]) ?_)
  clear B5
  intro w2 B5 g2 hs2
  have B3' := box_grown HB3.out g2 (by omega); have B4' := box_grown HB4.out g2 (by omega)
  have hz' := Nat.le_trans HZ.out g2.size; have hb' := HB.out.grown g2 HB.out.size (fun k hk => by injection hk with hk; omega)
  clear HB3 HB4 HZ HB g2 hs2
  have HB3 := hide B3'; have HB4 := hide B4'; have HZ := hide hz'; have HB := hide hb'
  clear B3' B4' hz' hb'
  obtain ⟨CC, hCC⟩ : ∃ CC, CC = conCells (stripC 2 c) (.slice none 0 0) (.slice none 0 0) (.slice none 0 0) (.slice none 0 0) := ⟨_, rfl⟩
  change _ = some (Obj.cells (patch (patch (conZero.toList) 1 [.int .i64 c.n]) 4 [.string c.via]).toArray 31 (0, 0)) at B5
  rw [show patch (patch (conZero.toList) 1 [.int .i64 c.n]) 4 [.string c.via] = CC by rw [hCC]; rfl] at B5
  have hL : CC.length = 16 := by rw [hCC]; rfl
  have hO : ∀ u ∈ CC, u.oneCell' = true := by
    rw [hCC]; intro u hu
    simp only [conCells, levCells, List.cons_append, List.nil_append, List.mem_cons, List.not_mem_nil, or_false] at hu
    rcases hu with rfl | rfl | rfl | rfl | rfl | rfl | rfl | rfl | rfl | rfl | rfl | rfl | rfl | rfl | rfl | rfl <;> rfl
  have HCC := hide hCC
  have B4 := HB4.out
  clear hCC
  go_wp2_with (first
    | refine wpList_loadS rfl (.tmp 5) rfl strcC ⟨w.heap.size + 1 + 1, 0, none⟩ rfl CC hL (box_all B5) ?_
    | refine wpList_storeB rfl (.tmp 4) (.tmp 63) rfl rfl strcC (w.heap.size + 1) 0 rfl CC rfl hL hO conZero.toList 31 B4 (by decide) ?_)
  intro wz Bz gz hsz
  rw [patch_all _ _ (by rw [hL]; rfl)] at Bz
  have hbz := HB.out.grown gz HB.out.size (fun k hk => by injection hk with hk; omega)
  clear B5 B4 gz
  go_wp2_with fail
  exact bodyPost_cell strcC rfl (w.heap.size + 1) rfl rfl Bz (by simpa using hL) ⟨_, rfl, ⟨_, _, _, _, HCC.out, Slc.nil _ _ _, Slc.nil _ _ _, Slc.nil _ _ _, Slc.nil _ _ _⟩, hbz⟩

set_option maxRecDepth 100000 in
set_option maxHeartbeats 2000000 in
theorem CStrip_3 {S : Nat → Prop} {cs : List Value} {c : Con} {w : World} (hr : ConR w S cs c) (hf : c.fit) :
    Calls Tryz.prog 58 #[.int .i64 3, .agg cs.toArray] w (GivesC S (stripC 3 c) w) := by
  obtain ⟨va, vd, vu, vk, rfl, h1, h2, h3, h4⟩ := hr
  obtain ⟨A1, c1, rfl, _⟩ := h1.form
  obtain ⟨A2, c2, rfl, _⟩ := h2.form
  obtain ⟨A3, c3, rfl, _⟩ := h3.form
  obtain ⟨A4, c4, rfl, _⟩ := h4.form
  obtain ⟨f1, f2, f3, f4⟩ := hf
  have HL := hide (show LevR w S (levCells c.lv (.slice A3 c.lv.users.length c3) (.slice A4 c.lv.kinds.length c4)) c.lv from ⟨_, _, rfl, h3, h4⟩)
  obtain ⟨cs, hcs⟩ : ∃ cs, cs = conCells c (.slice A1 c.allow.length c1) (.slice A2 c.deny.length c2) (.slice A3 c.lv.users.length c3) (.slice A4 c.lv.kinds.length c4) := ⟨_, rfl⟩
  rw [← hcs]
  have HCS := hide hcs
  clear hcs h3 h4
  obtain ⟨B3, B4, B5, hz, hb⟩ := heap3 w (.cells cs.toArray 31) (.cells conZero 31) (.cells conZero 31)
  have HB3 := hide B3; have HB4 := hide B4; have HZ := hide hz; have HB := hide hb
  have m2 : bits BinOp.and IntKind.i64 128 2 = 0 := by decide
  have m4 : bits BinOp.and IntKind.i64 128 4 = 0 := by decide
  have m16 : bits BinOp.and IntKind.i64 128 16 = 0 := by decide
  have m32 : bits BinOp.and IntKind.i64 128 32 = 0 := by decide
  have m64 : bits BinOp.and IntKind.i64 128 64 = 0 := by decide
  have m128 : bits BinOp.and IntKind.i64 128 128 = 128 := by decide
  clear B3 B4 hz hb
  have e7 := box_at HB3.out (j := 7) (u := .slice A3 c.lv.users.length c3) (by rw [HCS.out]; rfl)
  have e8 := box_at HB3.out (j := 8) (u := .slice A4 c.lv.kinds.length c4) (by rw [HCS.out]; rfl)
  have e9 := box_at HB3.out (j := 9) (u := .int .i64 c.lv.user) (by rw [HCS.out]; rfl)
  have e10 := box_at HB3.out (j := 10) (u := .int .i64 c.lv.message) (by rw [HCS.out]; rfl)
  have e11 := box_at HB3.out (j := 11) (u := .int .i64 c.lv.state) (by rw [HCS.out]; rfl)
  have e12 := box_at HB3.out (j := 12) (u := .int .i64 c.lv.invite) (by rw [HCS.out]; rfl)
  have e13 := box_at HB3.out (j := 13) (u := .int .i64 c.lv.kick) (by rw [HCS.out]; rfl)
  have e14 := box_at HB3.out (j := 14) (u := .int .i64 c.lv.ban) (by rw [HCS.out]; rfl)
  have e15 := box_at HB3.out (j := 15) (u := .int .i64 c.lv.redact) (by rw [HCS.out]; rfl)
  go_enter Tryz.func58, Tryz.ntmps58
  go_wp2_with (first
    | refine wpList_zeroS rfl rfl strcC ?_
    | (go_at_call 79; refine (keeps_any _ _).mono ?_; rintro e w' ⟨rfl, rfl⟩; simp only [keepsN]; go_simp))
  refine (copied_in HB.out HL.out f3 f4).mono ?_
  rintro x u1 ⟨V1, m1', Vb1, mb1, rfl, s1, sb1, hk1⟩
  have B3' := box_below HB3.out hk1; have B4' := box_below HB4.out hk1; replace B5 := box_below B5 hk1
  have hz' := Nat.le_trans HZ.out hk1.size; have hb' := HB.out.trans (hk1.mono HB.out.size)
  have kz1 := HZ.out
  replace s1 := s1.weak (S' := (w.heap.size + 3 ≤ ·)) (fun b hb _ => Nat.le_trans kz1 hb)
  replace sb1 := sb1.weak (S' := (w.heap.size + 3 ≤ ·)) (fun b hb _ => Nat.le_trans kz1 hb)
  clear HB3 HB4 HZ HB kz1 hk1
  have HB3 := hide B3'; have HB4 := hide B4'; have HZ := hide hz'; have HB := hide hb'
  clear B3' B4' hz' hb'
  go_wp2_with (refine wpList_storeB rfl (.tmp 62) (.tmp 61) rfl rfl strcL (w.heap.size + 1 + 1) 7 rfl [.slice V1 c.lv.users.length m1', .slice Vb1 c.lv.kinds.length mb1, .int .i64 c.lv.user, .int .i64 c.lv.message, .int .i64 c.lv.state, .int .i64 c.lv.invite, .int .i64 c.lv.kick, .int .i64 c.lv.ban, .int .i64 c.lv.redact] rfl rfl (by simp [Value.oneCell']) (conZero.toList) 31 B5 (by simp [patch, conZero]) ?_)
  clear B5
  intro w1 B5 g1 hs1
  have B3' := box_grown HB3.out g1 (by omega); have B4' := box_grown HB4.out g1 (by omega)
  have hz' := Nat.le_trans HZ.out g1.size; have hb' := HB.out.grown g1 HB.out.size (fun k hk => by injection hk with hk; omega)
  replace s1 := s1.grown g1 (fun b hb e => by injection e with e; omega)
  replace sb1 := sb1.grown g1 (fun b hb e => by injection e with e; omega)
  clear HB3 HB4 HZ HB g1 hs1
  have HB3 := hide B3'; have HB4 := hide B4'; have HZ := hide hz'; have HB := hide hb'
  clear B3' B4' hz' hb'
  obtain ⟨CC, hCC⟩ : ∃ CC, CC = conCells (stripC 3 c) (.slice none 0 0) (.slice none 0 0) (.slice V1 c.lv.users.length m1') (.slice Vb1 c.lv.kinds.length mb1) := ⟨_, rfl⟩
  change _ = some (Obj.cells (patch (conZero.toList) 7 [.slice V1 c.lv.users.length m1', .slice Vb1 c.lv.kinds.length mb1, .int .i64 c.lv.user, .int .i64 c.lv.message, .int .i64 c.lv.state, .int .i64 c.lv.invite, .int .i64 c.lv.kick, .int .i64 c.lv.ban, .int .i64 c.lv.redact]).toArray 31 (0, 0)) at B5
  rw [show patch (conZero.toList) 7 [.slice V1 c.lv.users.length m1', .slice Vb1 c.lv.kinds.length mb1, .int .i64 c.lv.user, .int .i64 c.lv.message, .int .i64 c.lv.state, .int .i64 c.lv.invite, .int .i64 c.lv.kick, .int .i64 c.lv.ban, .int .i64 c.lv.redact] = CC by rw [hCC]; rfl] at B5
  have hL : CC.length = 16 := by rw [hCC]; rfl
  have hO : ∀ u ∈ CC, u.oneCell' = true := by
    rw [hCC]; intro u hu
    simp only [conCells, levCells, List.cons_append, List.nil_append, List.mem_cons, List.not_mem_nil, or_false] at hu
    rcases hu with rfl | rfl | rfl | rfl | rfl | rfl | rfl | rfl | rfl | rfl | rfl | rfl | rfl | rfl | rfl | rfl <;> rfl
  have HCC := hide hCC
  have B4 := HB4.out
  clear hCC
  go_wp2_with (first
    | refine wpList_loadS rfl (.tmp 5) rfl strcC ⟨w.heap.size + 1 + 1, 0, none⟩ rfl CC hL (box_all B5) ?_
    | refine wpList_storeB rfl (.tmp 4) (.tmp 63) rfl rfl strcC (w.heap.size + 1) 0 rfl CC rfl hL hO conZero.toList 31 B4 (by decide) ?_)
  intro wz Bz gz hsz
  rw [patch_all _ _ (by rw [hL]; rfl)] at Bz
  have hbz := HB.out.grown gz HB.out.size (fun k hk => by injection hk with hk; omega)
  replace s1 := (s1.grown gz (fun b hb e => by injection e with e; omega)).weak (S' := fun b => S b ∨ w.heap.size ≤ b) (fun b hb _ => .inr (by omega))
  replace sb1 := (sb1.grown gz (fun b hb e => by injection e with e; omega)).weak (S' := fun b => S b ∨ w.heap.size ≤ b) (fun b hb _ => .inr (by omega))
  clear B5 B4 gz
  go_wp2_with fail
  exact bodyPost_cell strcC rfl (w.heap.size + 1) rfl rfl Bz (by simpa using hL) ⟨_, rfl, ⟨_, _, _, _, HCC.out, Slc.nil _ _ _, Slc.nil _ _ _, s1, sb1⟩, hbz⟩

set_option maxRecDepth 100000 in
set_option maxHeartbeats 2000000 in
theorem CStrip_4 {S : Nat → Prop} {cs : List Value} {c : Con} {w : World} (hr : ConR w S cs c) (hf : c.fit) :
    Calls Tryz.prog 58 #[.int .i64 4, .agg cs.toArray] w (GivesC S (stripC 4 c) w) := by
  obtain ⟨va, vd, vu, vk, rfl, h1, h2, h3, h4⟩ := hr
  obtain ⟨A1, c1, rfl, _⟩ := h1.form
  obtain ⟨A2, c2, rfl, _⟩ := h2.form
  obtain ⟨A3, c3, rfl, _⟩ := h3.form
  obtain ⟨A4, c4, rfl, _⟩ := h4.form
  obtain ⟨f1, f2, f3, f4⟩ := hf
  have HL := hide (show LevR w S (levCells c.lv (.slice A3 c.lv.users.length c3) (.slice A4 c.lv.kinds.length c4)) c.lv from ⟨_, _, rfl, h3, h4⟩)
  obtain ⟨cs, hcs⟩ : ∃ cs, cs = conCells c (.slice A1 c.allow.length c1) (.slice A2 c.deny.length c2) (.slice A3 c.lv.users.length c3) (.slice A4 c.lv.kinds.length c4) := ⟨_, rfl⟩
  rw [← hcs]
  have HCS := hide hcs
  clear hcs h3 h4
  obtain ⟨B3, B4, B5, hz, hb⟩ := heap3 w (.cells cs.toArray 31) (.cells conZero 31) (.cells conZero 31)
  have HB3 := hide B3; have HB4 := hide B4; have HZ := hide hz; have HB := hide hb
  have m2 : bits BinOp.and IntKind.i64 34 2 = 2 := by decide
  have m4 : bits BinOp.and IntKind.i64 34 4 = 0 := by decide
  have m16 : bits BinOp.and IntKind.i64 34 16 = 0 := by decide
  have m32 : bits BinOp.and IntKind.i64 34 32 = 32 := by decide
  have m64 : bits BinOp.and IntKind.i64 34 64 = 0 := by decide
  have m128 : bits BinOp.and IntKind.i64 34 128 = 0 := by decide
  clear B3 B4 hz hb
  have e1 := box_at HB3.out (j := 1) (u := .int .i64 c.n) (by rw [HCS.out]; rfl)
  go_enter Tryz.func58, Tryz.ntmps58
  go_wp2_with (first
    | refine wpList_zeroS rfl rfl strcC ?_
    | (go_at_call 79; refine (keeps_any _ _).mono ?_; rintro e w' ⟨rfl, rfl⟩; simp only [keepsN]; go_simp)
    | refine wpList_store1 rfl (.tmp 29) (.tmp 28) rfl rfl sizeI (w.heap.size + 1 + 1) 1 rfl (.int .i64 c.n) rfl rfl (conZero.toList) 31 B5 (by simp [patch, conZero]) ?_)
  clear B5
  intro w1 B5 g1 hs1
  have B3' := box_grown HB3.out g1 (by omega); have B4' := box_grown HB4.out g1 (by omega)
  have hz' := Nat.le_trans HZ.out g1.size; have hb' := HB.out.grown g1 HB.out.size (fun k hk => by injection hk with hk; omega)
  clear HB3 HB4 HZ HB g1 hs1
  have HB3 := hide B3'; have HB4 := hide B4'; have HZ := hide hz'; have HB := hide hb'
  clear B3' B4' hz' hb'
  have e5 := box_at HB3.out (j := 5) (u := .slice A1 c.allow.length c1) (by rw [HCS.out]; rfl)
  go_wp2_with fail
  refine (texts_lit (h1.ext HB.out) f1).mono ?_
  rintro x u2 ⟨V2, m2', rfl, s2, hk2⟩
  have B3' := box_below HB3.out hk2; have B4' := box_below HB4.out hk2; replace B5 := box_below B5 hk2
  have hz' := Nat.le_trans HZ.out hk2.size; have hb' := HB.out.trans (hk2.mono HB.out.size)
  have kz2 := HZ.out
  replace s2 := s2.weak (S' := (w.heap.size + 3 ≤ ·)) (fun b hb _ => Nat.le_trans kz2 hb)
  clear HB3 HB4 HZ HB kz2 hk2
  have HB3 := hide B3'; have HB4 := hide B4'; have HZ := hide hz'; have HB := hide hb'
  clear B3' B4' hz' hb'
  go_wp2_with (refine wpList_store1 rfl (.tmp 48) (.tmp 47) rfl rfl sizeT (w.heap.size + 1 + 1) 5 rfl (.slice V2 c.allow.length m2') rfl rfl (patch (conZero.toList) 1 [.int .i64 c.n]) 31 B5 (by simp [patch, conZero]) ?_)
  clear B5
  intro w2 B5 g2 hs2
  have B3' := box_grown HB3.out g2 (by omega); have B4' := box_grown HB4.out g2 (by omega)
  have hz' := Nat.le_trans HZ.out g2.size; have hb' := HB.out.grown g2 HB.out.size (fun k hk => by injection hk with hk; omega)
  replace s2 := s2.grown g2 (fun b hb e => by injection e with e; omega)
  clear HB3 HB4 HZ HB g2 hs2
  have HB3 := hide B3'; have HB4 := hide B4'; have HZ := hide hz'; have HB := hide hb'
  clear B3' B4' hz' hb'
  obtain ⟨CC, hCC⟩ : ∃ CC, CC = conCells (stripC 4 c) (.slice V2 c.allow.length m2') (.slice none 0 0) (.slice none 0 0) (.slice none 0 0) := ⟨_, rfl⟩
  change _ = some (Obj.cells (patch (patch (conZero.toList) 1 [.int .i64 c.n]) 5 [.slice V2 c.allow.length m2']).toArray 31 (0, 0)) at B5
  rw [show patch (patch (conZero.toList) 1 [.int .i64 c.n]) 5 [.slice V2 c.allow.length m2'] = CC by rw [hCC]; rfl] at B5
  have hL : CC.length = 16 := by rw [hCC]; rfl
  have hO : ∀ u ∈ CC, u.oneCell' = true := by
    rw [hCC]; intro u hu
    simp only [conCells, levCells, List.cons_append, List.nil_append, List.mem_cons, List.not_mem_nil, or_false] at hu
    rcases hu with rfl | rfl | rfl | rfl | rfl | rfl | rfl | rfl | rfl | rfl | rfl | rfl | rfl | rfl | rfl | rfl <;> rfl
  have HCC := hide hCC
  have B4 := HB4.out
  clear hCC
  go_wp2_with (first
    | refine wpList_loadS rfl (.tmp 5) rfl strcC ⟨w.heap.size + 1 + 1, 0, none⟩ rfl CC hL (box_all B5) ?_
    | refine wpList_storeB rfl (.tmp 4) (.tmp 63) rfl rfl strcC (w.heap.size + 1) 0 rfl CC rfl hL hO conZero.toList 31 B4 (by decide) ?_)
  intro wz Bz gz hsz
  rw [patch_all _ _ (by rw [hL]; rfl)] at Bz
  have hbz := HB.out.grown gz HB.out.size (fun k hk => by injection hk with hk; omega)
  replace s2 := (s2.grown gz (fun b hb e => by injection e with e; omega)).weak (S' := fun b => S b ∨ w.heap.size ≤ b) (fun b hb _ => .inr (by omega))
  clear B5 B4 gz
  go_wp2_with fail
  exact bodyPost_cell strcC rfl (w.heap.size + 1) rfl rfl Bz (by simpa using hL) ⟨_, rfl, ⟨_, _, _, _, HCC.out, s2, Slc.nil _ _ _, Slc.nil _ _ _, Slc.nil _ _ _⟩, hbz⟩

set_option maxRecDepth 100000 in
set_option maxHeartbeats 2000000 in
theorem CStrip_5 {S : Nat → Prop} {cs : List Value} {c : Con} {w : World} (hr : ConR w S cs c) (hf : c.fit) :
    Calls Tryz.prog 58 #[.int .i64 5, .agg cs.toArray] w (GivesC S (stripC 5 c) w) := by
  obtain ⟨va, vd, vu, vk, rfl, h1, h2, h3, h4⟩ := hr
  obtain ⟨A1, c1, rfl, _⟩ := h1.form
  obtain ⟨A2, c2, rfl, _⟩ := h2.form
  obtain ⟨A3, c3, rfl, _⟩ := h3.form
  obtain ⟨A4, c4, rfl, _⟩ := h4.form
  obtain ⟨f1, f2, f3, f4⟩ := hf
  have HL := hide (show LevR w S (levCells c.lv (.slice A3 c.lv.users.length c3) (.slice A4 c.lv.kinds.length c4)) c.lv from ⟨_, _, rfl, h3, h4⟩)
  obtain ⟨cs, hcs⟩ : ∃ cs, cs = conCells c (.slice A1 c.allow.length c1) (.slice A2 c.deny.length c2) (.slice A3 c.lv.users.length c3) (.slice A4 c.lv.kinds.length c4) := ⟨_, rfl⟩
  rw [← hcs]
  have HCS := hide hcs
  clear hcs h3 h4
  obtain ⟨B3, B4, B5, hz, hb⟩ := heap3 w (.cells cs.toArray 31) (.cells conZero 31) (.cells conZero 31)
  have HB3 := hide B3; have HB4 := hide B4; have HZ := hide hz; have HB := hide hb
  have m2 : bits BinOp.and IntKind.i64 2 2 = 2 := by decide
  have m4 : bits BinOp.and IntKind.i64 2 4 = 0 := by decide
  have m16 : bits BinOp.and IntKind.i64 2 16 = 0 := by decide
  have m32 : bits BinOp.and IntKind.i64 2 32 = 0 := by decide
  have m64 : bits BinOp.and IntKind.i64 2 64 = 0 := by decide
  have m128 : bits BinOp.and IntKind.i64 2 128 = 0 := by decide
  clear B3 B4 hz hb
  have e1 := box_at HB3.out (j := 1) (u := .int .i64 c.n) (by rw [HCS.out]; rfl)
  go_enter Tryz.func58, Tryz.ntmps58
  go_wp2_with (first
    | refine wpList_zeroS rfl rfl strcC ?_
    | (go_at_call 79; refine (keeps_any _ _).mono ?_; rintro e w' ⟨rfl, rfl⟩; simp only [keepsN]; go_simp)
    | refine wpList_store1 rfl (.tmp 29) (.tmp 28) rfl rfl sizeI (w.heap.size + 1 + 1) 1 rfl (.int .i64 c.n) rfl rfl (conZero.toList) 31 B5 (by simp [patch, conZero]) ?_)
  clear B5
  intro w1 B5 g1 hs1
  have B3' := box_grown HB3.out g1 (by omega); have B4' := box_grown HB4.out g1 (by omega)
  have hz' := Nat.le_trans HZ.out g1.size; have hb' := HB.out.grown g1 HB.out.size (fun k hk => by injection hk with hk; omega)
  clear HB3 HB4 HZ HB g1 hs1
  have HB3 := hide B3'; have HB4 := hide B4'; have HZ := hide hz'; have HB := hide hb'
  clear B3' B4' hz' hb'
  obtain ⟨CC, hCC⟩ : ∃ CC, CC = conCells (stripC 5 c) (.slice none 0 0) (.slice none 0 0) (.slice none 0 0) (.slice none 0 0) := ⟨_, rfl⟩
  change _ = some (Obj.cells (patch (conZero.toList) 1 [.int .i64 c.n]).toArray 31 (0, 0)) at B5
  rw [show patch (conZero.toList) 1 [.int .i64 c.n] = CC by rw [hCC]; rfl] at B5
  have hL : CC.length = 16 := by rw [hCC]; rfl
  have hO : ∀ u ∈ CC, u.oneCell' = true := by
    rw [hCC]; intro u hu
    simp only [conCells, levCells, List.cons_append, List.nil_append, List.mem_cons, List.not_mem_nil, or_false] at hu
    rcases hu with rfl | rfl | rfl | rfl | rfl | rfl | rfl | rfl | rfl | rfl | rfl | rfl | rfl | rfl | rfl | rfl <;> rfl
  have HCC := hide hCC
  have B4 := HB4.out
  clear hCC
  go_wp2_with (first
    | refine wpList_loadS rfl (.tmp 5) rfl strcC ⟨w.heap.size + 1 + 1, 0, none⟩ rfl CC hL (box_all B5) ?_
    | refine wpList_storeB rfl (.tmp 4) (.tmp 63) rfl rfl strcC (w.heap.size + 1) 0 rfl CC rfl hL hO conZero.toList 31 B4 (by decide) ?_)
  intro wz Bz gz hsz
  rw [patch_all _ _ (by rw [hL]; rfl)] at Bz
  have hbz := HB.out.grown gz HB.out.size (fun k hk => by injection hk with hk; omega)
  clear B5 B4 gz
  go_wp2_with fail
  exact bodyPost_cell strcC rfl (w.heap.size + 1) rfl rfl Bz (by simpa using hL) ⟨_, rfl, ⟨_, _, _, _, HCC.out, Slc.nil _ _ _, Slc.nil _ _ _, Slc.nil _ _ _, Slc.nil _ _ _⟩, hbz⟩

set_option maxRecDepth 100000 in
set_option maxHeartbeats 2000000 in
theorem CStrip_6 {S : Nat → Prop} {cs : List Value} {c : Con} {w : World} (hr : ConR w S cs c) (hf : c.fit) :
    Calls Tryz.prog 58 #[.int .i64 6, .agg cs.toArray] w (GivesC S (stripC 6 c) w) := by
  obtain ⟨va, vd, vu, vk, rfl, h1, h2, h3, h4⟩ := hr
  obtain ⟨A1, c1, rfl, _⟩ := h1.form
  obtain ⟨A2, c2, rfl, _⟩ := h2.form
  obtain ⟨A3, c3, rfl, _⟩ := h3.form
  obtain ⟨A4, c4, rfl, _⟩ := h4.form
  obtain ⟨f1, f2, f3, f4⟩ := hf
  have HL := hide (show LevR w S (levCells c.lv (.slice A3 c.lv.users.length c3) (.slice A4 c.lv.kinds.length c4)) c.lv from ⟨_, _, rfl, h3, h4⟩)
  obtain ⟨cs, hcs⟩ : ∃ cs, cs = conCells c (.slice A1 c.allow.length c1) (.slice A2 c.deny.length c2) (.slice A3 c.lv.users.length c3) (.slice A4 c.lv.kinds.length c4) := ⟨_, rfl⟩
  rw [← hcs]
  have HCS := hide hcs
  clear hcs h3 h4
  obtain ⟨B3, B4, B5, hz, hb⟩ := heap3 w (.cells cs.toArray 31) (.cells conZero 31) (.cells conZero 31)
  have HB3 := hide B3; have HB4 := hide B4; have HZ := hide hz; have HB := hide hb
  have m2 : bits BinOp.and IntKind.i64 96 2 = 0 := by decide
  have m4 : bits BinOp.and IntKind.i64 96 4 = 0 := by decide
  have m16 : bits BinOp.and IntKind.i64 96 16 = 0 := by decide
  have m32 : bits BinOp.and IntKind.i64 96 32 = 32 := by decide
  have m64 : bits BinOp.and IntKind.i64 96 64 = 64 := by decide
  have m128 : bits BinOp.and IntKind.i64 96 128 = 0 := by decide
  clear B3 B4 hz hb
  have e5 := box_at HB3.out (j := 5) (u := .slice A1 c.allow.length c1) (by rw [HCS.out]; rfl)
  go_enter Tryz.func58, Tryz.ntmps58
  go_wp2_with (first
    | refine wpList_zeroS rfl rfl strcC ?_
    | (go_at_call 79; refine (keeps_any _ _).mono ?_; rintro e w' ⟨rfl, rfl⟩; simp only [keepsN]; go_simp))
  refine (texts_lit (h1.ext HB.out) f1).mono ?_
  rintro x u1 ⟨V1, m1', rfl, s1, hk1⟩
  have B3' := box_below HB3.out hk1; have B4' := box_below HB4.out hk1; replace B5 := box_below B5 hk1
  have hz' := Nat.le_trans HZ.out hk1.size; have hb' := HB.out.trans (hk1.mono HB.out.size)
  have kz1 := HZ.out
  replace s1 := s1.weak (S' := (w.heap.size + 3 ≤ ·)) (fun b hb _ => Nat.le_trans kz1 hb)
  clear HB3 HB4 HZ HB kz1 hk1
  have HB3 := hide B3'; have HB4 := hide B4'; have HZ := hide hz'; have HB := hide hb'
  clear B3' B4' hz' hb'
  go_wp2_with (refine wpList_store1 rfl (.tmp 48) (.tmp 47) rfl rfl sizeT (w.heap.size + 1 + 1) 5 rfl (.slice V1 c.allow.length m1') rfl rfl (conZero.toList) 31 B5 (by simp [patch, conZero]) ?_)
  clear B5
  intro w1 B5 g1 hs1
  have B3' := box_grown HB3.out g1 (by omega); have B4' := box_grown HB4.out g1 (by omega)
  have hz' := Nat.le_trans HZ.out g1.size; have hb' := HB.out.grown g1 HB.out.size (fun k hk => by injection hk with hk; omega)
  replace s1 := s1.grown g1 (fun b hb e => by injection e with e; omega)
  clear HB3 HB4 HZ HB g1 hs1
  have HB3 := hide B3'; have HB4 := hide B4'; have HZ := hide hz'; have HB := hide hb'
  clear B3' B4' hz' hb'
  have e6 := box_at HB3.out (j := 6) (u := .slice A2 c.deny.length c2) (by rw [HCS.out]; rfl)
  go_wp2_with fail
  refine (texts_lit (h2.ext HB.out) f2).mono ?_
  rintro x u2 ⟨V2, m2', rfl, s2, hk2⟩
  have B3' := box_below HB3.out hk2; have B4' := box_below HB4.out hk2; replace B5 := box_below B5 hk2
  have hz' := Nat.le_trans HZ.out hk2.size; have hb' := HB.out.trans (hk2.mono HB.out.size)
  have kz2 := HZ.out
  replace s1 := s1.ext hk2
  replace s2 := s2.weak (S' := (w.heap.size + 3 ≤ ·)) (fun b hb _ => Nat.le_trans kz2 hb)
  clear HB3 HB4 HZ HB kz2 hk2
  have HB3 := hide B3'; have HB4 := hide B4'; have HZ := hide hz'; have HB := hide hb'
  clear B3' B4' hz' hb'
  go_wp2_with (refine wpList_store1 rfl (.tmp 55) (.tmp 54) rfl rfl sizeT (w.heap.size + 1 + 1) 6 rfl (.slice V2 c.deny.length m2') rfl rfl (patch (conZero.toList) 5 [.slice V1 c.allow.length m1']) 31 B5 (by simp [patch, conZero]) ?_)
  clear B5
  intro w2 B5 g2 hs2
  have B3' := box_grown HB3.out g2 (by omega); have B4' := box_grown HB4.out g2 (by omega)
  have hz' := Nat.le_trans HZ.out g2.size; have hb' := HB.out.grown g2 HB.out.size (fun k hk => by injection hk with hk; omega)
  replace s1 := s1.grown g2 (fun b hb e => by injection e with e; omega)
  replace s2 := s2.grown g2 (fun b hb e => by injection e with e; omega)
  clear HB3 HB4 HZ HB g2 hs2
  have HB3 := hide B3'; have HB4 := hide B4'; have HZ := hide hz'; have HB := hide hb'
  clear B3' B4' hz' hb'
  obtain ⟨CC, hCC⟩ : ∃ CC, CC = conCells (stripC 6 c) (.slice V1 c.allow.length m1') (.slice V2 c.deny.length m2') (.slice none 0 0) (.slice none 0 0) := ⟨_, rfl⟩
  change _ = some (Obj.cells (patch (patch (conZero.toList) 5 [.slice V1 c.allow.length m1']) 6 [.slice V2 c.deny.length m2']).toArray 31 (0, 0)) at B5
  rw [show patch (patch (conZero.toList) 5 [.slice V1 c.allow.length m1']) 6 [.slice V2 c.deny.length m2'] = CC by rw [hCC]; rfl] at B5
  have hL : CC.length = 16 := by rw [hCC]; rfl
  have hO : ∀ u ∈ CC, u.oneCell' = true := by
    rw [hCC]; intro u hu
    simp only [conCells, levCells, List.cons_append, List.nil_append, List.mem_cons, List.not_mem_nil, or_false] at hu
    rcases hu with rfl | rfl | rfl | rfl | rfl | rfl | rfl | rfl | rfl | rfl | rfl | rfl | rfl | rfl | rfl | rfl <;> rfl
  have HCC := hide hCC
  have B4 := HB4.out
  clear hCC
  go_wp2_with (first
    | refine wpList_loadS rfl (.tmp 5) rfl strcC ⟨w.heap.size + 1 + 1, 0, none⟩ rfl CC hL (box_all B5) ?_
    | refine wpList_storeB rfl (.tmp 4) (.tmp 63) rfl rfl strcC (w.heap.size + 1) 0 rfl CC rfl hL hO conZero.toList 31 B4 (by decide) ?_)
  intro wz Bz gz hsz
  rw [patch_all _ _ (by rw [hL]; rfl)] at Bz
  have hbz := HB.out.grown gz HB.out.size (fun k hk => by injection hk with hk; omega)
  replace s1 := (s1.grown gz (fun b hb e => by injection e with e; omega)).weak (S' := fun b => S b ∨ w.heap.size ≤ b) (fun b hb _ => .inr (by omega))
  replace s2 := (s2.grown gz (fun b hb e => by injection e with e; omega)).weak (S' := fun b => S b ∨ w.heap.size ≤ b) (fun b hb _ => .inr (by omega))
  clear B5 B4 gz
  go_wp2_with fail
  exact bodyPost_cell strcC rfl (w.heap.size + 1) rfl rfl Bz (by simpa using hL) ⟨_, rfl, ⟨_, _, _, _, HCC.out, s1, s2, Slc.nil _ _ _, Slc.nil _ _ _⟩, hbz⟩

set_option maxRecDepth 100000 in
set_option maxHeartbeats 2000000 in
theorem CStrip_14 {S : Nat → Prop} {cs : List Value} {c : Con} {w : World} (hr : ConR w S cs c) (hf : c.fit) :
    Calls Tryz.prog 58 #[.int .i64 14, .agg cs.toArray] w (GivesC S (stripC 14 c) w) := by
  obtain ⟨va, vd, vu, vk, rfl, h1, h2, h3, h4⟩ := hr
  obtain ⟨A1, c1, rfl, _⟩ := h1.form
  obtain ⟨A2, c2, rfl, _⟩ := h2.form
  obtain ⟨A3, c3, rfl, _⟩ := h3.form
  obtain ⟨A4, c4, rfl, _⟩ := h4.form
  obtain ⟨f1, f2, f3, f4⟩ := hf
  have HL := hide (show LevR w S (levCells c.lv (.slice A3 c.lv.users.length c3) (.slice A4 c.lv.kinds.length c4)) c.lv from ⟨_, _, rfl, h3, h4⟩)
  obtain ⟨cs, hcs⟩ : ∃ cs, cs = conCells c (.slice A1 c.allow.length c1) (.slice A2 c.deny.length c2) (.slice A3 c.lv.users.length c3) (.slice A4 c.lv.kinds.length c4) := ⟨_, rfl⟩
  rw [← hcs]
  have HCS := hide hcs
  clear hcs h3 h4
  obtain ⟨B3, B4, B5, hz, hb⟩ := heap3 w (.cells cs.toArray 31) (.cells conZero 31) (.cells conZero 31)
  have HB3 := hide B3; have HB4 := hide B4; have HZ := hide hz; have HB := hide hb
  have m2 : bits BinOp.and IntKind.i64 4 2 = 0 := by decide
  have m4 : bits BinOp.and IntKind.i64 4 4 = 4 := by decide
  have m16 : bits BinOp.and IntKind.i64 4 16 = 0 := by decide
  have m32 : bits BinOp.and IntKind.i64 4 32 = 0 := by decide
  have m64 : bits BinOp.and IntKind.i64 4 64 = 0 := by decide
  have m128 : bits BinOp.and IntKind.i64 4 128 = 0 := by decide
  clear B3 B4 hz hb
  have e2 := box_at HB3.out (j := 2) (u := .int .i64 c.target) (by rw [HCS.out]; rfl)
  go_enter Tryz.func58, Tryz.ntmps58
  go_wp2_with (first
    | refine wpList_zeroS rfl rfl strcC ?_
    | (go_at_call 79; refine (keeps_any _ _).mono ?_; rintro e w' ⟨rfl, rfl⟩; simp only [keepsN]; go_simp)
    | refine wpList_store1 rfl (.tmp 35) (.tmp 34) rfl rfl sizeI (w.heap.size + 1 + 1) 2 rfl (.int .i64 c.target) rfl rfl (conZero.toList) 31 B5 (by simp [patch, conZero]) ?_)
  clear B5
  intro w1 B5 g1 hs1
  have B3' := box_grown HB3.out g1 (by omega); have B4' := box_grown HB4.out g1 (by omega)
  have hz' := Nat.le_trans HZ.out g1.size; have hb' := HB.out.grown g1 HB.out.size (fun k hk => by injection hk with hk; omega)
  clear HB3 HB4 HZ HB g1 hs1
  have HB3 := hide B3'; have HB4 := hide B4'; have HZ := hide hz'; have HB := hide hb'
  clear B3' B4' hz' hb'
  obtain ⟨CC, hCC⟩ : ∃ CC, CC = conCells (stripC 14 c) (.slice none 0 0) (.slice none 0 0) (.slice none 0 0) (.slice none 0 0) := ⟨_, rfl⟩
  change _ = some (Obj.cells (patch (conZero.toList) 2 [.int .i64 c.target]).toArray 31 (0, 0)) at B5
  rw [show patch (conZero.toList) 2 [.int .i64 c.target] = CC by rw [hCC]; rfl] at B5
  have hL : CC.length = 16 := by rw [hCC]; rfl
  have hO : ∀ u ∈ CC, u.oneCell' = true := by
    rw [hCC]; intro u hu
    simp only [conCells, levCells, List.cons_append, List.nil_append, List.mem_cons, List.not_mem_nil, or_false] at hu
    rcases hu with rfl | rfl | rfl | rfl | rfl | rfl | rfl | rfl | rfl | rfl | rfl | rfl | rfl | rfl | rfl | rfl <;> rfl
  have HCC := hide hCC
  have B4 := HB4.out
  clear hCC
  go_wp2_with (first
    | refine wpList_loadS rfl (.tmp 5) rfl strcC ⟨w.heap.size + 1 + 1, 0, none⟩ rfl CC hL (box_all B5) ?_
    | refine wpList_storeB rfl (.tmp 4) (.tmp 63) rfl rfl strcC (w.heap.size + 1) 0 rfl CC rfl hL hO conZero.toList 31 B4 (by decide) ?_)
  intro wz Bz gz hsz
  rw [patch_all _ _ (by rw [hL]; rfl)] at Bz
  have hbz := HB.out.grown gz HB.out.size (fun k hk => by injection hk with hk; omega)
  clear B5 B4 gz
  go_wp2_with fail
  exact bodyPost_cell strcC rfl (w.heap.size + 1) rfl rfl Bz (by simpa using hL) ⟨_, rfl, ⟨_, _, _, _, HCC.out, Slc.nil _ _ _, Slc.nil _ _ _, Slc.nil _ _ _, Slc.nil _ _ _⟩, hbz⟩

set_option maxRecDepth 100000 in
set_option maxHeartbeats 2000000 in
theorem CStrip_no {S : Nat → Prop} {cs : List Value} {c : Con} {k : Int} (hk1 : (k == 1) = false) (hk : Hid (keepsN k = 0)) {w : World} (hr : ConR w S cs c) (hf : c.fit) :
    Calls Tryz.prog 58 #[.int .i64 k, .agg cs.toArray] w (GivesC S (Con.zero) w) := by
  obtain ⟨va, vd, vu, vk, rfl, h1, h2, h3, h4⟩ := hr
  obtain ⟨A1, c1, rfl, _⟩ := h1.form
  obtain ⟨A2, c2, rfl, _⟩ := h2.form
  obtain ⟨A3, c3, rfl, _⟩ := h3.form
  obtain ⟨A4, c4, rfl, _⟩ := h4.form
  obtain ⟨f1, f2, f3, f4⟩ := hf
  have HL := hide (show LevR w S (levCells c.lv (.slice A3 c.lv.users.length c3) (.slice A4 c.lv.kinds.length c4)) c.lv from ⟨_, _, rfl, h3, h4⟩)
  obtain ⟨cs, hcs⟩ : ∃ cs, cs = conCells c (.slice A1 c.allow.length c1) (.slice A2 c.deny.length c2) (.slice A3 c.lv.users.length c3) (.slice A4 c.lv.kinds.length c4) := ⟨_, rfl⟩
  rw [← hcs]
  have HCS := hide hcs
  clear hcs h3 h4
  obtain ⟨B3, B4, B5, hz, hb⟩ := heap3 w (.cells cs.toArray 31) (.cells conZero 31) (.cells conZero 31)
  have HB3 := hide B3; have HB4 := hide B4; have HZ := hide hz; have HB := hide hb
  have m2 : bits BinOp.and IntKind.i64 0 2 = 0 := by decide
  have m4 : bits BinOp.and IntKind.i64 0 4 = 0 := by decide
  have m16 : bits BinOp.and IntKind.i64 0 16 = 0 := by decide
  have m32 : bits BinOp.and IntKind.i64 0 32 = 0 := by decide
  have m64 : bits BinOp.and IntKind.i64 0 64 = 0 := by decide
  have m128 : bits BinOp.and IntKind.i64 0 128 = 0 := by decide
  clear B3 B4 hz hb
  obtain ⟨CC, hCC⟩ : ∃ CC, CC = conCells Con.zero (.slice none 0 0) (.slice none 0 0) (.slice none 0 0) (.slice none 0 0) := ⟨_, rfl⟩
  change _ = some (Obj.cells (conZero.toList).toArray 31 (0, 0)) at B5
  rw [show conZero.toList = CC by rw [hCC]; rfl] at B5
  have hL : CC.length = 16 := by rw [hCC]; rfl
  have hO : ∀ u ∈ CC, u.oneCell' = true := by
    rw [hCC]; intro u hu
    simp only [conCells, levCells, List.cons_append, List.nil_append, List.mem_cons, List.not_mem_nil, or_false] at hu
    rcases hu with rfl | rfl | rfl | rfl | rfl | rfl | rfl | rfl | rfl | rfl | rfl | rfl | rfl | rfl | rfl | rfl <;> rfl
  have HCC := hide hCC
  have B4 := HB4.out
  clear hCC
  go_enter Tryz.func58, Tryz.ntmps58
  go_wp2_with (first
    | refine wpList_zeroS rfl rfl strcC ?_
    | (go_at_call 79; refine (keeps_any _ _).mono ?_; rintro e w' ⟨rfl, rfl⟩; rw [hk.out])
    | refine wpList_loadS rfl (.tmp 5) rfl strcC ⟨w.heap.size + 1 + 1, 0, none⟩ rfl CC hL (box_all B5) ?_
    | refine wpList_storeB rfl (.tmp 4) (.tmp 63) rfl rfl strcC (w.heap.size + 1) 0 rfl CC rfl hL hO conZero.toList 31 B4 (by decide) ?_)
  intro wz Bz gz hsz
  rw [patch_all _ _ (by rw [hL]; rfl)] at Bz
  have hbz := HB.out.grown gz HB.out.size (fun k hk => by injection hk with hk; omega)
  clear B5 B4 gz
  go_wp2_with fail
  exact bodyPost_cell strcC rfl (w.heap.size + 1) rfl rfl Bz (by simpa using hL) ⟨_, rfl, ⟨_, _, _, _, HCC.out, Slc.nil _ _ _, Slc.nil _ _ _, Slc.nil _ _ _, Slc.nil _ _ _⟩, hbz⟩

theorem CStrip_any {S : Nat → Prop} {cs : List Value} {c : Con} {k : Int} {w : World} (hr : ConR w S cs c) (hf : c.fit) :
    Calls Tryz.prog 58 #[.int .i64 k, .agg cs.toArray] w (GivesC S (stripC k c) w) := by
  rcases kinds_cases k with rfl | rfl | rfl | rfl | rfl | rfl | rfl | hk
  · exact CStrip_1 hr hf
  · exact CStrip_2 hr hf
  · exact CStrip_3 hr hf
  · exact CStrip_4 hr hf
  · exact CStrip_5 hr hf
  · exact CStrip_6 hr hf
  · exact CStrip_14 hr hf
  · rw [show stripC k c = Con.zero by simp [stripC, hk]]
    exact CStrip_no (by simpa using hk.1) (show keepsN k = 0 by simp [keepsN, hk]) hr hf
end

section
open Go.RowKit
attribute [local go_sem] Addr.add_mid

end
end
end Go.Proofs.YtmlnmcoophnlaaaGreat
